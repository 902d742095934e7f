/- Contracts of functions of the program, and plain laws, part 6: each text of this part is proved without further condition. -/
import Derived.Test.YtfhckbbgmblhbaaZ5
import Derived.Test.YtfhckbbgmblhbaaAmC
import Derived.OpenShut
namespace Go.Proofs.Ytfhckbbgmblhbaa
open Go.Am Go.Dia
open Nat renaming reduceAdd → nA, reduceMul → nM, reduceSub → nS, reduceEqDiff → nE, reduceLT → nL, reduceLeDiff → nD, reduceBEq → nB
open Int renaming reduceEq → iE, reduceNe → iN, reduceBEq → iB, reduceBNe → iC, reduceLT → iL, reduceLE → iD, reduceAdd → iA, reduceSub → iS, reduceMul → iM
set_option linter.unusedSimpArgs false
set_option linter.unusedVariables false
set_option maxRecDepth 4000
set_option maxHeartbeats 2000000
noncomputable def qfo : zg := ((qy7.put 58 (qch)).put 54 (Z5))
theorem qhu : qo Try.prog qfo := ((qwd.put (qzp)).put (qwr))
theorem js : qfo 59 = some (Vf) := rfl
theorem xv : qfo 57 = some (bz) := rfl
theorem xi : qfo 56 = some (ql ub) := rfl
theorem zy : qfo 55 = some (Vf) := rfl
theorem xd : qfo 52 = some (kh) := rfl
theorem xu : qfo 53 = some (bz) := rfl
theorem zk : qfo 58 = some (qch) := rfl
theorem xy : qfo 54 = some (Z5) := rfl
noncomputable def Uv (p a n : Int) (w w' : List Int) : Bool × Int := if Bk p a = true ∧ ua n w = true ∧ ua n w' = true then (decide (kq p a n w = kq p a n w'), 0) else (false, 2)
def wa : AC := .seq (.region [oB 10 false,oI 11 0]) (.seq (.seq (.region [oM 12 0,oM 13 1,oM 14 2,oM 15 3,oC 16 52 [.t 12,.t 13,.t 14,.t 15],o0 17 (.un .not (.t 16)),oM 18 17,oG 19 18 false (.mov (.t 2)),oG 20 18 false (.mov (.t 4)),⟨some 21,some (18,false),.call (.c (.fn 53 [] [])) [.t 19,.t 20]⟩,oG 22 18 false (.un .not (.t 21)),o0 23 (.pick (.t 18) (.c (.bool true)) (.t 22))]) (.cond 23 (.seq (.region [oB 10 false,oI 11 2]) .ret) .skip)) (.seq (.region [oM 24 0,oM 25 1,oM 26 2,oM 27 3,oC 28 55 [.t 24,.t 25,.t 26,.t 27],oM 29 0,oM 30 1,oM 31 2,oM 32 4,oC 33 55 [.t 29,.t 30,.t 31,.t 32],oC 34 54 [.t 28,.t 33],oM 10 34,oI 11 0]) .ret))
theorem Gt : zn Try.prog 19 = some ⟨35, wa, [.slot 10, .slot 11]⟩ := by kernel_rfl
theorem Gj (p a n : Int) (w w' : List Int) (hl : w.length ≤ 2000000 ∧ w'.length ≤ 2000000) :
    Am.Fn Try.prog 19 [.int .i64 p, .int .i64 a, .int .i64 n, .slc 0 0 w.length false 0, .slc 1 0 w'.length false 0] [.ro (xk w), .ro (xk w')] (fun v H' => v = .tup [.bool (Uv p a n w w').1, .int .i64 (Uv p a n w w').2] ∧ H' = [.ro (xk w), .ro (xk w')]) := by
  refine Am.Fn.jj (R := fun v => v = _) qhu mixed Gt (by simp [AV.qn, AV.under]) (uy (qq _) (qq _)) ?_
  have hws := yq w
  have hws' := yq w'
  have hla := xb w
  have hla' := xb w'
  have hl1 := hl.1
  have hl2 := hl.2
  cases hb : Bk p a with
  | false =>
    have e : Uv p a n w w' = (false, 2) := if_neg (by simp [hb])
    simp (maxSteps := 3000000) only [qg, zH, wa, js, xv, xi, zy, xd, xu, zk, xy, qch, Z5, Vf, kh, ub, bz, br, elemV, wc, qc _ _ (qb _), qc _ _ (qf _ _), hws, hla, hl1, hws', hla', hl2, hb, Bool.false_and, and_self, iE, iN, iB, iC, iL, iD, iA, iS, iM, qa, zZ, ↓qu, ↓reduceIte, reduceCtorEq, nA, nM, nS, nE, nL, nD]; try simp only [qa, zY]
    rw [e]
    exact ⟨⟨_, rfl⟩, rfl⟩
  | true =>
    cases hw : ua n w with
    | false =>
      have e : Uv p a n w w' = (false, 2) := if_neg (by simp [hw])
      simp (maxSteps := 3000000) only [qg, zH, wa, js, xv, xi, zy, xd, xu, zk, xy, qch, Z5, Vf, kh, ub, bz, br, elemV, wc, qc _ _ (qb _), qc _ _ (qf _ _), hws, hla, hl1, hws', hla', hl2, hb, hw, Bool.and_false, and_self, iE, iN, iB, iC, iL, iD, iA, iS, iM, qa, zZ, ↓qu, ↓reduceIte, reduceCtorEq, nA, nM, nS, nE, nL, nD]; try simp only [qa, zY]
      rw [e]
      exact ⟨⟨_, rfl⟩, rfl⟩
    | true =>
      cases hw' : ua n w' with
      | false =>
        have e : Uv p a n w w' = (false, 2) := if_neg (by simp [hw'])
        simp (maxSteps := 3000000) only [qg, zH, wa, js, xv, xi, zy, xd, xu, zk, xy, qch, Z5, Vf, kh, ub, bz, br, elemV, wc, qc _ _ (qb _), qc _ _ (qf _ _), hws, hla, hl1, hws', hla', hl2, hb, hw, hw', Bool.and_true, and_self, iE, iN, iB, iC, iL, iD, iA, iS, iM, qa, zZ, ↓qu, ↓reduceIte, reduceCtorEq, nA, nM, nS, nE, nL, nD]; try simp only [qa, zY]
        rw [e]
        exact ⟨⟨_, rfl⟩, rfl⟩
      | true =>
        have e : Uv p a n w w' = (decide (kq p a n w = kq p a n w'), 0) := if_pos ⟨hb, hw, hw'⟩
        have ho := qow hb
        obtain ⟨h1, h2, h3⟩ := qab hw
        obtain ⟨_, h2', h3'⟩ := qab hw'
        have hg := gm ho h1 h3 w.length (Nat.le_refl _)
        have hg' := gm ho h1 h3' w'.length (Nat.le_refl _)
        rw [List.take_length] at hg hg'
        have t1 := xj hg.1.ok
        have t2 := xj hg'.1.ok
        have l1 : (kq p a n w).length ≤ 1000000 := by omega
        have l2 : (kq p a n w').length ≤ 1000000 := by omega
        simp (maxSteps := 3000000) only [qg, zH, wa, js, xv, xi, zy, xd, xu, zk, xy, qch, Z5, Vf, kh, ub, bz, br, elemV, wc, qc _ _ (qb _), qc _ _ (qf _ _), hws, hla, hl1, hws', hla', hl2, hb, hw, hw', Bool.and_true, ho, h1, h2, h3, h2', h3', t1, t2, l1, l2, and_self, iE, iN, iB, iC, iL, iD, iA, iS, iM, qa, zZ, ↓qu, ↓reduceIte, reduceCtorEq, nA, nM, nS, nE, nL, nD]; try simp only [qa, zY]
        rw [e]
        exact ⟨⟨_, rfl⟩, rfl⟩
def v7 : AC := .seq (.region [oB 10 false,oI 11 0]) (.seq (.seq (.region [oM 12 0,oM 13 1,oC 14 56 [.t 12,.t 13],o0 15 (.un .not (.t 14)),oM 16 15,oG 17 16 false (.mov (.t 2)),oG 18 16 false (.mov (.t 3)),⟨some 19,some (16,false),.call (.c (.fn 57 [] [])) [.t 17,.t 18]⟩,oG 20 16 false (.un .not (.t 19)),o0 21 (.pick (.t 16) (.c (.bool true)) (.t 20)),oM 22 21,oG 23 22 false (.mov (.t 2)),oG 24 22 false (.mov (.t 4)),⟨some 25,some (22,false),.call (.c (.fn 57 [] [])) [.t 23,.t 24]⟩,oG 26 22 false (.un .not (.t 25)),o0 27 (.pick (.t 22) (.c (.bool true)) (.t 26))]) (.cond 27 (.seq (.region [oB 10 false,oI 11 2]) .ret) .skip)) (.seq (.region [oM 28 0,oM 29 1,oM 30 2,oM 31 3,oC 32 59 [.t 28,.t 29,.t 30,.t 31],o0 33 (.field 3 1 false (.t 32)),oM 34 0,oM 35 1,oM 36 2,oM 37 4,oC 38 59 [.t 34,.t 35,.t 36,.t 37],o0 39 (.field 3 1 false (.t 38)),oC 40 58 [.t 33,.t 39],oM 10 40,oI 11 0]) .ret))
theorem Gz : zn Try.prog 21 = some ⟨41, v7, [.slot 10, .slot 11]⟩ := by kernel_rfl
theorem Gh (p a n : Int) (w w' : List Int) (hl : w.length ≤ 2000000 ∧ w'.length ≤ 2000000) :
    Am.Fn Try.prog 21 [.int .i64 p, .int .i64 a, .int .i64 n, .slc 0 0 w.length false 0, .slc 1 0 w'.length false 0] [.ro (xk w), .ro (xk w')] (fun v H' => v = .tup [.bool (Uv p a n w w').1, .int .i64 (Uv p a n w w').2] ∧ H' = [.ro (xk w), .ro (xk w')]) := by
  refine Am.Fn.jj (R := fun v => v = _) qhu mixed Gz (by simp [AV.qn, AV.under]) (uy (qq _) (qq _)) ?_
  have hws := yq w
  have hws' := yq w'
  have hla := xb w
  have hla' := xb w'
  have hl1 := hl.1
  have hl2 := hl.2
  cases hb : Bk p a with
  | false =>
    have e : Uv p a n w w' = (false, 2) := if_neg (by simp [hb])
    simp (maxSteps := 3000000) only [qg, zH, v7, js, xv, xi, zy, xd, xu, zk, xy, qch, Z5, Vf, kh, ub, bz, br, elemV, wc, qc _ _ (qb _), qc _ _ (qf _ _), hws, hla, hl1, hws', hla', hl2, hb, Bool.false_and, and_self, iE, iN, iB, iC, iL, iD, iA, iS, iM, qa, zZ, ↓qu, ↓reduceIte, reduceCtorEq, nA, nM, nS, nE, nL, nD]; try simp only [qa, zY]
    rw [e]
    exact ⟨⟨_, rfl⟩, rfl⟩
  | true =>
    cases hw : ua n w with
    | false =>
      have e : Uv p a n w w' = (false, 2) := if_neg (by simp [hw])
      simp (maxSteps := 3000000) only [qg, zH, v7, js, xv, xi, zy, xd, xu, zk, xy, qch, Z5, Vf, kh, ub, bz, br, elemV, wc, qc _ _ (qb _), qc _ _ (qf _ _), hws, hla, hl1, hws', hla', hl2, hb, hw, Bool.and_false, and_self, iE, iN, iB, iC, iL, iD, iA, iS, iM, qa, zZ, ↓qu, ↓reduceIte, reduceCtorEq, nA, nM, nS, nE, nL, nD]; try simp only [qa, zY]
      rw [e]
      exact ⟨⟨_, rfl⟩, rfl⟩
    | true =>
      cases hw' : ua n w' with
      | false =>
        have e : Uv p a n w w' = (false, 2) := if_neg (by simp [hw'])
        simp (maxSteps := 3000000) only [qg, zH, v7, js, xv, xi, zy, xd, xu, zk, xy, qch, Z5, Vf, kh, ub, bz, br, elemV, wc, qc _ _ (qb _), qc _ _ (qf _ _), hws, hla, hl1, hws', hla', hl2, hb, hw, hw', Bool.and_true, and_self, iE, iN, iB, iC, iL, iD, iA, iS, iM, qa, zZ, ↓qu, ↓reduceIte, reduceCtorEq, nA, nM, nS, nE, nL, nD]; try simp only [qa, zY]
        rw [e]
        exact ⟨⟨_, rfl⟩, rfl⟩
      | true =>
        have e : Uv p a n w w' = (decide (kq p a n w = kq p a n w'), 0) := if_pos ⟨hb, hw, hw'⟩
        have ho := qow hb
        obtain ⟨h1, h2, h3⟩ := qab hw
        obtain ⟨_, h2', h3'⟩ := qab hw'
        have hg := gm ho h1 h3 w.length (Nat.le_refl _)
        have hg' := gm ho h1 h3' w'.length (Nat.le_refl _)
        rw [List.take_length] at hg hg'
        have t1 := xj hg.1.ok
        have t2 := xj hg'.1.ok
        have l1 : (kq p a n w).length ≤ 1000000 := by omega
        have l2 : (kq p a n w').length ≤ 1000000 := by omega
        simp (maxSteps := 3000000) only [qg, zH, v7, js, xv, xi, zy, xd, xu, zk, xy, qch, Z5, Vf, kh, ub, bz, br, elemV, wc, qc _ _ (qb _), qc _ _ (qf _ _), hws, hla, hl1, hws', hla', hl2, hb, hw, hw', Bool.and_true, ho, h1, h2, h3, h2', h3', t1, t2, l1, l2, and_self, iE, iN, iB, iC, iL, iD, iA, iS, iM, qa, zZ, ↓qu, ↓reduceIte, reduceCtorEq, nA, nM, nS, nE, nL, nD]; try simp only [qa, zY]
        rw [e]
        exact ⟨⟨_, rfl⟩, rfl⟩
noncomputable def Wp : BE := fun hp xs => match xs with
  | [.int .i64 p, .int .i64 a, .int .i64 n, .slc b 0 k false 0, .slc b' 0 k' false 0] => match rd hp b, rd hp b' with
    | some L, some L' => match G1 L, G1 L' with
      | some w, some w' => chk ((k = w.length ∧ k' = w'.length) ∧ k ≤ 2000000 ∧ k' ≤ 2000000) (some (.tup [.bool (Uv p a n w w').1, .int .i64 (Uv p a n w w').2], hp))
      | _, _ => none
    | _, _ => none
  | _ => none
theorem qfr {f : FuncId} (hf : ∀ (p a n : Int) (w w' : List Int), w.length ≤ 2000000 ∧ w'.length ≤ 2000000 → Am.Fn Try.prog f [.int .i64 p, .int .i64 a, .int .i64 n, .slc 0 0 w.length false 0, .slc 1 0 w'.length false 0] [.ro (xk w), .ro (xk w')] (fun v H' => v = .tup [.bool (Uv p a n w w').1, .int .i64 (Uv p a n w w').2] ∧ H' = [.ro (xk w), .ro (xk w')])) : Am.Callee Try.prog f Wp := Callee.ro2 fun hp xs v hp' he => by
  unfold Wp at he
  split at he
  · rename_i p a n b k b' k'
    split at he
    · rename_i L L' hL hL'
      split at he
      · rename_i w w' h1 h1'
        have h9 := qk he
        clear he
        obtain ⟨⟨⟨k1, k2⟩, h0⟩, h8⟩ := h9
        simp only [Option.some.injEq, Prod.mk.injEq] at h8
        obtain ⟨rfl, rfl⟩ := h8
        subst k1; subst k2
        have e1 := yx h1
        have f1 := yx h1'
        subst e1; subst f1
        refine ⟨xk w, xk w', b, b', [.int .i64 p, .int .i64 a, .int .i64 n, .slc 0 0 w.length false 0, .slc 1 0 w'.length false 0], rfl, ⟨_, hL, Nat.le_refl _, List.take_length⟩, ⟨_, hL', Nat.le_refl _, List.take_length⟩, qq _, qq _, ?_, rfl, ?_, rfl, hf p a n w w' h0⟩
        · simp only [AV.zi, AV.ren, two, if_true, Nat.zero_add]
          rfl
        · exact ⟨trivial, trivial, trivial, by simp [AV.under], by simp [AV.under], trivial⟩
      · cases he
    · cases he
  · cases he
noncomputable def qt4 : zg := ((qfo.put 19 (Wp)).put 21 (Wp))
theorem qu8 : qo Try.prog qt4 := ((qhu.put (qfr Gj)).put (qfr Gh))
structure qwi (H : List AO) (X Y : AV) (w w' : List Int) : Prop where
  x : ∀ rest, Bv (H ++ rest) X = some w
  y : ∀ rest, Bv (H ++ rest) Y = some w'
  un : ∀ (j : Nat) (o : AO), H[j]? = some o → o.under H.length
  ux : X.under H.length ∧ Y.under H.length
  h : H = [] ∨ (∃ o, H = [o]) ∨ ∃ o o', H = [o, o']
  lx : (X = .v (.slice none 0 0) ∧ w.length = 0) ∨ ∃ b cap, X = .slc b 0 w.length true cap
  ly : (Y = .v (.slice none 0 0) ∧ w'.length = 0) ∨ ∃ b cap, Y = .slc b 0 w'.length true cap
theorem yb : qt4 21 = some (Wp) := rfl
theorem ye : qt4 19 = some (Wp) := rfl
theorem kx : qt4 22 = some (qdi) := rfl
theorem kl : qt4 20 = some (qc8) := rfl
def jt : AC := .seq (.region [oB 10 false]) (.seq (.seq (.region [oM 17 3,o0 18 (.len .slc (.t 17)),oK 19 .gtr 18 1048576]) (.cond 19 (.seq (.region [oB 10 true]) .ret) .skip)) (.seq (.seq (.region [oM 20 4,o0 21 (.len .slc (.t 20)),oK 22 .gtr 21 1048576]) (.cond 22 (.seq (.region [oB 10 true]) .ret) .skip)) (.seq (.region [oM 24 0,oM 25 1,oM 26 2,oM 27 3,oC 28 20 [.t 27],oM 29 4,oC 30 20 [.t 29],oC 31 19 [.t 24,.t 25,.t 26,.t 28,.t 30],oM 23 31,oE 32 0 23,oE 33 1 23,oM 11 32,oM 12 33]) (.seq (.region [oM 34 3,oC 35 20 [.t 34],oM 13 35]) (.seq (.region [oM 36 4,oC 37 20 [.t 36],oM 14 37]) (.seq (.region [oM 39 0,oM 40 1,oM 41 2,oM 42 13,oM 43 14,oC 44 21 [.t 39,.t 40,.t 41,.t 42,.t 43],oM 38 44,oE 45 0 38,oE 46 1 38,oM 15 45,oM 16 46]) (.seq (.seq (.region [oM 47 15,oM 48 11,o0 49 (.eqb true (.t 47) (.t 48)),oM 50 49,oG 51 50 false (.mov (.t 16)),oG 52 50 false (.mov (.t 12)),oG 53 50 false (.bin .neq (.t 51) (.t 52)),o0 54 (.pick (.t 50) (.c (.bool true)) (.t 53))]) (.cond 54 (.seq (.region [oB 10 false]) .ret) .skip)) (.seq (.seq (.region [oM 55 13,oM 56 3,oC 57 20 [.t 56],oC 58 22 [.t 55,.t 57],o0 59 (.un .not (.t 58))]) (.cond 59 (.seq (.region [oB 10 false]) .ret) .skip)) (.seq (.seq (.region [oM 60 14,oM 61 4,oC 62 20 [.t 61],oC 63 22 [.t 60,.t 62],o0 64 (.un .not (.t 63))]) (.cond 64 (.seq (.region [oB 10 false]) .ret) .skip)) (.seq (.region [oB 10 true]) .ret))))))))))
theorem Jr : zn Try.prog 4 = some ⟨65, jt, [.slot 10]⟩ := by kernel_rfl
theorem Gm (H : List AO) (X Y : AV) (p a n : Int) (w w' : List Int) (h : qwi H X Y w w') (hl : w.length ≤ 9223372036854775807 ∧ w'.length ≤ 9223372036854775807) :
    Am.Fn Try.prog 4 [.int .i64 p, .int .i64 a, .int .i64 n, X, Y] H (fun v H' => v = .bool true ∧ H' = H) := by
  refine Am.Fn.jj (R := fun v => v = _) qu8 mixed Jr (by simp) h.un ?_
  have hX := h.x
  have hY := h.y
  have hz : ¬ (1048576 : Int) < ((0 : Nat) : Int) := by omega
  by_cases hlt : (1048576 : Int) < w.length
  · rcases h.lx with ⟨rfl, h0⟩ | ⟨b, cap, rfl⟩
    · rw [h0] at hlt; omega
    · rcases h.h with rfl | ⟨o, rfl⟩ | ⟨o, o', rfl⟩
      all_goals (simp (maxSteps := 3000000) only [qg, zH, jt, yb, ye, kx, kl, Wp, qdi, qc8, iE, iN, iB, iC, iL, iD, iA, iS, iM, hlt, qa, zZ, ↓qu, ↓reduceIte, reduceCtorEq, nA, nM, nS, nE, nL, nD]; try simp only [qa, zY])
      all_goals exact ⟨_, rfl⟩
  by_cases hlt2 : (1048576 : Int) < w'.length
  · rcases h.ly with ⟨rfl, h0⟩ | ⟨b', cap', rfl⟩
    · rw [h0] at hlt2; omega
    · rcases h.h with rfl | ⟨o, rfl⟩ | ⟨o, o', rfl⟩ <;> rcases h.lx with ⟨rfl, h0⟩ | ⟨b, cap, rfl⟩
      all_goals (simp (maxSteps := 3000000) only [qg, zH, jt, yb, ye, kx, kl, Wp, qdi, qc8, iE, iN, iB, iC, iL, iD, iA, iS, iM, hlt, hlt2, hz, qa, zZ, ↓qu, ↓reduceIte, reduceCtorEq, nA, nM, nS, nE, nL, nD]; try simp only [qa, zY])
      all_goals exact ⟨_, rfl⟩
  generalize he : Uv p a n w w' = r
  obtain ⟨B, E⟩ := r
  have b0 := yq w
  have b1 := xb w
  have b2 := yq w'
  have b3 := xb w'
  have h8 : w.length ≤ 2000000 := by omega
  have h9 : w'.length ≤ 2000000 := by omega
  rcases h.h with rfl | ⟨o, rfl⟩ | ⟨o, o', rfl⟩ <;> rcases h.lx with ⟨rfl, h0⟩ | ⟨b, cap, rfl⟩ <;> rcases h.ly with ⟨rfl, h0'⟩ | ⟨b', cap', rfl⟩
  all_goals simp only [List.cons_append, List.nil_append] at hX hY
  all_goals (simp (maxSteps := 3000000) only [qg, zH, jt, yb, ye, kx, kl, Wp, qdi, qc8, iE, iN, iB, iC, iL, iD, iA, iS, iM, br, elemV, wc, qc _ _ (qb _), qc _ _ (qf _ _), hX, hY, hlt, hlt2, hz, he, b0, b1, b2, b3, h8, h9, bne_self_eq_false, qa, zZ, ↓qu, ↓reduceIte, reduceCtorEq, nA, nM, nS, nE, nL, nD]; try simp only [qa, zY])
  all_goals exact ⟨_, rfl⟩
end Go.Proofs.Ytfhckbbgmblhbaa
namespace Go.Proofs.Ytfhckbbgmblhbaa
open Go.Am Go.Dia Go.ChangeShapes
open Nat renaming reduceAdd → nA, reduceMul → nM, reduceSub → nS, reduceEqDiff → nE, reduceLT → nL, reduceLeDiff → nD, reduceBEq → nB
open Int renaming reduceEq → iE, reduceNe → iN, reduceBEq → iB, reduceBNe → iC, reduceLT → iL, reduceLE → iD, reduceAdd → iA, reduceSub → iS, reduceMul → iM
set_option linter.unusedSimpArgs false
set_option linter.unusedVariables false
set_option maxRecDepth 4000
set_option maxHeartbeats 1000000
section
variable {H : Type} {enc : TypeId × Value → H} {P : Program} {w : World} {base : Nat} {spare : Nat → Bool} {held : Bool}
theorem qpf (ι : Nat → Am.Loc) {l : List AV} (h : AV.zl l = true) : qt (fun _ => Am.Loc.nil) l = qt ι l := by
  rw [jn (ι' := ι) (n := 0) (fun j hj => by omega) l (qj _ _ h)]
theorem qfz {ι : Nat → Am.Loc} : ∀ (ts : List Int) (L : List Value) (off : Nat), (∀ i (hi : i < ts.length), L[off + i]? = some (.int .i64 ts[i])) →
    (L.drop off).take ts.length = qt ι (xk ts)
  | [], L, off, h => by simp [xk, qt]
  | t :: ts, L, off, h => by
    have h0 := h 0 (by simp)
    rw [Nat.add_zero, List.getElem_cons_zero] at h0
    obtain ⟨hlt, h1⟩ := List.getElem?_eq_some_iff.1 h0
    have ih := qfz (ι := ι) ts L (off + 1) fun i hi => by
      have := h (i + 1) (by simpa using hi)
      rw [show off + 1 + i = off + (i + 1) by omega]
      simpa using this
    rw [List.drop_eq_getElem_cons hlt, List.length_cons, List.take_succ_cons, h1, ih]
    rfl
theorem qgi {tX tI : TypeId} (hts : P.underlying tX = some (.slice tI)) (hti : P.underlying tI = some (.int .i64)) (hci : P.cellsOf tI = 1) {a0 : Option Addr} {len0 cap0 : Nat} {d : DataW H} {ps : List MemPlace} (hs : ∀ b, spare b = true) (h : DataW.Trod enc P w base spare held tX (.slice a0 len0 cap0) d ps) :
    ∃ (X : AV) (Hp : List AO) (ts : List Int) (l : Am.Loc), qhx Hp X ts ∧ Value.slice a0 len0 cap0 = gam (fun _ => l) X ∧ (∀ o ∈ Hp, Qf (fun _ => l) w.heap l o ∧ o.wr = false) ∧ ts.length ≤ 9223372036854775807 := by
  obtain ⟨fuel, hf⟩ := h
  have hf' : DataW.trod enc P w base spare held fuel tX [.slice a0 len0 cap0] = some (d, ps) := hf
  rcases DataW.trod_slice hts hf' with ⟨e, _⟩ | ⟨a, len, cap, elems, rest, n, e, e2, e3, hb, hlc, hcm, hel, hei, hrs, _⟩
  · rw [List.cons.injEq] at e
    rw [e.1]
    exact ⟨.v (.slice none 0 0), [], [], Am.Loc.nil, .inl ⟨rfl, rfl, rfl⟩, rfl, (fun o h => by cases h), by simp⟩
  rw [List.cons.injEq] at e2
  rw [e2.1]
  rw [hci] at hei hrs
  have hmax : len ≤ 9223372036854775807 := Nat.le_trans (Nat.le_trans hlc hcm) (by decide)
  have hget : ∀ i, i < len → ∃ t : Int, w.cells? base (a.add (i * 1)) 1 = some [.int .i64 t] := fun i hi => by
    have h1 := hei i hi
    rw [List.getElem?_eq_getElem (by omega)] at h1
    simp only [Option.bind_eq_some_iff] at h1
    obtain ⟨cs', h2, h3⟩ := h1
    obtain ⟨t, rfl, _, _⟩ := DataW.trod_int hti h3
    exact ⟨t, h2⟩
  let f : Nat → Int := fun i => if hi : i < len then Classical.choose (hget i hi) else 0
  have hf : ∀ i, i < len → w.cells? base (a.add (i * 1)) 1 = some [.int .i64 (f i)] := fun i hi => by
    have := Classical.choose_spec (hget i hi)
    simp only [f, dif_pos hi]; exact this
  have hlen : ((List.range len).map f).length = len := by simp
  have hcell : ∀ i, i < len → w.cell? (a.add i) = some (.int .i64 (f i)) := fun i hi => by
    have := (World.cells?_some (hf i hi)).2.2 0 (by omega)
    rw [Addr.add_add, Nat.mul_one, Nat.add_zero] at this
    simpa using this
  by_cases hc0 : cap = 0
  · obtain rfl : len = 0 := by omega
    subst hc0
    refine ⟨.slc 0 0 0 true 0, [.dead], [], ⟨a, false, 0⟩, .inr (.inl ⟨rfl, rfl, rfl⟩), rfl, fun o h => ?_, by simp⟩
    rw [List.mem_singleton] at h; subst h; exact ⟨trivial, rfl⟩
  have h0 : ∃ v, w.cell? (a.add 0) = some v := by
    by_cases hl0 : len = 0
    · subst hl0
      obtain ⟨h1, h2⟩ := hrs (hs _)
      have h3 := h2 0 (by omega)
      rw [List.getElem?_eq_getElem (by omega)] at h3
      simp only [Option.bind_eq_some_iff] at h3
      obtain ⟨cs', h4, _⟩ := h3
      have h5 := World.cells?_some h4
      have h6 := h5.2.2 0 (by omega)
      have h7 : cs'.length = 1 := h5.2.1
      rw [List.getElem?_eq_getElem (by omega)] at h6
      simp only [Nat.zero_add, Nat.zero_mul, Addr.add_add] at h6
      exact ⟨_, h6⟩
    · exact ⟨_, hcell 0 (by omega)⟩
  obtain ⟨v0, h0⟩ := h0
  obtain ⟨blk, off, spot⟩ := a
  have hspot : spot = none := by simpa [Addr.add] using World.cell?_spot h0
  subst hspot
  have hheap : ∃ c ty fz, w.heap[blk]? = some (.cells c ty fz) := by
    simp only [World.cell?, Addr.add_plain] at h0
    split at h0
    · rename_i c ty fz hh; exact ⟨c, ty, fz, hh⟩
    · cases h0
  obtain ⟨c, ty, fz, hh⟩ := hheap
  have hc : ∀ i, w.cell? ⟨blk, i, none⟩ = c.toList[i]? := fun i => by simp [World.cell?, hh]
  have hoff : off ≤ c.toList.length := by
    rw [Addr.add_plain, Nat.add_zero, hc] at h0
    have := (List.getElem?_eq_some_iff.1 h0).1
    omega
  have hscan := qfz (ι := fun _ => Am.Loc.nil) ((List.range len).map f) c.toList off fun i hi => by
    rw [hlen] at hi
    have := hcell i hi
    rw [Addr.add_plain, hc] at this
    rw [this]
    simp
  rw [hlen] at hscan
  refine ⟨.slc 0 0 ((List.range len).map f).length true cap, [.ro (xk ((List.range len).map f))], (List.range len).map f, ⟨⟨blk, off, none⟩, false, 0⟩, .inr (.inr ⟨cap, rfl, by rw [hlen]; exact hlc, rfl⟩), ?_, fun o h => ?_, by rw [hlen]; exact hmax⟩
  · rw [hlen]; simp [gam, Addr.add_plain]
  · rw [List.mem_singleton] at h; subst h
    refine ⟨.inr ⟨rfl, blk, off, c, ty, fz, c.toList.take off, (c.toList.drop off).drop len, rfl, hh, by rw [List.length_take]; omega, ?_⟩, rfl⟩
    rw [← qpf _ (qq _), ← hscan, List.append_assoc, List.take_append_drop, List.take_append_drop]
end
theorem qgq {ι ι' : Nat → Am.Loc} {heap : Array Obj} {l : Am.Loc} {H : List AO} {X : AV} {ts : List Int} (hX : qhx H X ts) {o : AO} (ho : o ∈ H) (h : Qf ι heap l o) : Qf ι' heap l o := by
  rcases hX with ⟨_, rfl, _⟩ | ⟨_, rfl, _⟩ | ⟨_, _, _, rfl⟩
  · cases ho
  · rw [List.mem_singleton] at ho; subst ho; trivial
  · rw [List.mem_singleton] at ho; subst ho
    rcases h with h | ⟨hn, blk, off, c, ty, fz, pre, ex, ha, h1, h2, h3⟩
    · exact .inl h
    · refine .inr ⟨hn, blk, off, c, ty, fz, pre, ex, ha, h1, h2, ?_⟩
      rw [h3, jn (ι := ι) (ι' := ι') (n := 0) (fun j hj => by omega) _ (qj _ _ (qq _))]
theorem qet {H : List AO} {X : AV} {ts : List Int} (hX : qhx H X ts) : (H = [] ∧ X = .v (.slice none 0 0) ∧ ts = []) ∨ ∃ (o : AO) (c : Nat), H = [o] ∧ X = .slc 0 0 ts.length true c ∧ (∀ n, o.under n) ∧ ∀ hp rest : List AO, Bv (hp ++ o :: rest) (.slc hp.length 0 ts.length true c) = some ts := by
  have ha := qsg hX
  rcases hX with ⟨rfl, rfl, rfl⟩ | ⟨rfl, rfl, rfl⟩ | ⟨cap, rfl, hc, rfl⟩
  · exact .inl ⟨rfl, rfl, rfl⟩
  · refine .inr ⟨_, _, rfl, rfl, fun n => trivial, fun hp rest => ?_⟩
    simp [Bv]
  · refine .inr ⟨_, _, rfl, rfl, fun n => qj _ _ (qq _), fun hp rest => ?_⟩
    rw [← ha []]
    simp [Bv]
theorem qpp {H1 H2 : List AO} {X Y : AV} {ts us : List Int} {heap : Array Obj} {l1 l2 : Am.Loc} (hX : qhx H1 X ts) (hY : qhx H2 Y us)
    (h1 : ∀ o ∈ H1, Qf (fun _ => l1) heap l1 o ∧ o.wr = false) (h2 : ∀ o ∈ H2, Qf (fun _ => l2) heap l2 o ∧ o.wr = false) :
    ∃ (Y' : AV) (ι : Nat → Am.Loc), qwi (H1 ++ H2) X Y' ts us ∧ (∀ o ∈ H1 ++ H2, o.wr = false) ∧ HOk ι (H1 ++ H2) heap ∧ gam (fun _ => l1) X = gam ι X ∧ gam (fun _ => l2) Y = gam ι Y' := by
  have hw : ∀ o ∈ H1 ++ H2, o.wr = false := fun o ho => by
    rcases List.mem_append.1 ho with h | h
    · exact (h1 o h).2
    · exact (h2 o h).2
  have hinj : ∀ (ι : Nat → Am.Loc) (i j b : Nat), AtW ι (H1 ++ H2) i b → At ι (H1 ++ H2) j b → i = j := fun ι i j b hi _ => by
    obtain ⟨o, ho, hw', _⟩ := hi
    rw [hw o (List.mem_of_getElem? ho)] at hw'; cases hw'
  have a1 : ∀ o ∈ H1, ∀ ι', Qf ι' heap l1 o := fun o ho ι' => qgq hX ho (h1 o ho).1
  have a2 : ∀ o ∈ H2, ∀ ι', Qf ι' heap l2 o := fun o ho ι' => qgq hY ho (h2 o ho).1
  rcases qet hX with ⟨rfl, rfl, rfl⟩ | ⟨o, cx, rfl, rfl, k3, k4⟩ <;> rcases qet hY with ⟨rfl, rfl, rfl⟩ | ⟨o', cy, rfl, rfl, q3, q4⟩
  · refine ⟨.v (.slice none 0 0), fun _ => l1, ⟨fun rest => rfl, fun rest => rfl, fun j o h => (by simp at h), ⟨trivial, trivial⟩, .inl rfl, .inl ⟨rfl, rfl⟩, .inl ⟨rfl, rfl⟩⟩, hw, ⟨fun j o h => (by simp at h), hinj _⟩, rfl, rfl⟩
  · refine ⟨.slc 0 0 us.length true cy, fun _ => l2, ⟨fun rest => rfl, fun rest => q4 [] rest, ?_, ⟨trivial, by simp [AV.under]⟩, .inr (.inl ⟨_, rfl⟩), .inl ⟨rfl, rfl⟩, .inr ⟨_, _, rfl⟩⟩, hw, ⟨?_, hinj _⟩, rfl, rfl⟩
    · intro j o h
      have := List.mem_of_getElem? h
      simp only [List.nil_append, List.mem_singleton] at this
      subst this; exact q3 _
    · intro j o h
      have := List.mem_of_getElem? h
      simp only [List.nil_append, List.mem_singleton] at this
      subst this; exact ⟨q3 _, a2 _ (List.mem_singleton.2 rfl) _⟩
  · refine ⟨.v (.slice none 0 0), fun _ => l1, ⟨fun rest => k4 [] rest, fun rest => rfl, ?_, ⟨by simp [AV.under], trivial⟩, .inr (.inl ⟨_, rfl⟩), .inr ⟨_, _, rfl⟩, .inl ⟨rfl, rfl⟩⟩, hw, ⟨?_, hinj _⟩, rfl, rfl⟩
    · intro j o h
      have := List.mem_of_getElem? h
      simp only [List.append_nil, List.mem_singleton] at this
      subst this; exact k3 _
    · intro j o h
      have := List.mem_of_getElem? h
      simp only [List.append_nil, List.mem_singleton] at this
      subst this; exact ⟨k3 _, a1 _ (List.mem_singleton.2 rfl) _⟩
  · refine ⟨.slc 1 0 us.length true cy, fun j => if j = 0 then l1 else l2, ⟨fun rest => k4 [] (o' :: rest), fun rest => q4 [o] rest, ?_, ⟨by simp [AV.under], by simp [AV.under]⟩, .inr (.inr ⟨_, _, rfl⟩), .inr ⟨_, _, rfl⟩, .inr ⟨_, _, rfl⟩⟩, hw, ⟨?_, hinj _⟩, rfl, rfl⟩
    · intro j w h
      have := List.mem_of_getElem? h
      simp only [List.cons_append, List.nil_append, List.mem_cons, List.not_mem_nil, or_false] at this
      rcases this with rfl | rfl
      · exact k3 _
      · exact q3 _
    · intro j w h
      match j with
      | 0 => simp at h; subst h; exact ⟨k3 _, a1 _ (List.mem_singleton.2 rfl) _⟩
      | 1 => simp at h; subst h; exact ⟨q3 _, a2 _ (List.mem_singleton.2 rfl) _⟩
      | j + 2 => simp at h
end Go.Proofs.Ytfhckbbgmblhbaa

/- Contracts of functions of the program, and plain laws, part 7: each text of this part is proved without further condition. -/
import Derived.Test.YtfhckbbgmblhbaaZ6
namespace Go.Proofs.Ytfhckbbgmblhbaa
open Go.Am Go.Dia
open Nat renaming reduceAdd → nA, reduceMul → nM, reduceSub → nS, reduceEqDiff → nE, reduceLT → nL, reduceLeDiff → nD, reduceBEq → nB
open Int renaming reduceEq → iE, reduceNe → iN, reduceBEq → iB, reduceBNe → iC, reduceLT → iL, reduceLE → iD, reduceAdd → iA, reduceSub → iS, reduceMul → iM
set_option linter.unusedSimpArgs false
set_option linter.unusedVariables false
set_option maxRecDepth 4000
set_option maxHeartbeats 2000000
def strs (l : List (List UInt8)) : List AV := l.map AV.str
theorem jm : ∀ l : List (List UInt8), AV.zg (strs l) = true
  | [] => rfl
  | x :: l => by
    have ih := jm l
    simp only [strs, List.map_cons, AV.zg, AV.zq, Bool.true_and]
    exact ih
theorem qf8 (l : List (List UInt8)) : (strs l).length = l.length := by simp [strs]
def qcs : List AV → Option (List (List UInt8))
  | [] => some []
  | .str s :: r => match qcs r with
    | some l => some (s :: l)
    | none => none
  | _ => none
theorem W3 : ∀ l : List (List UInt8), qcs (strs l) = some l
  | [] => rfl
  | x :: l => by
    have ih := W3 l
    simp only [strs, List.map_cons, qcs] at ih ⊢
    rw [ih]
theorem qgk : ∀ {l : List AV} {m : List (List UInt8)}, qcs l = some m → l = strs m
  | [], m, h => by cases h; rfl
  | a :: l, m, h => by
    cases a <;> (try (simp only [qcs, reduceCtorEq] at h; done))
    simp only [qcs] at h
    split at h
    · rename_i r hr
      cases h
      rw [qgk hr]; rfl
    · cases h
def txs (t : List UInt8) (o r : Nat) : List (List UInt8) := (brs (o + 2 * r) o).map (t ++ ·)
theorem qng : ∀ r o, (brs r o).length ≤ 2 ^ r
  | 0, o => by simp only [brs]; split <;> simp
  | r + 1, o => by
    have h1 := qng r (o + 1)
    have h2 := qng r (o - 1)
    simp only [brs, List.length_append, List.length_map]
    rw [Nat.pow_succ]
    split
    · rw [List.length_map]; omega
    · rw [List.length_nil]; omega
theorem qvq {t : List UInt8} {o r : Nat} : (txs t o r).length ≤ 2 ^ (o + 2 * r) := by rw [txs, List.length_map]; exact qng _ _
theorem qrv {t : List UInt8} : txs t 0 0 = [t] := by simp [txs, brs]
theorem Vs {t : List UInt8} {x : UInt8} {l : List (List UInt8)} : (l.map (x :: ·)).map (t ++ ·) = l.map ((t ++ [x]) ++ ·) := by
  rw [List.map_map]
  exact List.map_congr_left fun y _ => by simp
theorem qr1 {t : List UInt8} {o r : Nat} (ho : 0 < o) (hr : 0 < r) : txs t o r = txs (t ++ [40]) (o + 1) (r - 1) ++ txs (t ++ [41]) (o - 1) r := by
  obtain ⟨o, rfl⟩ : ∃ j, o = j + 1 := ⟨o - 1, by omega⟩
  obtain ⟨r, rfl⟩ : ∃ j, r = j + 1 := ⟨r - 1, by omega⟩
  unfold txs
  rw [show o + 1 + 2 * (r + 1) = (o + 2 * r + 2) + 1 by omega, show o + 1 + 1 + 2 * (r + 1 - 1) = o + 2 * r + 2 by omega, show o + 1 - 1 + 2 * (r + 1) = o + 2 * r + 2 by omega]
  rw [show brs (o + 2 * r + 2 + 1) (o + 1) = (brs (o + 2 * r + 2) (o + 1 + 1)).map (40 :: ·) ++ (if 0 < o + 1 then (brs (o + 2 * r + 2) (o + 1 - 1)).map (41 :: ·) else []) from rfl, if_pos (by omega), List.map_append, Vs, Vs]
theorem qqe {t : List UInt8} {r : Nat} (hr : 0 < r) : txs t 0 r = txs (t ++ [40]) 1 (r - 1) := by
  obtain ⟨r, rfl⟩ : ∃ j, r = j + 1 := ⟨r - 1, by omega⟩
  unfold txs
  rw [show 0 + 2 * (r + 1) = (2 * r + 1) + 1 by omega, show 1 + 2 * (r + 1 - 1) = 2 * r + 1 by omega]
  rw [show brs (2 * r + 1 + 1) 0 = (brs (2 * r + 1) 1).map (40 :: ·) ++ (if 0 < 0 then (brs (2 * r + 1) (0 - 1)).map (41 :: ·) else []) from rfl, if_neg (by omega), List.append_nil, Vs]
theorem qlj {t : List UInt8} {o : Nat} (ho : 0 < o) : txs t o 0 = txs (t ++ [41]) (o - 1) 0 := by
  obtain ⟨o, rfl⟩ : ∃ j, o = j + 1 := ⟨o - 1, by omega⟩
  unfold txs
  rw [show o + 1 + 2 * 0 = o + 1 by omega, show o + 1 - 1 + 2 * 0 = o by omega, Nat.add_sub_cancel]
  rw [show brs (o + 1) (o + 1) = (brs o (o + 1 + 1)).map (40 :: ·) ++ (if 0 < o + 1 then (brs o (o + 1 - 1)).map (41 :: ·) else []) from rfl, if_pos (by omega), Nat.add_sub_cancel, qmm (show o < o + 1 + 1 by omega), List.map_nil, List.nil_append, Vs]
def Gx (M k j : Nat) (o r : Int) : Prop := 0 ≤ o ∧ 0 ≤ r ∧ o.toNat + 2 * r.toNat < M ∧ (M ≤ 20 ∧ j + (o.toNat + 2 * r.toNat) ≤ 100) ∧ k + 2 ^ (o.toNat + 2 * r.toNat) ≤ 1000000
instance {M k j : Nat} {o r : Int} : Decidable (Gx M k j o r) := inferInstanceAs (Decidable (_ ∧ _))
noncomputable def vp (M : Nat) : BE := fun hp xs => match xs with
  | [.v (.slice none 0 0), .str t, .int .i64 o, .int .i64 r] => chk (Gx M 0 t.length o r) (some (.slc hp.length 0 (txs t o.toNat r.toNat).length false 0, hp ++ [.vec 1 (strs (txs t o.toNat r.toNat))]))
  | [.slc b 0 k false 0, .str t, .int .i64 o, .int .i64 r] => match hp[b]? with
    | some (.vec 1 l) => match qcs l with
      | some ls => chk (ls.length = k ∧ Gx M ls.length t.length o r) (some (.slc hp.length 0 (ls ++ txs t o.toNat r.toNat).length false 0, hp.set b .dead ++ [.vec 1 (strs (ls ++ txs t o.toNat r.toNat))]))
      | none => none
    | _ => none
  | _ => none
theorem qvg {M : Nat} (h1 : ∀ (t : List UInt8) (o r : Nat), Gx M 0 t.length o r → Am.Fn Try.prog 133 [.v (.slice none 0 0), .str t, .int .i64 o, .int .i64 r] [] (fun v H' => v = .slc 0 0 (txs t o r).length false 0 ∧ H' = [.vec 1 (strs (txs t o r))]))
    (h2 : ∀ (ls : List (List UInt8)) (t : List UInt8) (o r : Nat), Gx M ls.length t.length o r → Am.Fn Try.prog 133 [.slc 0 0 ls.length false 0, .str t, .int .i64 o, .int .i64 r] [.vec 1 (strs ls)] (fun v H' => v = .slc 1 0 (ls ++ txs t o r).length false 0 ∧ H' = [.dead, .vec 1 (strs (ls ++ txs t o r))])) :
    Am.Callee Try.prog 133 (vp M) := Callee.fp fun hp xs v hp' he => by
  unfold vp at he
  split at he
  · rename_i t o r
    obtain ⟨a1, he⟩ := ql he
    simp only [Option.some.injEq, Prod.mk.injEq] at he
    obtain ⟨rfl, rfl⟩ := he
    obtain ⟨o, rfl⟩ : ∃ j : Nat, o = j := ⟨o.toNat, by have := a1.1; omega⟩
    obtain ⟨r, rfl⟩ : ∃ j : Nat, r = j := ⟨r.toNat, by have := a1.2.1; omega⟩
    refine ⟨[], [.v (.slice none 0 0), .str t, .int .i64 o, .int .i64 r], _, _, _, h1 t o r a1, by simp [AV.ren, AV.zp], rfl, trivial, rfl, trivial, ⟨trivial, trivial, trivial, trivial, trivial⟩, by simp [AV.ren, AV.zp, Ren.ext], ?_⟩
    simp [after, upd, AO.wr, AO.ren, qb _ _ (jm _)]
  · rename_i b k t o r
    split at he
    · rename_i l hb
      split at he
      · rename_i ls hls
        have h9 := ql he
        clear he
        obtain ⟨⟨k1, a1⟩, he⟩ := h9
        subst k1
        simp only [Option.some.injEq, Prod.mk.injEq] at he
        obtain ⟨rfl, rfl⟩ := he
        obtain rfl := qgk hls
        obtain ⟨o, rfl⟩ : ∃ j : Nat, o = j := ⟨o.toNat, by have := a1.1; omega⟩
        obtain ⟨r, rfl⟩ : ∃ j : Nat, r = j := ⟨r.toNat, by have := a1.2.1; omega⟩
        refine ⟨[(b, 0)], [.slc 0 0 ls.length false 0, .str t, .int .i64 o, .int .i64 r], _, _, _, h2 ls t o r a1, by simp [AV.ren, AV.zp, ofL], rfl, ⟨⟨rfl, by simp only [AO.ren, qb _ _ (jm _)]; exact hb⟩, trivial⟩, rfl, ⟨qk _ _ (jm _), trivial⟩, ⟨by simp [AV.under], trivial, trivial, trivial, trivial⟩, by simp [AV.ren, AV.zp, Ren.ext], ?_⟩
        simp [after, upd, AO.wr, AO.ren, qb _ _ (jm _)]
      · cases he
    · cases he
  · cases he
noncomputable def BT (M : Nat) : zc := qnw.put 133 (vp M)
theorem qgl (M : Nat) : BT M 133 = some (vp M) := rfl
theorem q6b {M : Nat} (h : Am.Callee Try.prog 133 (vp M)) : qp Try.prog (BT M) := W0.put h
theorem qu6 {M k j o r : Nat} (h : Gx (M + 1) k j o r) : o + 2 * r ≤ M ∧ (M + 1 ≤ 20 ∧ j + (o + 2 * r) ≤ 100) ∧ k + 2 ^ (o + 2 * r) ≤ 1000000 := by
  obtain ⟨_, _, h3, h4, h5⟩ := h
  rw [Int.toNat_natCast, Int.toNat_natCast] at h3 h4 h5
  exact ⟨by omega, h4, h5⟩
theorem Vo {M k j o r : Nat} (h1 : o + 2 * r < M) (h2 : M ≤ 20 ∧ j + (o + 2 * r) ≤ 100) (h3 : k + 2 ^ (o + 2 * r) ≤ 1000000) : Gx M k j (o : Int) (r : Int) := ⟨by omega, by omega, by rw [Int.toNat_natCast, Int.toNat_natCast]; exact h1, by rw [Int.toNat_natCast, Int.toNat_natCast]; exact h2, by rw [Int.toNat_natCast, Int.toNat_natCast]; exact h3⟩
theorem Jk {t : List UInt8} {x : UInt8} : (t ++ [x]).length = t.length + 1 := by simp
theorem qhh {o r : Nat} (h : 0 < o + 2 * r) : 2 ^ (o + 2 * r) = 2 ^ (o + 2 * r - 1) + 2 ^ (o + 2 * r - 1) := by
  rw [show o + 2 * r = (o + 2 * r - 1) + 1 by omega, Nat.pow_succ, Nat.add_sub_cancel]; omega
def vz : AC := .seq (.region [o0 8 (.mov (.c (.v (.slice none 0 0))))]) (.seq (.seq (.region [oM 9 2,oK 10 .eql 9 0,oM 11 10,oG 12 11 true (.mov (.t 3)),oG 13 11 true (.bin .eql (.t 12) (.c (.int .i64 0))),o0 14 (.pick (.t 11) (.t 13) (.c (.bool false)))]) (.cond 14 (.seq (.region [oM 15 0,oM 16 1,o0 17 (.um 1 [(.str [])] [(0,1,.t 16)]),o0 18 (.append 1 16 (.t 15) (.t 17)),oM 8 18]) .ret) .skip)) (.seq (.seq (.region [oM 19 3,oK 20 .gtr 19 0]) (.cond 20 (.region [oM 21 0,oM 22 1,o0 23 (.bin .add (.t 22) (.c (.str [40]))),oM 24 2,oK 25 .add 24 1,oM 26 3,oK 27 .sub 26 1,oC 28 133 [.t 21,.t 23,.t 25,.t 27],oM 0 28]) .skip)) (.seq (.seq (.region [oM 29 2,oK 30 .gtr 29 0]) (.cond 30 (.region [oM 31 0,oM 32 1,o0 33 (.bin .add (.t 32) (.c (.str [41]))),oM 34 2,oK 35 .sub 34 1,oM 36 3,oC 37 133 [.t 31,.t 33,.t 35,.t 36],oM 0 37]) .skip)) (.seq (.region [oM 38 0,oM 8 38]) .ret))))
theorem qdu : zl Try.prog 133 = some ⟨39, vz, [.slot 8]⟩ := by kernel_rfl
theorem q18 (M : Nat) (ih : Am.Callee Try.prog 133 (vp M)) (t : List UInt8) (o r : Nat) (h : Gx (M + 1) 0 t.length o r) :
    Am.Fn Try.prog 133 [.v (.slice none 0 0), .str t, .int .i64 o, .int .i64 r] [] (fun v H' => v = .slc 0 0 (txs t o r).length false 0 ∧ H' = [.vec 1 (strs (txs t o r))]) := by
  refine Am.Fn.ofW (q6b ih) mixed qdu (by simp [AV.qv, AV.under]) (by simp) ?_
  obtain ⟨a1, ⟨a2, a4⟩, a3⟩ := qu6 h
  have w1 : qo .i64 ((o : Int) + 1) = ((o + 1 : Nat) : Int) := by rw [wrap64 (by omega) (by omega)]; rfl
  have tl : t.length ≤ 9223372036854775806 := by omega
  have fin : ∀ (s : St) (i : Nat) (L : List (List UInt8)), L = txs t o r → get s.env 8 = .slc i 0 L.length false 0 → s.hp[i]? = some (.vec 1 (strs L)) → ∃ s', qw 0 s s' ∧ Ret [.slot 8] [] (fun v H' => v = .slc 0 0 (txs t o r).length false 0 ∧ H' = [.vec 1 (strs (txs t o r))]) s' := fun s i L e h1 h2 => by
    subst e
    have hk : zo [i] s.hp = [.vec 1 (strs (txs t o r))] := by simp [zo, h2, AO.ren, qb _ _ (jm _)]
    have hi : ([i] : List Nat).idxOf i = 0 := by simp
    refine ⟨_, qw.refl _, Ret.x7 [i] ⟨⟨by simp, rfl, by simp⟩, fun j hj => ?_⟩ (rs := [.slc i 0 (txs t o r).length false 0]) ?_ ?_ (by simp [xl]) ?_ ⟨?_, hk⟩⟩
    · rw [List.mem_singleton.1 hj, h2]
      exact qg _ _ (jm _)
    · simp only [Wh, h1]
    · simp [xl, AV.within]
    · intro j l
      rw [hk]
      cases j <;> simp
    · simp [xl, AV.ren, yw]
  by_cases ho : 0 < o
  · have e1 : (o : Int) = 0 ↔ False := iff_false_intro (by omega)
    have e2 : (0 : Int) < (o : Int) := by omega
    have w2 : qo .i64 ((o : Int) - 1) = ((o - 1 : Nat) : Int) := by rw [wrap64 (by omega) (by omega)]; omega
    have p1 := qhh (show 0 < o + 2 * r by omega)
    have q2 : o - 1 + 2 * r = o + 2 * r - 1 := by omega
    by_cases hr : 0 < r
    · have e3 : (0 : Int) < (r : Int) := by omega
      have w3 : qo .i64 ((r : Int) - 1) = ((r - 1 : Nat) : Int) := by rw [wrap64 (by omega) (by omega)]; omega
      have q1 : o + 1 + 2 * (r - 1) = o + 2 * r - 1 := by omega
      have k1 : Gx M 0 (t ++ [40]).length ((o + 1 : Nat) : Int) ((r - 1 : Nat) : Int) := Vo (by omega) ⟨by omega, by rw [Jk]; omega⟩ (by rw [q1]; omega)
      have hl := qvq (t := t ++ [40]) (o := o + 1) (r := r - 1)
      rw [q1] at hl
      have k2 : Gx M (txs (t ++ [40]) (o + 1) (r - 1)).length (t ++ [41]).length ((o - 1 : Nat) : Int) (r : Int) := Vo (by omega) ⟨by omega, by rw [Jk]; omega⟩ (by rw [q2]; omega)
      have b1 := W3 (txs (t ++ [40]) (o + 1) (r - 1))
      have hb := qr1 (t := t) ho hr
      simp (maxSteps := 3000000) only [qh, zH, vz, qgl, vp, e1, e2, e3, w1, w2, w3, k1, k2, b1, tl, Int.toNat_natCast, and_self, iE, iN, iB, iC, iL, iD, iA, iS, iM, qa, zZ, ↓qq, ↓reduceIte, reduceCtorEq, nA, nM, nS, nE, nL, nD]; try simp only [qa, zY]
      exact fin _ 1 _ hb.symm rfl rfl
    · have r0 : r = 0 := by omega
      have e3 : (0 : Int) < (r : Int) ↔ False := iff_false_intro (by omega)
      have k2 : Gx M 0 (t ++ [41]).length ((o - 1 : Nat) : Int) (r : Int) := Vo (by omega) ⟨by omega, by rw [Jk]; omega⟩ (by rw [q2]; omega)
      have hb : txs t o r = txs (t ++ [41]) (o - 1) r := by subst r0; exact qlj ho
      simp (maxSteps := 3000000) only [qh, zH, vz, qgl, vp, e1, e2, e3, w1, w2, k2, tl, Int.toNat_natCast, Int.lt_irrefl, and_self, iE, iN, iB, iC, iL, iD, iA, iS, iM, qa, zZ, ↓qq, ↓reduceIte, reduceCtorEq, nA, nM, nS, nE, nL, nD]; try simp only [qa, zY]
      exact fin _ 0 _ hb.symm rfl rfl
  · have o0 : o = 0 := by omega
    have e1 : (o : Int) = 0 ↔ True := iff_true_intro (by omega)
    have e2 : (0 : Int) < (o : Int) ↔ False := iff_false_intro (by omega)
    by_cases hr : 0 < r
    · have e3 : (0 : Int) < (r : Int) := by omega
      have e4 : (r : Int) = 0 ↔ False := iff_false_intro (by omega)
      have p1 := qhh (show 0 < o + 2 * r by omega)
      have w3 : qo .i64 ((r : Int) - 1) = ((r - 1 : Nat) : Int) := by rw [wrap64 (by omega) (by omega)]; omega
      have q1 : o + 1 + 2 * (r - 1) = o + 2 * r - 1 := by omega
      have k1 : Gx M 0 (t ++ [40]).length ((o + 1 : Nat) : Int) ((r - 1 : Nat) : Int) := Vo (by omega) ⟨by omega, by rw [Jk]; omega⟩ (by rw [q1]; omega)
      have hb : txs t o r = txs (t ++ [40]) (o + 1) (r - 1) := by subst o0; exact qqe hr
      simp (maxSteps := 3000000) only [qh, zH, vz, qgl, vp, e1, e2, e3, e4, w1, w3, k1, tl, Int.toNat_natCast, Int.lt_irrefl, and_self, iE, iN, iB, iC, iL, iD, iA, iS, iM, qa, zZ, ↓qq, ↓reduceIte, reduceCtorEq, nA, nM, nS, nE, nL, nD]; try simp only [qa, zY]
      exact fin _ 0 _ hb.symm rfl rfl
    · have r0 : r = 0 := by omega
      have e3 : (0 : Int) < (r : Int) ↔ False := iff_false_intro (by omega)
      have e4 : (r : Int) = 0 ↔ True := iff_true_intro (by omega)
      have hb : txs t o r = [t] := by subst o0; subst r0; exact qrv
      have hs : src [AO.cells (over [AV.str []] 0 [AV.str t])] 1 (.slc 0 0 1 true 1) = some (1, [.str t]) := rfl
      simp (maxSteps := 3000000) only [qh, zH, vz, qgl, e1, e2, e3, e4, hs, Int.toNat_natCast, and_self, iE, iN, iB, iC, iL, iD, iA, iS, iM, qa, zZ, ↓qq, ↓reduceIte, reduceCtorEq, nA, nM, nS, nE, nL, nD]; try simp only [qa, zY]
      exact ⟨rfl, fin _ 1 _ hb.symm rfl rfl⟩
theorem qz7 (M : Nat) (ih : Am.Callee Try.prog 133 (vp M)) (ls : List (List UInt8)) (t : List UInt8) (o r : Nat) (h : Gx (M + 1) ls.length t.length o r) :
    Am.Fn Try.prog 133 [.slc 0 0 ls.length false 0, .str t, .int .i64 o, .int .i64 r] [.vec 1 (strs ls)] (fun v H' => v = .slc 1 0 (ls ++ txs t o r).length false 0 ∧ H' = [.dead, .vec 1 (strs (ls ++ txs t o r))]) := by
  refine Am.Fn.ofW (q6b ih) mixed qdu (by simp [AV.qv, AV.under]) ?_ ?_
  · intro j q hj
    cases j with
    | zero => simp only [List.getElem?_cons_zero, Option.some.injEq] at hj; subst hj; exact qk _ _ (jm _)
    | succ j => simp at hj
  obtain ⟨a1, ⟨a2, a4⟩, a3⟩ := qu6 h
  have w1 : qo .i64 ((o : Int) + 1) = ((o + 1 : Nat) : Int) := by rw [wrap64 (by omega) (by omega)]; rfl
  have tl : t.length ≤ 9223372036854775806 := by omega
  have b0 := W3 ls
  have g1 : 1 ≤ 2 ^ (o + 2 * r - 1) := Nat.one_le_two_pow
  have g2 : 1 ≤ 2 ^ (o + 2 * r) := Nat.one_le_two_pow
  have hlen := qf8 ls
  have fin : ∀ (s : St) (i : Nat) (L : List (List UInt8)), L = ls ++ txs t o r → 0 < i → get s.env 8 = .slc i 0 L.length false 0 → s.hp[0]? = some .dead → s.hp[i]? = some (.vec 1 (strs L)) → ∃ s', qw [AO.vec 1 (strs ls)].length s s' ∧ Ret [.slot 8] [.vec 1 (strs ls)] (fun v H' => v = .slc 1 0 (ls ++ txs t o r).length false 0 ∧ H' = [.dead, .vec 1 (strs (ls ++ txs t o r))]) s' := fun s i L e hi h1 h0 h2 => by
    subst e
    have hk : zo [0, i] s.hp = [.dead, .vec 1 (strs (ls ++ txs t o r))] := by simp [zo, h0, h2, AO.ren, qb _ _ (jm _)]
    have hne : (0 : Nat) ≠ i := by omega
    refine ⟨_, qw.refl _, Ret.x7 [0, i] ⟨⟨by simp, rfl, by simp; omega⟩, fun j hj => ?_⟩ (rs := [.slc i 0 (ls ++ txs t o r).length false 0]) ?_ ?_ (by simp [xl]) ?_ ⟨?_, hk⟩⟩
    · rcases List.mem_cons.1 hj with rfl | hj
      · rw [h0]; rfl
      · rw [List.mem_singleton.1 hj, h2]
        exact qg _ _ (jm _)
    · simp only [Wh, h1]
    · simp [xl, AV.within]
    · intro j l
      rw [hk]
      match j with
      | 0 => simp
      | 1 => simp
      | j + 2 => simp
    · simp [xl, AV.ren, yw, List.idxOf_cons, beq_false_of_ne hne]
  by_cases ho : 0 < o
  · have e1 : (o : Int) = 0 ↔ False := iff_false_intro (by omega)
    have e2 : (0 : Int) < (o : Int) := by omega
    have w2 : qo .i64 ((o : Int) - 1) = ((o - 1 : Nat) : Int) := by rw [wrap64 (by omega) (by omega)]; omega
    have p1 := qhh (show 0 < o + 2 * r by omega)
    have q2 : o - 1 + 2 * r = o + 2 * r - 1 := by omega
    by_cases hr : 0 < r
    · have e3 : (0 : Int) < (r : Int) := by omega
      have w3 : qo .i64 ((r : Int) - 1) = ((r - 1 : Nat) : Int) := by rw [wrap64 (by omega) (by omega)]; omega
      have q1 : o + 1 + 2 * (r - 1) = o + 2 * r - 1 := by omega
      have k1 : Gx M ls.length (t ++ [40]).length ((o + 1 : Nat) : Int) ((r - 1 : Nat) : Int) := Vo (by omega) ⟨by omega, by rw [Jk]; omega⟩ (by rw [q1]; omega)
      have hl := qvq (t := t ++ [40]) (o := o + 1) (r := r - 1)
      rw [q1] at hl
      have k2 : Gx M (ls ++ txs (t ++ [40]) (o + 1) (r - 1)).length (t ++ [41]).length ((o - 1 : Nat) : Int) (r : Int) := Vo (by omega) ⟨by omega, by rw [Jk]; omega⟩ (by rw [q2, List.length_append]; omega)
      have b1 := W3 (ls ++ txs (t ++ [40]) (o + 1) (r - 1))
      have hb : ls ++ txs (t ++ [40]) (o + 1) (r - 1) ++ txs (t ++ [41]) (o - 1) r = ls ++ txs t o r := by rw [List.append_assoc, ← qr1 ho hr]
      simp (maxSteps := 3000000) only [qh, zH, vz, qgl, vp, e1, e2, e3, w1, w2, w3, k1, k2, b0, b1, tl, Int.toNat_natCast, and_self, iE, iN, iB, iC, iL, iD, iA, iS, iM, qa, zZ, ↓qq, ↓reduceIte, reduceCtorEq, nA, nM, nS, nE, nL, nD]; try simp only [qa, zY]
      exact fin _ 2 _ hb (by omega) rfl rfl rfl
    · have r0 : r = 0 := by omega
      have e3 : (0 : Int) < (r : Int) ↔ False := iff_false_intro (by omega)
      have k2 : Gx M ls.length (t ++ [41]).length ((o - 1 : Nat) : Int) (r : Int) := Vo (by omega) ⟨by omega, by rw [Jk]; omega⟩ (by rw [q2]; omega)
      have hb : ls ++ txs (t ++ [41]) (o - 1) r = ls ++ txs t o r := by subst r0; rw [qlj ho]
      simp (maxSteps := 3000000) only [qh, zH, vz, qgl, vp, e1, e2, e3, w1, w2, k2, b0, tl, Int.toNat_natCast, Int.lt_irrefl, and_self, iE, iN, iB, iC, iL, iD, iA, iS, iM, qa, zZ, ↓qq, ↓reduceIte, reduceCtorEq, nA, nM, nS, nE, nL, nD]; try simp only [qa, zY]
      exact fin _ 1 _ hb (by omega) rfl rfl rfl
  · have o0 : o = 0 := by omega
    have e1 : (o : Int) = 0 ↔ True := iff_true_intro (by omega)
    have e2 : (0 : Int) < (o : Int) ↔ False := iff_false_intro (by omega)
    by_cases hr : 0 < r
    · have e3 : (0 : Int) < (r : Int) := by omega
      have e4 : (r : Int) = 0 ↔ False := iff_false_intro (by omega)
      have p1 := qhh (show 0 < o + 2 * r by omega)
      have w3 : qo .i64 ((r : Int) - 1) = ((r - 1 : Nat) : Int) := by rw [wrap64 (by omega) (by omega)]; omega
      have q1 : o + 1 + 2 * (r - 1) = o + 2 * r - 1 := by omega
      have k1 : Gx M ls.length (t ++ [40]).length ((o + 1 : Nat) : Int) ((r - 1 : Nat) : Int) := Vo (by omega) ⟨by omega, by rw [Jk]; omega⟩ (by rw [q1]; omega)
      have hb : ls ++ txs (t ++ [40]) (o + 1) (r - 1) = ls ++ txs t o r := by subst o0; rw [qqe hr]
      simp (maxSteps := 3000000) only [qh, zH, vz, qgl, vp, e1, e2, e3, e4, w1, w3, k1, b0, tl, Int.toNat_natCast, Int.lt_irrefl, and_self, iE, iN, iB, iC, iL, iD, iA, iS, iM, qa, zZ, ↓qq, ↓reduceIte, reduceCtorEq, nA, nM, nS, nE, nL, nD]; try simp only [qa, zY]
      exact fin _ 1 _ hb (by omega) rfl rfl rfl
    · have r0 : r = 0 := by omega
      have e3 : (0 : Int) < (r : Int) ↔ False := iff_false_intro (by omega)
      have e4 : (r : Int) = 0 ↔ True := iff_true_intro (by omega)
      have hb : ls ++ [t] = ls ++ txs t o r := by subst o0; subst r0; rw [qrv]
      have hs : src [AO.vec 1 (strs ls), AO.cells (over [AV.str []] 0 [AV.str t])] 1 (.slc 1 0 1 true 1) = some (1, [.str t]) := rfl
      have hbd : (ls.length + 1) * 16 ≤ 1099511627776 := by omega
      have htk : List.take ls.length (strs ls) = strs ls := List.take_of_length_le (by omega)
      have hst : strs ls ++ [.str t] = strs (ls ++ [t]) := by simp [strs]
      have hl1 : (ls ++ [t]).length = ls.length + 1 := by simp
      simp (maxSteps := 3000000) only [qh, zH, vz, qgl, e1, e2, e3, e4, hs, hlen, hbd, htk, hst, Nat.mul_one, Nat.le_refl, Int.toNat_natCast, and_self, iE, iN, iB, iC, iL, iD, iA, iS, iM, qa, zZ, ↓qq, ↓reduceIte, reduceCtorEq, nA, nM, nS, nE, nL, nD]; try simp only [qa, zY]
      exact ⟨rfl, fin _ 2 _ hb (by omega) (by rw [hl1]; rfl) rfl rfl⟩
theorem qco : ∀ M, M ≤ 20 → Am.Callee Try.prog 133 (vp M)
  | 0, _ => qvg (fun t o r h => absurd h.2.2.1 (by omega)) (fun ls t o r h => absurd h.2.2.1 (by omega))
  | M + 1, h => qvg (fun t o r h1 => q18 M (qco M (by omega)) t o r h1) (fun ls t o r h1 => qz7 M (qco M (by omega)) ls t o r h1)
def rdS (n : Nat) (s : List UInt8) : Nat → Option (List Nat × List Nat)
  | 0 => some (List.replicate 16 0, [])
  | k + 1 => match rdS n s k with
    | none => none
    | some (m, st) => if s.getD k 0 = 40 then some (m, k :: st) else if s.getD k 0 = 41 then (match st with
      | [] => none
      | i :: st' => some ((m.set (place n i) (place n k)).set (place n k) (place n i), st')) else none
theorem qy7 {n : Nat} {s : List UInt8} {k : Nat} (h : rdS n s k = none) : ∀ j, rdS n s (k + j) = none
  | 0 => h
  | j + 1 => by
    show rdS n s ((k + j) + 1) = none
    simp only [rdS, qy7 h j]
theorem qie {n : Nat} {s : List UInt8} (hn : n ≤ 8) : ∀ {k : Nat} {m st : List Nat}, k ≤ 2 * n → rdS n s k = some (m, st) → okD m ∧ st.length ≤ k ∧ ∀ i ∈ st, i < k
  | 0, m, st, _, h => by cases h; exact ⟨qli, Nat.le_refl _, by simp⟩
  | k + 1, m, st, hk, h => by
    simp only [rdS] at h
    cases h0 : rdS n s k with
    | none => rw [h0] at h; cases h
    | some q =>
      obtain ⟨m0, st0⟩ := q
      obtain ⟨i1, i2, i3⟩ := qie hn (by omega) h0
      rw [h0] at h
      simp only at h
      split at h
      · cases h
        exact ⟨i1, by simp; omega, fun i hi => by
          rcases List.mem_cons.1 hi with rfl | hi
          · omega
          · have := i3 i hi; omega⟩
      · split at h
        · cases st0 with
          | nil => cases h
          | cons i st' =>
            cases h
            have := i3 i (by simp)
            have p1 := q7 (n := n) (i := i) (by omega)
            have p2 := q7 (n := n) (i := k) (by omega)
            exact ⟨Jq i1 (by omega) (by omega), by simp at i2; omega, fun j hj => by have := i3 j (by simp [hj]); omega⟩
        · cases h
def rdC (n : Nat) : Bool := (brs (2 * n) 0).all fun s => (rdS n s (2 * n) == some (dOf s, [])) && s.length == 2 * n
theorem zaw : rdC 1 = true := by kernel_rfl
theorem za0 : rdC 2 = true := by kernel_rfl
theorem zav : rdC 3 = true := by kernel_rfl
theorem zax : rdC 4 = true := by kernel_rfl
theorem za6 : rdC 5 = true := by kernel_rfl
theorem za7 : rdC 6 = true := by kernel_rfl
theorem q8q {n : Nat} (h : 1 ≤ n ∧ n ≤ 6) : ∀ s ∈ brs (2 * n) 0, rdS n s (2 * n) = some (dOf s, []) ∧ s.length = 2 * n := fun s hs => by
  have h0 : rdC n = true := by
    rcases (show n = 1 ∨ n = 2 ∨ n = 3 ∨ n = 4 ∨ n = 5 ∨ n = 6 by omega) with rfl | rfl | rfl | rfl | rfl | rfl
    · exact zaw
    · exact za0
    · exact zav
    · exact zax
    · exact za6
    · exact za7
  have := List.all_eq_true.1 h0 s hs
  simp only [Bool.and_eq_true, beq_iff_eq] at this
  exact this
theorem Qu : qnw 66 = some (qj wc) := rfl
theorem ga : qnw 139 = some (qj vd) := rfl
theorem u5 : qnw 165 = some (qj jy) := rfl
def K0 : AC := .seq (.region [oM 42 0,oM 43 7,o0 44 (.qg5 (.t 42) (.t 43)),o0 45 (.bin .eql (.t 44) (.c (.int .u8 41))),oM 46 45,oG 47 46 true (.mov (.t 6)),oG 48 46 true (.len .slc (.t 47)),oG 49 46 true (.bin .gtr (.t 48) (.c (.int .i64 0))),o0 50 (.pick (.t 46) (.t 49) (.c (.bool false))),oM 41 50]) (.cond 41 (.seq (.region [oM 51 6,oM 52 6,o0 53 (.len .slc (.t 52)),oK 54 .sub 53 1,oX 55 1 51 54,oL 56 55,oM 8 56]) (.seq (.region [oM 57 6,oM 58 6,o0 59 (.len .slc (.t 58)),oK 60 .sub 59 1,o0 61 (.qf3 1 (.t 57) none (some (.t 60))),oM 6 61]) (.draw true [oN 62 17 5,oM 63 4,oM 64 8,oM 66 4,oM 67 7,oC 65 165 [.t 63,.t 64],oC 68 165 [.t 66,.t 67],oC 69 139 [.t 62,.t 65,.t 68],oS 17 5 69]))) (.seq (.region [o0 31 (.build [.int .i64 0,.int .u8 0,.int .u8 0,.int .u8 0,.int .u8 0,.int .u8 0,.int .u8 0,.int .u8 0,.int .u8 0,.int .u8 0,.int .u8 0,.int .u8 0,.int .u8 0,.int .u8 0,.int .u8 0,.int .u8 0,.int .u8 0] []),oS 17 2 31,oB 3 false]) .ret))
def Z9 : AC := .seq (.seq (.region [oM 25 7,oM 26 4,o0 27 (.bin .mul (.c (.int .i64 2)) (.t 26)),oP 28 .lss 25 27]) (.cond 28 .skip (.exit 0))) (.seq (.block 1 (.block 2 (.seq (.region [oM 33 0,oM 34 7,o0 35 (.qg5 (.t 33) (.t 34)),o0 36 (.bin .eql (.t 35) (.c (.int .u8 40))),oM 32 36]) (.cond 32 (.region [oM 37 6,oM 38 7,o0 39 (.um 1 [.int .i64 0] [(0,1,.t 38)]),o0 40 (.append 1 8 (.t 37) (.t 39)),oM 6 40]) K0)))) (.region [oM 29 7,oK 30 .add 29 1,oM 7 30]))
def Kj : AC := .seq (.seq (.region [oM 70 6,o0 71 (.len .slc (.t 70)),oK 72 .gtr 71 0]) (.cond 72 (.seq (.region [o0 73 (.build [.int .i64 0,.int .u8 0,.int .u8 0,.int .u8 0,.int .u8 0,.int .u8 0,.int .u8 0,.int .u8 0,.int .u8 0,.int .u8 0,.int .u8 0,.int .u8 0,.int .u8 0,.int .u8 0,.int .u8 0,.int .u8 0,.int .u8 0] []),oS 17 2 73,oB 3 false]) .ret) .skip)) (.seq (.region [oN 74 17 5,oS 17 2 74,oB 3 true]) .ret)
def qfx : AC := .seq (.region [oD 2,oB 3 false]) (.seq (.region [oM 9 0,o0 10 (.len .str (.t 9)),oK 11 .quo 10 2,oM 4 11]) (.seq (.seq (.region [oM 12 0,o0 13 (.len .str (.t 12)),oK 14 .rem 13 2,oK 15 .neq 14 0,oM 16 15,oG 17 16 false (.mov (.t 4)),⟨some 18,some (16,false),.call (.c (.fn 66 [] [])) [.t 17,(.c (.int .i64 1)),(.c (.int .i64 8))]⟩,oG 19 16 false (.un .not (.t 18)),o0 20 (.pick (.t 16) (.c (.bool true)) (.t 19))]) (.cond 20 (.seq (.region [o0 21 (.build [.int .i64 0,.int .u8 0,.int .u8 0,.int .u8 0,.int .u8 0,.int .u8 0,.int .u8 0,.int .u8 0,.int .u8 0,.int .u8 0,.int .u8 0,.int .u8 0,.int .u8 0,.int .u8 0,.int .u8 0,.int .u8 0,.int .u8 0] []),oS 17 2 21,oB 3 false]) .ret) .skip)) (.seq (.region [oM 22 4,o0 23 (.build [.int .i64 0,.int .u8 0,.int .u8 0,.int .u8 0,.int .u8 0,.int .u8 0,.int .u8 0,.int .u8 0,.int .u8 0,.int .u8 0,.int .u8 0,.int .u8 0,.int .u8 0,.int .u8 0,.int .u8 0,.int .u8 0,.int .u8 0] [(0,1,.t 22)]),o0 24 (.um 0 [] []),oD 5,oS 17 5 23,oM 6 24]) (.seq (.seq (.region [oI 7 0]) (.block 0 (.loop Z9))) Kj))))
theorem qqt : zl Try.prog 134 = some ⟨75, qfx, [.yn 2 17, .slot 3]⟩ := by kernel_rfl
theorem qq7 (n : Nat) (s : List UInt8) (m0 : List Nat) (hn : 1 ≤ n ∧ n ≤ 8) (hs : s.length = 2 * n) (h : rdS n s (2 * n) = some (m0, [])) :
    Am.Fn Try.prog 134 [.str s] [] (fun v H' => v = .tup [.agg (dia n m0), .bool true] ∧ H' = []) := by
  refine Am.Fn.xf (R := fun v => v = _) W0 mixed qqt (by simp [AV.qv, AV.under]) (by simp) ?_
  have hl : (s.length : Int).tdiv 2 = (n : Int) := by rw [hs]; rw [show (((2 * n : Nat) : Int)).tdiv 2 = ((2 * n / 2 : Nat) : Int) from (Int.ofNat_tdiv (2 * n) 2).symm]; omega
  have hr : (s.length : Int).tmod 2 = 0 := by rw [hs]; rw [show (((2 * n : Nat) : Int)).tmod 2 = ((2 * n % 2 : Nat) : Int) from (Int.ofNat_tmod (2 * n) 2).symm]; omega
  have hw0 : qo .i64 (n : Int) = n := wrap64 (by omega) (by omega)
  have hn1 : (1 : Int) ≤ (n : Int) ∧ (n : Int) ≤ 8 := by omega
  have h2n : qo .i64 (2 * (n : Int)) = ((2 * n : Nat) : Int) := by rw [wrap64 (by omega) (by omega)]; simp
  simp (maxSteps := 3000000) only [qh, zH, qfx, Qu, ga, u5, wc, jy, vd, hl, hr, hw0, hn1, zk, zf, kc, qc, za, zn qt qt, List.length_replicate, and_self, iE, iN, iB, iC, iL, iD, iA, iS, iM, qa, zZ, ↓qq, ↓reduceIte, reduceCtorEq, nA, nM, nS, nE, nL, nD]; try simp only [qa, zY]
  refine WA.xr W0 (fun t => ∃ (k : Nat) (m st cl : List Nat), k ≤ 2 * n ∧ rdS n s k = some (m, st) ∧ st.length ≤ cl.length ∧ cl.take st.length = st.reverse ∧ t = ⟨[(0, .str s), (2, .ptr 0 0), (3, .bool false), (4, .int .i64 n), (5, .ptr 2 0), (6, .slc 1 0 st.length false 0), (7, .int .i64 k)], [.cells (dia 0 (List.replicate 16 0)), .vec 1 (uk cl), .cells (dia n m)]⟩)
    (fun t => match get t.env 7 with | .int _ x => 2 * n - x.toNat | _ => 0) ⟨_, qw.trans (qw.qx [0, 2, 3, 4, 5, 6, 7]) (qw.vec 1 0 1 (by decide) rfl rfl ?_ ?_), 0, List.replicate 16 0, [], [], by omega, rfl, by simp, by simp, ?_⟩ ?_
  · simp only [qx, zs, zV, ↓reduceIte, nE, reduceCtorEq, nB]
  · simp only [zV, ↓reduceIte, nE, reduceCtorEq, nB]
  · simp only [qx, zs, zV, ↓reduceIte, nE, reduceCtorEq, nB]; rfl
  rintro t ⟨k, m, st, cl, hk, hrd, hcl, htk, rfl⟩
  have hw : qo .i64 ((k : Int) + 1) = ((k + 1 : Nat) : Int) := by rw [wrap64 (by omega) (by omega)]; rfl
  obtain ⟨hmo, hst, hsb⟩ := qie hn.2 hk hrd
  by_cases hlt : k < 2 * n
  · have hli : (k : Int) < ((2 * n : Nat) : Int) := by omega
    have hk0 : (0 : Int) ≤ (k : Int) := by omega
    have hks : (k : Int) < (s.length : Int) := by omega
    cases hnx : rdS n s (k + 1) with
    | none =>
      have := qy7 hnx (2 * n - (k + 1))
      rw [show k + 1 + (2 * n - (k + 1)) = 2 * n by omega, h] at this
      cases this
    | some q =>
    obtain ⟨m', st'⟩ := q
    have hnx' := hnx
    simp only [rdS, hrd] at hnx
    by_cases h40 : s.getD k 0 = 40
    · rw [if_pos h40] at hnx
      cases hnx
      have hx : (((s.getD k 0).toNat : Nat) : Int) = 40 := by rw [h40]; rfl
      have hap : List.take st.length (uk cl) ++ [AV.int .i64 (k : Int)] = uk (k :: st).reverse := by
        rw [qlt, htk, List.reverse_cons, ← qfp]; rfl
      have hs1 : src [AO.cells (dia 0 (List.replicate 16 0)), .vec 1 (uk cl), .cells (dia n m), .cells (over [AV.int .i64 0] 0 [AV.int .i64 k])] 1 (.slc 3 0 1 true 1) = some (1, [.int .i64 k]) := rfl
      have hnl := uq (m := cl)
      have hbd : (st.length + 1) * 8 ≤ 1099511627776 := by omega
      simp (maxSteps := 3000000) only [qh, zH, Z9, Qu, ga, u5, wc, jy, vd, h2n, hli, hk0, hks, hx, hap, hs1, hnl, hcl, hbd, hw, Nat.mul_one, and_self, iE, iN, iB, iC, iL, iD, iA, iS, iM, qa, zZ, ↓qq, ↓reduceIte, reduceCtorEq, nA, nM, nS, nE, nL, nD]; try simp only [qa, zY]
      refine ⟨rfl, _, qw.x7 [0, 4, 2] [0, 2, 3, 4, 5, 6, 7] ⟨by decide, ?_⟩ ?_, ⟨k + 1, m, k :: st, (k :: st).reverse, by omega, hnx', by simp, by rw [List.take_of_length_le (by simp)], ?_⟩, ?_⟩
      · simp only [zK, ↓reduceIte, reduceCtorEq, nE, nB, nA]
      · simp only [zK, ↓reduceIte, reduceCtorEq, nE, nB, nA]
      · simp only [zL, ↓reduceIte, reduceCtorEq, nE, nA]; rfl
      · simp only [zL, ↓reduceIte, reduceCtorEq, nE, nA]; omega
    · rw [if_neg h40] at hnx
      by_cases h41 : s.getD k 0 = 41
      · rw [if_pos h41] at hnx
        cases st with
        | nil => cases hnx
        | cons j st1 =>
          simp only [Option.some.injEq, Prod.mk.injEq] at hnx
          obtain ⟨e1, e2⟩ := hnx
          subst e2
          have hx : (((s.getD k 0).toNat : Nat) : Int) = 41 := by rw [h41]; rfl
          have hj := hsb j (by simp)
          have hsl : (j :: st1).length = st1.length + 1 := rfl
          have hpos : (0 : Int) < ((st1.length + 1 : Nat) : Int) := by omega
          have hw1 : qo .i64 (((st1.length + 1 : Nat) : Int) - 1) = ((st1.length : Nat) : Int) := by rw [wrap64 (by omega) (by omega)]; omega
          rw [hsl] at hcl htk hst
          have hcl1 : st1.length < cl.length := by omega
          have hcl2 : st1.length ≤ cl.length := by omega
          have hgj : cl.getD st1.length 0 = j := by
            have : (cl.take (st1.length + 1)).getD st1.length 0 = j := by rw [htk]; simp
            rw [← this, List.getD_eq_getElem?_getD, List.getD_eq_getElem?_getD, List.getElem?_take, if_pos (by omega)]
          have htk1 : cl.take st1.length = st1.reverse := by
            have : (cl.take (st1.length + 1)).take st1.length = st1.reverse := by rw [htk]; simp
            rwa [List.take_take, Nat.min_eq_left (by omega)] at this
          have hnl := uq (m := cl)
          have c1 : (0 : Int) ≤ (st1.length : Int) := by omega
          have c2 : (st1.length : Int) < ((st1.length + 1 : Nat) : Int) := by omega
          have c3 : (st1.length : Int) ≤ ((st1.length + 1 : Nat) : Int) := by omega
          have p1 := q7 (n := n) (i := j) (by omega)
          have p2 := q7 (n := n) (i := k) (by omega)
          have pz1 := kj (n := n) (k := j) (by omega)
          have pz2 := kj (n := n) (k := k) (by omega)
          have z1 : bu (n : Int) := xu (by omega)
          have z2 : bu (j : Int) := xu (by omega)
          have z3 : bu (k : Int) := xu (by omega)
          have j1 : (0 : Int) ≤ ((place n j : Nat) : Int) ∧ ((place n j : Nat) : Int) < 16 := by omega
          have j2 : (0 : Int) ≤ ((place n k : Nat) : Int) ∧ ((place n k : Nat) : Int) < 16 := by omega
          have hmo' := (qie hn.2 (by omega) hnx').1
          rw [← e1] at hmo'
          simp (maxSteps := 3000000) only [qh, zH, Z9, K0, Qu, ga, u5, wc, jy, vd, h2n, hli, hk0, hks, hx, hnl, hw, hw1, hsl, hpos, hcl, hcl1, hcl2, hgj, c1, c2, c3, z1, z2, z3, pz1, pz2, j1, j2, qy hmo, qc, hmo.1, hmo'.1, qn hmo.1, qn hmo'.1, zn hmo.1 hmo'.1, za, lim, qgs, Option.map_some, Option.map_none, Nat.zero_add, Nat.zero_mul, Int.toNat_zero, Nat.mul_one, Nat.sub_zero, Int.toNat_natCast, and_self, iE, iN, iB, iC, iL, iD, iA, iS, iM, qa, zZ, ↓qq, ↓reduceIte, reduceCtorEq, nA, nM, nS, nE, nL, nD]; try simp only [qa, zY]
          repeat' refine And.intro (by first | rfl | exact ⟨_, rfl⟩) ?_
          refine ⟨_, qw.qx [0, 2, 3, 4, 5, 6, 7], ⟨k + 1, m', st1, cl, by omega, hnx', hcl2, htk1, ?_⟩, ?_⟩
          · simp only [zL, ↓reduceIte, reduceCtorEq, nE, nA]; rw [e1]
          · simp only [zL, ↓reduceIte, reduceCtorEq, nE, nA]; omega
      · rw [if_neg h41] at hnx
        cases hnx
  · have hli : ¬ (k : Int) < ((2 * n : Nat) : Int) := by omega
    have ek : k = 2 * n := by omega
    have hem : st = [] ∧ m = m0 := by
      rw [ek, h] at hrd
      cases hrd
      exact ⟨rfl, rfl⟩
    obtain ⟨e1, e2⟩ := hem
    subst e1 e2
    have hz0 : ((0 : Nat) : Int) = 0 := rfl
    simp (maxSteps := 3000000) only [qh, zH, Z9, Kj, Qu, ga, u5, wc, jy, vd, h2n, hli, hz0, qc, hmo.1, qn hmo.1, zn qt hmo.1, za, List.length_replicate, List.length_nil, Int.lt_irrefl, iE, iN, iB, iC, iL, iD, iA, iS, iM, qa, zZ, ↓qq, ↓reduceIte, reduceCtorEq, nA, nM, nS, nE, nL, nD]; try simp only [qa, zY]
    simp only [qd, Bool.and_self]
def yl (n : Int) (L : List (List Nat)) : List AV := L.flatMap (dia n)
def okL (L : List (List Nat)) : Prop := ∀ m ∈ L, okD m
theorem zr {n : Int} : ∀ L : List (List Nat), AV.zg (yl n L) = true
  | [] => rfl
  | t :: ts => by simp only [yl, List.flatMap_cons]; exact Ua _ _ (qd _ _) (zr ts)
theorem qem {n : Int} {m : List Nat} (h : okD m) : (dia n m).length = 17 := by rw [qc, h.1]
theorem Zh {n : Int} : ∀ {L : List (List Nat)}, okL L → (yl n L).length = L.length * 17
  | [], _ => rfl
  | t :: ts, h => by
    have := Zh (n := n) (L := ts) fun u hu => h u (List.mem_cons_of_mem _ hu)
    unfold yl at this ⊢
    simp only [List.flatMap_cons, List.length_append, qem (h t (by simp)), List.length_cons, this]
    omega
theorem qdv {n : Int} : ∀ {L : List (List Nat)} {i : Nat}, okL L → (h : i < L.length) → List.take 17 (List.drop (i * 17) (yl n L)) = dia n L[i]
  | t :: ts, 0, h, hi => by
    have := qem (n := n) (h t (by simp))
    simp only [yl, List.flatMap_cons, Nat.zero_mul, List.drop_zero, List.getElem_cons_zero]
    rw [List.take_append_of_le_length (by omega), List.take_of_length_le (by omega)]
  | t :: ts, i + 1, h, hi => by
    have h0 := qem (n := n) (h t (by simp))
    have h1 := qdv (n := n) (L := ts) (i := i) (fun u hu => h u (List.mem_cons_of_mem _ hu)) (by simpa using hi)
    simp only [yl, List.flatMap_cons, List.getElem_cons_succ] at h1 ⊢
    rw [List.drop_append, List.drop_of_length_le (by omega), List.nil_append, h0, ← h1]
    congr 2; omega
theorem qy6 {n : Int} {a b : List (List Nat)} : yl n (a ++ b) = yl n a ++ yl n b := by simp [yl]
theorem qdw {N : Nat} (h : 1 ≤ N ∧ N ≤ 6) : okL (qf N) := fun m hm => (Wo h hm).2
theorem qv8 {N : Nat} : (brs (2 * N) 0).length = (qf N).length := by simp [qf]
theorem q0t {N i : Nat} (h : i < (brs (2 * N) 0).length) : (qf N)[i]'(by rw [← qv8]; exact h) = dOf (brs (2 * N) 0)[i] := by simp [qf]
theorem q0n {l : List (List UInt8)} {i : Nat} (h : i < l.length) : (strs l)[i]? = some (.str l[i]) := by simp [strs, h]
noncomputable def Ga : List AV → Option AV
  | [.str s] => match rdS (s.length / 2) s s.length with
    | some (m, []) => chk (s.length % 2 = 0 ∧ 2 ≤ s.length ∧ s.length ≤ 16) (some (.tup [.agg (dia ((s.length / 2 : Nat) : Int) m), .bool true]))
    | _ => none
  | _ => none
theorem q3t : Am.Callee Try.prog 134 (qj Ga) := Am.Callee.plain fun xs v he => by
  unfold Ga at he
  split at he
  · rename_i s
    split at he
    · rename_i m hr
      obtain ⟨⟨h1, h2, h3⟩, he⟩ := ql he
      cases he
      have e : s.length = 2 * (s.length / 2) := by omega
      have hr' : rdS (s.length / 2) s (2 * (s.length / 2)) = some (m, []) := by rw [← e]; exact hr
      exact ⟨rfl, by simp only [AV.zq, AV.zg, qd, Bool.and_self], qq7 (s.length / 2) s m (by omega) e hr'⟩
    · cases he
  · cases he
theorem qwz : Am.Callee Try.prog 133 (vp 14) := qco 14 (by omega)
noncomputable def q37 : zc := ((zah.put 134 (qj Ga)).put 133 (vp 14))
theorem qm9 : qp Try.prog q37 := ((q5h.put (q3t)).put (qwz))
theorem Z7 : q37 134 = some (qj Ga) := rfl
theorem Q6 : q37 133 = some (vp 14) := rfl
def Yy : AC := .seq (.seq (.region [oM 11 5,oM 12 3,o0 13 (.len .slc (.t 12)),oP 14 .lss 11 13]) (.cond 14 .skip (.exit 0))) (.seq (.block 1 (.seq (.region [oM 18 3,oM 19 5,oX 20 1 18 19,oL 21 20,oC 22 134 [.t 21],oM 17 22,oE 23 0 17,oE 24 1 17,oD 6,oS 17 6 23,oM 7 24]) (.region [oM 25 4,oN 26 17 6,o0 27 (.um 1 [.int .i64 0,.int .u8 0,.int .u8 0,.int .u8 0,.int .u8 0,.int .u8 0,.int .u8 0,.int .u8 0,.int .u8 0,.int .u8 0,.int .u8 0,.int .u8 0,.int .u8 0,.int .u8 0,.int .u8 0,.int .u8 0,.int .u8 0] [(0,17,.t 26)]),o0 28 (.append 17 24 (.t 25) (.t 27)),oM 4 28]))) (.region [oM 15 5,oK 16 .add 15 1,oM 5 16]))
def qbq : AC := .seq (.region [oM 29 4,oM 2 29]) .ret
def qhu : AC := .seq (.region [o0 2 (.mov (.c (.v (.slice none 0 0))))]) (.seq (.region [oM 8 0,⟨some 9,none,.call (.c (.fn 133 [] [])) [(.c (.v (.slice none 0 0))),(.c (.str [])),(.c (.int .i64 0)),.t 8]⟩,o0 10 (.um 0 [] []),oM 3 9,oM 4 10]) (.seq (.seq (.region [oI 5 0]) (.block 0 (.loop Yy))) qbq))
theorem qso : zl Try.prog 78 = some ⟨30, qhu, [.slot 2]⟩ := by kernel_rfl
theorem qst (N : Nat) (hN : 1 ≤ N ∧ N ≤ 6) :
    Am.Fn Try.prog 78 [.int .i64 N] [] (fun v H' => v = .slc 0 0 (qf N).length false 0 ∧ H' = [.vec 17 (yl N (qf N))]) := by
  refine Am.Fn.ofW qm9 mixed qso (by simp [AV.qv, AV.under]) (by simp) ?_
  have hk : Gx 14 0 0 0 (N : Int) := by
    refine Vo (o := 0) (by omega) (by omega) ?_
    have : 2 ^ (0 + 2 * N) ≤ 2 ^ 12 := Nat.pow_le_pow_right (by omega) (by omega)
    omega
  have ht : txs [] 0 N = brs (2 * N) 0 := by simp [txs]
  simp (maxSteps := 3000000) only [qh, zH, qhu, Z7, Q6, Ga, vp, hk, ht, List.length_nil, Int.toNat_zero, Int.toNat_natCast, iE, iN, iB, iC, iL, iD, iA, iS, iM, qa, zZ, ↓qq, ↓reduceIte, reduceCtorEq, nA, nM, nS, nE, nL, nD]; try simp only [qa, zY]
  have hall := qv8 (N := N)
  have hlen := Ui hN
  have hT : ∀ i (h : i < (brs (2 * N) 0).length), rdS N (brs (2 * N) 0)[i] (2 * N) = some (dOf (brs (2 * N) 0)[i], []) ∧ (brs (2 * N) 0)[i].length = 2 * N ∧ (qf N)[i]'(by rw [← hall]; exact h) = dOf (brs (2 * N) 0)[i] := fun i h => by
    have := q8q hN _ (List.getElem_mem h)
    exact ⟨this.1, this.2, q0t h⟩
  have hL := qdw hN
  generalize hTe : brs (2 * N) 0 = T at *
  refine WA.xr qm9 (fun t => ∃ i : Nat, i ≤ T.length ∧ t = ⟨[(0, .int .i64 N), (3, .slc 0 0 T.length false 0), (4, .slc 1 0 i false 0), (5, .int .i64 i)], [.vec 1 (strs T), .vec 17 (yl N ((qf N).take i))]⟩)
    (fun t => match get t.env 5 with | .int _ x => T.length - x.toNat | _ => 0) ⟨_, qw.trans (qw.qx [0, 3, 4, 5]) (qw.vec 1 0 17 (by decide) rfl rfl ?_ ?_), 0, by omega, ?_⟩ ?_
  · simp only [qx, zs, zV, ↓reduceIte, nE, reduceCtorEq, nB]
  · simp only [v8 _ _ (jm _), zV, ↓reduceIte, nE, reduceCtorEq, nB]
  · simp only [qx, zs, wa _ _ _ (jm _), zV, ↓reduceIte, nE, reduceCtorEq, nB]; rfl
  rintro t ⟨i, hi, rfl⟩
  have hw : qo .i64 ((i : Int) + 1) = ((i + 1 : Nat) : Int) := by rw [wrap64 (by omega) (by omega)]; rfl
  by_cases hlt : i < T.length
  · have hli : (i : Int) < (T.length : Int) := by omega
    have hi0 : (0 : Int) ≤ (i : Int) := by omega
    obtain ⟨t1, t2, t3⟩ := hT i hlt
    have hg := q0n hlt
    have hsl := qf8 T
    have hia : i < (qf N).length := by omega
    have hmo := hL _ (List.getElem_mem hia)
    have hnx : yl N ((qf N).take (i + 1)) = yl N ((qf N).take i) ++ dia N (dOf T[i]) := by
      rw [List.take_succ_eq_append_getElem hia, qy6, t3]; simp [yl]
    rw [t3] at hmo
    have hdl : (yl N ((qf N).take i)).length = i * 17 := by
      rw [Zh (fun m hm => hL m (List.mem_of_mem_take hm)), List.length_take, Nat.min_eq_left (by omega)]
    have d2 : 2 * N / 2 = N := by omega
    have d3 : 2 * N % 2 = 0 ∧ 2 ≤ 2 * N ∧ 2 * N ≤ 16 := by omega
    generalize T[i] = s at hg t1 t2 hmo hnx
    generalize dOf s = m at t1 hmo hnx
    have hbd : (i + 1) * 24 ≤ 1099511627776 := by omega
    have hml := hmo.1
    have hs1 : src [.vec 1 (strs T), .vec 17 (yl N ((qf N).take i)), .cells (dia N m), .cells (dia N m)] 17 (.slc 3 0 1 true 1) = some (1, dia N m) := by
      simp [src, rd, chk, qc, hml, qn hml]
    have htk : List.take (i * 17) (yl N ((qf N).take i)) = yl N ((qf N).take i) := List.take_of_length_le (by omega)
    simp (maxSteps := 3000000) only [qh, zH, Yy, Z7, Q6, Ga, vp, hlt, hs1, htk, ← hnx, Nat.le_refl, hli, hi0, hg, hsl, t1, t2, d2, d3, hdl, hbd, hw, zk, qc, hml, qn hml, zn qt hml, za, List.length_replicate, Nat.mul_one, and_self, iE, iN, iB, iC, iL, iD, iA, iS, iM, qa, zZ, ↓qq, ↓reduceIte, reduceCtorEq, nA, nM, nS, nE, nL, nD]; try simp only [qa, zY]
    refine ⟨_, qw.can [0, 3, 4, 5] (by simp only [z6 _ (jm _), z6 _ (zr _), Wc, zC, nB, nD, nA, nE, ↓reduceIte, reduceCtorEq]; rfl), ⟨i + 1, by omega, ?_⟩, ?_⟩
    · simp only [qb _ _ (jm _), qb _ _ (zr _), zL, ↓reduceIte, reduceCtorEq, nE, nA]
    · simp only [zL, ↓reduceIte, reduceCtorEq, nE, nA]; omega
  · have hli : ¬ (i : Int) < (T.length : Int) := by omega
    have ei : i = T.length := by omega
    subst ei
    have hall2 : (qf N).take T.length = qf N := List.take_of_length_le (by omega)
    simp (maxSteps := 3000000) only [qh, zH, Yy, qbq, Z7, Q6, Ga, vp, hli, hall2, Int.lt_irrefl, iE, iN, iB, iC, iL, iD, iA, iS, iM, qa, zZ, ↓qq, ↓reduceIte, reduceCtorEq, nA, nM, nS, nE, nL, nD]; try simp only [qa, zY]
    refine ⟨_, qw.refl _, Ret.x7 [1] ⟨⟨by simp, rfl, by decide⟩, ?_⟩ (rs := [.slc 1 0 T.length false 0]) ?_ ?_ (by simp [xl]) ?_ ⟨?_, ?_⟩⟩
    · simp only [qg _ _ (zr _), zK, ↓reduceIte, reduceCtorEq, nE, nB, nA]
    · rfl
    · rfl
    · intro j l; cases j <;> simp [zo, AO.ren]
    · simp only [xl]
      simp only [hall, zL, ↓reduceIte, reduceCtorEq, nE, nA]
    · simp only [qb _ _ (zr _), zL, ↓reduceIte, reduceCtorEq, nE, nA]
noncomputable def Ve : List AV → Option (AV × List AO)
  | [.int .i64 n] => chk (1 ≤ n ∧ n ≤ 6) (some (.slc 0 0 (qf n.toNat).length false 0, [.vec 17 (yl (n.toNat : Int) (qf n.toNat))]))
  | _ => none
theorem q9g : Am.Callee Try.prog 78 (gq Ve) :=
  Am.Callee.new fun xs v H he => by
    unfold Ve at he
    split at he
    · rename_i n
      obtain ⟨h1, he⟩ := ql he
      obtain ⟨n, rfl⟩ : ∃ j : Nat, n = j := ⟨n.toNat, by omega⟩
      rw [Int.toNat_natCast] at he
      cases he
      exact ⟨rfl, qst n (by omega)⟩
    · cases he
noncomputable def q7d : zc := (q37.put 78 (gq Ve))
theorem qm1 : qp Try.prog q7d := (qm9.put (q9g))
theorem gg : q7d 138 = some (qj qaa) := rfl
open Classical in
noncomputable def qxy (l : List AV) : Option Nat := match l with
  | .int .i64 n :: _ => if (1 ≤ n.toNat ∧ n.toNat ≤ 6) ∧ l = yl (n.toNat : Int) (qf n.toNat) then some n.toNat else none
  | _ => none
theorem qlx {l : List AV} {N : Nat} (h : qxy l = some N) : (1 ≤ N ∧ N ≤ 6) ∧ l = yl (N : Int) (qf N) := by
  unfold qxy at h
  split at h
  · split at h
    · rename_i hc
      cases h
      exact hc
    · cases h
  · cases h
theorem qio {N : Nat} (hN : 1 ≤ N ∧ N ≤ 6) : qxy (yl (N : Int) (qf N)) = some N := by
  have hl := (Ui hN).1
  cases e : qf N with
  | nil => rw [e] at hl; simp at hl
  | cons m l =>
    have : yl (N : Int) (m :: l) = .int .i64 (N : Int) :: (u8s m ++ yl (N : Int) l) := by simp [yl, dia]
    unfold qxy
    rw [this]
    simp only [Int.toNat_natCast]
    rw [if_pos ⟨hN, by rw [e, this]⟩]
def Qs : AC := .seq (.seq (.region [oM 11 5,oM 12 6,oP 13 .lss 11 12]) (.cond 13 .skip (.exit 0))) (.block 1 (.seq (.region [oM 14 5,oM 15 6,oP 16 .add 14 15,oK 17 .quo 16 2,oM 7 17]) (.seq (.draw false [oM 18 0,oM 19 7,oX 20 17 18 19,oN 21 17 20,oN 22 17 3,oC 23 138 [.t 21,.t 22]]) (.cond 23 (.region [oM 24 7,oK 25 .add 24 1,oM 5 25]) (.region [oM 26 7,oM 6 26])))))
def Gn : AC := .seq (.region [oM 27 5,oM 4 27]) .ret
def qdy : AC := .seq (.region [o0 3 (.box (.t 1)),oI 4 0]) (.seq (.region [oM 8 0,o0 9 (.len .slc (.t 8)),oK 10 .sub 9 1,oI 5 0,oM 6 10]) (.seq (.block 0 (.loop Qs)) Gn))
theorem qmv : zl Try.prog 82 = some ⟨28, qdy, [.slot 4]⟩ := by kernel_rfl
theorem qnz (N : Nat) (m : List Nat) (hN : 1 ≤ N ∧ N ≤ 6) (hm : m ∈ qf N) :
    Am.Fn Try.prog 82 [.slc 0 0 (qf N).length false 0, .agg (dia N m)] [.ro (yl N (qf N))] (fun v H' => v = .int .i64 ((qf N).idxOf m : Nat) ∧ H' = [.ro (yl N (qf N))]) := by
  refine Am.Fn.xf (R := fun v => v = _) qm1 mixed qmv (by simp [AV.qv, AV.under, qk _ _ (qd _ _)]) (Jm (zr _)) ?_
  have hlen := Ui hN
  have hmo := (Wo hN hm).2
  have hL := qdw hN
  have hal := Zh (n := (N : Int)) hL
  have hix : (qf N).idxOf m < (qf N).length := List.idxOf_lt_length_of_mem hm
  have hpl := fun j h => quh hN hm (j := j) h
  have hgt := fun j h => qdv (n := (N : Int)) hL (i := j) h
  have hw0 : qo .i64 (((qf N).length : Int) - 1) = (((qf N).length - 1 : Nat) : Int) := by rw [wrap64 (by omega) (by omega)]; omega
  generalize hI : (qf N).idxOf m = I at hix hpl ⊢
  generalize hA : qf N = A at *
  simp (maxSteps := 3000000) only [qh, zH, qdy, gg, qaa, hw0, iE, iN, iB, iC, iL, iD, iA, iS, iM, qa, zZ, ↓qq, ↓reduceIte, reduceCtorEq, nA, nM, nS, nE, nL, nD]; try simp only [qa, zY]
  refine WA.xr qm1 (fun s => ∃ lo hi : Nat, lo ≤ I ∧ I ≤ hi ∧ hi < A.length ∧ s = ⟨[(0, .slc 0 0 A.length false 0), (3, .ptr 1 0), (5, .int .i64 lo), (6, .int .i64 hi)], [.ro (yl N A), .cells (dia N m)]⟩)
    (fun s => match get s.env 5, get s.env 6 with | .int _ x, .int _ y => y.toNat - x.toNat | _, _ => 0) ⟨_, qw.qx [0, 3, 5, 6], 0, A.length - 1, by omega, by omega, by omega, rfl⟩ ?_
  rintro s ⟨lo, hi, h1, h2, h3, rfl⟩
  by_cases hlt : lo < hi
  · have hli : (lo : Int) < (hi : Int) := by omega
    obtain ⟨mid, hmid⟩ : ∃ mid, mid = (lo + hi) / 2 := ⟨_, rfl⟩
    have w1 : qo .i64 ((lo : Int) + (hi : Int)) = ((lo + hi : Nat) : Int) := by rw [wrap64 (by omega) (by omega)]; omega
    have w2 : ((lo + hi : Nat) : Int).tdiv 2 = (mid : Int) := by rw [hmid]; exact (Int.ofNat_tdiv (lo + hi) 2).symm
    have w3 : qo .i64 (mid : Int) = (mid : Int) := wrap64 (by omega) (by omega)
    have w4 : qo .i64 ((mid : Int) + 1) = ((mid + 1 : Nat) : Int) := by rw [wrap64 (by omega) (by omega)]; rfl
    have b1 : (0 : Int) ≤ (mid : Int) := by omega
    have b2 : (mid : Int) < (A.length : Int) := by omega
    have b3 : mid * 17 < A.length * 17 := by omega
    have b4 : mid * 17 + 17 ≤ A.length * 17 := by omega
    have hmA : mid < A.length := by omega
    have g1 := hgt mid hmA
    have g2 := hpl mid hmA
    have o1 : okD A[mid] := hL _ (List.getElem_mem hmA)
    have n8 : (0 : Int) ≤ (N : Int) ∧ (N : Int) ≤ 8 := by omega
    by_cases hc : mid < I
    · rw [decide_eq_true hc] at g2
      simp (maxSteps := 3000000) only [qh, zH, Qs, gg, qaa, hli, w1, w2, w3, w4, b1, b2, b3, b4, hal, g1, g2, n8, qy o1, qy hmo, qc, hmo.1, qn hmo.1, Int.toNat_natCast, and_self, iE, iN, iB, iC, iL, iD, iA, iS, iM, qa, zZ, ↓qq, ↓reduceIte, reduceCtorEq, nA, nM, nS, nE, nL, nD]; try simp only [qa, zY]
      refine ⟨_, qw.qx [0, 3, 5, 6], ⟨mid + 1, hi, by omega, by omega, by omega, ?_⟩, ?_⟩
      · simp only [zL, ↓reduceIte, reduceCtorEq, nE, nA]
      · simp only [zL, ↓reduceIte, reduceCtorEq, nE, nA]; omega
    · rw [decide_eq_false hc] at g2
      simp (maxSteps := 3000000) only [qh, zH, Qs, gg, qaa, hli, w1, w2, w3, w4, b1, b2, b3, b4, hal, g1, g2, n8, qy o1, qy hmo, qc, hmo.1, qn hmo.1, Int.toNat_natCast, and_self, iE, iN, iB, iC, iL, iD, iA, iS, iM, qa, zZ, ↓qq, ↓reduceIte, reduceCtorEq, nA, nM, nS, nE, nL, nD]; try simp only [qa, zY]
      refine ⟨_, qw.qx [0, 3, 5, 6], ⟨lo, mid, by omega, by omega, by omega, ?_⟩, ?_⟩
      · simp only [zL, ↓reduceIte, reduceCtorEq, nE, nA]
      · simp only [zL, ↓reduceIte, reduceCtorEq, nE, nA]; omega
  · have hli : ¬ (lo : Int) < (hi : Int) := by omega
    obtain rfl : lo = I := by omega
    simp (maxSteps := 3000000) only [qh, zH, Qs, Gn, gg, qaa, hli, iE, iN, iB, iC, iL, iD, iA, iS, iM, qa, zZ, ↓qq, ↓reduceIte, reduceCtorEq, nA, nM, nS, nE, nL, nD]; try simp only [qa, zY]
    exact ⟨_, rfl⟩
noncomputable def ym : BE := fun hp xs => match xs with
  | [.slc b 0 k false 0, .agg d] => match rd hp b with
    | some l => match qxy l, vi d with
      | some N, some (n, m) => chk ((k = (qf N).length ∧ n = (N : Int)) ∧ m ∈ qf N) (some (.int .i64 ((qf N).idxOf m : Nat), hp))
      | _, _ => none
    | none => none
  | _ => none
theorem q9y : Am.Callee Try.prog 82 ym := Callee.fp fun hp xs v hp' he => by
  unfold ym at he
  split at he
  · rename_i b k d
    split at he
    · rename_i l hl
      split at he
      · rename_i N n m hN hd
        obtain ⟨⟨⟨k1, k2⟩, k3⟩, he⟩ := ql he
        simp only [Option.some.injEq, Prod.mk.injEq] at he
        obtain ⟨rfl, rfl⟩ := he
        obtain ⟨h1, rfl⟩ := qlx hN
        obtain ⟨rfl, hm⟩ := zi hd
        subst k1 k2
        refine ⟨[(b, 0)], [.slc 0 0 (qf N).length false 0, .agg (dia N m)], _, _, _, qnz N m h1 k3, by simp [AV.ren, AV.zp, ofL, qb _ _ (qd _ _)], rfl, ⟨⟨_, hl, by simp, by simp [qb _ _ (zr _)]⟩, trivial⟩, rfl, ⟨qk _ _ (zr _), trivial⟩, ⟨by simp [AV.under], qk _ _ (qd _ _), trivial⟩, by simp [AV.ren], ?_⟩
        simp [after, upd, AO.wr]
      · cases he
    · cases he
  · cases he
noncomputable def q45 : zc := (q7d.put 82 (ym))
theorem qaq : qp Try.prog q45 := (qm1.put (q9y))
theorem zu : q45 140 = some (qj jq) := rfl
theorem zx : q45 82 = some (ym) := rfl
theorem qw8 {l l' l2 : List AV} (h : AV.zg l = true) (h' : AV.zg l' = true) (h2 : AV.zg l2 = true) : ∀ (j : Nat) (o : AO), [AO.ro l, AO.ro l', AO.ro l2][j]? = some o → o.under [AO.ro l, AO.ro l', AO.ro l2].length := by
  intro j o e
  match j, e with
  | 0, e => cases e; exact qk _ _ h
  | 1, e => cases e; exact qk _ _ h'
  | 2, e => cases e; exact qk _ _ h2
  | j + 3, e => simp at e
theorem qjm : ∀ (n : Nat), rep n [.int .i64 0] = jk (List.replicate n 0)
  | 0 => rfl
  | n + 1 => by simp only [rep, qjm n, List.replicate_succ, jk, List.map_cons]; rfl
theorem qzd {p : Int} {L : List (List Nat)} {v : List Int} (hp : 0 < p) (h : ∀ x ∈ v, 0 ≤ x ∧ x ≤ p - 1) (m : List Nat) : 0 ≤ atR L v m ∧ atR L v m ≤ p - 1 := by
  unfold atR
  rw [List.getD_eq_getElem?_getD]
  cases e : v[L.idxOf m]? with
  | none => simp; omega
  | some x => exact h x (List.mem_of_getElem? e)
def Gp : AT := (.one (oM 46 2) (.one (oM 47 12) (.one (oX 48 17 46 47) (.one (oN 49 17 48) (.one (oM 50 2) (.one (oM 51 13) (.one (oX 52 17 50 51) (.one (oN 53 17 52) (.alt (oC 54 140 [.t 49,.t 53]) (.one (oM 45 54) (.one (oE 55 0 45) (.one (oE 56 1 45) (.one (oD 14) (.one (oS 17 14 55) (.one (oM 15 56) (.nil))))))) (.alt (oD 14) (.one (oC 54 140 [.t 49,.t 53]) (.one (oM 45 54) (.one (oE 55 0 45) (.one (oE 56 1 45) (.one (oS 17 14 55) (.one (oM 15 56) (.nil))))))) (.none)))))))))))
def J0 : AC := .seq (.seq (.region [oM 68 15,oK 69 .gtr 68 0]) (.cond 69 .skip (.exit 4))) (.seq (.block 5 (.region [oM 72 16,oM 73 1,oP 74 .mul 72 73,oM 75 0,oP 76 .rem 74 75,oM 16 76])) (.region [oM 70 15,oK 71 .sub 70 1,oM 15 71]))
def Gm : AC := .seq (.region [oM 77 2,oN 78 17 14,oC 79 82 [.t 77,.t 78],oM 17 79]) (.region [oM 80 11,oM 81 17,oM 82 11,oM 83 17,oX 84 1 82 83,oL 85 84,oM 86 16,oP 87 .add 85 86,oM 88 0,oP 89 .rem 87 88,oX 90 1 80 81,oT 90 89])
def Gg : AC := .seq (.draw false [oM 57 3,oM 58 12,oX 59 1 57 58,oL 60 59,oM 61 4,oM 62 13,oX 63 1 61 62,oL 64 63,oP 65 .mul 60 64,oM 66 0,oP 67 .rem 65 66,oM 16 67]) (.seq (.block 4 (.loop J0)) Gm)
def Jz : AC := .region [oM 38 13,oK 39 .add 38 1,oM 13 39]
def u7 : AC := .seq (.seq (.region [oM 27 13,oM 28 2,o0 29 (.len .slc (.t 28)),oP 30 .lss 27 29,oM 31 30,oG 32 31 true (.mov (.t 3)),oG 33 31 true (.mov (.t 12)),oG 34 31 true (.Y2 1 (.t 32) (.t 33)),oG 35 31 true (.Yj (.t 34)),oG 36 31 true (.bin .neq (.t 35) (.c (.int .i64 0))),o0 37 (.pick (.t 31) (.t 36) (.c (.bool false)))]) (.cond 37 .skip (.exit 2))) (.seq (.block 3 (.seq (.seq (.region [oM 40 4,oM 41 13,oX 42 1 40 41,oL 43 42,oK 44 .eql 43 0]) (.cond 44 (.exit 3) .skip)) (.seq (.tree false Gp) Gg))) Jz)
def J9 : AC := .region [oM 25 12,oK 26 .add 25 1,oM 12 26]
def J2 : AC := .seq (.seq (.region [oM 21 12,oM 22 2,o0 23 (.len .slc (.t 22)),oP 24 .lss 21 23]) (.cond 24 .skip (.exit 0))) (.seq (.block 1 (.seq (.region [oI 13 0]) (.block 2 (.loop u7)))) J9)
def Gv : AC := .seq (.region [oM 91 11,oM 10 91]) .ret
def qd6 : AC := .seq (.region [o0 10 (.mov (.c (.v (.slice none 0 0))))]) (.seq (.region [oM 18 2,o0 19 (.len .slc (.t 18)),o0 20 (.ky 1 8 [.int .i64 0] (.t 19) (.t 19)),oM 11 20]) (.seq (.seq (.region [oI 12 0]) (.block 0 (.loop J2))) Gv))
theorem qnn : zl Try.prog 85 = some ⟨92, qd6, [.slot 10]⟩ := by kernel_rfl
theorem qob (p c : Int) (N : Nat) (v w : List Int) (hp : 2 ≤ p ∧ p ≤ 97) (hc : 0 ≤ c ∧ c ≤ p - 1) (hN : 1 ≤ N ∧ N ≤ 6) (hv : v.length = (qf N).length) (hw : w.length = (qf N).length) (bv : ∀ x ∈ v, 0 ≤ x ∧ x ≤ p - 1) (bw : ∀ x ∈ w, 0 ≤ x ∧ x ≤ p - 1) :
    Am.Fn Try.prog 85 [.int .i64 p, .int .i64 c, .slc 0 0 (qf N).length false 0, .slc 1 0 (qf N).length true (qf N).length, .slc 2 0 (qf N).length true (qf N).length] [.ro (yl N (qf N)), .ro (jk v), .ro (jk w)]
      (fun r H' => r = .slc 3 0 (qf N).length true (qf N).length ∧ H' = [.ro (yl N (qf N)), .ro (jk v), .ro (jk w), .cells (jk (qfo p c N v w))]) := by
  refine Am.Fn.ofB qaq mixed qnn (by simp [AV.qv, AV.under]) (qw8 (zr _) (q9 _) (q9 _)) ?_
  have hlen := Ui hN
  have hL := qdw hN
  have hal := Zh (n := (N : Int)) hL
  have hgt := fun j h => qdv (n := (N : Int)) hL (i := j) h
  have hls := qio hN
  have hnd := X2 hN
  have hrow := qvm hnd hv
  have hrow' := qvm hnd hw
  have h0 := qs6 (p := p) (c := c) (N := N) (v := v) (w := w) (by omega)
  have hz1 : (0 : Int) ≤ ((qf N).length : Int) ∧ ((qf N).length : Int) ≤ ((qf N).length : Int) ∧ ((qf N).length : Int) * 8 ≤ 281474976710656 := by omega
  simp (maxSteps := 3000000) only [qh, zH, qd6, zu, zx, ym, jq, qjm, ← h0, Int.toNat_natCast, iE, iN, iB, iC, iL, iD, iA, iS, iM, qa, zZ, ↓qq, ↓reduceIte, reduceCtorEq, nA, nM, nS, nE, nL, nD]; try simp only [qa, zY]
  refine ⟨hz1, ?_⟩
  clear h0
  have hix : ∀ m, m ∈ qf N → (qf N).idxOf m < (qf N).length := fun m h => List.idxOf_lt_length_of_mem h
  refine WA.xr qaq (fun s => ∃ i : Nat, i ≤ (qf N).length ∧ s = ⟨[(0, .int .i64 p), (1, .int .i64 c), (2, .slc 0 0 (qf N).length false 0), (3, .slc 1 0 (qf N).length true (qf N).length), (4, .slc 2 0 (qf N).length true (qf N).length), (11, .slc 3 0 (qf N).length true (qf N).length), (12, .int .i64 i)], [.ro (yl N (qf N)), .ro (jk v), .ro (jk w), .cells (jk (Ji p c N v w i 0))]⟩)
    (fun s => match get s.env 12 with | .int _ x => (qf N).length - x.toNat | _ => 0) ⟨_, qw.qx [0, 1, 2, 3, 4, 11, 12], 0, by omega, rfl⟩ ?_
  rintro s ⟨i, hi, rfl⟩
  have hwi : qo .i64 ((i : Int) + 1) = ((i + 1 : Nat) : Int) := by rw [wrap64 (by omega) (by omega)]; rfl
  by_cases hlt : i < (qf N).length
  · have hli : (i : Int) < ((qf N).length : Int) := by omega
    have hi0 : (0 : Int) ≤ (i : Int) := by omega
    simp (maxSteps := 3000000) only [qh, zH, J2, zu, zx, ym, jq, hli, iE, iN, iB, iC, iL, iD, iA, iS, iM, qa, zZ, ↓qq, ↓reduceIte, reduceCtorEq, nA, nM, nS, nE, nL, nD]; try simp only [qa, zY]
    refine WA.xr qaq (fun s => ∃ k : Nat, k ≤ (qf N).length ∧ s = ⟨[(0, .int .i64 p), (1, .int .i64 c), (2, .slc 0 0 (qf N).length false 0), (3, .slc 1 0 (qf N).length true (qf N).length), (4, .slc 2 0 (qf N).length true (qf N).length), (11, .slc 3 0 (qf N).length true (qf N).length), (12, .int .i64 i), (13, .int .i64 k)], [.ro (yl N (qf N)), .ro (jk v), .ro (jk w), .cells (jk (Ji p c N v w i k))]⟩)
      (fun s => match get s.env 13 with | .int _ x => (qf N).length - x.toNat | _ => 0) ⟨_, qw.qx [0, 1, 2, 3, 4, 11, 12, 13], 0, by omega, rfl⟩ ?_
    rintro s ⟨k, hk, rfl⟩
    have hwk : qo .i64 ((k : Int) + 1) = ((k + 1 : Nat) : Int) := by rw [wrap64 (by omega) (by omega)]; rfl
    have hvi : i < v.length := by omega
    have hla := jg v
    have hlb := jg w
    have bvi := qzd (L := qf N) (by omega) bv (qf N)[i]
    have avi : atR (qf N) v (qf N)[i] = v.getD i 0 := by unfold atR; rw [qn1 hnd hlt]
    by_cases hltk : k < (qf N).length
    · have hlk : (k : Int) < ((qf N).length : Int) := by omega
      have hk0 : (0 : Int) ≤ (k : Int) := by omega
      have hwk' : k < w.length := by omega
      by_cases hz : v.getD i 0 = 0
      · have hno := q48 (p := p) (c := c) (w := w) (k := k) hlt (avi.trans hz)
        simp (maxSteps := 3000000) only [qh, zH, u7, J9, zu, zx, ym, jq, hlk, hli, hi0, hk0, hla, hlb, hvi, hwk', hz, hwi, hno, and_self, iE, iN, iB, iC, iL, iD, iA, iS, iM, qa, zZ, ↓qq, ↓reduceIte, reduceCtorEq, nA, nM, nS, nE, nL, nD]; try simp only [qa, zY]
        refine ⟨_, qw.qx [0, 1, 2, 3, 4, 11, 12], ⟨i + 1, by omega, ?_⟩, ?_⟩
        · simp only [zL, ↓reduceIte, reduceCtorEq, nE, nA]
        · simp only [zL, ↓reduceIte, reduceCtorEq, nE, nA]; omega
      · have hzb : (v.getD i 0 == 0) = false := beq_false_of_ne hz
        by_cases hzw : w.getD k 0 = 0
        · have awk : atR (qf N) w (qf N)[k] = 0 := by unfold atR; rw [qn1 hnd hltk]; exact hzw
          have hsk := qxp (p := p) (c := c) (v := v) (i := i) hltk awk
          simp (maxSteps := 3000000) only [qh, zH, u7, Jz, zu, zx, ym, jq, hlk, hli, hi0, hk0, hla, hlb, hvi, hwk', hz, hzb, hzw, hwk, hsk, and_self, iE, iN, iB, iC, iL, iD, iA, iS, iM, qa, zZ, ↓qq, ↓reduceIte, reduceCtorEq, nA, nM, nS, nE, nL, nD]; try simp only [qa, zY]
          refine ⟨_, qw.qx [0, 1, 2, 3, 4, 11, 12, 13], ⟨k + 1, by omega, ?_⟩, ?_⟩
          · simp only [zL, ↓reduceIte, reduceCtorEq, nE, nA]
          · simp only [zL, ↓reduceIte, reduceCtorEq, nE, nA]; omega
        · have hzwb : (w.getD k 0 == 0) = false := beq_false_of_ne hzw
          have awk : atR (qf N) w (qf N)[k] = w.getD k 0 := by unfold atR; rw [qn1 hnd hltk]
          have bwk := qzd (L := qf N) (by omega) bw (qf N)[k]
          have g1 := hgt i hlt
          have g2 := hgt k hltk
          have o1 : okD (qf N)[i] := hL _ (List.getElem_mem hlt)
          have o2 : okD (qf N)[k] := hL _ (List.getElem_mem hltk)
          have s1 := (Wo hN (List.getElem_mem hlt)).1
          have s2 := (Wo hN (List.getElem_mem hltk)).1
          have hpr := qp3 s1 s2
          have hin : xt N (qf N)[i] (qf N)[k] ∈ qf N := qad hpr.1 hpr.2.1
          have hput := fun x hx => q2l (p := p) (c := c) (v := v) (w := w) (x := x) hN hlt hltk hin hx
          have hiq := hix _ hin
          have hpo : okD (xt N (qf N)[i] (qf N)[k]) := (Wo hN hin).2
          have hlp := qil N (qf N)[i] (qf N)[k] N
          have b1 : i * 17 < (qf N).length * 17 := by omega
          have b2 : i * 17 + 17 ≤ (qf N).length * 17 := by omega
          have b3 : k * 17 < (qf N).length * 17 := by omega
          have b4 : k * 17 + 17 ≤ (qf N).length * 17 := by omega
          have hn0 : (0 : Int) ≤ (N : Int) := by omega
          have hq := q5e (p := p) (c := c) (N := N) (v := v) (w := w) (i := i) (k := k) (by omega) ((qf N).idxOf (xt N (qf N)[i] (qf N)[k]))
          have hpl := q29 (p := p) (c := c) (N := N) (v := v) (w := w) (i := i) (k := k)
          rw [avi, awk] at hput
          rw [avi] at bvi
          rw [awk] at bwk
          generalize hxe : v.getD i 0 = x at *
          generalize hye : w.getD k 0 = y at *
          generalize hm : xt N (qf N)[i] (qf N)[k] = m at *
          generalize hll : lpN N (qf N)[i] (qf N)[k] N = lp at *
          generalize hRn : Ji p c N v w i (k + 1) = R' at *
          generalize hRe : Ji p c N v w i k = R at *
          generalize hqi : (qf N).idxOf m = q at *
          obtain ⟨m1, m2, m3, m4⟩ := pow_mul (p := p) (c := y) (x := x) hp bwk bvi
          have hp0 : ¬ p = 0 := by omega
          simp (maxSteps := 3000000) only [qh, zH, u7, zu, zx, ym, jq, hlk, hli, hi0, hk0, hla, hlb, hvi, hwk', hxe, hye, hz, hzb, hzw, hzwb, and_self, iE, iN, iB, iC, iL, iD, iA, iS, iM, qa, zZ, ↓qq, ↓reduceIte, reduceCtorEq, nA, nM, nS, nE, nL, nD]; try simp only [qa, zY]
          refine WA.qf0 qaq (fun s => s = ⟨[(0, .int .i64 p), (1, .int .i64 c), (2, .slc 0 0 (qf N).length false 0), (3, .slc 1 0 (qf N).length true (qf N).length), (4, .slc 2 0 (qf N).length true (qf N).length), (11, .slc 3 0 (qf N).length true (qf N).length), (12, .int .i64 i), (13, .int .i64 k), (14, .ptr 4 0), (15, .int .i64 lp)], [.ro (yl N (qf N)), .ro (jk v), .ro (jk w), .cells (jk R), .cells (dia N m)]⟩) ?_ ?_
          · unfold Gp
            simp (maxSteps := 3000000) only [qh, zH, ka, Xa, zu, zx, ym, jq, hlk, hli, hi0, hk0, hal, b1, b2, b3, b4, g1, g2, qy o1, qy o2, s1, s2, hn0, hm, hll, zk, zf, j4 hpr.2.1, qc, hpr.2.1, za, Int.toNat_natCast, List.length_replicate, Nat.le_refl, and_self, iE, iN, iB, iC, iL, iD, iA, iS, iM, qa, zZ, ↓qq, ↓reduceIte, reduceCtorEq, nA, nM, nS, nE, nL, nD]; try simp only [qa, zY]
            repeat' first | (with_reducible exact ⟨_, rfl⟩) | (exact rfl) | (with_reducible refine And.intro ?_ ?_)
            all_goals exact ⟨_, qw.qx [0, 1, 2, 3, 4, 11, 12, 13, 14, 15], rfl⟩
          rintro s rfl
          simp (maxSteps := 3000000) only [qh, zH, Gg, zu, zx, ym, jq, hlk, hli, hi0, hk0, hla, hlb, hvi, hwk', hxe, hye, m1, m2, hp0, and_self, iE, iN, iB, iC, iL, iD, iA, iS, iM, qa, zZ, ↓qq, ↓reduceIte, reduceCtorEq, nA, nM, nS, nE, nL, nD]; try simp only [qa, zY]
          refine WA.xr qaq (fun s => ∃ j : Nat, j ≤ lp ∧ s = ⟨[(0, .int .i64 p), (1, .int .i64 c), (2, .slc 0 0 (qf N).length false 0), (3, .slc 1 0 (qf N).length true (qf N).length), (4, .slc 2 0 (qf N).length true (qf N).length), (11, .slc 3 0 (qf N).length true (qf N).length), (12, .int .i64 i), (13, .int .i64 k), (14, .ptr 4 0), (15, .int .i64 (lp - j : Nat)), (16, .int .i64 (((x * y).emod p * xv p c j).emod p))], [.ro (yl N (qf N)), .ro (jk v), .ro (jk w), .cells (jk R), .cells (dia N m)]⟩)
            (fun s => match get s.env 15 with | .int _ x => x.toNat | _ => 0) ⟨_, qw.qx [0, 1, 2, 3, 4, 11, 12, 13, 14, 15, 16], 0, by omega, ?_⟩ ?_
          · have e0 : ((x * y).emod p * xv p c 0).emod p = (x * y).emod p := by
              rw [show xv p c 0 = 1 from rfl, Int.mul_one]; exact Int.emod_emod_of_dvd _ (Int.dvd_refl p)
            rw [e0]; rfl
          rintro s ⟨j, hj, rfl⟩
          have bz := qhn (p := p) (by omega) ((x * y).emod p * xv p c j)
          by_cases hlj : j < lp
          · have hlj' : (0 : Int) < ((lp - j : Nat) : Int) := by omega
            have hwj : qo .i64 (((lp - j : Nat) : Int) - 1) = ((lp - (j + 1) : Nat) : Int) := by rw [wrap64 (by omega) (by omega)]; omega
            obtain ⟨n1, n2, n3, n4⟩ := pow_mul (p := p) (c := c) (x := ((x * y).emod p * xv p c j).emod p) hp hc bz
            have hst := q1j (p := p) (c := c) (y := (x * y).emod p) (j := j)
            simp (maxSteps := 3000000) only [qh, zH, J0, zu, zx, ym, jq, hlj', hwj, n1, n2, hst, hp0, and_self, iE, iN, iB, iC, iL, iD, iA, iS, iM, qa, zZ, ↓qq, ↓reduceIte, reduceCtorEq, nA, nM, nS, nE, nL, nD]; try simp only [qa, zY]
            refine ⟨_, qw.qx [0, 1, 2, 3, 4, 11, 12, 13, 14, 15, 16], ⟨j + 1, by omega, ?_⟩, ?_⟩
            · simp only [zL, ↓reduceIte, reduceCtorEq, nE, nA]
            · simp only [zL, ↓reduceIte, reduceCtorEq, nE, nA]; omega
          · have hlj' : ¬ (0 : Int) < ((lp - j : Nat) : Int) := by omega
            have ej : j = lp := by omega
            subst ej
            have hdv : p ∣ ((x * y).emod p * xv p c j).emod p - xv p c j * (x * y) := by
              obtain ⟨q1, hq1⟩ := Qv p ((x * y).emod p * xv p c j)
              obtain ⟨q2, hq2⟩ := Qv p (x * y)
              have e1 : (x * y).emod p = x * y + p * q2 := by omega
              refine ⟨q1 + q2 * xv p c j, ?_⟩
              have e2 : ((x * y).emod p * xv p c j).emod p = (x * y).emod p * xv p c j + p * q1 := by omega
              rw [e2, e1, Int.add_mul, Int.mul_add, Int.mul_assoc p, Int.mul_comm (xv p c j)]
              omega
            have hpt := hput _ hdv
            generalize ((x * y).emod p * xv p c j).emod p = z at *
            have hws : qo .i64 (R.getD q 0 + z) = R.getD q 0 + z := wrap64 (by omega) (by omega)
            have hts : (R.getD q 0 + z).tmod p = (R.getD q 0 + z).emod p := Int.tmod_eq_emod_of_nonneg (by omega)
            have hq0 : (0 : Int) ≤ (q : Int) := by omega
            have hqK : (q : Int) < ((qf N).length : Int) := by omega
            have hlr := jg R
            have hqR : q < R.length := by omega
            simp (maxSteps := 3000000) only [qh, zH, J0, Gm, Jz, zu, zx, ym, jq, hlj', hls, qy hpo, hin, hqi, hq0, hqK, hlr, hpl, hiq, hws, hts, hpt, hwk, hp0, qc1, qc, hpr.2.1, qn hpr.2.1, Int.toNat_natCast, Int.lt_irrefl, and_self, iE, iN, iB, iC, iL, iD, iA, iS, iM, qa, zZ, ↓qq, ↓reduceIte, reduceCtorEq, nA, nM, nS, nE, nL, nD]; try simp only [qa, zY]
            refine ⟨rfl, _, qw.can [0, 1, 2, 3, 4, 11, 12, 13] (by simp only [z6 _ (zr _), z6 _ (q9 _), Wc, zC, nB, nD, nA, nE, ↓reduceIte, reduceCtorEq]; rfl), ⟨k + 1, by omega, ?_⟩, ?_⟩
            · simp only [qb _ _ (zr _), qb _ _ (q9 _), zL, ↓reduceIte, reduceCtorEq, nE, nA]
              rw [hRn]
            · simp only [zL, ↓reduceIte, reduceCtorEq, nE, nA]; omega
    · have hlk : ¬ (k : Int) < ((qf N).length : Int) := by omega
      have ek : k = (qf N).length := by omega
      subst ek
      have hrw := qpd (p := p) (c := c) (v := v) (w := w) hlt
      simp (maxSteps := 3000000) only [qh, zH, u7, J9, zu, zx, ym, jq, hlk, hwi, hrw, Int.lt_irrefl, and_self, iE, iN, iB, iC, iL, iD, iA, iS, iM, qa, zZ, ↓qq, ↓reduceIte, reduceCtorEq, nA, nM, nS, nE, nL, nD]; try simp only [qa, zY]
      refine ⟨_, qw.qx [0, 1, 2, 3, 4, 11, 12], ⟨i + 1, by omega, ?_⟩, ?_⟩
      · simp only [zL, ↓reduceIte, reduceCtorEq, nE, nA]
      · simp only [zL, ↓reduceIte, reduceCtorEq, nE, nA]; omega
  · have hli : ¬ (i : Int) < ((qf N).length : Int) := by omega
    have ei : i = (qf N).length := by omega
    subst ei
    rw [qys]
    simp (maxSteps := 3000000) only [qh, zH, J2, Gv, zu, zx, ym, jq, hli, Int.lt_irrefl, iE, iN, iB, iC, iL, iD, iA, iS, iM, qa, zZ, ↓qq, ↓reduceIte, reduceCtorEq, nA, nM, nS, nE, nL, nD]; try simp only [qa, zY]
    refine Ret.x7 [0, 1, 2, 3] ⟨⟨by simp, rfl, by decide⟩, ?_⟩ (rs := [.slc 3 0 (qf N).length true (qf N).length]) ?_ ?_ (by simp [xl]) ?_ ⟨?_, ?_⟩
    · simp only [qg _ _ (zr _), qg _ _ (q9 _), zK, ↓reduceIte, reduceCtorEq, nE, nB, nA]
    · rfl
    · rfl
    · intro j l
      match j with
      | 0 => simp [zo, AO.ren]
      | 1 => simp [zo, AO.ren]
      | 2 => simp [zo, AO.ren]
      | 3 => simp [zo, AO.ren]
      | j + 4 => simp [zo]
    · rfl
    · simp only [qb _ _ (zr _), qb _ _ (q9 _), zL, ↓reduceIte, reduceCtorEq, nE, nA]
def qsr (p : Int) (v : List Int) : Prop := ∀ x ∈ v, 0 ≤ x ∧ x ≤ p - 1
instance {p : Int} {v : List Int} : Decidable (qsr p v) := inferInstanceAs (Decidable (∀ x ∈ v, _))
noncomputable def qef : BE := fun hp xs => match xs with
  | [.int .i64 p, .int .i64 c, .slc bl 0 k false 0, .slc bv 0 k1 true c1, .slc bw 0 k2 true c2] => match rd hp bl, rd hp bv, rd hp bw with
    | some l, some lv, some lw => match qxy l, qrk lv, qrk lw with
      | some N, some v, some w => chk (((k = (qf N).length ∧ k1 = (qf N).length ∧ c1 = (qf N).length) ∧ k2 = (qf N).length ∧ c2 = (qf N).length) ∧ (v.length = (qf N).length ∧ w.length = (qf N).length) ∧ ((2 ≤ p ∧ p ≤ 97) ∧ (0 ≤ c ∧ c ≤ p - 1)) ∧ qsr p v ∧ qsr p w)
          (some (.slc hp.length 0 (qf N).length true (qf N).length, hp ++ [.cells (jk (qfo p c N v w))]))
      | _, _, _ => none
    | _, _, _ => none
  | _ => none
theorem zal : Am.Callee Try.prog 85 qef := Callee.fp fun hp xs v hp' he => by
  unfold qef at he
  split at he
  · rename_i p c bl k bv k1 c1 bw k2 c2
    split at he
    · rename_i l lv lw hl hlv hlw
      split at he
      · rename_i N v w hN hv hw
        obtain ⟨⟨⟨⟨a1, a2, a3⟩, a4, a5⟩, ⟨a6, a7⟩, ⟨a8, a9⟩, b1, b2⟩, he⟩ := ql he
        simp only [Option.some.injEq, Prod.mk.injEq] at he
        obtain ⟨rfl, rfl⟩ := he
        obtain ⟨h1, rfl⟩ := qlx hN
        obtain rfl := qfe hv
        obtain rfl := qfe hw
        subst a1 a2 a3 a4 a5
        refine ⟨[(bl, 0), (bv, 0), (bw, 0)], [.int .i64 p, .int .i64 c, .slc 0 0 (qf N).length false 0, .slc 1 0 (qf N).length true (qf N).length, .slc 2 0 (qf N).length true (qf N).length], _, _, _,
          qob p c N v w a8 a9 h1 a6 a7 b1 b2, by simp [AV.ren, AV.zp, ofL], rfl,
          ⟨⟨_, hl, by simp, by simp [qb _ _ (zr _)]⟩, ⟨_, hlv, by simp, by simp [qb _ _ (q9 _)]⟩, ⟨_, hlw, by simp, by simp [qb _ _ (q9 _)]⟩, trivial⟩, rfl,
          ⟨qk _ _ (zr _), qk _ _ (q9 _), qk _ _ (q9 _), trivial⟩, ⟨trivial, trivial, by simp [AV.under], by simp [AV.under], by simp [AV.under], trivial⟩, by simp [AV.ren, Ren.ext], ?_⟩
        simp [after, upd, AO.wr, AO.ren, qb _ _ (q9 _)]
      · cases he
    · cases he
  · cases he
noncomputable def q92 : zc := (q45.put 85 (qef))
theorem q3j : qp Try.prog q92 := (qaq.put (zal))
noncomputable def Yt : zc := (q92.put 87 (Jf))
theorem qu4 : qp Try.prog Yt := (q3j.put (q3l))
theorem js : Yt 135 = some (qj qeb) := rfl
theorem ug : Yt 78 = some (gq Ve) := rfl
theorem yu : Yt 84 = some (qj W5) := rfl
theorem vj : Yt 67 = some (qj Bx) := rfl
theorem uc : Yt 70 = some (qj Vf) := rfl
theorem y5 : Yt 83 = some (qj je) := rfl
theorem vw : Yt 136 = some (qj U2) := rfl
theorem wt : Yt 82 = some (ym) := rfl
theorem wo : Yt 85 = some (qef) := rfl
noncomputable def b8 (M : Nat) : List AV → Option (AV × List AO)
  | [.int .i64 p, .int .i64 c, .int .i64 n] => chk ((z7 p = true ∧ 0 ≤ c ∧ c ≤ p - 1) ∧ (1 ≤ n ∧ n ≤ 5) ∧ n ≤ M ∧ n ≤ vh p c) (some (.slc 0 0 (qf n.toNat).length true (qf n.toNat).length, [.cells (jk (Gz p c n.toNat))]))
  | _ => none
theorem q2e {M : Nat} (h : ∀ (p c : Int) (n : Nat), z7 p = true → 0 ≤ c ∧ c ≤ p - 1 → 1 ≤ n ∧ n ≤ 5 → n ≤ M → n ≤ vh p c →
    Am.Fn Try.prog 79 [.int .i64 p, .int .i64 c, .int .i64 n] [] (fun v H' => v = .slc 0 0 (qf n).length true (qf n).length ∧ H' = [.cells (jk (Gz p c n))])) : Am.Callee Try.prog 79 (gq (b8 M)) :=
  Am.Callee.new fun xs v H he => by
    unfold b8 at he
    split at he
    · rename_i p c n
      obtain ⟨⟨⟨h1, h2⟩, h3, h4, h5⟩, he⟩ := ql he
      obtain ⟨n, rfl⟩ : ∃ j : Nat, n = j := ⟨n.toNat, by omega⟩
      rw [Int.toNat_natCast] at he
      cases he
      exact ⟨rfl, h p c n h1 h2 (by omega) (by omega) (by omega)⟩
    · cases he
noncomputable def BN (M : Nat) : zc := Yt.put 79 (gq (b8 M))
theorem q9r (M : Nat) : BN M 79 = some (gq (b8 M)) := rfl
theorem qlu {M : Nat} (h : Am.Callee Try.prog 79 (gq (b8 M))) : qp Try.prog (BN M) := qu4.put h
theorem qv3 (b k c m : Nat) : AV.ren (J4 m) (.slc b 0 k true c) = .slc (m + b) 0 k true c := rfl
def Yf : AT := (.one (oM 31 8) (.one (o0 32 (.len .slc (.t 31))) (.one (oM 34 8) (.one (o0 35 (.len .slc (.t 34))) (.alt (o0 33 (.ky 1 8 [.int .i64 0] (.t 32) (.t 32))) (.one (oM 10 33) (.one (o0 36 (.ky 1 8 [.int .i64 0] (.t 35) (.t 35))) (.one (oM 11 36) (.nil)))) (.alt (o0 36 (.ky 1 8 [.int .i64 0] (.t 35) (.t 35))) (.one (o0 33 (.ky 1 8 [.int .i64 0] (.t 32) (.t 32))) (.one (oM 10 33) (.one (oM 11 36) (.nil)))) (.none)))))))
def Ya : AT := (.one (oM 44 7) (.one (oM 45 12) (.one (oX 46 17 44 45) (.one (oN 47 17 46) (.alt (oC 48 83 [(.c (.int .i64 1))]) (.alt (oC 49 135 [.t 47,.t 48]) (.one (oM 43 49) (.one (oE 50 0 43) (.one (oE 51 1 43) (.one (oD 13) (.one (oS 17 13 50) (.one (oM 14 51) (.nil))))))) (.alt (oD 13) (.one (oC 49 135 [.t 47,.t 48]) (.one (oM 43 49) (.one (oE 50 0 43) (.one (oE 51 1 43) (.one (oS 17 13 50) (.one (oM 14 51) (.nil))))))) (.none))) (.alt (oD 13) (.one (oC 48 83 [(.c (.int .i64 1))]) (.one (oC 49 135 [.t 47,.t 48]) (.one (oM 43 49) (.one (oE 50 0 43) (.one (oE 51 1 43) (.one (oS 17 13 50) (.one (oM 14 51) (.nil)))))))) (.none)))))))
def Yc : AC := .draw true [oM 52 10,oM 53 8,oN 54 17 13,oM 56 9,oM 57 12,oX 58 1 56 57,oL 59 58,oC 55 82 [.t 53,.t 54],oX 60 1 52 55,oT 60 59]
def Ye : AC := .region [oM 41 12,oK 42 .add 41 1,oM 12 42]
def Zu : AC := .seq (.seq (.region [oM 37 12,oM 38 7,o0 39 (.len .slc (.t 38)),oP 40 .lss 37 39]) (.cond 40 .skip (.exit 0))) (.seq (.block 1 (.seq (.tree true Ya) Yc)) Ye)
def Zz : AC := .seq (.seq (.region [oM 95 17,oM 96 8,o0 97 (.len .slc (.t 96)),oP 98 .lss 95 97]) (.cond 98 .skip (.exit 2))) (.seq (.block 3 (.draw false [oM 101 10,oM 102 17,oM 103 0,oM 104 10,oM 105 17,oX 106 1 104 105,oL 107 106,oM 108 16,oM 109 15,oM 110 17,oX 111 1 109 110,oL 112 111,oP 113 .mul 108 112,oP 114 .sub 107 113,oC 115 70 [.t 103,.t 114],oX 116 1 101 102,oT 116 115])) (.region [oM 99 17,oK 100 .add 99 1,oM 17 100]))
def Yg : AC := .seq (.region [oM 117 10,oM 6 117]) .ret
def Yn : AC := .seq (.region [oM 61 11,oM 62 8,oM 63 2,oM 64 2,oK 65 .sub 64 2,oC 66 84 [.t 63,.t 65],oC 67 82 [.t 62,.t 66],oX 68 1 61 67,⟨none,none,.op (.Xb (.t 68) (.c (.int .i64 1)))⟩]) (.seq (.region [oM 69 0,oM 70 1,oM 71 8,oM 72 0,oM 73 1,oM 74 8,oM 75 10,oM 76 11,oC 77 85 [.t 72,.t 73,.t 74,.t 75,.t 76],oM 78 10,oC 79 85 [.t 69,.t 70,.t 71,.t 77,.t 78],oM 15 79]) (.seq (.region [oM 80 0,oM 81 1,oM 82 2,oK 83 .sub 82 2,oC 84 136 [.t 80,.t 81,.t 83],oM 85 0,oM 86 0,oM 87 1,oM 88 2,oK 89 .sub 88 1,oC 90 136 [.t 86,.t 87,.t 89],oC 91 67 [.t 85,.t 90],oP 92 .mul 84 91,oM 93 0,oP 94 .rem 92 93,oM 16 94]) (.seq (.seq (.region [oI 17 0]) (.block 2 (.loop Zz))) Yg)))
def W8 : AC := .seq (.seq (.region [oI 12 0]) (.block 0 (.loop Zu))) Yn
def V1 : AC := .seq (.region [o0 6 (.mov (.c (.v (.slice none 0 0))))]) (.seq (.seq (.region [oM 18 2,oK 19 .eql 18 1]) (.cond 19 (.seq (.region [o0 20 (.um 1 [.int .i64 0] [(0,1,(.c (.int .i64 1)))]),oM 6 20]) .ret) .skip)) (.seq (.region [oM 21 2,oK 22 .sub 21 1,oC 23 78 [.t 22],oM 24 2,oC 25 78 [.t 24],oM 26 0,oM 27 1,oM 28 2,oK 29 .sub 28 1,oC 30 79 [.t 26,.t 27,.t 29],oM 7 23,oM 8 25,oM 9 30]) (.seq (.tree false Yf) W8)))
theorem K8 : zl Try.prog 79 = some ⟨118, V1, [.slot 6]⟩ := by kernel_rfl
theorem Z3 (M : Nat) : BN M 78 = Yt 78 := rfl
theorem Xj (M : Nat) : BN M 83 = Yt 83 := rfl
theorem wk (M : Nat) : BN M 135 = Yt 135 := rfl
theorem gz (M : Nat) : BN M 82 = Yt 82 := rfl
theorem Z2 (M : Nat) : BN M 84 = Yt 84 := rfl
theorem ko (M : Nat) : BN M 85 = Yt 85 := rfl
theorem u9 (M : Nat) : BN M 136 = Yt 136 := rfl
theorem yr (M : Nat) : BN M 67 = Yt 67 := rfl
theorem Zv (M : Nat) : BN M 70 = Yt 70 := rfl
theorem q6u (M : Nat) (ih : Am.Callee Try.prog 79 (gq (b8 M))) (p c : Int) :
    Am.Fn Try.prog 79 [.int .i64 p, .int .i64 c, .int .i64 1] [] (fun v H' => v = .slc 0 0 (qf 1).length true (qf 1).length ∧ H' = [.cells (jk (Gz p c 1))]) := by
  refine Am.Fn.ofW (qlu ih) mixed K8 (by simp [AV.qv, AV.under]) (by simp) ?_
  have h1 : (qf 1).length = 1 := by kernel_rfl
  rw [h1, qzw]
  simp (maxSteps := 3000000) only [qh, zH, V1, iE, iN, iB, iC, iL, iD, iA, iS, iM, qa, zZ, ↓qq, ↓reduceIte, reduceCtorEq, nA, nM, nS, nE, nL, nD]; try simp only [qa, zY]
  refine ⟨_, qw.refl _, Ret.x7 [0] ⟨⟨by simp, rfl, by decide⟩, ?_⟩ (rs := [.slc 0 0 1 true 1]) rfl rfl (by simp [xl]) ?_ ⟨rfl, rfl⟩⟩
  · simp only [zK, ↓reduceIte, reduceCtorEq, nE, nB, nA]; rfl
  · intro j l; cases j <;> simp [zo, AO.ren]
theorem q8c (M : Nat) (ih : Am.Callee Try.prog 79 (gq (b8 M))) (p c : Int) (k : Nat) (hP : z7 p = true) (hc : 0 ≤ c ∧ c ≤ p - 1) (hk : k ≤ 3) (hM : k + 1 ≤ M) (hz : k + 2 ≤ vh p c) :
    Am.Fn Try.prog 79 [.int .i64 p, .int .i64 c, .int .i64 (k + 2 : Nat)] [] (fun v H' => v = .slc 0 0 (qf (k + 2)).length true (qf (k + 2)).length ∧ H' = [.cells (jk (Gz p c (k + 2)))]) := by
  refine Am.Fn.ofW (qlu ih) mixed K8 (by simp [AV.qv, AV.under]) (by simp) ?_
  have hb := gu hP
  have e1 : ((k + 2 : Nat) : Int) = 1 ↔ False := iff_false_intro (by omega)
  have w1 : qo .i64 (((k + 2 : Nat) : Int) - 1) = ((k + 1 : Nat) : Int) := by rw [wrap64 (by omega) (by omega)]; omega
  have w2 : qo .i64 (((k + 2 : Nat) : Int) - 2) = (k : Int) := by rw [wrap64 (by omega) (by omega)]; omega
  have c1 : (1 : Int) ≤ ((k + 1 : Nat) : Int) ∧ ((k + 1 : Nat) : Int) ≤ 6 := by omega
  have c2 : (1 : Int) ≤ ((k + 2 : Nat) : Int) ∧ ((k + 2 : Nat) : Int) ≤ 6 := by omega
  have c3 : (1 : Int) ≤ ((k + 1 : Nat) : Int) ∧ ((k + 1 : Nat) : Int) ≤ 5 := by omega
  have c4 : ((k + 1 : Nat) : Int) ≤ (M : Int) ∧ ((k + 1 : Nat) : Int) ≤ (vh p c : Int) := by omega
  have hN1 : 1 ≤ k + 1 ∧ k + 1 ≤ 6 := by omega
  have hN2 : 1 ≤ k + 2 ∧ k + 2 ≤ 6 := by omega
  have hlen1 := Ui hN1
  have hlen2 := Ui hN2
  have z1 : ((qf (k + 2)).length : Int) * ((8 : Nat) : Int) ≤ 281474976710656 := by omega
  have z0 : (0 : Int) ≤ ((qf (k + 2)).length : Int) ∧ ((qf (k + 2)).length : Int) ≤ ((qf (k + 2)).length : Int) ∧ ((qf (k + 2)).length : Int) * 8 ≤ 281474976710656 := by omega
  simp (maxSteps := 3000000) only [qh, zH, V1, q9r, b8, Z3, Xj, wk, gz, Z2, ko, u9, yr, Zv, js, ug, yu, vj, uc, y5, vw, wt, wo, Ve, U2, W5, Vf, ym, Bx, qef, qeb, je, e1, w1, c1, c2, c3, c4, hP, hc, qia, qv3, ki, Kv, qb _ _ (zr _), qb _ _ (q9 _), Int.toNat_natCast, and_self, iE, iN, iB, iC, iL, iD, iA, iS, iM, qa, zZ, ↓qq, ↓reduceIte, reduceCtorEq, nA, nM, nS, nE, nL, nD]; try simp only [qa, zY]
  refine WA.qf0 (qlu ih) (fun s => s = ⟨[(0, .int .i64 p), (1, .int .i64 c), (2, .int .i64 (k + 2 : Nat)), (7, .slc 0 0 (qf (k + 1)).length false 0), (8, .slc 1 0 (qf (k + 2)).length false 0), (9, .slc 2 0 (qf (k + 1)).length true (qf (k + 1)).length), (10, .slc 3 0 (qf (k + 2)).length true (qf (k + 2)).length), (11, .slc 4 0 (qf (k + 2)).length true (qf (k + 2)).length)], [.vec 17 (yl (k + 1 : Nat) (qf (k + 1))), .vec 17 (yl (k + 2 : Nat) (qf (k + 2))), .cells (jk (Gz p c (k + 1))), .cells (jk (List.replicate (qf (k + 2)).length 0)), .cells (jk (List.replicate (qf (k + 2)).length 0))]⟩) ?_ ?_
  · unfold Yf
    simp (maxSteps := 3000000) only [qh, zH, ka, Xa, z0, z1, qjm, Int.toNat_natCast, and_self, iE, iN, iB, iC, iL, iD, iA, iS, iM, qa, zZ, ↓qq, ↓reduceIte, reduceCtorEq, nA, nM, nS, nE, nL, nD]; try simp only [qa, zY]
    repeat' first | (with_reducible exact ⟨_, rfl⟩) | (exact rfl) | (with_reducible refine And.intro ?_ ?_)
    all_goals refine ⟨_, qw.can [0, 1, 2, 7, 8, 9, 10, 11] (by simp only [z6 _ (zr _), z6 _ (q9 _), Wc, zC, nB, nD, nA, nE, ↓reduceIte, reduceCtorEq]; rfl), ?_⟩
    all_goals simp only [qb _ _ (zr _), qb _ _ (q9 _), zL, ↓reduceIte, reduceCtorEq, nE, nA]
  rintro s rfl
  have hP0 := qaz (c := c) hb hc k (by omega)
  have hgP := hP0.1
  simp (maxSteps := 3000000) only [qh, zH, W8, iE, iN, iB, iC, iL, iD, iA, iS, iM, qa, zZ, ↓qq, ↓reduceIte, reduceCtorEq, nA, nM, nS, nE, nL, nD]; try simp only [qa, zY]
  refine WA.xr (qlu ih) (fun s => ∃ i : Nat, i ≤ (qf (k + 1)).length ∧ s = ⟨[(0, .int .i64 p), (1, .int .i64 c), (2, .int .i64 (k + 2 : Nat)), (7, .slc 0 0 (qf (k + 1)).length false 0), (8, .slc 1 0 (qf (k + 2)).length false 0), (9, .slc 2 0 (qf (k + 1)).length true (qf (k + 1)).length), (10, .slc 3 0 (qf (k + 2)).length true (qf (k + 2)).length), (11, .slc 4 0 (qf (k + 2)).length true (qf (k + 2)).length), (12, .int .i64 i)], [.vec 17 (yl (k + 1 : Nat) (qf (k + 1))), .vec 17 (yl (k + 2 : Nat) (qf (k + 2))), .cells (jk (Gz p c (k + 1))), .cells (jk (eR (k + 1) (vl p c k) i)), .cells (jk (List.replicate (qf (k + 2)).length 0))]⟩)
    (fun s => match get s.env 12 with | .int _ x => (qf (k + 1)).length - x.toNat | _ => 0) ⟨_, qw.qx [0, 1, 2, 7, 8, 9, 10, 11, 12], 0, by omega, ?_⟩ ?_
  · rw [qpn]; rfl
  rintro s ⟨i, hi, rfl⟩
  have hwi : qo .i64 ((i : Int) + 1) = ((i + 1 : Nat) : Int) := by rw [wrap64 (by omega) (by omega)]; rfl
  have hL1 := qdw hN1
  have hL2 := qdw hN2
  have hal1 := Zh (n := ((k + 1 : Nat) : Int)) hL1
  have hal2 := Zh (n := ((k + 2 : Nat) : Int)) hL2
  have hls2 := qio hN2
  by_cases hlt : i < (qf (k + 1)).length
  · have hli : (i : Int) < ((qf (k + 1)).length : Int) := by omega
    have hi0 : (0 : Int) ≤ (i : Int) := by omega
    have g1 := qdv (n := ((k + 1 : Nat) : Int)) hL1 hlt
    have o1 : okD (qf (k + 1))[i] := hL1 _ (List.getElem_mem hlt)
    have s1 := (Wo hN1 (List.getElem_mem hlt)).1
    have b1 : i * 17 < (qf (k + 1)).length * 17 := by omega
    have b2 : i * 17 + 17 ≤ (qf (k + 1)).length * 17 := by omega
    have hu := Wy (n := 1) (by omega)
    have c5 : (1 : Int) ≤ ((k + 1 : Nat) : Int) ∧ ((k + 1 : Nat) : Int) ≤ 7 := by omega
    have c6 : (0 : Int) ≤ 1 ∧ (1 : Int) ≤ 8 := by omega
    have hwd : u2 (k + 1) (qf (k + 1))[i] 2 = xi (k + 1) (qf (k + 1))[i] := (qpr (by omega)).1 _ (List.getElem_mem hlt)
    have hin : xi (k + 1) (qf (k + 1))[i] ∈ qf (k + 2) := qvo (N := k + 1) (by omega) (List.getElem_mem hlt)
    have hwo : okD (xi (k + 1) (qf (k + 1))[i]) := hL2 _ hin
    have hq : (qf (k + 2)).idxOf (xi (k + 1) (qf (k + 1))[i]) < (qf (k + 2)).length := List.idxOf_lt_length_of_mem hin
    have hput := q20 (N := k + 1) (a := vl p c k) (by omega) hlt
    have hel := q7g (N := k + 1) (i := i) (a := vl p c k)
    have hnn : ((k + 1 : Nat) : Int) + 1 = ((k + 2 : Nat) : Int) := by omega
    have hpv : (Gz p c (k + 1)).getD i 0 = cf (qf (k + 1))[i] (vl p c k) := by unfold Gz wb; rw [X6 hlt, Nat.add_sub_cancel]
    have hpl : (Gz p c (k + 1)).length = (qf (k + 1)).length := by unfold Gz; exact Wj
    simp (maxSteps := 3000000) only [qh, zH, Zu, hli, iE, iN, iB, iC, iL, iD, iA, iS, iM, qa, zZ, ↓qq, ↓reduceIte, reduceCtorEq, nA, nM, nS, nE, nL, nD]; try simp only [qa, zY]
    refine WA.qf0 (qlu ih) (fun s => s = ⟨[(0, .int .i64 p), (1, .int .i64 c), (2, .int .i64 (k + 2 : Nat)), (7, .slc 0 0 (qf (k + 1)).length false 0), (8, .slc 1 0 (qf (k + 2)).length false 0), (9, .slc 2 0 (qf (k + 1)).length true (qf (k + 1)).length), (10, .slc 3 0 (qf (k + 2)).length true (qf (k + 2)).length), (11, .slc 4 0 (qf (k + 2)).length true (qf (k + 2)).length), (12, .int .i64 i), (13, .ptr 5 0)], [.vec 17 (yl (k + 1 : Nat) (qf (k + 1))), .vec 17 (yl (k + 2 : Nat) (qf (k + 2))), .cells (jk (Gz p c (k + 1))), .cells (jk (eR (k + 1) (vl p c k) i)), .cells (jk (List.replicate (qf (k + 2)).length 0)), .cells (dia (k + 2 : Nat) (xi (k + 1) (qf (k + 1))[i]))]⟩) ?_ ?_
    · unfold Ya
      simp (maxSteps := 3000000) only [qh, zH, ka, Xa, Z3, Xj, wk, gz, Z2, ko, u9, yr, Zv, js, ug, yu, vj, uc, y5, vw, wt, wo, Ve, U2, W5, Vf, ym, Bx, qef, qeb, je, hli, hi0, hal1, b1, b2, g1, qy o1, qy hu, s1, c5, c6, hwd, hnn, zk, zf, j4 hwo.1, qc, hwo.1, za, Int.toNat_natCast, Int.toNat_one, List.length_replicate, Nat.le_refl, and_self, iE, iN, iB, iC, iL, iD, iA, iS, iM, qa, zZ, ↓qq, ↓reduceIte, reduceCtorEq, nA, nM, nS, nE, nL, nD]; try simp only [qa, zY]
      repeat' first | (with_reducible exact ⟨_, rfl⟩) | (exact rfl) | (with_reducible refine And.intro ?_ ?_)
      all_goals exact ⟨_, qw.qx [0, 1, 2, 7, 8, 9, 10, 11, 12, 13], rfl⟩
    rintro s rfl
    have hel' := jg (eR (k + 1) (vl p c k) i)
    have hpl' := jg (Gz p c (k + 1))
    have hq0 : (0 : Int) ≤ (((qf (k + 2)).idxOf (xi (k + 1) (qf (k + 1))[i]) : Nat) : Int) := by omega
    have hqK : (((qf (k + 2)).idxOf (xi (k + 1) (qf (k + 1))[i]) : Nat) : Int) < ((qf (k + 2)).length : Int) := by omega
    simp (maxSteps := 3000000) only [qh, zH, Yc, Ye, Z3, Xj, wk, gz, Z2, ko, u9, yr, Zv, js, ug, yu, vj, uc, y5, vw, wt, wo, Ve, U2, W5, Vf, ym, Bx, qef, qeb, je, hli, hi0, hls2, qy hwo, hin, hq, hpv, hpl, hlt, hel, hel', hpl', hq0, hqK, hput, hwi, qc1, qc, hwo.1, qn hwo.1, Int.toNat_natCast, and_self, iE, iN, iB, iC, iL, iD, iA, iS, iM, qa, zZ, ↓qq, ↓reduceIte, reduceCtorEq, nA, nM, nS, nE, nL, nD]; try simp only [qa, zY]
    repeat' first | (with_reducible exact ⟨_, rfl⟩) | (exact rfl) | (with_reducible refine And.intro ?_ ?_)
    refine ⟨_, qw.can [0, 1, 2, 7, 8, 9, 10, 11, 12] (by simp only [z6 _ (zr _), z6 _ (q9 _), Wc, zC, nB, nD, nA, nE, ↓reduceIte, reduceCtorEq]; rfl), ⟨i + 1, by omega, ?_⟩, ?_⟩
    · simp only [qb _ _ (zr _), qb _ _ (q9 _), zL, ↓reduceIte, reduceCtorEq, nE, nA]
    · simp only [zL, ↓reduceIte, reduceCtorEq, nE, nA]; omega
  · have hli : ¬ (i : Int) < ((qf (k + 1)).length : Int) := by omega
    have ei : i = (qf (k + 1)).length := by omega
    subst ei
    have hee := q8v (N := k + 1) (by omega) hb hgP
    have hnn : ((k + 1 : Nat) : Int) + 1 = ((k + 2 : Nat) : Int) := by omega
    have hWg := (Ba hb (n := ((k + 1 : Nat) : Int)) (by omega) hgP).1
    rw [hnn] at hWg
    have hgn : xd p ((k + 2 : Nat) : Int) [(((k + 2 : Nat) : Int), Jo (k + 2) k, 1)] := by
      have := qim (p := p) (n := ((k + 2 : Nat) : Int)) (k := 1) (i := k) (by omega) (by omega) (by omega)
      rwa [Int.toNat_natCast] at this
    have hgd := hgn.dia _ (List.mem_singleton.2 rfl)
    have hgo := (hgn.ok _ (List.mem_singleton.2 rfl))
    have hgin : Jo (k + 2) k ∈ qf (k + 2) := by
      have h1 := hgd.2
      simp only [Int.toNat_natCast] at h1
      exact qad h1 hgo.1
    have hur := row_one hN2 hgin
    have hpn := qws (p := p) (c := c) (k := k)
    generalize hWe : Xq p ((k + 1 : Nat) : Int) (vl p c k) = W at *
    have t1 := qlc (c := c) hb hc hN2 hWg hgn
    have lW := Jn hWg (by omega)
    have hM1 := (Br (c := c) hb hc hWg hgn ⟨by omega, by simp⟩).1
    have lM1 := Jn hM1 (by omega)
    generalize hM1e : MP p ((k + 2 : Nat) : Int) (vk p c ((k + 2 : Nat) : Int) W [(((k + 2 : Nat) : Int), Jo (k + 2) k, 1)]) = M1 at *
    have t2 := qlc (c := c) hb hc hN2 hM1 hWg
    have hM2 := (Br (c := c) hb hc hM1 hWg ⟨by omega, by omega⟩).1
    generalize hM2e : MP p ((k + 2 : Nat) : Int) (vk p c ((k + 2 : Nat) : Int) M1 W) = M2 at *
    have r1 : qsr p (wb (k + 2) W) := qhq (by omega) hWg
    have r2 : qsr p (wb (k + 2) [(((k + 2 : Nat) : Int), Jo (k + 2) k, 1)]) := qhq (by omega) hgn
    have r3 : qsr p (wb (k + 2) M1) := qhq (by omega) hM1
    have r4 : qsr p (wb (k + 2) M2) := qhq (by omega) hM2
    have l1 := Wj (N := k + 2) (a := W)
    have l2 := Wj (N := k + 2) (a := [(((k + 2 : Nat) : Int), Jo (k + 2) k, 1)])
    have l3 := Wj (N := k + 2) (a := M1)
    have l4 := Wj (N := k + 2) (a := M2)
    have hq : (qf (k + 2)).idxOf (Jo (k + 2) k) < (qf (k + 2)).length := List.idxOf_lt_length_of_mem hgin
    have hq0 : (0 : Int) ≤ (((qf (k + 2)).idxOf (Jo (k + 2) k) : Nat) : Int) := by omega
    have hqK : (((qf (k + 2)).idxOf (Jo (k + 2) k) : Nat) : Int) < ((qf (k + 2)).length : Int) := by omega
    have c7 : ((k + 2 : Nat) : Int) ≤ 8 ∧ (0 : Int) ≤ (k : Int) ∧ (k : Int) + 1 < ((k + 2 : Nat) : Int) := by omega
    have c8 : (0 : Int) ≤ (k : Int) ∧ (k : Int) ≤ 1000 := by omega
    have c9 : (0 : Int) ≤ ((k + 1 : Nat) : Int) ∧ ((k + 1 : Nat) : Int) ≤ 1000 := by omega
    have hrl := List.length_replicate (n := (qf (k + 2)).length) (a := (0 : Int))
    have hrl' := jg (List.replicate (qf (k + 2)).length (0 : Int))
    have hwf : ∀ L, qrk (jk L) = some L := qmi
    have x1 := qcb (c := c) hb (k + 1)
    have x2 := qcb (c := c) hb (k + 2)
    have hnz : ¬ chb p c (k + 2) = 0 := (qcy hP hc).2.2 (k + 1) (by omega) (by omega)
    have hoi : okI p (chb p c (k + 2)) := ⟨hP, by omega, x2.2⟩
    have hv := (qjv hoi.1 hoi.2).1
    have m1 : chb p c (k + 1) * Wq p (chb p c (k + 2)) ≤ 96 * 96 := Int.mul_le_mul (by omega) (by omega) (by omega) (by omega)
    have m0 : 0 ≤ chb p c (k + 1) * Wq p (chb p c (k + 2)) := Int.mul_nonneg x1.1 (by omega)
    have hwm : qo .i64 (chb p c (k + 1) * Wq p (chb p c (k + 2))) = chb p c (k + 1) * Wq p (chb p c (k + 2)) := wrap64 (by omega) (by omega)
    have hX : (chb p c (k + 1) * Wq p (chb p c (k + 2))).tmod p = Ke p c (k + 1) := rfl
    have hXb : 0 ≤ Ke p c (k + 1) ∧ Ke p c (k + 1) < p := ⟨Int.tmod_nonneg _ m0, Int.tmod_lt_of_pos _ (by omega)⟩
    have hp0 : ¬ p = 0 := by omega
    simp (maxSteps := 3000000) only [qh, zH, Zu, Yn, Z3, Xj, wk, gz, Z2, ko, u9, yr, Zv, js, ug, yu, vj, uc, y5, vw, wt, wo, Ve, U2, W5, Vf, ym, Bx, qef, qeb, je, hli, w1, w2, hee, hls2, qy hgo, hgin, hq, hq0, hqK, c7, c8, c9, hrl, hrl', hur, hwf, hb, hc, t1, t2, r1, r2, r3, r4, l1, l2, l3, l4, hoi, hwm, hX, hp0, qc1, Int.toNat_natCast, Int.lt_irrefl, and_self, iE, iN, iB, iC, iL, iD, iA, iS, iM, qa, zZ, ↓qq, ↓reduceIte, reduceCtorEq, nA, nM, nS, nE, nL, nD]; try simp only [qa, zY]
    refine ⟨rfl, ?_⟩
    have hlN := Wj (N := k + 2) (a := vl p c (k + 1))
    have hml := fun j => q1n (v := wb (k + 2) (vl p c (k + 1))) (w := wb (k + 2) W) (i := j) (by omega)
    refine WA.xr (qlu ih) (fun s => ∃ i : Nat, i ≤ (qf (k + 2)).length ∧ s = ⟨[(0, .int .i64 p), (8, .slc 0 0 (qf (k + 2)).length false 0), (10, .slc 1 0 (qf (k + 2)).length true (qf (k + 2)).length), (15, .slc 2 0 (qf (k + 2)).length true (qf (k + 2)).length), (16, .int .i64 (Ke p c (k + 1))), (17, .int .i64 i)], [.vec 17 (yl (k + 2 : Nat) (qf (k + 2))), .cells (jk (qe0 (wb (k + 2) (vl p c (k + 1))) (wb (k + 2) W) i)), .cells (jk (wb (k + 2) M2))]⟩)
      (fun s => match get s.env 17 with | .int _ x => (qf (k + 2)).length - x.toNat | _ => 0) ⟨_, qw.can [0, 8, 10, 15, 16, 17] (by simp only [z6 _ (zr _), z6 _ (q9 _), Wc, zC, nB, nD, nA, nE, ↓reduceIte, reduceCtorEq]; rfl), 0, by omega, ?_⟩ ?_
    · simp only [qb _ _ (zr _), qb _ _ (q9 _), zL, ↓reduceIte, reduceCtorEq, nE, nA]
      rfl
    clear hli hlt hi hwi
    rintro s ⟨i, hi, rfl⟩
    have hwi : qo .i64 ((i : Int) + 1) = ((i + 1 : Nat) : Int) := by rw [wrap64 (by omega) (by omega)]; rfl
    by_cases hlt : i < (qf (k + 2)).length
    · have hli : (i : Int) < ((qf (k + 2)).length : Int) := by omega
      have hi0 : (0 : Int) ≤ (i : Int) := by omega
      have hlast := q1v (p := p) (c := c) (X := Ke p c (k + 1)) hb hWg hM2 hlt
      rw [← hpn] at hlast
      have hmg := q0s (v := wb (k + 2) (vl p c (k + 1))) (w := wb (k + 2) W) (i := i) (by omega) (by omega)
      have hms := qzy (v := wb (k + 2) (vl p c (k + 1))) (w := wb (k + 2) W) (i := i) (by omega) (by omega)
      have hmi := hml i
      have u1 : 0 ≤ (wb (k + 2) W).getD i 0 ∧ (wb (k + 2) W).getD i 0 ≤ p - 1 := by
        unfold wb; rw [X6 hlt]; exact (Xm hWg (by omega) _).1
      have u2 : 0 ≤ (wb (k + 2) M2).getD i 0 ∧ (wb (k + 2) M2).getD i 0 ≤ p - 1 := by
        unfold wb; rw [X6 hlt]; exact (Xm hM2 (by omega) _).1
      rw [hlast] at hms
      have hmi' := jg (qe0 (wb (k + 2) (vl p c (k + 1))) (wb (k + 2) W) i)
      have l4' := jg (wb (k + 2) M2)
      generalize hRn : qe0 (wb (k + 2) (vl p c (k + 1))) (wb (k + 2) W) (i + 1) = R' at *
      generalize qe0 (wb (k + 2) (vl p c (k + 1))) (wb (k + 2) W) i = R at *
      generalize (wb (k + 2) W).getD i 0 = a at *
      generalize hbe : (wb (k + 2) M2).getD i 0 = b at *
      generalize Ke p c (k + 1) = X at *
      have n1 : X * b ≤ 96 * 96 := Int.mul_le_mul (by omega) (by omega) (by omega) (by omega)
      have n0 : 0 ≤ X * b := Int.mul_nonneg (by omega) (by omega)
      have w3 : qo .i64 (X * b) = X * b := wrap64 (by omega) (by omega)
      have w4 : qo .i64 (a - X * b) = a - X * b := wrap64 (by omega) (by omega)
      have p1 : 0 < p ∧ p ≤ 1000000 := by omega
      simp (maxSteps := 3000000) only [qh, zH, Zz, Z3, Xj, wk, gz, Z2, ko, u9, yr, Zv, js, ug, yu, vj, uc, y5, vw, wt, wo, Ve, U2, W5, Vf, ym, Bx, qef, qeb, je, hli, hi0, hlt, hmi, hmi', l1, l4, l4', hmg, hbe, w3, w4, p1, hms, hwi, qc1, Int.toNat_natCast, and_self, iE, iN, iB, iC, iL, iD, iA, iS, iM, qa, zZ, ↓qq, ↓reduceIte, reduceCtorEq, nA, nM, nS, nE, nL, nD]; try simp only [qa, zY]
      refine ⟨rfl, _, qw.can [0, 8, 10, 15, 16, 17] (by simp only [z6 _ (zr _), z6 _ (q9 _), Wc, zC, nB, nD, nA, nE, ↓reduceIte, reduceCtorEq]; rfl), ⟨i + 1, by omega, ?_⟩, ?_⟩
      · simp only [qb _ _ (zr _), qb _ _ (q9 _), zL, ↓reduceIte, reduceCtorEq, nE, nA]
        rw [hRn]
      · simp only [zL, ↓reduceIte, reduceCtorEq, nE, nA]; omega
    · have hli : ¬ (i : Int) < ((qf (k + 2)).length : Int) := by omega
      have ei : i = (wb (k + 2) W).length := by omega
      have hal := q21 (v := wb (k + 2) (vl p c (k + 1))) (w := wb (k + 2) W) (by omega)
      rw [← ei] at hal
      simp (maxSteps := 3000000) only [qh, zH, Zz, Yg, hli, hal, Int.lt_irrefl, iE, iN, iB, iC, iL, iD, iA, iS, iM, qa, zZ, ↓qq, ↓reduceIte, reduceCtorEq, nA, nM, nS, nE, nL, nD]; try simp only [qa, zY]
      refine ⟨_, qw.refl _, Ret.x7 [1] ⟨⟨by simp, rfl, by decide⟩, ?_⟩ (rs := [.slc 1 0 (qf (k + 2)).length true (qf (k + 2)).length]) rfl rfl (by simp [xl]) ?_ ⟨?_, ?_⟩⟩
      · simp only [qg _ _ (q9 _), zK, ↓reduceIte, reduceCtorEq, nE, nB, nA]
      · intro j l; cases j <;> simp [zo, AO.ren]
      · rfl
      · simp only [qb _ _ (zr _), qb _ _ (q9 _), zL, ↓reduceIte, reduceCtorEq, nE, nA]
        rfl
theorem qjb : ∀ M, Am.Callee Try.prog 79 (gq (b8 M))
  | 0 => q2e fun p c n _ _ h1 h2 _ => absurd h2 (by omega)
  | M + 1 => q2e fun p c n hP hc h1 hM hz => by
    match n, h1, hM, hz with
    | 1, _, _, _ => exact q6u M (qjb M) p c
    | k + 2, h1, hM, hz => exact q8c M (qjb M) p c k hP hc (by omega) (by omega) hz
noncomputable def zao : zc := (Yt.put 79 (gq (b8 5)))
theorem q46 : qp Try.prog zao := (qu4.put (qjb 5))
noncomputable def q9b : zc := zao
theorem q5v : qp Try.prog q9b := q46
noncomputable def qky : zc := q9b
theorem qoh : qp Try.prog qky := q5v
end Go.Proofs.Ytfhckbbgmblhbaa

/- Contracts: products of diagrams, the reference. Contracts: along the lines of two diagrams, the implementation. Contracts: along the lines of two diagrams, the implementation. Contracts: round the loops of two diagrams, the implementation. Contracts: stack.follow as a callee. Contracts: products of diagrams, the implementation. Contracts: products of diagrams, the implementation, as callees. Contracts: powers of a number, the implementation. Contracts: products of elements, the reference. -/
import Derived.Test.YtkgoadglalpbfaaP4
namespace Go.Proofs.Ytkgoadglalpbfaa
open Go.Am Go.Dia
open Nat renaming reduceAdd → nA, reduceMul → nM, reduceSub → nS, reduceEqDiff → nE, reduceLT → nL, reduceLeDiff → nD, reduceBEq → nB
open Int renaming reduceEq → iE, reduceNe → iN, reduceBEq → iB, reduceBNe → iC, reduceLT → iL, reduceLE → iD, reduceAdd → iA, reduceSub → iS, reduceMul → iM
set_option linter.unusedSimpArgs false
set_option linter.unusedVariables false
set_option maxRecDepth 4000
set_option maxHeartbeats 1000000
def Qn (l : List AV) : Nat := l.countP fun v => match v with | .bool false => true | _ => false
theorem W8 : ∀ {met : List Bool} {k : Nat}, k < met.length → met.getD k false = false → Qn (bls (met.set k true)) < Qn (bls met)
  | b :: l, 0, _, h => by
    simp only [List.getD_cons_zero] at h
    subst h
    simp [Qn, bls]
  | b :: l, k + 1, hk, h => by
    have ih := W8 (met := l) (k := k) (by simpa using hk) (by simpa using h)
    simp only [Qn, bls] at ih
    simp only [Qn, bls, List.set_cons_succ, List.map_cons, List.countP_cons]
    omega
theorem qhd : ∀ {met : List Bool} {k : Nat}, Qn (bls (met.set k true)) ≤ Qn (bls met)
  | [], k => by simp [Qn, bls]
  | b :: l, 0 => by cases b <;> simp [Qn, bls]
  | b :: l, k + 1 => by
    have ih := qhd (met := l) (k := k)
    simp only [Qn, bls] at ih
    simp only [Qn, bls, List.set_cons_succ, List.map_cons, List.countP_cons]
    omega
theorem Be {n : Nat} {d e : List Nat} {r : Nat × Bool × List Bool} : ∀ {f : Nat} {u : Bool} {i : Nat} {met : List Bool}, zr n d e f u i met = some r → r.2.2.length = met.length
  | 0, _, _, _, h => by simp [zr] at h
  | f + 1, true, i, met, h => by
    rw [zr] at h
    split at h
    · cases h; rfl
    · rw [Be h, List.length_set]
  | f + 1, false, i, met, h => by
    rw [zr] at h
    split at h
    · cases h; rfl
    · rw [Be h, List.length_set]
theorem qqq {n : Nat} {d e : List Nat} (hd : isS n d = true) (he : isS n e = true) {i : Nat} {u : Bool} (hi : i < 2 * n) (hu : u = decide (i < n)) (met : List Bool) : (fol n d e u i met).length = met.length := by
  subst hu
  obtain ⟨f, met', h⟩ := Wc hd he hi met
  rw [qes h]; exact Be h
def InL (n : Nat) (d e : List Nat) (f g : Nat → Nat) (i x : Nat) (met : List Bool) : Prop :=
  met.length = 8 ∧ ((x = i ∧ ∀ y, mt met y ↔ Seen n d e i y) ∨ ∃ (T : Nat → Prop) (last : Nat), qds (XX n d e) f g i T last ∧ x = g last ∧ ∀ y, mt met y ↔ Seen n d e i y ∨ T y)
theorem qtu {n : Nat} {d e : List Nat} {f g : Nat → Nat} (hf : Inv (XX n d e) f) (hg : Inv (XX n d e) g) (hn : n ≤ 8) {i x : Nat} {met : List Bool} (hi : i < n) (h0 : ¬ Seen n d e i i) (h : InL n d e f g i x met) (hx : ¬ mt met x) :
    XX n d e x ∧ XX n d e (f x) ∧ InL n d e f g i (g (f x)) ((met.set x true).set (f x) true) := by
  have hX : XX n d e i := ⟨hi, fun h => h0 (.inl h)⟩
  obtain ⟨hl, h⟩ := h
  have mt2 : ∀ {x y z : Nat}, x < n → y < n → (mt ((met.set x true).set y true) z ↔ z = y ∨ z = x ∨ mt met z) := fun {x y z} h1 h2 => by
    rw [bl (by rw [List.length_set]; omega), bl (by omega)]
  rcases h with ⟨rfl, hm⟩ | ⟨T, last, hT, rfl, hm⟩
  · have hfx := hf.mem _ hX
    refine ⟨hX, hfx, by rw [List.length_set, List.length_set]; exact hl, .inr ⟨_, _, qds.start hf hX, rfl, fun y => ?_⟩⟩
    rw [mt2 hX.1 hfx.1, hm]
    constructor
    · rintro (h | h | h)
      · exact .inr (.inr h)
      · exact .inr (.inl h)
      · exact .inl h
    · rintro (h | h | h)
      · exact .inr (.inr h)
      · exact .inr (.inl h)
      · exact .inl h
  · have hT' : ¬ T (g last) := fun h => hx ((hm _).2 (.inr h))
    have hgl := hg.mem _ (Ring.mem hf hg hX (hT.ring _ hT.lm))
    have hfx := hf.mem _ hgl
    refine ⟨hgl, hfx, by rw [List.length_set, List.length_set]; exact hl, .inr ⟨_, _, (hT.next hf hg hX hT').1, rfl, fun y => ?_⟩⟩
    rw [mt2 hgl.1 hfx.1, hm]
    constructor
    · rintro (h | h | h | h)
      · exact .inr (.inr (.inl h))
      · exact .inr (.inl h)
      · exact .inl h
      · exact .inr (.inr (.inr h))
    · rintro (h | h | h | h)
      · exact .inr (.inr (.inl h))
      · exact .inr (.inl h)
      · exact .inl h
      · exact .inr (.inr (.inr h))
theorem qt5 {n : Nat} {d e : List Nat} (hd : isS n d = true) (he : isS n e = true) {f g : Nat → Nat} (hf : Inv (XX n d e) f) (hg : Inv (XX n d e) g) (hR : ∀ i x, Ring f g i x ↔ Ring (dm n d) (em e) i x) {i x : Nat} {met : List Bool} (hi : i < n) (h0 : ¬ Seen n d e i i) (h : InL n d e f g i x met) (hx : mt met x) :
    ∀ y, mt met y ↔ Seen n d e (i + 1) y := by
  have hX : XX n d e i := ⟨hi, fun h => h0 (.inl h)⟩
  intro y
  rw [qmp hi h0]
  obtain ⟨hl, ⟨rfl, hm⟩ | ⟨T, last, hT, rfl, hm⟩⟩ := h
  · exact absurd ((hm _).1 hx) h0
  · have hr : Ring f g i (g last) := .two (hT.ring _ hT.lm)
    have hT' : T (g last) := ((hm _).1 hx).resolve_left (W9 hd he hi h0 ((hR _ _).1 hr))
    have hs := (hT.stop hf hg hX hT').2
    rw [hm, hs, hR]
theorem jm : B80 143 = some (b7) := rfl
def Yn : AT := (.one (oF 17 0 2) (.one (oL 18 17) (.one (o0 19 (.build [(.bool false),(.bool false),(.bool false),(.bool false),(.bool false),(.bool false),(.bool false),(.bool false)] [])) (.one (oF 20 0 2) (.alt (oL 21 20) (.one (o0 22 (.build [.int .i64 0,.int .u8 0,.int .u8 0,.int .u8 0,.int .u8 0,.int .u8 0,.int .u8 0,.int .u8 0,.int .u8 0,.int .u8 0,.int .u8 0,.int .u8 0,.int .u8 0,.int .u8 0,.int .u8 0,.int .u8 0,.int .u8 0] [(0,1,.t 21)])) (.alt (o0 7 (.alloc [(.bool false),(.bool false),(.bool false),(.bool false),(.bool false),(.bool false),(.bool false),(.bool false)])) (.one (o0 8 (.alloc [.int .i64 0,.int .u8 0,.int .u8 0,.int .u8 0,.int .u8 0,.int .u8 0,.int .u8 0,.int .u8 0,.int .u8 0,.int .u8 0,.int .u8 0,.int .u8 0,.int .u8 0,.int .u8 0,.int .u8 0,.int .u8 0,.int .u8 0])) (.one (oM 6 18) (.one (oS 8 7 19) (.one (oS 17 8 22) (.nil))))) (.alt (o0 8 (.alloc [.int .i64 0,.int .u8 0,.int .u8 0,.int .u8 0,.int .u8 0,.int .u8 0,.int .u8 0,.int .u8 0,.int .u8 0,.int .u8 0,.int .u8 0,.int .u8 0,.int .u8 0,.int .u8 0,.int .u8 0,.int .u8 0,.int .u8 0])) (.one (o0 7 (.alloc [(.bool false),(.bool false),(.bool false),(.bool false),(.bool false),(.bool false),(.bool false),(.bool false)])) (.one (oM 6 18) (.one (oS 8 7 19) (.one (oS 17 8 22) (.nil))))) (.none)))) (.alt (o0 7 (.alloc [(.bool false),(.bool false),(.bool false),(.bool false),(.bool false),(.bool false),(.bool false),(.bool false)])) (.alt (oL 21 20) (.one (o0 22 (.build [.int .i64 0,.int .u8 0,.int .u8 0,.int .u8 0,.int .u8 0,.int .u8 0,.int .u8 0,.int .u8 0,.int .u8 0,.int .u8 0,.int .u8 0,.int .u8 0,.int .u8 0,.int .u8 0,.int .u8 0,.int .u8 0,.int .u8 0] [(0,1,.t 21)])) (.one (o0 8 (.alloc [.int .i64 0,.int .u8 0,.int .u8 0,.int .u8 0,.int .u8 0,.int .u8 0,.int .u8 0,.int .u8 0,.int .u8 0,.int .u8 0,.int .u8 0,.int .u8 0,.int .u8 0,.int .u8 0,.int .u8 0,.int .u8 0,.int .u8 0])) (.one (oM 6 18) (.one (oS 8 7 19) (.one (oS 17 8 22) (.nil)))))) (.alt (o0 8 (.alloc [.int .i64 0,.int .u8 0,.int .u8 0,.int .u8 0,.int .u8 0,.int .u8 0,.int .u8 0,.int .u8 0,.int .u8 0,.int .u8 0,.int .u8 0,.int .u8 0,.int .u8 0,.int .u8 0,.int .u8 0,.int .u8 0,.int .u8 0])) (.one (oM 6 18) (.alt (oL 21 20) (.one (o0 22 (.build [.int .i64 0,.int .u8 0,.int .u8 0,.int .u8 0,.int .u8 0,.int .u8 0,.int .u8 0,.int .u8 0,.int .u8 0,.int .u8 0,.int .u8 0,.int .u8 0,.int .u8 0,.int .u8 0,.int .u8 0,.int .u8 0,.int .u8 0] [(0,1,.t 21)])) (.one (oS 8 7 19) (.one (oS 17 8 22) (.nil)))) (.alt (oS 8 7 19) (.one (oL 21 20) (.one (o0 22 (.build [.int .i64 0,.int .u8 0,.int .u8 0,.int .u8 0,.int .u8 0,.int .u8 0,.int .u8 0,.int .u8 0,.int .u8 0,.int .u8 0,.int .u8 0,.int .u8 0,.int .u8 0,.int .u8 0,.int .u8 0,.int .u8 0,.int .u8 0] [(0,1,.t 21)])) (.one (oS 17 8 22) (.nil)))) (.none)))) (.none))) (.alt (o0 8 (.alloc [.int .i64 0,.int .u8 0,.int .u8 0,.int .u8 0,.int .u8 0,.int .u8 0,.int .u8 0,.int .u8 0,.int .u8 0,.int .u8 0,.int .u8 0,.int .u8 0,.int .u8 0,.int .u8 0,.int .u8 0,.int .u8 0,.int .u8 0])) (.alt (oL 21 20) (.one (o0 22 (.build [.int .i64 0,.int .u8 0,.int .u8 0,.int .u8 0,.int .u8 0,.int .u8 0,.int .u8 0,.int .u8 0,.int .u8 0,.int .u8 0,.int .u8 0,.int .u8 0,.int .u8 0,.int .u8 0,.int .u8 0,.int .u8 0,.int .u8 0] [(0,1,.t 21)])) (.one (o0 7 (.alloc [(.bool false),(.bool false),(.bool false),(.bool false),(.bool false),(.bool false),(.bool false),(.bool false)])) (.one (oM 6 18) (.one (oS 8 7 19) (.one (oS 17 8 22) (.nil)))))) (.alt (o0 7 (.alloc [(.bool false),(.bool false),(.bool false),(.bool false),(.bool false),(.bool false),(.bool false),(.bool false)])) (.one (oM 6 18) (.alt (oL 21 20) (.one (o0 22 (.build [.int .i64 0,.int .u8 0,.int .u8 0,.int .u8 0,.int .u8 0,.int .u8 0,.int .u8 0,.int .u8 0,.int .u8 0,.int .u8 0,.int .u8 0,.int .u8 0,.int .u8 0,.int .u8 0,.int .u8 0,.int .u8 0,.int .u8 0] [(0,1,.t 21)])) (.one (oS 8 7 19) (.one (oS 17 8 22) (.nil)))) (.alt (oS 8 7 19) (.one (oL 21 20) (.one (o0 22 (.build [.int .i64 0,.int .u8 0,.int .u8 0,.int .u8 0,.int .u8 0,.int .u8 0,.int .u8 0,.int .u8 0,.int .u8 0,.int .u8 0,.int .u8 0,.int .u8 0,.int .u8 0,.int .u8 0,.int .u8 0,.int .u8 0,.int .u8 0] [(0,1,.t 21)])) (.one (oS 17 8 22) (.nil)))) (.none)))) (.none))) (.none))))))))
def Xq : AC := .seq (.seq (.region [oM 23 9,oM 24 6,oP 25 .lss 23 24]) (.cond 25 .skip (.exit 0))) (.seq (.block 1 (.seq (.region [oN 29 17 2,oN 30 17 3,oM 31 9,oC 32 143 [.t 29,.t 30,.t 31,(.c (.bool true)),.t 7],oM 28 32,oE 33 0 28,oE 34 1 28,oM 10 33,oM 11 34]) (.seq (.region [oM 35 9,oM 36 10,o0 37 (.conv .u8 (.t 36)),oF 38 1 8,o0 39 (.xk 16 1 (.t 38) (.t 35)),oT 39 37]) (.seq (.region [oN 41 17 2,oN 42 17 3,oM 43 6,oM 44 9,oP 45 .add 43 44,oC 46 143 [.t 41,.t 42,.t 45,(.c (.bool false)),.t 7],oM 40 46,oE 47 0 40,oE 48 1 40,oM 12 47,oM 13 48]) (.region [oM 49 6,oM 50 9,oP 51 .add 49 50,oM 52 12,o0 53 (.conv .u8 (.t 52)),oF 54 1 8,o0 55 (.xk 16 1 (.t 54) (.t 51)),oT 55 53]))))) (.region [oM 26 9,oK 27 .add 26 1,oM 9 27]))
def Xn : AC := .seq (.seq (.region [oM 67 16,o0 68 (.xk 8 1 (.t 7) (.t 67)),oL 69 68,o0 70 (.un .not (.t 69))]) (.cond 70 .skip (.exit 4))) (.block 5 (.seq (.region [oM 71 16,o0 72 (.xk 8 1 (.t 7) (.t 71)),⟨none,none,.op (.Zq (.t 72) (.c (.bool true)))⟩]) (.seq (.region [oM 73 6,oM 74 16,oP 75 .add 73 74,oF 76 1 2,o0 77 (.xk 16 1 (.t 76) (.t 75)),oL 78 77,o0 79 (.conv .i64 (.t 78)),oM 80 6,oP 81 .sub 79 80,oM 16 81]) (.seq (.region [oM 82 16,o0 83 (.xk 8 1 (.t 7) (.t 82)),⟨none,none,.op (.Zq (.t 83) (.c (.bool true)))⟩]) (.region [oM 84 16,oF 85 1 3,o0 86 (.xk 16 1 (.t 85) (.t 84)),oL 87 86,o0 88 (.conv .i64 (.t 87)),oM 16 88])))))
def Xi : AC := .region [oM 59 15,oK 60 .add 59 1,oM 15 60]
def kl : AC := .seq (.seq (.region [oM 56 15,oM 57 6,oP 58 .lss 56 57]) (.cond 58 .skip (.exit 2))) (.seq (.block 3 (.seq (.seq (.region [oM 61 15,o0 62 (.xk 8 1 (.t 7) (.t 61)),oL 63 62]) (.cond 63 (.exit 3) .skip)) (.seq (.region [oM 64 14,oK 65 .add 64 1,oM 14 65]) (.seq (.region [oM 66 15,oM 16 66]) (.block 4 (.loop Xn)))))) Xi)
def Yl : AC := .seq (.region [oN 89 17 8,oM 90 14,oS 17 4 89,oM 5 90]) .ret
def Yp : AC := .seq (.region [oI 14 0]) (.seq (.seq (.region [oI 15 0]) (.block 2 (.loop kl))) Yl)
def Yy : AC := .seq (.seq (.region [oI 9 0]) (.block 0 (.loop Xq))) Yp
def qaf : AC := .seq (.region [o0 2 (.box (.t 0)),o0 3 (.box (.t 1)),o0 4 (.alloc [.int .i64 0,.int .u8 0,.int .u8 0,.int .u8 0,.int .u8 0,.int .u8 0,.int .u8 0,.int .u8 0,.int .u8 0,.int .u8 0,.int .u8 0,.int .u8 0,.int .u8 0,.int .u8 0,.int .u8 0,.int .u8 0,.int .u8 0]),oI 5 0]) (.seq (.tree false Yn) Yy)
theorem qi6 : zk Try.prog 125 = some ⟨91, qaf, [.Qa 4 17, .slot 5]⟩ := by kernel_rfl
theorem qib (N : Nat) (d e : List Nat) (hd : okD d) (he : okD e) (hds : isS N d = true) (hes : isS N e = true) :
    Am.Fn Try.prog 125 [.agg (dia N d), .agg (dia N e)] [] (fun v H' => v = .tup [.agg (dia N (jv N d e)), .int .i64 (lpN N d e N : Nat)] ∧ H' = []) := by
  refine Am.Fn.xj (R := fun v => v = _) qbe mixed qi6 (by simp) (by simp) ?_
  obtain ⟨hN, hpd, _⟩ := x9 hds
  obtain ⟨_, hpe, _⟩ := x9 hes
  have hdl := hd.1
  have hel := he.1
  have hb8 : [AV.bool false, .bool false, .bool false, .bool false, .bool false, .bool false, .bool false, .bool false] = bls (List.replicate 8 false) := rfl
  simp (maxSteps := 3000000) only [qh, zH, qaf, zq, x6, qc, hdl, hel, vp, iE, iN, iB, iC, iL, iD, iA, iS, iM, qa, zZ, ↓qm, ↓reduceIte, reduceCtorEq, nA, nM, nS, nE, nL, nD]; try simp only [qa, zY]
  refine WA.qp5 qbe (fun s => s = ⟨[(8, .ptr 4 0), (7, .ptr 3 0), (6, .int .i64 N), (5, .int .i64 0), (4, .ptr 2 0), (3, .ptr 1 0), (2, .ptr 0 0)], [.cells (dia N d), .cells (dia N e), .cells (dia 0 (List.replicate 16 0)), .cells (bls (List.replicate 8 false)), .cells (dia N (List.replicate 16 0))]⟩) ?_ ?_
  · have hov8 : over (bls (List.replicate 8 false)) 0 (bls (List.replicate 8 false)) = bls (List.replicate 8 false) := rfl
    have hl8 : (bls (List.replicate 8 false)).length = 8 := rfl
    have ho8 : (bls (List.replicate 8 false)).all AV.one = true := rfl
    unfold Yn
    simp (maxSteps := 3000000) only [qh, zH, K9, qdz, hb8, hov8, hl8, ho8, zq, x6, Jz, qc, hdl, hel, vp, zi, z7 qv qv, List.length_replicate, Nat.le_refl, iE, iN, iB, iC, iL, iD, iA, iS, iM, qa, zZ, ↓qm, ↓reduceIte, reduceCtorEq, nA, nM, nS, nE, nL, nD]; try simp only [qa, zY]
    repeat' (with_reducible refine And.intro ?_ ?_)
    all_goals first
      | exact ⟨_, q6.qz [8, 7, 6, 5, 4, 3, 2], rfl⟩
      | (refine ⟨_, q6.jn [0, 1, 2, 4, 3] [8, 7, 6, 5, 4, 3, 2] ⟨by decide, ?_⟩ ?_, ?_⟩
         · simp only [qg _ _ (qe _ _), qg _ _ (vw _), zK, ↓reduceIte, reduceCtorEq, nE, nB, nA]
         · simp only [qg _ _ (qe _ _), qg _ _ (vw _), zK, ↓reduceIte, reduceCtorEq, nE, nB, nA]
         · simp only [qd _ _ (qe _ _), qd _ _ (vw _), zL, ↓reduceIte, reduceCtorEq, nE, nA])
  rintro s rfl
  simp (maxSteps := 3000000) only [qh, zH, Yy, iE, iN, iB, iC, iL, iD, iA, iS, iM, qa, zZ, ↓qm, ↓reduceIte, reduceCtorEq, nA, nM, nS, nE, nL, nD]; try simp only [qa, zY]
  refine WA.jt qbe (fun s => ∃ k : Nat, k ≤ N ∧ s = ⟨[(9, .int .i64 k), (8, .ptr 4 0), (7, .ptr 3 0), (6, .int .i64 N), (5, .int .i64 0), (4, .ptr 2 0), (3, .ptr 1 0), (2, .ptr 0 0)], [.cells (dia N d), .cells (dia N e), .cells (dia 0 (List.replicate 16 0)), .cells (bls (qdn N d e k)), .cells (dia N (V8 N d e k))]⟩)
    (fun s => match get s.env 9 with | .int _ x => N - x.toNat | _ => 0) ⟨_, q6.qz [9, 8, 7, 6, 5, 4, 3, 2], 0, by omega, rfl⟩ ?_
  rintro s ⟨k, hk, rfl⟩
  have hw : qu .i64 ((k : Int) + 1) = ((k + 1 : Nat) : Int) := by rw [wrap64 (by omega) (by omega)]; rfl
  by_cases hlt : k < N
  · have hli : (k : Int) < (N : Int) := by omega
    have hk16 := yg N d e k
    have hmk := (X4 hds hes k hk).len
    have hx1 := qcw hds hes (i := k) (by omega)
    have hx2 := qcw hds hes (i := N + k) (by omega)
    have u1 : qu .u8 ((pr N d e k : Nat) : Int) = ((pr N d e k : Nat) : Int) := Uf (by omega)
    have u2 : qu .u8 ((pr N d e (N + k) : Nat) : Int) = ((pr N d e (N + k) : Nat) : Int) := Uf (by omega)
    have hadd : qu .i64 ((N : Int) + (k : Int)) = ((N + k : Nat) : Int) := by rw [wrap64 (by omega) (by omega)]; rfl
    obtain ⟨c1, c2⟩ := gr (show k < 16 by omega)
    obtain ⟨c3, c4⟩ := gr (show N + k < 16 by omega)
    have c5 : k < 16 := by omega
    have c6 : N + k < 16 := by omega
    have k1 : (0 : Int) ≤ (k : Int) ∧ (k : Int) < 2 * (N : Int) := by omega
    have k2 : (0 : Int) ≤ ((N + k : Nat) : Int) ∧ ((N + k : Nat) : Int) < 2 * (N : Int) := by omega
    have q1 : (true = decide ((k : Int) < (N : Int))) = True := by simp [hlt]
    have q2 : (false = decide (((N + k : Nat) : Int) < (N : Int))) = True := by simp; omega
    have hf1 : (fol N d e true k (qdn N d e k)).length = 8 := by rw [qqq hds hes (by omega) (by simp [hlt])]; exact hmk
    have q0 : (0 : Int) ≤ (N : Int) := by omega
    have hdo := qp (n := (N : Int)) hd
    have heo := qp (n := (N : Int)) he
    simp (maxSteps := 3000000) only [qh, zH, Xq, jm, b7, hw, hli, qc, hdl, hel, qn hdl, qn hel, hdo, heo, U5, Int.toNat_natCast, hds, hes, k1, k2, q0, q1, q2, hmk, hf1, u1, u2, hadd, c1, c2, c3, c4, c5, c6, hk16, K7, List.length_set, vy, AV.one, and_self, true_and, and_true, iE, iN, iB, iC, iL, iD, iA, iS, iM, qa, zZ, ↓qm, ↓reduceIte, reduceCtorEq, nA, nM, nS, nE, nL, nD]; try simp only [qa, zY]
    refine ⟨_, q6.qz [9, 8, 7, 6, 5, 4, 3, 2], ⟨k + 1, by omega, ?_⟩, ?_⟩
    · simp only [zL, ↓reduceIte, reduceCtorEq, nE, nA]
      rfl
    · simp only [zL, ↓reduceIte, reduceCtorEq, nE, nA]; omega
  have hli : ¬ (k : Int) < (N : Int) := by omega
  obtain rfl : k = N := by omega
  simp (maxSteps := 3000000) only [qh, zH, Xq, Yp, jm, b7, hli, Int.lt_irrefl, iE, iN, iB, iC, iL, iD, iA, iS, iM, qa, zZ, ↓qm, ↓reduceIte, reduceCtorEq, nA, nM, nS, nE, nL, nD]; try simp only [qa, zY]
  refine WA.jt qbe (fun s => ∃ (i : Nat) (met : List Bool), i ≤ k ∧ (met.length = 8 ∧ ∀ x, mt met x ↔ Seen k d e i x) ∧ s = ⟨[(15, .int .i64 i), (14, .int .i64 (lpN k d e i : Nat)), (8, .ptr 4 0), (7, .ptr 3 0), (6, .int .i64 k), (5, .int .i64 0), (4, .ptr 2 0), (3, .ptr 1 0), (2, .ptr 0 0)], [.cells (dia k d), .cells (dia k e), .cells (dia 0 (List.replicate 16 0)), .cells (bls met), .cells (dia k (jv k d e))]⟩)
    (fun s => match get s.env 15 with | .int _ x => k - x.toNat | _ => 0) ⟨_, q6.qz [15, 14, 8, 7, 6, 5, 4, 3, 2], 0, qdn k d e k, by omega, ⟨(X4 hds hes k (Nat.le_refl _)).len, fun x => ⟨.inl, fun h => h.elim id fun ⟨j, hj, _⟩ => absurd hj (Nat.not_lt_zero _)⟩⟩, rfl⟩ ?_
  clear hlt hli hw
  rintro s ⟨i, met, hi, ⟨hml, hmt⟩, rfl⟩
  have hw : qu .i64 ((i : Int) + 1) = ((i + 1 : Nat) : Int) := by rw [wrap64 (by omega) (by omega)]; rfl
  have hle := qf3 k d e i
  have hw2 : qu .i64 (((lpN k d e i : Nat) : Int) + 1) = ((lpN k d e i + 1 : Nat) : Int) := by rw [wrap64 (by omega) (by omega)]; rfl
  by_cases hlt : i < k
  · have hli : (i : Int) < (k : Int) := by omega
    have g1 := Vq (show i < 8 by omega)
    have g2 : i < 8 := by omega
    have g3 := qpm (l := met) (i := i) (by omega)
    by_cases hs : Seen k d e i i
    · have hm1 : met.getD i false = true := (hmt i).2 hs
      simp (maxSteps := 3000000) only [qh, zH, kl, Xi, jm, b7, hw, hli, g1, g2, g3, hm1, vy, hml, iE, iN, iB, iC, iL, iD, iA, iS, iM, qa, zZ, ↓qm, ↓reduceIte, reduceCtorEq, nA, nM, nS, nE, nL, nD]; try simp only [qa, zY]
      refine ⟨_, q6.qz [15, 14, 8, 7, 6, 5, 4, 3, 2], ⟨i + 1, met, by omega, ⟨hml, fun x => by rw [hmt, qmt hds hes hs]⟩, ?_⟩, ?_⟩
      · simp only [zL, ↓reduceIte, reduceCtorEq, nE, nA]
        simp only [lpN, if_pos hs]
      · simp only [zL, ↓reduceIte, reduceCtorEq, nE, nA]; omega
    · have hm1 : met.getD i false = false := by
        cases h : met.getD i false with
        | false => rfl
        | true => exact absurd ((hmt i).1 h) hs
      simp (maxSteps := 3000000) only [qh, zH, kl, jm, b7, hw, hw2, hli, g1, g2, g3, hm1, vy, hml, iE, iN, iB, iC, iL, iD, iA, iS, iM, qa, zZ, ↓qm, ↓reduceIte, reduceCtorEq, nA, nM, nS, nE, nL, nD]; try simp only [qa, zY]
      refine WA.jt qbe (fun s => ∃ (x : Nat) (mm : List Bool), InL k d e (dm k d) (em e) i x mm ∧ s = ⟨[(16, .int .i64 x), (15, .int .i64 i), (14, .int .i64 (lpN k d e i + 1 : Nat)), (8, .ptr 4 0), (7, .ptr 3 0), (6, .int .i64 k), (5, .int .i64 0), (4, .ptr 2 0), (3, .ptr 1 0), (2, .ptr 0 0)], [.cells (dia k d), .cells (dia k e), .cells (dia 0 (List.replicate 16 0)), .cells (bls mm), .cells (dia k (jv k d e))]⟩)
        (fun s : St => match s.hp[3]? with | some (AO.cells l) => Qn l | _ => 0) ⟨_, q6.qz [16, 15, 14, 8, 7, 6, 5, 4, 3, 2], i, met, ⟨hml, .inl ⟨rfl, hmt⟩⟩, rfl⟩ ?_
      rintro s ⟨x, mm, hin, rfl⟩
      have hmm := hin.1
      have hdi := Kv hds hes
      have hei := Kq hds hes
      have hxk : x < k := by
        rcases hin.2 with ⟨rfl, _⟩ | ⟨T, last, hT, rfl, _⟩
        · exact hlt
        · exact (hei.mem _ (Ring.mem hdi hei ⟨hlt, fun h => hs (.inl h)⟩ (hT.ring _ hT.lm))).1
      have g4 := Vq (show x < 8 by omega)
      have g5 : x < 8 := by omega
      have g6 := qpm (l := mm) (i := x) (by omega)
      by_cases hmx : mm.getD x false = true
      · have hst := qt5 hds hes hdi hei (fun _ _ => Iff.rfl) hlt hs hin hmx
        simp (maxSteps := 3000000) only [qh, zH, Xn, Xi, jm, b7, hw, g4, g5, g6, hmx, vy, hmm, Bool.not_true, iE, iN, iB, iC, iL, iD, iA, iS, iM, qa, zZ, ↓qm, ↓reduceIte, reduceCtorEq, nA, nM, nS, nE, nL, nD]; try simp only [qa, zY]
        refine ⟨_, q6.qz [15, 14, 8, 7, 6, 5, 4, 3, 2], ⟨i + 1, mm, by omega, ⟨hmm, hst⟩, ?_⟩, ?_⟩
        · simp only [zL, ↓reduceIte, reduceCtorEq, nE, nA]
          simp only [lpN, if_neg hs]
        · simp only [zL, ↓reduceIte, reduceCtorEq, nE, nA]; omega
      · obtain ⟨y1, y2, y3⟩ := qtu hdi hei (by omega) hlt hs hin hmx
        have hmx' : mm.getD x false = false := by simpa using hmx
        obtain ⟨z1, z2, z3⟩ := qh4 hds hes y1
        have hdx : dm k d x = d.getD (k + x) 0 - k := rfl
        have hyk := y2.1
        have hadd : qu .i64 ((k : Int) + (x : Int)) = ((k + x : Nat) : Int) := by rw [wrap64 (by omega) (by omega)]; rfl
        obtain ⟨c3, c4⟩ := gr (show k + x < 16 by omega)
        have c6 : k + x < 16 := by omega
        obtain ⟨c7, c8⟩ := gr (show dm k d x < 16 by omega)
        have c9 : dm k d x < 16 := by omega
        have g7 := Vq (show dm k d x < 8 by omega)
        have g8 : dm k d x < 8 := by omega
        have d1 := Vd (n := (k : Int)) (m := d) (i := k + x) (by omega)
        have d2 := Vd (n := (k : Int)) (m := e) (i := dm k d x) (by omega)
        have v1 : qu .i64 ((d.getD (k + x) 0 : Nat) : Int) = ((d.getD (k + x) 0 : Nat) : Int) := yc (by omega)
        have v2 : qu .i64 (((d.getD (k + x) 0 : Nat) : Int) - (k : Int)) = ((dm k d x : Nat) : Int) := by rw [wrap64 (by omega) (by omega)]; omega
        have v3 : qu .i64 ((e.getD (dm k d x) 0 : Nat) : Int) = ((e.getD (dm k d x) 0 : Nat) : Int) := yc (by have := qh4 hds hes y2; omega)
        simp (maxSteps := 3000000) only [qh, zH, Xn, jm, b7, g4, g5, g6, g7, g8, hmx', vy, qdu, hmm, List.length_set, hadd, c3, c4, c6, c7, c8, c9, d1, d2, v1, v2, v3, qc, hdl, hel, AV.one, Bool.not_false, iE, iN, iB, iC, iL, iD, iA, iS, iM, qa, zZ, ↓qm, ↓reduceIte, reduceCtorEq, nA, nM, nS, nE, nL, nD]; try simp only [qa, zY]
        refine ⟨_, q6.qz [16, 15, 14, 8, 7, 6, 5, 4, 3, 2], ⟨_, _, y3, ?_⟩, ?_⟩
        · simp only [zL, ↓reduceIte, reduceCtorEq, nE, nA]
          rfl
        · simp only [zL, ↓reduceIte, reduceCtorEq, nE, nA]
          have h1 := W8 (met := mm) (k := x) (by omega) hmx'
          have h2 := qhd (met := mm.set x true) (k := dm k d x)
          omega
  · have hli : ¬ (i : Int) < (k : Int) := by omega
    obtain rfl : i = k := by omega
    have hk16 := yg i d e i
    have hk16' : (jv i d e).length = 16 := hk16
    simp (maxSteps := 3000000) only [qh, zH, kl, Yl, jm, b7, hli, qc, hk16', qn hk16', z7 qv hk16', zi, List.length_replicate, Int.lt_irrefl, iE, iN, iB, iC, iL, iD, iA, iS, iM, qa, zZ, ↓qm, ↓reduceIte, reduceCtorEq, nA, nM, nS, nE, nL, nD]; try simp only [qa, zY]
    simp only [qe, Bool.and_self]
noncomputable def vt : List AV → Option AV
  | [.agg ld, .agg le] => match yk ld, yk le with
    | some (n, d), some (n', e) => chk ((n' = n ∧ 0 ≤ n) ∧ isS n.toNat d = true ∧ isS n.toNat e = true) (some (.tup [.agg (dia n (jv n.toNat d e)), .int .i64 (lpN n.toNat d e n.toNat : Nat)]))
    | _, _ => none
  | _ => none
theorem qft {f : FuncId} (h : ∀ (N : Nat) d e, okD d → okD e → isS N d = true → isS N e = true → Am.Fn Try.prog f [.agg (dia N d), .agg (dia N e)] [] (fun v H' => v = .tup [.agg (dia N (jv N d e)), .int .i64 (lpN N d e N : Nat)] ∧ H' = [])) : Am.Callee Try.prog f (qj vt) := Am.Callee.plain fun xs v he => by
  unfold vt at he
  split at he
  · rename_i ld le
    split at he
    · rename_i n d n' e hd1 he1
      obtain ⟨⟨⟨a1, a2⟩, a3, a4⟩, he2⟩ := qk he
      cases he2
      obtain ⟨rfl, hd⟩ := zj hd1
      obtain ⟨rfl, he'⟩ := zj he1
      subst a1
      obtain ⟨N, rfl⟩ : ∃ N : Nat, n' = N := ⟨n'.toNat, by omega⟩
      simp only [Int.toNat_natCast] at a3 a4 ⊢
      exact ⟨by simp [AV.zg, AV.zm, qe], by simp [AV.zg, AV.zm, qe], h N d e hd he' a3 a4⟩
    · cases he
  · cases he
noncomputable def B81 : zo := (B80.put 125 (qj vt))
theorem qit : qx Try.prog B81 := (qbe.put (qft qib))
def qct : AC := .skip
theorem qkx : zk Try.prog 145 = some ⟨4, qct, []⟩ := by kernel_rfl
theorem qk0 (b : Bool) (i : Int) : Am.Fn Try.prog 145 [.bool b, .int .i64 i] [] (fun v H' => v = .tup [] ∧ H' = []) := by
  refine Am.Fn.xj (R := fun v => v = _) qit mixed qkx (by simp) (by simp) ?_
  simp (maxSteps := 3000000) only [qh, zH, qct, qa, iE, iN, iB, iC, iL, iD, iA, iS, iM, qa, zZ, ↓qm, ↓reduceIte, reduceCtorEq, nA, nM, nS, nE, nL, nD]; try simp only [qa, zY]
def kb : List AV → Option AV
  | [.bool _, .int .i64 _] => some (.tup [])
  | _ => none
theorem qzk : Am.Callee Try.prog 145 (qj kb) := Am.Callee.plain fun xs v he => by
  unfold kb at he
  split at he
  · cases he; exact ⟨rfl, rfl, qk0 _ _⟩
  · cases he
def qc0 : AC := .region [oM 5 0,oM 6 1,o0 7 (.conv .u8 (.t 6)),oF 8 1 2,o0 9 (.xk 16 1 (.t 8) (.t 5)),oT 9 7]
theorem qjv : zk Try.prog 146 = some ⟨10, qc0, []⟩ := by kernel_rfl
theorem qkz (n : Int) (m : List Nat) (hm : m.length = 16) (i v : Nat) (hi : i < 16) (hv : v < 256) : Am.Fn Try.prog 146 [.int .i64 i, .int .i64 v, .ptr 0 0] [.cells (dia n m)] (fun r H' => r = .tup [] ∧ H' = [.cells (dia n (m.set i v))]) := by
  refine Am.Fn.ofB qit mixed qjv (by simp [AV.qy, AV.under]) (fun j o hj => by
    match j, hj with
    | 0, hj => cases hj; exact ql _ _ (qe _ _)
    | j + 1, hj => simp at hj) ?_
  obtain ⟨c1, c2⟩ := gr hi
  have c3 : i < 16 := hi
  have hw : qu .u8 (v : Int) = (v : Int) := Uf hv
  simp (maxSteps := 3000000) only [qh, zH, qc0, qa, qc, hm, K7, c1, c2, c3, hw, AV.one, iE, iN, iB, iC, iL, iD, iA, iS, iM, qa, zZ, ↓qm, ↓reduceIte, reduceCtorEq, nA, nM, nS, nE, nL, nD]; try simp only [qa, zY]
  refine Ret.jn [0] ⟨⟨Nat.le_refl 1, rfl, by decide⟩, ?_⟩ (rs := []) rfl rfl (by simp [z6]) ?_ ⟨rfl, ?_⟩
  · simp only [qg _ _ (qe _ _), zK, ↓reduceIte, reduceCtorEq, nE, nB, nA]
  · intro j l; cases j <;> simp [zb, AO.ren]
  · simp only [qd _ _ (qe _ _), zL, ↓reduceIte, reduceCtorEq, nE, nA]
def Y0 : BE := fun hp xs => match xs with
  | [.int .i64 i, .int .i64 v, .ptr b 0] => match hp[b]? with
    | some (.cells l) => match yk l with
      | some (n, m) => chk ((0 ≤ i ∧ i < 16) ∧ 0 ≤ v ∧ v < 256) (some (.tup [], hp.set b (.cells (dia n (m.set i.toNat v.toNat)))))
      | none => none
    | _ => none
  | _ => none
theorem q02 : Am.Callee Try.prog 146 Y0 := Callee.fp fun hp xs v hp' he => by
  unfold Y0 at he
  split at he
  · rename_i i v b
    split at he
    · rename_i l hb
      split at he
      · rename_i n m hd1
        obtain ⟨⟨⟨a1, a2⟩, a3, a4⟩, he2⟩ := qk he
        simp only [Option.some.injEq, Prod.mk.injEq] at he2
        obtain ⟨rfl, rfl⟩ := he2
        obtain ⟨rfl, hd⟩ := zj hd1
        obtain ⟨k, rfl⟩ : ∃ k : Nat, i = k := ⟨i.toNat, by omega⟩
        obtain ⟨w, rfl⟩ : ∃ w : Nat, v = w := ⟨v.toNat, by omega⟩
        simp only [Int.toNat_natCast]
        refine ⟨[(b, 0)], [.int .i64 k, .int .i64 w, .ptr 0 0], _, _, _, qkz n m hd.1 k w (by omega) (by omega), by simp [AV.ren, AV.zl, ofL], by simp [vq], ⟨⟨rfl, by simp only [AO.ren, qd _ _ (qe _ _)]; exact hb⟩, trivial⟩, rfl, ⟨ql _ _ (qe _ _), trivial⟩, ⟨trivial, trivial, by simp [AV.under], trivial⟩, by simp [AV.ren, AV.zl], ?_⟩
        simp [after, upd, AO.wr, AO.ren, qd _ _ (qe _ _)]
      · cases he
    · cases he
  · cases he
def qc4 : AC := .region [oL 1 0,oK 2 .add 1 1,oT 0 2]
theorem qlp : zk Try.prog 147 = some ⟨3, qc4, []⟩ := by kernel_rfl
theorem qlo (k : Nat) (hk : k ≤ 1000) : Am.Fn Try.prog 147 [.ptr 0 0] [.cells [.int .i64 k]] (fun r H' => r = .tup [] ∧ H' = [.cells [.int .i64 (k + 1 : Nat)]]) := by
  refine Am.Fn.ofB qit mixed qlp (by simp [AV.qy, AV.under]) (fun j o hj => by
    match j, hj with
    | 0, hj => cases hj; exact ⟨trivial, trivial⟩
    | j + 1, hj => simp at hj) ?_
  have hw : qu .i64 ((k : Int) + 1) = ((k + 1 : Nat) : Int) := by rw [wrap64 (by omega) (by omega)]; rfl
  simp (maxSteps := 3000000) only [qh, zH, qc4, qa, hw, AV.one, iE, iN, iB, iC, iL, iD, iA, iS, iM, qa, zZ, ↓qm, ↓reduceIte, reduceCtorEq, nA, nM, nS, nE, nL, nD]; try simp only [qa, zY]
  refine Ret.jn [0] ⟨⟨Nat.le_refl 1, rfl, by decide⟩, ?_⟩ (rs := []) rfl rfl (by simp [z6]) ?_ ⟨rfl, ?_⟩
  · simp only [qg _ _ (qe _ _), zK, ↓reduceIte, reduceCtorEq, nE, nB, nA]
  · intro j l; cases j <;> simp [zb, AO.ren]
  · simp only [qd _ _ (qe _ _), zL, ↓reduceIte, reduceCtorEq, nE, nA]
def bc : BE := fun hp xs => match xs with
  | [.ptr b 0] => match hp[b]? with
    | some (.cells [.int .i64 k]) => chk (0 ≤ k ∧ k ≤ 1000) (some (.tup [], hp.set b (.cells [.int .i64 (k + 1)])))
    | _ => none
  | _ => none
theorem qv8 : Am.Callee Try.prog 147 bc := Callee.fp fun hp xs v hp' he => by
  unfold bc at he
  split at he
  · rename_i b
    split at he
    · rename_i k hb
      obtain ⟨⟨a1, a2⟩, he2⟩ := qk he
      simp only [Option.some.injEq, Prod.mk.injEq] at he2
      obtain ⟨rfl, rfl⟩ := he2
      obtain ⟨k', rfl⟩ : ∃ k' : Nat, k = k' := ⟨k.toNat, by omega⟩
      refine ⟨[(b, 0)], [.ptr 0 0], _, _, _, qlo k' (by omega), by simp [AV.ren, AV.zl, ofL], by simp [vq], ⟨⟨rfl, by simp only [AO.ren, AV.zl, AV.ren]; exact hb⟩, trivial⟩, rfl, ⟨⟨trivial, trivial⟩, trivial⟩, ⟨by simp [AV.under], trivial⟩, by simp [AV.ren, AV.zl], ?_⟩
      simp [after, upd, AO.wr, AO.ren, AV.zl, AV.ren]
    · cases he
  · cases he
noncomputable def B82 : zo := (((B81.put 145 (qj kb)).put 146 (Y0)).put 147 (bc))
theorem qea : qx Try.prog B82 := (((qit.put (qzk)).put (q02)).put (qv8))
def stk (a b : Nat) (met : List Bool) : List AV := .ptr a 0 :: .ptr b 0 :: (bls met ++ [.fn 145 [] []])
theorem wt {a b : Nat} {met : List Bool} : (stk a b met).length = met.length + 3 := by simp [stk, vy]
theorem Q3 {a b : Nat} {met : List Bool} : (stk a b met)[0]? = some (.ptr a 0) := rfl
theorem Qr {a b : Nat} {met : List Bool} : (stk a b met)[1]? = some (.ptr b 0) := rfl
theorem Zp {a b : Nat} {met : List Bool} (h : met.length = 8) : (stk a b met)[10]? = some (.fn 145 [] []) := by
  simp [stk, List.getElem?_append, vy, h]
theorem qaa {a b : Nat} {met : List Bool} {i : Nat} {v : Bool} (h : met.length = 8) (hi : i < 8) : (stk a b met).set (2 + i) (.bool v) = stk a b (met.set i v) := by
  rw [Nat.add_comm]
  simp [stk, List.set_append, vy, h, hi, qdu]
theorem qyv {a b : Nat} {met : List Bool} {i : Nat} (h : met.length = 8) (hi : i < 8) : (stk a b met)[2 + i]? = some (.bool (met.getD i false)) := by
  rw [Nat.add_comm]
  simp [stk, List.getElem?_append, vy, h, hi, bls]
theorem qn2 {n : Nat} (met : List Bool) : AV.qy n (bls met) := ql _ _ (vw _)
theorem qlk {ρ : Ren} : ∀ (l l' : List AV), AV.zl ρ (l ++ l') = AV.zl ρ l ++ AV.zl ρ l'
  | [], _ => rfl
  | a :: l, l' => by simp [AV.zl, qlk l l']
theorem qde {n : Nat} : ∀ (l l' : List AV), AV.qy n l → AV.qy n l' → AV.qy n (l ++ l')
  | [], _, _, h => h
  | a :: l, l', h, h' => ⟨h.1, qde l l' h.2 h'⟩
theorem qaw {ids : List Nat} : ∀ (l l' : List AV), AV.xm ids l = true → AV.xm ids l' = true → AV.xm ids (l ++ l') = true
  | [], _, _, h => h
  | a :: l, l', h, h' => by
    simp only [AV.xm, List.cons_append, Bool.and_eq_true] at h ⊢
    exact ⟨h.1, qaw l l' h.2 h'⟩
theorem Wh {ρ : Ren} {a b : Nat} {met : List Bool} : AV.zl ρ (stk a b met) = (AV.ptr a 0).ren ρ :: (AV.ptr b 0).ren ρ :: (bls met ++ [.fn 145 [] []]) := by
  simp only [stk, AV.zl, qlk, qd _ _ (vw met)]
  simp [AV.zl, AV.ren]
theorem qhn {n a b : Nat} {met : List Bool} (h1 : a < n) (h2 : b < n) : AV.qy n (stk a b met) := ⟨h1, h2, qde _ _ (qn2 _) ⟨⟨trivial, trivial⟩, trivial⟩⟩
theorem qp3 {x N : Nat} (h1 : N ≤ x) (h2 : x < 2 * N) : Int.tmod (x : Int) (N : Int) = ((x - N : Nat) : Int) := by
  show ((x % N : Nat) : Int) = _
  rw [Nat.mod_eq_sub_mod h1, Nat.mod_eq_of_lt (by omega)]
theorem qp9 {x N : Nat} (h1 : x < N) : Int.tmod (x : Int) (N : Int) = (x : Int) := by
  show ((x % N : Nat) : Int) = _
  rw [Nat.mod_eq_of_lt h1]
theorem Kx {met : List Bool} : AV.xm [0, 1, 2] (stk 1 2 met) = true := by
  have h : AV.xm [0, 1, 2] (bls met ++ [.fn 145 [] []]) = true := qaw _ _ (qg _ _ (vw _)) rfl
  simp [stk, AV.xm, AV.within, h]
theorem ro3 {m m' l1 l2 : List AV} {hp : List AO} : ∀ (j : Nat) (l : List AV), (zb [0, 1, 2] (.cells m :: .ro l1 :: .ro l2 :: hp))[j]? = some (AO.ro l) → ∃ l', ([.cells m', .ro l1, .ro l2] : List AO)[j]? = some (AO.ro l')
  | 0, l, h => by simp [zb, AO.ren] at h
  | 1, l, h => ⟨_, rfl⟩
  | 2, l, h => ⟨_, rfl⟩
  | j + 3, l, h => by simp [zb] at h
def H3 (N : Nat) (d e : List Nat) (met : List Bool) : List AO := [.cells (stk 1 2 met), .ro (dia N d), .ro (dia N e)]
theorem qj3 {N : Nat} {d e : List Nat} {met : List Bool} : ∀ (j : Nat) (o : AO), (H3 N d e met)[j]? = some o → o.under 3 := fun j o hj => by
  match j, hj with
  | 0, hj => cases hj; exact qhn (by omega) (by omega)
  | 1, hj => cases hj; exact ql _ _ (qe _ _)
  | 2, hj => cases hj; exact ql _ _ (qe _ _)
  | j + 3, hj => simp [H3] at hj
theorem wq : B82 115 = some (Z6 1 g_n) := rfl
theorem yy : B82 145 = some (qj kb) := rfl
def xq : AC := .block 1 (.seq (.region [oM 17 0,o0 18 (.j0 (.t 17)),oF 19 0 18,oL 20 19,oM 10 20]) (.seq (.seq (.region [oM 21 1]) (.cond 21 (.region [oM 22 0,o0 23 (.j0 (.t 22)),oF 24 1 23,oL 25 24,oM 10 25]) .skip)) (.seq (.region [oM 26 0,o0 27 (.j0 (.t 26)),oF 28 10 27,oL 29 28,oM 30 1,oM 31 2,⟨some 32,none,.call (.t 29) [.t 30,.t 31]⟩]) (.seq (.region [oM 33 10,oM 34 2,o0 35 (.j0 (.t 33)),oF 36 1 35,o0 37 (.xk 16 1 (.t 36) (.t 34)),oL 38 37,o0 39 (.conv .i64 (.t 38)),oM 2 39]) (.seq (.seq (.region [oM 40 1,oM 41 2,oM 42 9,oP 43 .geq 41 42,o0 44 (.eqb false (.t 40) (.t 43))]) (.cond 44 (.seq (.region [oM 45 2,oM 8 45]) .ret) .skip)) (.seq (.region [oM 46 2,oM 47 9,oP 48 .rem 46 47,oM 11 48]) (.seq (.region [oM 49 0,oM 50 11,o0 51 (.j0 (.t 49)),oF 52 2 51,o0 53 (.xk 8 1 (.t 52) (.t 50)),⟨none,none,.op (.Zq (.t 53) (.c (.bool true)))⟩]) (.seq (.seq (.region [oM 54 1,o0 55 (.un .not (.t 54)),oM 1 55]) (.seq (.region [oM 56 1]) (.cond 56 (.region [oM 57 11,oM 2 57]) (.region [oM 58 9,oM 59 11,oP 60 .add 58 59,oM 2 60])))) (.seq (.region [oM 61 11,oM 62 3,oP 63 .eql 61 62]) (.cond 63 (.seq (.region [oI 8 (-1)]) .ret) .skip))))))))))
def Zx : AC := .seq (.region [oI 8 0]) (.seq (.region [oM 12 0,o0 13 (.j0 (.t 12)),oF 14 0 13,oL 15 14,oC 16 115 [.t 15],oM 9 16]) (.block 0 (.loop xq)))
theorem Wi : zk Try.prog 155 = some ⟨64, Zx, [.slot 8]⟩ := by kernel_rfl
theorem qn9 (N : Nat) (d e : List Nat) (hd : okD d) (he : okD e) (hds : isS N d = true) (hes : isS N e = true) {f : Nat} {u : Bool} {i : Nat} {met : List Bool} {r : Nat} {s : Bool} {met' : List Bool} (hf : zr N d e f u i met = some (r, s, met')) (hi : i < 2 * N) (hm : met.length = 8) :
    Am.Fn Try.prog 155 [.ptr 0 0, .bool (!u), .int .i64 i, .int .i64 (-1)] (H3 N d e met) (fun v H' => v = .int .i64 r ∧ H' = H3 N d e met') := by
  refine Am.Fn.ofB qea mixed Wi (by simp [AV.qy, AV.under, H3]) qj3 ?_
  obtain ⟨hN, hpd, _⟩ := x9 hds
  obtain ⟨_, hpe, _⟩ := x9 hes
  have hdl := hd.1
  have hel := he.1
  unfold H3
  simp (maxSteps := 3000000) only [qh, zH, Zx, wq, yy, kb, g_n, wt, Q3, Qr, hm, qc, hdl, hel, vp, Kk, iE, iN, iB, iC, iL, iD, iA, iS, iM, qa, zZ, ↓qm, ↓reduceIte, reduceCtorEq, nA, nM, nS, nE, nL, nD]; try simp only [qa, zY]
  refine qwn qea (fun f st => ∃ (u : Bool) (i : Nat) (met : List Bool), zr N d e f u i met = some (r, s, met') ∧ i < 2 * N ∧ met.length = 8 ∧
      st = ⟨[(9, .int .i64 N), (0, .ptr 0 0), (1, .bool (!u)), (2, .int .i64 i), (3, .int .i64 (-1))], [.cells (stk 1 2 met), .ro (dia N d), .ro (dia N e)]⟩) ⟨_, q6.qz [9, 0, 1, 2, 3], f, u, i, met, hf, hi, hm, rfl⟩ ?_
  clear hf hi hm
  rintro k st ⟨u, i, met, hf, hi, hm, rfl⟩ post hpost
  obtain ⟨hi16, hi16'⟩ := gr (show i < 16 by omega)
  have hi17 : i < 16 := by omega
  have hN0 : (N : Int) ≠ 0 := by omega
  match k, u, hf with
  | 0, _, hf => simp [zr] at hf
  | f + 1, true, hf =>
    have hx := (hpd i hi).1
    have hcx : qu .i64 ((d.getD i 0 : Nat) : Int) = ((d.getD i 0 : Nat) : Int) := yc (by omega)
    have hdx := Vd (n := (N : Int)) (m := d) (i := i) (by omega)
    rw [zr] at hf
    by_cases hlt : d.getD i 0 < N
    · rw [if_pos hlt] at hf
      simp only [Option.some.injEq, Prod.mk.injEq] at hf
      obtain ⟨rfl, rfl, rfl⟩ := hf
      have hli : ((N : Int) ≤ ((d.getD i 0 : Nat) : Int)) ↔ False := iff_false_intro (by omega)
      simp (maxSteps := 3000000) only [qh, zH, xq, wq, yy, kb, g_n, Bool.not_true, Bool.not_false, wt, Q3, Qr, Zp hm, hm, qc, hdl, hel, hi16, hi16', hi17, hcx, hdx, hli, decide_false, decide_true, beq_self_eq_true, bne_self_eq_false, Bool.true_beq, Bool.false_beq, AV.one, iE, iN, iB, iC, iL, iD, iA, iS, iM, qa, zZ, ↓qm, ↓reduceIte, reduceCtorEq, nA, nM, nS, nE, nL, nD]; try simp only [qa, zY]
      refine Ret.jn [0, 1, 2] ⟨⟨by simp, rfl, by decide⟩, ?_⟩ (rs := [.int .i64 (d.getD i 0 : Nat)]) rfl rfl (by simp [z6]) ?_ ⟨?_, ?_⟩
      · simp only [qg _ _ (qe _ _), Kx, zK, ↓reduceIte, reduceCtorEq, nE, nB, nA]
      · exact ro3
      · rfl
      · simp only [qd _ _ (qe _ _), Wh, zL, ↓reduceIte, reduceCtorEq, nE, nA]
        rfl
    · rw [if_neg hlt] at hf
      have hli : ((N : Int) ≤ ((d.getD i 0 : Nat) : Int)) ↔ True := iff_true_intro (by omega)
      have hrem := qp3 (N := N) (x := d.getD i 0) (by omega) hx
      have h8 := Vq (show d.getD i 0 - N < 8 by omega)
      have h8' : d.getD i 0 - N < 8 := by omega
      have h10 : 2 + (d.getD i 0 - N) < 8 + 3 := by omega
      have hst : ((((d.getD i 0 - N : Nat) : Int)) == (-1 : Int)) = false := by rw [beq_eq_false_iff_ne]; omega
      simp (maxSteps := 3000000) only [qh, zH, xq, wq, yy, kb, g_n, Bool.not_true, Bool.not_false, wt, Q3, Qr, Zp hm, qaa hm h8', hm, qc, hdl, hel, hi16, hi16', hi17, hcx, hdx, hli, decide_false, decide_true, beq_self_eq_true, bne_self_eq_false, Bool.true_beq, Bool.false_beq, hrem, h8, h8', h10, hN0, hst, AV.one, iE, iN, iB, iC, iL, iD, iA, iS, iM, qa, zZ, ↓qm, ↓reduceIte, reduceCtorEq, nA, nM, nS, nE, nL, nD]; try simp only [qa, zY]
      exact hpost _ _ f (q6.qz [9, 0, 1, 2, 3]) ⟨false, d.getD i 0 - N, _, hf, by omega, by simp [hm], rfl⟩ (Nat.lt_succ_self _)
  | f + 1, false, hf =>
    have hx := (hpe i hi).1
    have hcx : qu .i64 ((e.getD i 0 : Nat) : Int) = ((e.getD i 0 : Nat) : Int) := yc (by omega)
    have hdx := Vd (n := (N : Int)) (m := e) (i := i) (by omega)
    rw [zr] at hf
    by_cases hlt : N ≤ e.getD i 0
    · rw [if_pos hlt] at hf
      simp only [Option.some.injEq, Prod.mk.injEq] at hf
      obtain ⟨rfl, rfl, rfl⟩ := hf
      have hli : ((N : Int) ≤ ((e.getD i 0 : Nat) : Int)) ↔ True := iff_true_intro (by omega)
      simp (maxSteps := 3000000) only [qh, zH, xq, wq, yy, kb, g_n, Bool.not_true, Bool.not_false, wt, Q3, Qr, Zp hm, hm, qc, hdl, hel, hi16, hi16', hi17, hcx, hdx, hli, decide_false, decide_true, beq_self_eq_true, bne_self_eq_false, Bool.true_beq, Bool.false_beq, AV.one, iE, iN, iB, iC, iL, iD, iA, iS, iM, qa, zZ, ↓qm, ↓reduceIte, reduceCtorEq, nA, nM, nS, nE, nL, nD]; try simp only [qa, zY]
      refine Ret.jn [0, 1, 2] ⟨⟨by simp, rfl, by decide⟩, ?_⟩ (rs := [.int .i64 (e.getD i 0 : Nat)]) rfl rfl (by simp [z6]) ?_ ⟨?_, ?_⟩
      · simp only [qg _ _ (qe _ _), Kx, zK, ↓reduceIte, reduceCtorEq, nE, nB, nA]
      · exact ro3
      · rfl
      · simp only [qd _ _ (qe _ _), Wh, zL, ↓reduceIte, reduceCtorEq, nE, nA]
        rfl
    · rw [if_neg hlt] at hf
      have hli : ((N : Int) ≤ ((e.getD i 0 : Nat) : Int)) ↔ False := iff_false_intro (by omega)
      have hrem := qp9 (N := N) (x := e.getD i 0) (by omega)
      have hadd : qu .i64 ((N : Int) + ((e.getD i 0 : Nat) : Int)) = ((N + e.getD i 0 : Nat) : Int) := by rw [wrap64 (by omega) (by omega)]; rfl
      have h8 := Vq (show e.getD i 0 < 8 by omega)
      have h8' : e.getD i 0 < 8 := by omega
      have h10 : 2 + e.getD i 0 < 8 + 3 := by omega
      have hst : (((e.getD i 0 : Nat) : Int) == (-1 : Int)) = false := by rw [beq_eq_false_iff_ne]; omega
      simp (maxSteps := 3000000) only [qh, zH, xq, wq, yy, kb, g_n, Bool.not_true, Bool.not_false, wt, Q3, Qr, Zp hm, qaa hm h8', hm, qc, hdl, hel, hi16, hi16', hi17, hcx, hdx, hli, decide_false, decide_true, beq_self_eq_true, bne_self_eq_false, Bool.true_beq, Bool.false_beq, hrem, hadd, h8, h8', h10, hN0, hst, AV.one, iE, iN, iB, iC, iL, iD, iA, iS, iM, qa, zZ, ↓qm, ↓reduceIte, reduceCtorEq, nA, nM, nS, nE, nL, nD]; try simp only [qa, zY]
      exact hpost _ _ f (q6.qz [9, 0, 1, 2, 3]) ⟨true, N + e.getD i 0, _, hf, by omega, by simp [hm], rfl⟩ (Nat.lt_succ_self _)
theorem uw : B82 115 = some (Z6 1 g_n) := rfl
theorem gw : B82 145 = some (qj kb) := rfl
def InA (n : Nat) (d e : List Nat) (i x : Nat) (met : List Bool) : Prop :=
  met.length = 8 ∧ ((x = i ∧ ∀ y, mt met y ↔ Seen n d e i y) ∨ ∃ (T : Nat → Prop) (last : Nat), qds (XX n d e) (em e) (dm n d) i T last ∧ x = dm n d last ∧ ¬ T x ∧ ∀ y, mt met y ↔ Seen n d e i y ∨ (T y ∧ y ≠ i) ∨ y = x)
def InB (n : Nat) (d e : List Nat) (i y : Nat) (met : List Bool) : Prop :=
  met.length = 8 ∧ ∃ (T : Nat → Prop), qds (XX n d e) (em e) (dm n d) i T y ∧ ∀ z, mt met z ↔ Seen n d e i z ∨ (T z ∧ z ≠ i)
theorem qtf {n : Nat} {d e : List Nat} (hd : isS n d = true) (he : isS n e = true) (hn : n ≤ 8) {i x : Nat} {met : List Bool} (hi : i < n) (h0 : ¬ Seen n d e i i) (h : InA n d e i x met) :
    XX n d e x ∧ XX n d e (em e x) ∧ em e x ≠ i ∧ ¬ mt met (em e x) ∧ InB n d e i (em e x) (met.set (em e x) true) := by
  have hX : XX n d e i := ⟨hi, fun h => h0 (.inl h)⟩
  have hf := Kq hd he
  have hg := Kv hd he
  obtain ⟨hl, ⟨rfl, hm⟩ | ⟨T, last, hT, rfl, hTx, hm⟩⟩ := h
  · have h1 := hf.mem _ hX
    have h2 : ¬ mt met (em e x) := fun h => W9 hd he hi h0 (.two .base) ((hm _).1 h)
    have h3 := hf.fix _ hX
    refine ⟨hX, h1, h3, h2, by rw [List.length_set]; exact hl, _, qds.start hf hX, fun z => ?_⟩
    rw [bl (by have := h1.1; omega), hm]
    constructor
    · rintro (rfl | h)
      · exact .inr ⟨.inr rfl, h3⟩
      · exact .inl h
    · rintro (h | ⟨h | h, h'⟩)
      · exact .inr h
      · exact absurd h h'
      · exact .inl h
  · have hr := hT.ring _ hT.lm
    have h0' := hg.mem _ (Ring.mem hf hg hX hr)
    have h1 := hf.mem _ h0'
    obtain ⟨n1, n2, n3⟩ := hT.next hf hg hX hTx
    have h3 : em e (dm n d last) ≠ i := fun h => n2 (by rw [h]; exact hT.m0)
    have h4 : dm n d last ≠ i := fun h => hTx (by rw [h]; exact hT.m0)
    have h2 : ¬ mt met (em e (dm n d last)) := fun h => by
      rcases (hm _).1 h with h | ⟨h, _⟩ | h
      · exact W9 hd he hi h0 (Ring.swap (.one (.two hr))) h
      · exact n2 h
      · exact n3 h
    refine ⟨h0', h1, h3, h2, by rw [List.length_set]; exact hl, _, n1, fun z => ?_⟩
    rw [bl (by have := h1.1; omega), hm]
    constructor
    · rintro (rfl | h | ⟨h, h'⟩ | rfl)
      · exact .inr ⟨.inr (.inl rfl), h3⟩
      · exact .inl h
      · exact .inr ⟨.inr (.inr h), h'⟩
      · exact .inr ⟨.inl rfl, h4⟩
    · rintro (h | ⟨h | h | h, h'⟩)
      · exact .inr (.inl h)
      · exact .inr (.inr (.inr h))
      · exact .inl h
      · exact .inr (.inr (.inl ⟨h, h'⟩))
theorem qwu {n : Nat} {d e : List Nat} (hd : isS n d = true) (he : isS n e = true) (hn : n ≤ 8) {i y : Nat} {met : List Bool} (hi : i < n) (h0 : ¬ Seen n d e i i) (h : InB n d e i y met) :
    XX n d e y ∧ XX n d e (dm n d y) ∧ (dm n d y = i → ∀ z, mt (met.set i true) z ↔ Seen n d e i z ∨ Ring (dm n d) (em e) i z) ∧ (dm n d y ≠ i → ¬ mt met (dm n d y) ∧ InA n d e i (dm n d y) (met.set (dm n d y) true)) := by
  have hX : XX n d e i := ⟨hi, fun h => h0 (.inl h)⟩
  have hf := Kq hd he
  have hg := Kv hd he
  obtain ⟨hl, T, hT, hm⟩ := h
  have hr := hT.ring _ hT.lm
  have hy := Ring.mem hf hg hX hr
  have h1 := hg.mem _ hy
  refine ⟨hy, h1, fun hk z => ?_, fun hk => ?_⟩
  · have hs := (hT.stop hf hg hX (by rw [hk]; exact hT.m0)).2
    rw [bl (by omega), hm]
    constructor
    · rintro (rfl | h | ⟨h, _⟩)
      · exact .inr .base
      · exact .inl h
      · exact .inr (Ring.swap ((hs _).1 h))
    · rintro (h | h)
      · exact .inr (.inl h)
      · by_cases e1 : z = i
        · exact .inl e1
        · exact .inr (.inr ⟨(hs _).2 (Ring.swap h), e1⟩)
  · have hnT : ¬ T (dm n d y) := fun h => hk (hT.stop hf hg hX h).1
    refine ⟨fun h => ?_, by rw [List.length_set]; exact hl, .inr ⟨T, y, hT, rfl, hnT, fun z => ?_⟩⟩
    · rcases (hm _).1 h with h | ⟨h, _⟩
      · exact W9 hd he hi h0 (Ring.swap (.two hr)) h
      · exact hnT h
    · rw [bl (by have := h1.1; omega), hm]
      constructor
      · rintro (h | h | h)
        · exact .inr (.inr h)
        · exact .inl h
        · exact .inr (.inl h)
      · rintro (h | h | h)
        · exact .inr (.inl h)
        · exact .inr (.inr h)
        · exact .inl h
open Classical in
noncomputable def Ue (n : Nat) (d e : List Nat) (i : Nat) (met : List Bool) : List Bool := (List.range 8).map fun z => decide (mt met z ∨ Ring (dm n d) (em e) i z)
theorem qtb {n : Nat} {d e : List Nat} {i : Nat} {met : List Bool} {z : Nat} (hz : z < 8) : mt (Ue n d e i met) z ↔ mt met z ∨ Ring (dm n d) (em e) i z := by
  conv => lhs; unfold mt Ue
  simp [List.getD_eq_getElem?_getD, hz]
theorem qvk {n : Nat} {d e : List Nat} {i : Nat} {met met' : List Bool} (hl : met'.length = 8) (h : ∀ z, mt met' z ↔ mt met z ∨ Ring (dm n d) (em e) i z) : met' = Ue n d e i met := by
  apply List.ext_getElem
  · simp [Ue, hl]
  · intro z h1 h2
    have h3 := h z
    have h4 : mt met' z ↔ met'[z] = true := by simp [mt, List.getD_eq_getElem?_getD, h1]
    simp only [Ue, List.getElem_map, List.getElem_range]
    rw [Bool.eq_iff_iff, ← h4, h3]
    simp
theorem qo4 (N : Nat) (d e : List Nat) (hd : okD d) (he : okD e) (hds : isS N d = true) (hes : isS N e = true) {i : Nat} {met : List Bool} (hi : i < N) (hm0 : met.length = 8) (hmt : ∀ x, mt met x ↔ Seen N d e i x) (h0 : ¬ Seen N d e i i) :
    Am.Fn Try.prog 155 [.ptr 0 0, .bool true, .int .i64 i, .int .i64 i] (H3 N d e met) (fun v H' => v = .int .i64 (-1) ∧ H' = H3 N d e (Ue N d e i met)) := by
  refine Am.Fn.ofB qea mixed Wi (by simp [AV.qy, AV.under, H3]) qj3 ?_
  obtain ⟨hN, hpd, _⟩ := x9 hds
  obtain ⟨_, hpe, _⟩ := x9 hes
  have hdl := hd.1
  have hel := he.1
  unfold H3
  simp (maxSteps := 3000000) only [qh, zH, Zx, uw, gw, kb, g_n, wt, Q3, Qr, hm0, qc, hdl, hel, vp, Kk, iE, iN, iB, iC, iL, iD, iA, iS, iM, qa, zZ, ↓qm, ↓reduceIte, reduceCtorEq, nA, nM, nS, nE, nL, nD]; try simp only [qa, zY]
  refine qwn qea (fun k st => (∃ (x : Nat) (mm : List Bool), k = Qn (bls mm) ∧ InA N d e i x mm ∧ st = ⟨[(9, .int .i64 N), (0, .ptr 0 0), (1, .bool true), (2, .int .i64 x), (3, .int .i64 i)], [.cells (stk 1 2 mm), .ro (dia N d), .ro (dia N e)]⟩) ∨
      ∃ (y : Nat) (mm : List Bool), k = Qn (bls mm) ∧ InB N d e i y mm ∧ st = ⟨[(9, .int .i64 N), (0, .ptr 0 0), (1, .bool false), (2, .int .i64 (N + y : Nat)), (3, .int .i64 i)], [.cells (stk 1 2 mm), .ro (dia N d), .ro (dia N e)]⟩)
    ⟨_, q6.qz [9, 0, 1, 2, 3], _, .inl ⟨i, met, rfl, ⟨hm0, .inl ⟨rfl, hmt⟩⟩, rfl⟩⟩ ?_
  have hN0 : (N : Int) ≠ 0 := by omega
  rintro k st (⟨x, mm, rfl, hA, rfl⟩ | ⟨y, mm, rfl, hB, rfl⟩) post hpost
  · obtain ⟨x1, x2, x3, x4, x5⟩ := qtf hds hes hN.2 hi h0 hA
    have hm := hA.1
    obtain ⟨z1, z2, z3⟩ := qh4 hds hes x1
    have hxk := x1.1
    have hex : em e x = e.getD x 0 := rfl
    obtain ⟨hi16, hi16'⟩ := gr (show x < 16 by omega)
    have hi17 : x < 16 := by omega
    have hcx : qu .i64 ((e.getD x 0 : Nat) : Int) = ((e.getD x 0 : Nat) : Int) := yc (by omega)
    have hdx := Vd (n := (N : Int)) (m := e) (i := x) (by omega)
    have hli : ((N : Int) ≤ ((e.getD x 0 : Nat) : Int)) ↔ False := iff_false_intro (by omega)
    have hrem := qp9 (N := N) (x := e.getD x 0) z3
    have hadd : qu .i64 ((N : Int) + ((e.getD x 0 : Nat) : Int)) = ((N + e.getD x 0 : Nat) : Int) := by rw [wrap64 (by omega) (by omega)]; rfl
    have h8 := Vq (show e.getD x 0 < 8 by omega)
    have h8' : e.getD x 0 < 8 := by omega
    have h10 : 2 + e.getD x 0 < 8 + 3 := by omega
    have hst : (((e.getD x 0 : Nat) : Int) == (i : Int)) = false := by rw [beq_eq_false_iff_ne]; rw [hex] at x3; omega
    simp (maxSteps := 3000000) only [qh, zH, xq, uw, gw, kb, g_n, Bool.not_true, Bool.not_false, wt, Q3, Qr, Zp hm, qaa hm h8', hm, qc, hdl, hel, hi16, hi16', hi17, hcx, hdx, hli, decide_false, decide_true, beq_self_eq_true, Bool.true_beq, Bool.false_beq, hrem, hadd, h8, h8', h10, hN0, hst, AV.one, iE, iN, iB, iC, iL, iD, iA, iS, iM, qa, zZ, ↓qm, ↓reduceIte, reduceCtorEq, nA, nM, nS, nE, nL, nD]; try simp only [qa, zY]
    have hlt := W8 (met := mm) (k := em e x) (by have := x2.1; omega) (by cases h : mm.getD (em e x) false with
      | false => rfl
      | true => exact absurd h x4)
    exact hpost _ _ _ (q6.qz [9, 0, 1, 2, 3]) (.inr ⟨em e x, _, rfl, x5, rfl⟩) hlt
  · obtain ⟨y1, y2, y3, y4⟩ := qwu hds hes hN.2 hi h0 hB
    have hm := hB.1
    obtain ⟨z1, z2, z3⟩ := qh4 hds hes y1
    have hyk := y1.1
    have hdy : dm N d y = d.getD (N + y) 0 - N := rfl
    obtain ⟨hi16, hi16'⟩ := gr (show N + y < 16 by omega)
    have hi17 : N + y < 16 := by omega
    have hcx : qu .i64 ((d.getD (N + y) 0 : Nat) : Int) = ((d.getD (N + y) 0 : Nat) : Int) := yc (by omega)
    have hdx := Vd (n := (N : Int)) (m := d) (i := N + y) (by omega)
    have hli : ((N : Int) ≤ ((d.getD (N + y) 0 : Nat) : Int)) ↔ True := iff_true_intro (by omega)
    have hrem := qp3 (N := N) (x := d.getD (N + y) 0) (by omega) (by omega)
    have h8 := Vq (show d.getD (N + y) 0 - N < 8 by omega)
    have h8' : d.getD (N + y) 0 - N < 8 := by omega
    have h10 : 2 + (d.getD (N + y) 0 - N) < 8 + 3 := by omega
    by_cases hk : dm N d y = i
    · have hst : ((((d.getD (N + y) 0 - N : Nat) : Int)) == (i : Int)) = true := by rw [beq_iff_eq]; omega
      simp (maxSteps := 3000000) only [qh, zH, xq, uw, gw, kb, g_n, Bool.not_true, Bool.not_false, wt, Q3, Qr, Zp hm, qaa hm h8', hm, qc, hdl, hel, hi16, hi16', hi17, hcx, hdx, hli, decide_false, decide_true, beq_self_eq_true, Bool.true_beq, Bool.false_beq, hrem, h8, h8', h10, hN0, hst, AV.one, iE, iN, iB, iC, iL, iD, iA, iS, iM, qa, zZ, ↓qm, ↓reduceIte, reduceCtorEq, nA, nM, nS, nE, nL, nD]; try simp only [qa, zY]
      have hL : mm.set (d.getD (N + y) 0 - N) true = Ue N d e i met := qvk (by rw [List.length_set]; exact hm) fun z => by
        rw [show d.getD (N + y) 0 - N = i from hk, y3 hk, hmt]
      refine Ret.jn [0, 1, 2] ⟨⟨by simp, rfl, by decide⟩, ?_⟩ (rs := [.int .i64 (-1)]) rfl rfl (by simp [z6]) ?_ ⟨?_, ?_⟩
      · simp only [qg _ _ (qe _ _), Kx, zK, ↓reduceIte, reduceCtorEq, nE, nB, nA]
      · exact ro3
      · rfl
      · simp only [qd _ _ (qe _ _), Wh, zL, ↓reduceIte, reduceCtorEq, nE, nA]
        rw [hL]; rfl
    · have hst : ((((d.getD (N + y) 0 - N : Nat) : Int)) == (i : Int)) = false := by rw [beq_eq_false_iff_ne]; omega
      obtain ⟨q1, q2⟩ := y4 hk
      simp (maxSteps := 3000000) only [qh, zH, xq, uw, gw, kb, g_n, Bool.not_true, Bool.not_false, wt, Q3, Qr, Zp hm, qaa hm h8', hm, qc, hdl, hel, hi16, hi16', hi17, hcx, hdx, hli, decide_false, decide_true, beq_self_eq_true, Bool.true_beq, Bool.false_beq, hrem, h8, h8', h10, hN0, hst, AV.one, iE, iN, iB, iC, iL, iD, iA, iS, iM, qa, zZ, ↓qm, ↓reduceIte, reduceCtorEq, nA, nM, nS, nE, nL, nD]; try simp only [qa, zY]
      have hlt := W8 (met := mm) (k := dm N d y) (by have := y2.1; omega) (by cases h : mm.getD (dm N d y) false with
        | false => rfl
        | true => exact absurd h q1)
      exact hpost _ _ _ (q6.qz [9, 0, 1, 2, 3]) (.inl ⟨dm N d y, _, rfl, q2, rfl⟩) hlt
def qll : List AV → Option (Nat × Nat × List Bool)
  | .ptr a 0 :: .ptr b 0 :: rest => match Vp (rest.take 8), rest.drop 8 with
    | some met, [.fn 145 [] []] => chk (met.length = 8) (some (a, b, met))
    | _, _ => none
  | _ => none
theorem qb3 {a b : Nat} {met : List Bool} (h : met.length = 8) : qll (stk a b met) = some (a, b, met) := by
  have h1 : (bls met).length = 8 := by rw [vy, h]
  have h2 : List.take 8 (bls met ++ [.fn 145 [] []]) = bls met := List.take_left' h1
  have h3 : List.drop 8 (bls met ++ [.fn 145 [] []]) = [.fn 145 [] []] := List.drop_left' h1
  simp only [stk, qll, h2, h3, U5, chk, h, if_true]
theorem qoi {l : List AV} {a b : Nat} {met : List Bool} (h : qll l = some (a, b, met)) : l = stk a b met ∧ met.length = 8 := by
  unfold qll at h
  split at h
  · rename_i a' b' rest
    split at h
    · rename_i met' h1 h2
      obtain ⟨h3, h4⟩ := qk h
      simp only [Option.some.injEq, Prod.mk.injEq] at h4
      obtain ⟨rfl, rfl, rfl⟩ := h4
      refine ⟨?_, h3⟩
      have h5 := Yh h1
      conv => lhs; rw [← List.take_append_drop 8 rest, h5, h2]
      rfl
    · cases h
  · cases h
def rdD (hp : List AO) (b : Nat) : Option (Int × List Nat) := match rd hp b with
  | some L => yk (L.take 17)
  | none => none
open Classical in
noncomputable def bg : BE := fun hp xs => match xs with
  | [.ptr b 0, .bool w, .int .i64 i, .int .i64 st] => match hp[b]? with
    | some (.cells l) => match qll l with
      | some (b1, b2, met) => match rdD hp b1, rdD hp b2 with
        | some (n, d), some (n', e) => chk ((n' = n ∧ 0 ≤ n) ∧ (isS n.toNat d = true ∧ isS n.toNat e = true) ∧ b1 ≠ b ∧ b2 ≠ b)
          (if st = -1 then chk ((0 ≤ i ∧ i < 2 * n) ∧ w = decide (n ≤ i)) (some (.int .i64 (pr n.toNat d e i.toNat : Nat), hp.set b (.cells (stk b1 b2 (fol n.toNat d e (!w) i.toNat met)))))
          else chk ((st = i ∧ w = true ∧ 0 ≤ i ∧ i < n) ∧ (∀ x, mt met x ↔ Seen n.toNat d e i.toNat x) ∧ ¬ Seen n.toNat d e i.toNat i.toNat) (some (.int .i64 (-1), hp.set b (.cells (stk b1 b2 (Ue n.toNat d e i.toNat met))))))
        | _, _ => none
      | none => none
    | _ => none
  | _ => none
open Classical in
theorem qqt : Am.Callee Try.prog 155 bg := Callee.fp fun hp xs v hp' he => by
  unfold bg at he
  split at he
  · rename_i b w i st
    split at he
    · rename_i l hb
      split at he
      · rename_i b1 b2 met hs1
        obtain ⟨rfl, hm⟩ := qoi hs1
        split at he
        · rename_i n d n' e hd1 he1
          obtain ⟨⟨⟨a1, a2⟩, ⟨a3, a4⟩, a5, a6⟩, he2⟩ := qk he
          subst a1
          obtain ⟨N, rfl⟩ : ∃ N : Nat, n' = N := ⟨n'.toNat, by omega⟩
          simp only [Int.toNat_natCast] at a3 a4 he2
          have rdd : ∀ {b : Nat} {m : List Nat}, rdD hp b = some ((N : Int), m) → okD m ∧ Fits hp (ofL [(b, 0)]) b 0 (.ro (dia N m)) ∧ ∃ L, rd hp b = some L ∧ 17 ≤ L.length ∧ L.take 17 = dia N m := fun {b m} h => by
            unfold rdD at h
            split at h
            · rename_i L hL
              obtain ⟨e1, hok⟩ := zj h
              have hlen : (dia (N : Int) m).length = 17 := by rw [qc, hok.1]
              have hLl : 17 ≤ L.length := by
                have := congrArg List.length e1
                rw [hlen, List.length_take] at this
                omega
              exact ⟨hok, ⟨L, hL, by rw [hlen]; omega, by rw [List.drop_zero, qd _ _ (qe _ _), hlen]; exact e1⟩, L, hL, hLl, e1⟩
            · cases h
          obtain ⟨hd, _, L1, r1, r2, r3⟩ := rdd hd1
          obtain ⟨he', _, L2, q1, q2, q3⟩ := rdd he1
          have hlen : ∀ {m : List Nat}, okD m → (dia (N : Int) m).length = 17 := fun h => by rw [qc, h.1]
          have hfit : Bj hp (ofL [(b, 0), (b1, 0), (b2, 0)]) [(b, 0), (b1, 0), (b2, 0)] (H3 N d e met) :=
            ⟨⟨rfl, by rw [hb]; simp only [AO.ren, Wh]; simp [AV.ren, ofL, stk]⟩, ⟨L1, r1, by rw [hlen hd]; omega, by rw [List.drop_zero, qd _ _ (qe _ _), hlen hd]; exact r3⟩, ⟨L2, q1, by rw [hlen he']; omega, by rw [List.drop_zero, qd _ _ (qe _ _), hlen he']; exact q3⟩, trivial⟩
          have hap : ∀ met, Ji [(b, 0), (b1, 0), (b2, 0)] (H3 N d e met) = true := fun met => by simp [Ji, H3, AO.wr, a5, a6]
          have hun : ∀ met, AO.qa2 3 (H3 N d e met) := fun met => ⟨qhn (by omega) (by omega), ql _ _ (qe _ _), ql _ _ (qe _ _), trivial⟩
          split at he2
          · rename_i hst
            subst hst
            obtain ⟨⟨⟨c1, c2⟩, c3⟩, he3⟩ := qk he2
            simp only [Option.some.injEq, Prod.mk.injEq] at he3
            obtain ⟨rfl, rfl⟩ := he3
            obtain ⟨k, rfl⟩ : ∃ k : Nat, i = k := ⟨i.toNat, by omega⟩
            simp only [Int.toNat_natCast]
            have hw : w = !decide (k < N) := by
              rw [c3, Bool.eq_iff_iff]; simp
            obtain ⟨f, met', hf⟩ := Wc a3 a4 (i := k) (by omega) met
            have hfo := qes hf
            subst hw
            rw [Bool.not_not, hfo]
            refine ⟨[(b, 0), (b1, 0), (b2, 0)], [.ptr 0 0, .bool (!decide (k < N)), .int .i64 k, .int .i64 (-1)], H3 N d e met, _, _, qn9 N d e hd he' a3 a4 hf (by omega) hm, by simp [AV.ren, AV.zl, ofL], by simp [vq], hfit, hap met, hun met, ⟨by simp [AV.under, H3], trivial, trivial, trivial, trivial⟩, by simp [AV.ren, AV.zl], ?_⟩
            simp [after, upd, AO.wr, AO.ren, H3, Wh, AV.ren, qd _ _ (qe _ _)]
            simp [Ren.ext, ofL, stk]
          · obtain ⟨⟨⟨c1, c2, c3, c4⟩, c5, c6⟩, he3⟩ := qk he2
            simp only [Option.some.injEq, Prod.mk.injEq] at he3
            obtain ⟨rfl, rfl⟩ := he3
            subst c1; subst c2
            obtain ⟨k, rfl⟩ : ∃ k : Nat, st = k := ⟨st.toNat, by omega⟩
            simp only [Int.toNat_natCast] at c5 c6 ⊢
            refine ⟨[(b, 0), (b1, 0), (b2, 0)], [.ptr 0 0, .bool true, .int .i64 k, .int .i64 k], H3 N d e met, _, _, qo4 N d e hd he' a3 a4 (by omega) hm c5 c6, by simp [AV.ren, AV.zl, ofL], by simp [vq], hfit, hap met, hun met, ⟨by simp [AV.under, H3], trivial, trivial, trivial, trivial⟩, by simp [AV.ren, AV.zl], ?_⟩
            simp [after, upd, AO.wr, AO.ren, H3, Wh, AV.ren, qd _ _ (qe _ _)]
            simp [Ren.ext, ofL, stk]
        · cases he
      · cases he
    · cases he
  · cases he
noncomputable def B83 : zo := (B82.put 155 (bg))
theorem qi0 : qx Try.prog B83 := (qea.put (qqt))
def H4 (N : Nat) (d e m : List Nat) (k : Nat) : List AO := [.ro (dia N d), .ro (dia N e), .cells (dia N m), .cells [.int .i64 k]]
theorem qt6 {N : Nat} {d e m : List Nat} {k n : Nat} : ∀ (j : Nat) (o : AO), (H4 N d e m k)[j]? = some o → o.under n := fun j o hj => by
  match j, hj with
  | 0, hj => cases hj; exact ql _ _ (qe _ _)
  | 1, hj => cases hj; exact ql _ _ (qe _ _)
  | 2, hj => cases hj; exact ql _ _ (qe _ _)
  | 3, hj => cases hj; exact ⟨trivial, trivial⟩
  | j + 4, hj => simp [H4] at hj
theorem qje {m : List Nat} (h : okD m) {i x : Nat} (hx : x < 256) : okD (m.set i x) := by
  refine ⟨by rw [List.length_set]; exact h.1, fun y hy => ?_⟩
  rcases List.mem_or_eq_of_mem_set hy with h1 | rfl
  · exact h.2 y h1
  · exact hx
theorem qb5 {n : Nat} {d e : List Nat} (hd : isS n d = true) (he : isS n e = true) : ∀ {k : Nat}, k ≤ n → okD (V8 n d e k)
  | 0, _ => ⟨by simp [V8], fun y hy => by simp [V8] at hy; omega⟩
  | k + 1, hk => by
    obtain ⟨hn, _⟩ := x9 hd
    have h1 := qcw hd he (i := k) (by omega)
    have h2 := qcw hd he (i := n + k) (by omega)
    exact qje (qje (qb5 hd he (by omega)) (by omega)) (by omega)
theorem ve : B83 115 = some (Z6 1 g_n) := rfl
theorem jh : B83 155 = some (bg) := rfl
theorem wk : B83 146 = some (Y0) := rfl
theorem wm : B83 147 = some (bc) := rfl
def Jw : AC := .seq (.region [oP 23 .lss 22 21]) (.seq (.cond 23 .skip (.exit 0)) (.seq (.block 1 (.seq (.region [oM 24 22,oM 12 24]) (.seq (.region [oM 25 3,oM 26 12,oM 27 11,oM 28 12,oC 29 155 [.t 27,(.c (.bool false)),.t 28,(.c (.int .i64 (-1)))],⟨some 30,none,.call (.t 25) [.t 26,.t 29]⟩]) (.region [oM 31 3,oM 32 10,oM 33 12,oP 34 .add 32 33,oM 35 11,oM 36 10,oM 37 12,oP 38 .add 36 37,oC 39 155 [.t 35,(.c (.bool true)),.t 38,(.c (.int .i64 (-1)))],⟨some 40,none,.call (.t 31) [.t 34,.t 39]⟩])))) (.region [oK 41 .add 22 1,oM 22 41])))
def Q2 : AC := .seq (.region [oP 44 .lss 43 42]) (.seq (.cond 44 .skip (.exit 2)) (.seq (.block 3 (.seq (.region [oM 45 43,oM 13 45]) (.seq (.region [oM 46 11,oM 47 13,o0 48 (.j0 (.t 46)),oF 49 2 48,o0 50 (.xk 8 1 (.t 49) (.t 47)),oL 51 50,o0 52 (.un .not (.t 51))]) (.cond 52 (.seq (.region [oM 53 11,oM 54 13,oM 55 13,oC 56 155 [.t 53,(.c (.bool true)),.t 54,.t 55]]) (.region [oM 57 4,⟨some 58,none,.call (.t 57) []⟩])) .skip)))) (.region [oK 59 .add 43 1,oM 43 59])))
def Uy : AC := .seq (.region [oM 42 10,oI 43 0]) (.block 2 (.loop Q2))
def qcg : AC := .seq (.region [oM 14 0,oC 15 115 [.t 14],oM 10 15]) (.seq (.region [oM 16 0,oM 17 1,oM 18 2,o0 19 (.build [(.v (.pointer none)),(.v (.pointer none)),(.bool false),(.bool false),(.bool false),(.bool false),(.bool false),(.bool false),(.bool false),(.bool false),(.v .nilFunc)] [(0,1,.t 16),(1,1,.t 17),(10,1,.t 18)]),o0 20 (.box (.t 19)),oM 11 20]) (.seq (.seq (.region [oM 21 10,oI 22 0]) (.block 0 (.loop Jw))) Uy))
theorem qkb : zk Try.prog 144 = some ⟨60, qcg, []⟩ := by kernel_rfl
theorem qld (N : Nat) (d e : List Nat) (hd : okD d) (he : okD e) (hds : isS N d = true) (hes : isS N e = true) :
    Am.Fn Try.prog 144 [.ptr 0 0, .ptr 1 0, .fn 145 [] [], .fn 146 [] [.ptr 2 0], .fn 147 [] [.ptr 3 0]] (H4 N d e (List.replicate 16 0) 0) (fun v H' => v = .tup [] ∧ H' = H4 N d e (jv N d e) (lpN N d e N)) := by
  refine Am.Fn.ofB qi0 mixed qkb (by simp [AV.qy, AV.under, H4]) qt6 ?_
  obtain ⟨hN, hpd, _⟩ := x9 hds
  obtain ⟨_, hpe, _⟩ := x9 hes
  have hdl := hd.1
  have hel := he.1
  have o1 : over [AV.v (.pointer none), .v (.pointer none), .bool false, .bool false, .bool false, .bool false, .bool false, .bool false, .bool false, .bool false, .v .nilFunc] 0 [.ptr 0 0] = [.ptr 0 0, .v (.pointer none), .bool false, .bool false, .bool false, .bool false, .bool false, .bool false, .bool false, .bool false, .v .nilFunc] := rfl
  have o2 : over [AV.ptr 0 0, .v (.pointer none), .bool false, .bool false, .bool false, .bool false, .bool false, .bool false, .bool false, .bool false, .v .nilFunc] 1 [.ptr 1 0] = [.ptr 0 0, .ptr 1 0, .bool false, .bool false, .bool false, .bool false, .bool false, .bool false, .bool false, .bool false, .v .nilFunc] := rfl
  have o3 : over [AV.ptr 0 0, .ptr 1 0, .bool false, .bool false, .bool false, .bool false, .bool false, .bool false, .bool false, .bool false, .v .nilFunc] 10 [.fn 145 [] []] = stk 0 1 (List.replicate 8 false) := rfl
  have l1 : ([AV.ptr 0 0, .v (.pointer none), .bool false, .bool false, .bool false, .bool false, .bool false, .bool false, .bool false, .bool false, .v .nilFunc] : List AV).length = 11 := rfl
  have l2 : ([AV.ptr 0 0, .ptr 1 0, .bool false, .bool false, .bool false, .bool false, .bool false, .bool false, .bool false, .bool false, .v .nilFunc] : List AV).length = 11 := rfl
  unfold H4
  simp (maxSteps := 3000000) only [qh, zH, qcg, ve, jh, wk, wm, bc, g_n, Y0, bg, qc, hdl, hel, vp, Kk, o1, o2, o3, l1, l2, AV.one, iE, iN, iB, iC, iL, iD, iA, iS, iM, qa, zZ, ↓qm, ↓reduceIte, reduceCtorEq, nA, nM, nS, nE, nL, nD]; try simp only [qa, zY]
  have hdo := qp (n := (N : Int)) hd
  have heo := qp (n := (N : Int)) he
  have hN0 : (0 : Int) ≤ (N : Int) := by omega
  refine WA.jt qi0 (fun s => ∃ k : Nat, k ≤ N ∧ s = ⟨[(22, .int .i64 k), (21, .int .i64 N), (11, .ptr 4 0), (10, .int .i64 N), (4, .fn 147 [] [.ptr 3 0]), (3, .fn 146 [] [.ptr 2 0])], [.ro (dia N d), .ro (dia N e), .cells (dia N (V8 N d e k)), .cells [.int .i64 0], .cells (stk 0 1 (qdn N d e k))]⟩)
    (fun s => match get s.env 22 with | .int _ x => N - x.toNat | _ => 0) ⟨_, q6.qz [22, 21, 11, 10, 4, 3], 0, by omega, rfl⟩ ?_
  rintro s ⟨k, hk, rfl⟩
  have hw : qu .i64 ((k : Int) + 1) = ((k + 1 : Nat) : Int) := by rw [wrap64 (by omega) (by omega)]; rfl
  by_cases hlt : k < N
  · have hli : (k : Int) < (N : Int) := by omega
    have hk16 := yg N d e k
    have hmk := (X4 hds hes k hk).len
    have hx1 := qcw hds hes (i := k) (by omega)
    have hx2 := qcw hds hes (i := N + k) (by omega)
    have hadd : qu .i64 ((N : Int) + (k : Int)) = ((N + k : Nat) : Int) := by rw [wrap64 (by omega) (by omega)]; rfl
    have k1 : (0 : Int) ≤ (k : Int) ∧ (k : Int) < 2 * (N : Int) := by omega
    have k2 : (0 : Int) ≤ ((N + k : Nat) : Int) ∧ ((N + k : Nat) : Int) < 2 * (N : Int) := by omega
    have q1 : (false = decide ((N : Int) ≤ (k : Int))) = True := by simp; omega
    have q2 : (true = decide ((N : Int) ≤ ((N + k : Nat) : Int))) = True := by simp; omega
    have hf1 : (fol N d e true k (qdn N d e k)).length = 8 := by rw [qqq hds hes (by omega) (by simp [hlt])]; exact hmk
    have s1 := qb3 (a := 0) (b := 1) hmk
    have s2 := qb3 (a := 0) (b := 1) hf1
    have d0 := qp (n := (N : Int)) (qje (qb5 hds hes hk) (i := k) (x := pr N d e k) (by omega))
    have d1 := qp (n := (N : Int)) (qb5 hds hes hk)
    have p1 : ((0 : Int) ≤ (k : Int) ∧ (k : Int) < 16) ∧ (0 : Int) ≤ ((pr N d e k : Nat) : Int) ∧ ((pr N d e k : Nat) : Int) < 256 := by omega
    have p2 : ((0 : Int) ≤ ((N + k : Nat) : Int) ∧ ((N + k : Nat) : Int) < 16) ∧ (0 : Int) ≤ ((pr N d e (N + k) : Nat) : Int) ∧ ((pr N d e (N + k) : Nat) : Int) < 256 := by omega
    simp (maxSteps := 3000000) only [qh, zH, Jw, ve, jh, wk, wm, bc, g_n, Y0, bg, rdD, hw, hli, qc, hdl, hel, qn hdl, qn hel, hdo, heo, s1, s2, d0, d1, p1, p2, Int.toNat_natCast, hds, hes, k1, k2, hN0, q1, q2, hadd, AV.one, and_self, true_and, and_true, Bool.not_true, Bool.not_false, Ne, not_false_iff, not_false_eq_true, Nat.reduceEqDiff, reduceCtorEq, iE, iN, iB, iC, iL, iD, iA, iS, iM, qa, zZ, ↓qm, ↓reduceIte, reduceCtorEq, nA, nM, nS, nE, nL, nD]; try simp only [qa, zY]
    refine ⟨_, q6.qz [22, 21, 11, 10, 4, 3], ⟨k + 1, by omega, rfl⟩, ?_⟩
    simp only [zL, ↓reduceIte, reduceCtorEq, nE, nA]; omega
  have hli : ¬ (k : Int) < (N : Int) := by omega
  obtain rfl : k = N := by omega
  simp (maxSteps := 3000000) only [qh, zH, Jw, Uy, ve, jh, wk, wm, bc, g_n, Y0, bg, hli, Int.lt_irrefl, iE, iN, iB, iC, iL, iD, iA, iS, iM, qa, zZ, ↓qm, ↓reduceIte, reduceCtorEq, nA, nM, nS, nE, nL, nD]; try simp only [qa, zY]
  refine WA.jt qi0 (fun s => ∃ (i : Nat) (met : List Bool), i ≤ k ∧ (met.length = 8 ∧ ∀ x, mt met x ↔ Seen k d e i x) ∧ s = ⟨[(43, .int .i64 i), (42, .int .i64 k), (11, .ptr 4 0), (4, .fn 147 [] [.ptr 3 0])], [.ro (dia k d), .ro (dia k e), .cells (dia k (jv k d e)), .cells [.int .i64 (lpN k d e i : Nat)], .cells (stk 0 1 met)]⟩)
    (fun s => match get s.env 43 with | .int _ x => k - x.toNat | _ => 0) ⟨_, q6.qz [43, 42, 11, 4], 0, qdn k d e k, by omega, ⟨(X4 hds hes k (Nat.le_refl _)).len, fun x => ⟨.inl, fun h => h.elim id fun ⟨j, hj, _⟩ => absurd hj (Nat.not_lt_zero _)⟩⟩, rfl⟩ ?_
  clear hlt hli hw
  rintro s ⟨i, met, hi, ⟨hml, hmt⟩, rfl⟩
  have hw : qu .i64 ((i : Int) + 1) = ((i + 1 : Nat) : Int) := by rw [wrap64 (by omega) (by omega)]; rfl
  have hle := qf3 k d e i
  by_cases hlt : i < k
  · have hli : (i : Int) < (k : Int) := by omega
    have g1 := Vq (show i < 8 by omega)
    have g2 : 2 + i < 8 + 3 := by omega
    have g3 := qyv (a := 0) (b := 1) hml (show i < 8 by omega)
    by_cases hs : Seen k d e i i
    · have hm1 : met.getD i false = true := (hmt i).2 hs
      simp (maxSteps := 3000000) only [qh, zH, Q2, ve, jh, wk, wm, bc, g_n, Y0, bg, hw, hli, g1, g2, g3, hm1, wt, hml, Bool.not_true, iE, iN, iB, iC, iL, iD, iA, iS, iM, qa, zZ, ↓qm, ↓reduceIte, reduceCtorEq, nA, nM, nS, nE, nL, nD]; try simp only [qa, zY]
      refine ⟨_, q6.qz [43, 42, 11, 4], ⟨i + 1, met, by omega, ⟨hml, fun x => by rw [hmt, qmt hds hes hs]⟩, ?_⟩, ?_⟩
      · simp only [zL, ↓reduceIte, reduceCtorEq, nE, nA]
        simp only [lpN, if_pos hs]
      · simp only [zL, ↓reduceIte, reduceCtorEq, nE, nA]; omega
    · have hm1 : met.getD i false = false := by
        cases h : met.getD i false with
        | false => rfl
        | true => exact absurd ((hmt i).1 h) hs
      have s1 := qb3 (a := 0) (b := 1) hml
      have k1 : (0 : Int) ≤ (i : Int) ∧ (i : Int) < (k : Int) := by omega
      have q1 : ((i : Int) = -1) = False := eq_false (by omega)
      have q2 : (∀ x, mt met x ↔ Seen k d e i x) = True := eq_true hmt
      have q3 : Seen k d e i i = False := eq_false hs
      have q4 : (0 : Int) ≤ ((lpN k d e i : Nat) : Int) ∧ ((lpN k d e i : Nat) : Int) ≤ 1000 := by omega
      have q5 : ((lpN k d e i : Nat) : Int) + 1 = ((lpN k d e i + 1 : Nat) : Int) := rfl
      simp (maxSteps := 3000000) only [qh, zH, Q2, ve, jh, wk, wm, bc, g_n, Y0, bg, rdD, hw, hli, g1, g2, g3, hm1, wt, hml, Bool.not_false, qc, hdl, hel, qn hdl, qn hel, hdo, heo, s1, Int.toNat_natCast, hds, hes, k1, hN0, q1, q2, q3, q4, q5, AV.one, and_self, true_and, and_true, Ne, not_false_iff, not_false_eq_true, if_false, Nat.reduceEqDiff, reduceCtorEq, iE, iN, iB, iC, iL, iD, iA, iS, iM, qa, zZ, ↓qm, ↓reduceIte, reduceCtorEq, nA, nM, nS, nE, nL, nD]; try simp only [qa, zY]
      refine ⟨_, q6.qz [43, 42, 11, 4], ⟨i + 1, Ue k d e i met, by omega, ⟨by simp [Ue], fun x => ?_⟩, ?_⟩, ?_⟩
      · rw [qmp hlt hs]
        by_cases hx : x < 8
        · rw [qtb hx, hmt]
        · constructor
          · intro h
            simp [mt, Ue, List.getD_eq_getElem?_getD, hx] at h
          · intro h
            have : x < k := by
              rcases h with h | h
              · exact qxr hds hes h
              · exact (Ring.mem (Kv hds hes) (Kq hds hes) ⟨hlt, fun h => hs (.inl h)⟩ h).1
            omega
      · simp only [zL, ↓reduceIte, reduceCtorEq, nE, nA]
        simp only [lpN, if_neg hs]
      · simp only [zL, ↓reduceIte, reduceCtorEq, nE, nA]; omega
  · have hli : ¬ (i : Int) < (k : Int) := by omega
    obtain rfl : i = k := by omega
    simp (maxSteps := 3000000) only [qh, zH, Q2, ve, jh, wk, wm, bc, g_n, Y0, bg, hli, Int.lt_irrefl, iE, iN, iB, iC, iL, iD, iA, iS, iM, qa, zZ, ↓qm, ↓reduceIte, reduceCtorEq, nA, nM, nS, nE, nL, nD]; try simp only [qa, zY]
    refine Ret.jn [0, 1, 2, 3] ⟨⟨by simp, rfl, by decide⟩, ?_⟩ (rs := []) rfl rfl (by simp [z6]) ?_ ⟨rfl, ?_⟩
    · simp only [qg _ _ (qe _ _), zK, ↓reduceIte, reduceCtorEq, nE, nB, nA]
    · intro j l h
      match j, h with
      | 0, _ => exact ⟨_, rfl⟩
      | 1, _ => exact ⟨_, rfl⟩
      | 2, h => simp [zb, AO.ren] at h
      | 3, h => simp [zb, AO.ren] at h
      | j + 4, h => simp [zb] at h
    · simp only [qd _ _ (qe _ _), zL, ↓reduceIte, reduceCtorEq, nE, nA]
noncomputable def V3 : BE := fun hp xs => match xs with
  | [.ptr b1 0, .ptr b2 0, .fn 145 [] [], .fn 146 [] [.ptr b3 0], .fn 147 [] [.ptr b4 0]] => match rdD hp b1, rdD hp b2, hp[b3]?, hp[b4]? with
    | some (n, d), some (n', e), some (.cells l), some (.cells [.int .i64 k]) => match yk l with
      | some (n2, m) => chk ((n' = n ∧ n2 = n ∧ 0 ≤ n ∧ k = 0) ∧ (isS n.toNat d = true ∧ isS n.toNat e = true) ∧ m = List.replicate 16 0 ∧ b3 ≠ b1 ∧ b4 ≠ b1 ∧ b3 ≠ b2 ∧ b4 ≠ b2 ∧ b4 ≠ b3)
          (some (.tup [], (hp.set b3 (.cells (dia n (jv n.toNat d e)))).set b4 (.cells [.int .i64 (lpN n.toNat d e n.toNat : Nat)])))
      | none => none
    | _, _, _, _ => none
  | _ => none
theorem qlx {hp : List AO} {b N : Nat} {m : List Nat} (h : rdD hp b = some ((N : Int), m)) : okD m ∧ ∀ ρ, Fits hp ρ b 0 (.ro (dia N m)) := by
  unfold rdD at h
  split at h
  · rename_i L hL
    obtain ⟨e1, hok⟩ := zj h
    have hlen : (dia (N : Int) m).length = 17 := by rw [qc, hok.1]
    have hLl : 17 ≤ L.length := by
      have := congrArg List.length e1
      rw [hlen, List.length_take] at this
      omega
    exact ⟨hok, fun ρ => ⟨L, hL, by rw [hlen]; omega, by rw [List.drop_zero, qd _ _ (qe _ _), hlen]; exact e1⟩⟩
  · cases h
theorem qss : Am.Callee Try.prog 144 V3 := Callee.fp fun hp xs v hp' he => by
  unfold V3 at he
  split at he
  · rename_i b1 b2 b3 b4
    split at he
    · rename_i n d n' e l k hd1 he1 h3 h4
      split at he
      · rename_i n2 m hm1
        obtain ⟨⟨⟨a1, a2, a3, a4⟩, ⟨a5, a6⟩, a7, a8, a9, a10, a11, a12⟩, he2⟩ := qk he
        simp only [Option.some.injEq, Prod.mk.injEq] at he2
        obtain ⟨rfl, rfl⟩ := he2
        obtain ⟨rfl, hm⟩ := zj hm1
        subst a1; subst a2; subst a4; subst a7
        obtain ⟨N, rfl⟩ : ∃ N : Nat, n2 = N := ⟨n2.toNat, by omega⟩
        simp only [Int.toNat_natCast] at a5 a6 ⊢
        obtain ⟨hd, f1⟩ := qlx hd1
        obtain ⟨he', f2⟩ := qlx he1
        refine ⟨[(b1, 0), (b2, 0), (b3, 0), (b4, 0)], [.ptr 0 0, .ptr 1 0, .fn 145 [] [], .fn 146 [] [.ptr 2 0], .fn 147 [] [.ptr 3 0]], H4 N d e (List.replicate 16 0) 0, _, _, qld N d e hd he' a5 a6, by simp [AV.ren, AV.zl, ofL], by simp [vq],
          ⟨f1 _, f2 _, ⟨rfl, by rw [h3]; simp only [AO.ren, qd _ _ (qe _ _)]⟩, ⟨rfl, by rw [h4]; simp [AO.ren, AV.zl, AV.ren]⟩, trivial⟩, by simp [Ji, H4, AO.wr, a8, a9, a10, a11, a12], ⟨ql _ _ (qe _ _), ql _ _ (qe _ _), ql _ _ (qe _ _), ⟨trivial, trivial⟩, trivial⟩, by simp [AV.qy, AV.under, H4], by simp [AV.ren, AV.zl], ?_⟩
        simp [after, upd, AO.wr, AO.ren, H4, AV.zl, AV.ren, qd _ _ (qe _ _)]
      · cases he
    · cases he
  · cases he
noncomputable def B84 : zo := (B83.put 144 (V3))
theorem qom : qx Try.prog B84 := (qi0.put (qss))
theorem qcb : B84 145 = some (qj kb) := rfl
theorem qbm : B84 146 = some (Y0) := rfl
theorem qbr : B84 147 = some (bc) := rfl
theorem qbd : B84 144 = some (V3) := rfl
def qah : AT := (.one (oN 14 17 6) (.alt (oL 15 7) (.one (oS 17 4 14) (.one (oM 5 15) (.nil))) (.alt (oS 17 4 14) (.one (oL 15 7) (.one (oM 5 15) (.nil))) (.none))))
def qhu : AC := .seq (.region [o0 2 (.box (.t 0)),o0 3 (.box (.t 1)),o0 4 (.alloc [.int .i64 0,.int .u8 0,.int .u8 0,.int .u8 0,.int .u8 0,.int .u8 0,.int .u8 0,.int .u8 0,.int .u8 0,.int .u8 0,.int .u8 0,.int .u8 0,.int .u8 0,.int .u8 0,.int .u8 0,.int .u8 0,.int .u8 0]),oI 5 0]) (.seq (.region [oF 8 0 2,oL 9 8,o0 10 (.build [.int .i64 0,.int .u8 0,.int .u8 0,.int .u8 0,.int .u8 0,.int .u8 0,.int .u8 0,.int .u8 0,.int .u8 0,.int .u8 0,.int .u8 0,.int .u8 0,.int .u8 0,.int .u8 0,.int .u8 0,.int .u8 0,.int .u8 0] [(0,1,.t 9)]),o0 6 (.alloc [.int .i64 0,.int .u8 0,.int .u8 0,.int .u8 0,.int .u8 0,.int .u8 0,.int .u8 0,.int .u8 0,.int .u8 0,.int .u8 0,.int .u8 0,.int .u8 0,.int .u8 0,.int .u8 0,.int .u8 0,.int .u8 0,.int .u8 0]),o0 7 (.alloc [.int .i64 0]),oS 17 6 10,⟨none,none,.op (.Zq (.t 7) (.c (.int .i64 0)))⟩]) (.seq (.region [o0 11 (.qgz 146 [] [.t 6]),o0 12 (.qgz 147 [] [.t 7]),⟨some 13,none,.call (.c (.fn 144 [] [])) [.t 2,.t 3,(.c (.fn 145 [] [])),.t 11,.t 12]⟩]) (.seq (.tree false qah) .ret)))
theorem qsx : zk Try.prog 127 = some ⟨16, qhu, [.Qa 4 17, .slot 5]⟩ := by kernel_rfl
theorem qrb (N : Nat) (d e : List Nat) (hd : okD d) (he : okD e) (hds : isS N d = true) (hes : isS N e = true) :
    Am.Fn Try.prog 127 [.agg (dia N d), .agg (dia N e)] [] (fun v H' => v = .tup [.agg (dia N (jv N d e)), .int .i64 (lpN N d e N : Nat)] ∧ H' = []) := by
  refine Am.Fn.xj (R := fun v => v = _) qom mixed qsx (by simp) (by simp) ?_
  obtain ⟨hN, hpd, _⟩ := x9 hds
  have hdl := hd.1
  have hel := he.1
  have hdo := qp (n := (N : Int)) hd
  have heo := qp (n := (N : Int)) he
  have hzo := qp (n := (N : Int)) (m := List.replicate 16 0) ⟨by simp, fun y hy => by simp at hy; omega⟩
  have hN0 : (0 : Int) ≤ (N : Int) := by omega
  simp (maxSteps := 3000000) only [qh, zH, qhu, qcb, qbm, qbr, qbd, kb, bc, V3, Y0, rdD, zq, x6, Jz, qc, hdl, hel, vp, zi, z7 qv qv, List.length_replicate, qn hdl, qn hel, hdo, heo, hzo, hds, hes, hN0, Int.toNat_natCast, AV.one, and_self, true_and, and_true, Ne, not_false_iff, not_false_eq_true, Nat.reduceEqDiff, reduceCtorEq, List.all_nil, List.all_cons, List.map_nil, List.map_cons, Bool.and_self, iE, iN, iB, iC, iL, iD, iA, iS, iM, qa, zZ, ↓qm, ↓reduceIte, reduceCtorEq, nA, nM, nS, nE, nL, nD]; try simp only [qa, zY]
  have hp16 : (jv N d e).length = 16 := yg N d e N
  refine WA.qp5 qom (fun s => s = ⟨[(5, .int .i64 (lpN N d e N : Nat)), (4, .ptr 2 0)], [.cells (dia N d), .cells (dia N e), .cells (dia N (jv N d e)), .cells (dia N (jv N d e)), .cells [.int .i64 (lpN N d e N : Nat)]]⟩) ?_ ?_
  · unfold qah
    simp (maxSteps := 3000000) only [qh, zH, K9, qdz, qc, hp16, qn hp16, zi, z7 qv hp16, List.length_replicate, Nat.le_refl, AV.one, iE, iN, iB, iC, iL, iD, iA, iS, iM, qa, zZ, ↓qm, ↓reduceIte, reduceCtorEq, nA, nM, nS, nE, nL, nD]; try simp only [qa, zY]
    repeat' (with_reducible refine And.intro ?_ ?_)
    all_goals exact ⟨_, q6.qz [5, 4], rfl⟩
  rintro s rfl
  simp (maxSteps := 3000000) only [qh, zH, qc, hp16, qn hp16, iE, iN, iB, iC, iL, iD, iA, iS, iM, qa, zZ, ↓qm, ↓reduceIte, reduceCtorEq, nA, nM, nS, nE, nL, nD]; try simp only [qa, zY]
  simp only [qe, Bool.and_self]
noncomputable def B85 : zo := (B84.put 127 (qj vt))
theorem qpb : qx Try.prog B85 := (qom.put (qft qrb))
def W6 : AC := .seq (.region [oP 10 .lss 9 8]) (.seq (.cond 10 .skip (.exit 0)) (.seq (.block 1 (.region [oM 11 7,oM 12 0,oP 13 .mul 11 12,oM 14 2,oP 15 .rem 13 14,oM 7 15])) (.region [oK 16 .add 9 1,oM 9 16])))
def qa6 : AC := .seq (.region [oM 17 7,oM 6 17]) .ret
def qh0 : AC := .seq (.region [oI 6 0]) (.seq (.region [oI 7 1]) (.seq (.seq (.region [oM 8 1,oI 9 0]) (.block 0 (.loop W6))) qa6))
theorem qq6 : zk Try.prog 128 = some ⟨18, qh0, [.slot 6]⟩ := by kernel_rfl
theorem qq4 (p c : Int) (K : Nat) (hp : 2 ≤ p ∧ p ≤ 97) (hc : 0 ≤ c ∧ c ≤ p - 1) (hK : K ≤ 1000000) : Am.Fn Try.prog 128 [.int .i64 c, .int .i64 K, .int .i64 p] [] (fun v H' => v = .int .i64 (u4 p c K) ∧ H' = []) := by
  refine Am.Fn.xj (R := fun v => v = _) qpb mixed qq6 (by simp) (by simp) ?_
  have hne : p ≠ 0 := by omega
  simp (maxSteps := 3000000) only [qh, zH, qh0, hne, iE, iN, iB, iC, iL, iD, iA, iS, iM, qa, zZ, ↓qm, ↓reduceIte, reduceCtorEq, nA, nM, nS, nE, nL, nD]; try simp only [qa, zY]
  refine WA.jt qpb (fun s => ∃ j : Nat, j ≤ K ∧ s = ⟨[(9, .int .i64 j), (8, .int .i64 K), (7, .int .i64 (u4 p c j)), (0, .int .i64 c), (2, .int .i64 p)], []⟩)
    (fun s => match get s.env 9 with | .int _ x => K - x.toNat | _ => 0) ⟨_, q6.qz [9, 8, 7, 0, 2], 0, by omega, rfl⟩ ?_
  rintro s ⟨j, hj, rfl⟩
  by_cases hlt : j < K
  · have hli : (j : Int) < (K : Int) := by omega
    obtain ⟨m1, m2, m3, m4⟩ := pow_mul hp hc (qif (c := c) hp.1 j)
    have hw : qu .i64 ((j : Int) + 1) = ((j + 1 : Nat) : Int) := by rw [wrap64 (by omega) (by omega)]; rfl
    have hnext : (u4 p c j * c).emod p = u4 p c (j + 1) := rfl
    simp (maxSteps := 3000000) only [qh, zH, W6, hli, m1, m2, hw, hne, hnext, iE, iN, iB, iC, iL, iD, iA, iS, iM, qa, zZ, ↓qm, ↓reduceIte, reduceCtorEq, nA, nM, nS, nE, nL, nD]; try simp only [qa, zY]
    refine ⟨_, q6.qz [9, 8, 7, 0, 2], ⟨j + 1, by omega, ?_⟩, ?_⟩
    · simp only [zL, ↓reduceIte, reduceCtorEq, nE, nA]
    · simp only [zL, ↓reduceIte, reduceCtorEq, nE, nA]; omega
  · have hli : ¬ (j : Int) < (K : Int) := by omega
    obtain rfl : j = K := by omega
    simp (maxSteps := 3000000) only [qh, zH, W6, qa6, hli, Int.lt_irrefl, iE, iN, iB, iC, iL, iD, iA, iS, iM, qa, zZ, ↓qm, ↓reduceIte, reduceCtorEq, nA, nM, nS, nE, nL, nD]; try simp only [qa, zY]
def Vw : List AV → Option AV
  | [.int .i64 c, .int .i64 k, .int .i64 p] => chk (((2 ≤ p ∧ p ≤ 97) ∧ (0 ≤ c ∧ c ≤ p - 1)) ∧ 0 ≤ k ∧ k ≤ 1000000) (some (.int .i64 (u4 p c k.toNat)))
  | _ => none
theorem qx7 : Am.Callee Try.prog 128 (qj Vw) := Am.Callee.plain fun xs v he => by
  unfold Vw at he
  split at he
  · rename_i c k p
    obtain ⟨⟨⟨h1, h2⟩, h3⟩, he⟩ := qk he
    cases he
    obtain ⟨K, rfl⟩ : ∃ K : Nat, k = K := ⟨k.toNat, by omega⟩
    rw [Int.toNat_natCast]
    exact ⟨rfl, rfl, qq4 p c K h1 h2 (by omega)⟩
  · cases he
noncomputable def B86 : zo := (B85.put 128 (qj Vw))
theorem qe7 : qx Try.prog B86 := (qpb.put (qx7))
noncomputable def prT (p c n : Int) (t u : Int × List Nat × Int) : Int × List Nat × Int := (n, jv n.toNat t.2.1 u.2.1, (t.2.2 * u.2.2).emod p * u4 p c (lpN n.toNat t.2.1 u.2.1 n.toNat))
noncomputable def j4 (p c n : Int) (a b : List (Int × List Nat × Int)) : List (Int × List Nat × Int) := a.flatMap fun t => b.map (prT p c n t)
def MP (p n : Int) (l : List (Int × List Nat × Int)) : List (Int × List Nat × Int) := chP p n id (fun _ => 1) [] l
theorem qxg {p n : Int} {l : List (Int × List Nat × Int)} {t : Int × List Nat × Int} : MP p n (l ++ [t]) = yq p (MP p n l) n t.2.1 t.2.2 := by
  unfold MP chP; rw [List.foldl_append]; simp
theorem qh9 {p c n : Int} {a b : List (Int × List Nat × Int)} {i : Nat} (h : i < a.length) : j4 p c n (a.take (i + 1)) b = j4 p c n (a.take i) b ++ b.map (prT p c n a[i]) := by
  rw [List.take_succ_eq_append_getElem h, j4, List.flatMap_append]; simp [j4]
theorem qj1 {p c n : Int} {t : Int × List Nat × Int} {b : List (Int × List Nat × Int)} {j : Nat} (h : j < b.length) : (b.take (j + 1)).map (prT p c n t) = (b.take j).map (prT p c n t) ++ [prT p c n t b[j]] := by
  rw [List.take_succ_eq_append_getElem h, List.map_append]; rfl
theorem qo9 {p c n : Int} (hp : 2 ≤ p ∧ p ≤ 97) (hc : 0 ≤ c ∧ c ≤ p - 1) {t u : Int × List Nat × Int} (h1 : isS n.toNat t.2.1 = true) (h2 : isS n.toNat u.2.1 = true) (f1 : 1 ≤ t.2.2 ∧ t.2.2 ≤ p - 1) (f2 : 1 ≤ u.2.2 ∧ u.2.2 ≤ p - 1) :
    okD (prT p c n t u).2.1 ∧ isS n.toNat (prT p c n t u).2.1 = true ∧ 0 ≤ (prT p c n t u).2.2 ∧ (prT p c n t u).2.2 ≤ 9216 := by
  have h := qv1 h1 h2
  have hr : 0 ≤ (t.2.2 * u.2.2).emod p ∧ (t.2.2 * u.2.2).emod p ≤ p - 1 := ⟨Int.emod_nonneg _ (by omega), Int.le_sub_one_of_lt (Int.emod_lt_of_pos (t.2.2 * u.2.2) (show 0 < p by omega))⟩
  obtain ⟨_, _, m3, m4⟩ := pow_mul hp (qif (c := c) hp.1 (lpN n.toNat t.2.1 u.2.1 n.toNat)) hr
  exact ⟨h.2, h.1, m3, m4⟩
theorem qe1 {p c n : Int} (hp : 2 ≤ p ∧ p ≤ 97) (hc : 0 ≤ c ∧ c ≤ p - 1) {a b : List (Int × List Nat × Int)} (ha : j9 p n a) (hb : j9 p n b) : qsg n 10000 id (fun _ => 1) (j4 p c n a b) := fun t ht => by
  obtain ⟨x, hx, ht⟩ := List.mem_flatMap.1 ht
  obtain ⟨u, hu, rfl⟩ := List.mem_map.1 ht
  obtain ⟨h1, h2, h3, h4⟩ := qo9 (c := c) hp hc (ha.dia x hx).2 (hb.dia u hu).2 (ha.fac x hx) (hb.fac u hu)
  exact ⟨h1, h2, by show -10000 ≤ (prT p c n x u).2.2 * 1; omega, by show (prT p c n x u).2.2 * 1 ≤ 10000; omega⟩
theorem qmg {p c n : Int} {a b : List (Int × List Nat × Int)} {i j : Nat} (hi : i < a.length) {t : Int × List Nat × Int} (ht : t ∈ j4 p c n (a.take i) b ++ (b.take j).map (prT p c n a[i])) : t ∈ j4 p c n a b := by
  rcases List.mem_append.1 ht with h | h
  · obtain ⟨x, hx, h⟩ := List.mem_flatMap.1 h
    exact List.mem_flatMap.2 ⟨x, List.mem_of_mem_take hx, h⟩
  · obtain ⟨u, hu, rfl⟩ := List.mem_map.1 h
    exact List.mem_flatMap.2 ⟨_, List.getElem_mem hi, List.mem_map.2 ⟨u, List.mem_of_mem_take hu, rfl⟩⟩
theorem Up {p c n : Int} {a b : List (Int × List Nat × Int)} : (j4 p c n a b).length = a.length * b.length := by
  induction a with
  | nil => simp [j4]
  | cons x a ih =>
    have : j4 p c n (x :: a) b = b.map (prT p c n x) ++ j4 p c n a b := rfl
    rw [this, List.length_append, List.length_map, ih, List.length_cons, Nat.add_mul]; omega
theorem qsq {p c n : Int} (hp : 2 ≤ p ∧ p ≤ 97) (hc : 0 ≤ c ∧ c ≤ p - 1) {a b : List (Int × List Nat × Int)} (ha : j9 p n a) (hb : j9 p n b) (hl : a.length ≤ 300 ∧ b.length ≤ 300) {i j : Nat} (hi : i < a.length) :
    j9 p n (MP p n (j4 p c n (a.take i) b ++ (b.take j).map (prT p c n a[i]))) ∧ (MP p n (j4 p c n (a.take i) b ++ (b.take j).map (prT p c n a[i]))).length ≤ 100000 := by
  have h0 : j9 p n [] := ⟨(fun t h => by cases h), (fun t h => by cases h), (fun t h => by cases h), .nil⟩
  have h := Bm (p := p) (F := 10000) (φ := id) (κ := fun _ => 1) (by omega) h0 (a := j4 p c n (a.take i) b ++ (b.take j).map (prT p c n a[i])) fun t ht => qe1 (c := c) hp hc ha hb t (qmg hi ht)
  refine ⟨h.1, Nat.le_trans h.2 ?_⟩
  rw [List.length_nil, List.length_append, Up, List.length_map, List.length_take, List.length_take]
  have h1 : (min i a.length) * b.length ≤ 300 * 300 := Nat.mul_le_mul (by omega) hl.2
  omega
theorem je : B86 125 = some (qj vt) := rfl
theorem jd : B86 70 = some (xl) := rfl
theorem jf : B86 83 = some (qj Ym) := rfl
theorem j5 : B86 61 = some (Yu) := rfl
def Yt : AT := (.one (oF 28 3 2) (.one (oL 29 28) (.one (oM 30 6) (.one (oX 31 18 29 30) (.one (oF 32 0 31) (.one (oN 33 17 32) (.one (oF 34 3 3) (.one (oL 35 34) (.one (oM 36 7) (.one (oX 37 18 35 36) (.one (oF 38 0 37) (.one (oN 39 17 38) (.alt (oC 40 125 [.t 33,.t 39]) (.one (oM 27 40) (.one (oE 41 0 27) (.one (oE 42 1 27) (.one (o0 8 (.alloc [.int .i64 0,.int .u8 0,.int .u8 0,.int .u8 0,.int .u8 0,.int .u8 0,.int .u8 0,.int .u8 0,.int .u8 0,.int .u8 0,.int .u8 0,.int .u8 0,.int .u8 0,.int .u8 0,.int .u8 0,.int .u8 0,.int .u8 0])) (.one (oS 17 8 41) (.one (oM 9 42) (.nil))))))) (.alt (o0 8 (.alloc [.int .i64 0,.int .u8 0,.int .u8 0,.int .u8 0,.int .u8 0,.int .u8 0,.int .u8 0,.int .u8 0,.int .u8 0,.int .u8 0,.int .u8 0,.int .u8 0,.int .u8 0,.int .u8 0,.int .u8 0,.int .u8 0,.int .u8 0])) (.one (oC 40 125 [.t 33,.t 39]) (.one (oM 27 40) (.one (oE 41 0 27) (.one (oE 42 1 27) (.one (oS 17 8 41) (.one (oM 9 42) (.nil))))))) (.none)))))))))))))))
def Xo : AC := .seq (.draw true [oF 43 3 2,oL 44 43,oM 45 6,oX 46 18 44 45,oF 47 17 46,oL 48 47,oF 49 3 3,oL 50 49,oM 51 7,oX 52 18 50 51,oF 53 17 52,oL 54 53,oP 55 .mul 48 54,oF 56 0 2,oL 57 56,oP 58 .rem 55 57,oF 59 0 2,oL 60 59,oF 61 1 2,oL 62 61,oM 63 9,oC 64 83 [.t 60,.t 62,.t 63],oP 65 .mul 58 64,oM 10 65]) (.region [oF 66 0 2,oL 67 66,oF 68 3 5,oL 69 68,oN 70 17 8,oM 71 10,oC 72 61 [.t 67,.t 69,.t 70,.t 71],oF 73 3 5,oT 73 72])
def Xm : AC := .region [oM 25 7,oK 26 .add 25 1,oM 7 26]
def Xj : AC := .seq (.seq (.region [oM 20 7,oF 21 3 3,oL 22 21,o0 23 (.len .slc (.t 22)),oP 24 .lss 20 23]) (.cond 24 .skip (.exit 2))) (.seq (.block 3 (.seq (.tree false Yt) Xo)) Xm)
def Yv : AC := .region [oM 18 6,oK 19 .add 18 1,oM 6 19]
def Xk : AC := .seq (.seq (.region [oM 13 6,oF 14 3 2,oL 15 14,o0 16 (.len .slc (.t 15)),oP 17 .lss 13 16]) (.cond 17 .skip (.exit 0))) (.seq (.block 1 (.seq (.region [oI 7 0]) (.block 2 (.loop Xj)))) Yv)
def Y5 : AC := .seq (.region [oN 74 4 5,oS 4 4 74]) .ret
def qav : AC := .seq (.region [o0 2 (.box (.t 0)),o0 3 (.box (.t 1)),o0 4 (.alloc [.int .i64 0,.int .i64 0,.int .i64 0,(.v (.slice none 0 0))])]) (.seq (.region [oN 11 4 2,oC 12 70 [.t 11],o0 5 (.alloc [.int .i64 0,.int .i64 0,.int .i64 0,(.v (.slice none 0 0))]),oS 4 5 12]) (.seq (.seq (.region [oI 6 0]) (.block 0 (.loop Xk))) Y5))
theorem qjd : zk Try.prog 88 = some ⟨75, qav, [.Qa 4 4]⟩ := by kernel_rfl
theorem qie (p c n p' c' : Int) (a b : List (Int × List Nat × Int)) (hp : 2 ≤ p ∧ p ≤ 97) (hc : 0 ≤ c ∧ c ≤ p - 1) (hn : 0 ≤ n ∧ n ≤ 8) (ha : j9 p n a) (hb : j9 p n b) (hl : a.length ≤ 300 ∧ b.length ≤ 300) :
    Am.Fn Try.prog 88 [elemV p c n 0 a.length, elemV p' c' n 1 b.length] [.ro (qt a), .ro (qt b)] (fun v H' => v = elemV p c n 2 (MP p n (j4 p c n a b)).length ∧ H' = [.ro (qt a), .ro (qt b), .vec 18 (qt (MP p n (j4 p c n a b)))]) := by
  refine Am.Fn.ofB qe7 mixed qjd (by simp [elemV, AV.qy, AV.under]) (Jb (qb _) (qb _)) ?_
  have hal := qw ha.ok
  have hbl := qw hb.ok
  simp (maxSteps := 3000000) only [qh, zH, qav, je, jd, jf, j5, xl, Ym, Yu, vt, elemV, hal, hbl, iE, iN, iB, iC, iL, iD, iA, iS, iM, qa, zZ, ↓qm, ↓reduceIte, reduceCtorEq, nA, nM, nS, nE, nL, nD]; try simp only [qa, zY]
  refine ⟨rfl, ?_⟩
  refine WA.jt qe7 (fun s => ∃ (i : Nat) (acc : List (Int × List Nat × Int)), i ≤ a.length ∧ acc = MP p n (j4 p c n (a.take i) b) ∧
      s = ⟨[(6, .int .i64 i), (5, .ptr 5 0), (4, .ptr 4 0), (3, .ptr 3 0), (2, .ptr 2 0)], [.ro (qt a), .ro (qt b), .cells [.int .i64 p, .int .i64 c, .int .i64 n, .slc 0 0 a.length false 0], .cells [.int .i64 p', .int .i64 c', .int .i64 n, .slc 1 0 b.length false 0], qt3, .cells [.int .i64 p, .int .i64 c, .int .i64 n, .slc 6 0 acc.length false 0], .vec 18 (qt acc)]⟩)
    (fun s => match get s.env 6 with | .int _ x => a.length - x.toNat | _ => 0) ⟨_, q6.jn [0, 1, 2, 3, 4, 6, 5] [6, 5, 4, 3, 2] ⟨by decide, ?_⟩ ?_, 0, [], by omega, rfl, ?_⟩ ?_
  · simp only [qg _ _ (qb _), zK, ↓reduceIte, reduceCtorEq, nE, nB, nA]
  · simp only [qg _ _ (qb _), zK, ↓reduceIte, reduceCtorEq, nE, nB, nA]
  · simp only [qd _ _ (qb _), zL, ↓reduceIte, reduceCtorEq, nE, nA]
    rfl
  rintro s ⟨i, acc, hi, hacc, rfl⟩
  have hwi : qu .i64 ((i : Int) + 1) = ((i + 1 : Nat) : Int) := by rw [wrap64 (by omega) (by omega)]; rfl
  by_cases hlt : i < a.length
  · have hli : (i : Int) < a.length := by omega
    have hli' : (0 : Int) ≤ i := by omega
    simp (maxSteps := 3000000) only [qh, zH, Xk, je, jd, jf, j5, xl, Ym, Yu, vt, hli, iE, iN, iB, iC, iL, iD, iA, iS, iM, qa, zZ, ↓qm, ↓reduceIte, reduceCtorEq, nA, nM, nS, nE, nL, nD]; try simp only [qa, zY]
    have ea : MP p n (j4 p c n (a.take i) b) = MP p n (j4 p c n (a.take i) b ++ (b.take 0).map (prT p c n a[i])) := by simp
    rw [ea] at hacc
    refine WA.jt qe7 (fun s => ∃ (j : Nat) (acc : List (Int × List Nat × Int)), j ≤ b.length ∧ acc = MP p n (j4 p c n (a.take i) b ++ (b.take j).map (prT p c n a[i])) ∧
        s = ⟨[(7, .int .i64 j), (6, .int .i64 i), (5, .ptr 5 0), (4, .ptr 4 0), (3, .ptr 3 0), (2, .ptr 2 0)], [.ro (qt a), .ro (qt b), .cells [.int .i64 p, .int .i64 c, .int .i64 n, .slc 0 0 a.length false 0], .cells [.int .i64 p', .int .i64 c', .int .i64 n, .slc 1 0 b.length false 0], qt3, .cells [.int .i64 p, .int .i64 c, .int .i64 n, .slc 6 0 acc.length false 0], .vec 18 (qt acc)]⟩)
      (fun s => match get s.env 7 with | .int _ x => b.length - x.toNat | _ => 0) ⟨_, q6.qz [7, 6, 5, 4, 3, 2], 0, acc, by omega, hacc, rfl⟩ ?_
    clear hacc
    rintro s ⟨j, acc, hj, hacc, rfl⟩
    by_cases hltj : j < b.length
    · have hg := qsq hp hc ha hb hl (j := j) hlt
      rw [← hacc] at hg
      have hlj : (j : Int) < b.length := by omega
      have hlj' : (0 : Int) ≤ j := by omega
      have hw : qu .i64 ((j : Int) + 1) = ((j + 1 : Nat) : Int) := by rw [wrap64 (by omega) (by omega)]; rfl
      have hd1 := kn ha.ok hlt
      have hf1 := K4 ha.ok hlt
      have hd2 := kn hb.ok hltj
      have hf2 := K4 hb.ok hltj
      have ok1 := ha.ok _ (List.getElem_mem hlt)
      have ok2 := hb.ok _ (List.getElem_mem hltj)
      have z1 := ha.dia _ (List.getElem_mem hlt)
      have z2 := hb.dia _ (List.getElem_mem hltj)
      have c1 := ha.fac _ (List.getElem_mem hlt)
      have c2 := hb.fac _ (List.getElem_mem hltj)
      obtain ⟨t1, t2, t3, t4⟩ := qo9 (c := c) hp hc z1.2 z2.2 c1 c2
      rw [z1.1] at hd1
      rw [z2.1] at hd2
      have hnext : MP p n (j4 p c n (a.take i) b ++ (b.take (j + 1)).map (prT p c n a[i])) = yq p acc n (prT p c n a[i] b[j]).2.1 (prT p c n a[i] b[j]).2.2 := by
        rw [qj1 hltj, ← List.append_assoc, qxg, ← hacc]
      have s1 := z1.2
      have s2 := z2.2
      have hprd : (prT p c n a[i] b[j]).2.1 = jv n.toNat a[i].2.1 b[j].2.1 := rfl
      have hprf : (prT p c n a[i] b[j]).2.2 = (a[i].2.2 * b[j].2.2).emod p * u4 p c (lpN n.toNat a[i].2.1 b[j].2.1 n.toNat) := rfl
      rw [hprd, hprf] at hnext
      rw [hprd] at t1 t2
      rw [hprf] at t3 t4
      have hlpb : (0 : Int) ≤ ((lpN n.toNat a[i].2.1 b[j].2.1 n.toNat : Nat) : Int) ∧ ((lpN n.toNat a[i].2.1 b[j].2.1 n.toNat : Nat) : Int) ≤ 1000000 := by
        have := qf3 n.toNat a[i].2.1 b[j].2.1 n.toNat; omega
      clear hprd hprf z1 z2
      generalize a[i].2.1 = m1 at hd1 ok1 s1 t1 t2 t3 t4 hlpb hnext
      generalize a[i].2.2 = f1 at hf1 c1 t3 t4 hnext
      generalize b[j].2.1 = m2 at hd2 ok2 s2 t1 t2 t3 t4 hlpb hnext
      generalize b[j].2.2 = f2 at hf2 c2 t3 t4 hnext
      obtain ⟨w1, w2, w3, w4⟩ := pow_mul (p := p) (c := f2) (x := f1) hp (by omega) (by omega)
      have w5 : qu .i64 ((f1 * f2).emod p * u4 p c (lpN n.toNat m1 m2 n.toNat)) = (f1 * f2).emod p * u4 p c (lpN n.toNat m1 m2 n.toNat) := wrap64 (by omega) (by omega)
      have hne : p ≠ 0 := by omega
      have hb1 : i * 18 < a.length * 18 := by omega
      have hb2 : i * 18 + 17 ≤ a.length * 18 := by omega
      have hb3 : i * 18 + 17 < a.length * 18 := by omega
      have hb4 : j * 18 < b.length * 18 := by omega
      have hb5 : j * 18 + 17 ≤ b.length * 18 := by omega
      have hb6 : j * 18 + 17 < b.length * 18 := by omega
      have hfit := hg.1.fit (by omega) (by omega)
      have hacl := qw hg.1.ok
      have hpp : 0 < p ∧ p ≤ 1000000 := by omega
      have hn0 : 0 ≤ n := hn.1
      have t0 := t1.1
      simp (maxSteps := 3000000) only [qh, zH, Xj, je, jd, jf, j5, xl, Ym, Yu, vt, hlj, hbl, iE, iN, iB, iC, iL, iD, iA, iS, iM, qa, zZ, ↓qm, ↓reduceIte, reduceCtorEq, nA, nM, nS, nE, nL, nD]; try simp only [qa, zY]
      refine WA.qp5 qe7 (fun s => s = ⟨[(9, .int .i64 (lpN n.toNat m1 m2 n.toNat : Nat)), (8, .ptr 7 0), (7, .int .i64 j), (6, .int .i64 i), (5, .ptr 5 0), (4, .ptr 4 0), (3, .ptr 3 0), (2, .ptr 2 0)], [.ro (qt a), .ro (qt b), .cells [.int .i64 p, .int .i64 c, .int .i64 n, .slc 0 0 a.length false 0], .cells [.int .i64 p', .int .i64 c', .int .i64 n, .slc 1 0 b.length false 0], qt3, .cells [.int .i64 p, .int .i64 c, .int .i64 n, .slc 6 0 acc.length false 0], .vec 18 (qt acc), .cells (dia n (jv n.toNat m1 m2))]⟩) ?_ ?_
      · unfold Yt
        simp (maxSteps := 3000000) only [qh, zH, K9, qdz, je, jd, jf, j5, xl, Ym, Yu, vt, hli, hli', hlj, hlj', hal, hbl, hb1, hb2, hb3, hb4, hb5, hb6, hd1, hd2, qp ok1, qp ok2, s1, s2, hn0, zq, x6, yx t0, qc, t0, zi, List.length_replicate, Nat.le_refl, and_self, iE, iN, iB, iC, iL, iD, iA, iS, iM, qa, zZ, ↓qm, ↓reduceIte, reduceCtorEq, nA, nM, nS, nE, nL, nD]; try simp only [qa, zY]
        repeat' first | (with_reducible exact ⟨_, rfl⟩) | (exact rfl) | (with_reducible refine And.intro ?_ ?_)
        all_goals exact ⟨_, q6.qz [9, 8, 7, 6, 5, 4, 3, 2], rfl⟩
      rintro s rfl
      by_cases hz : ((f1 * f2).emod p * u4 p c (lpN n.toNat m1 m2 n.toNat)).emod p = 0
      · simp (maxSteps := 3000000) only [qh, zH, Xo, Xm, je, jd, jf, j5, xl, Ym, Yu, vt, hli, hli', hlj, hlj', hal, hbl, hb1, hb2, hb3, hb4, hb5, hb6, hf1, hf2, w1, w2, w5, hne, hp, hc, hlpb, Int.toNat_natCast, hw, jq hg.1.ok, qp t1, hacl, hpp, hn, qc, t0, qn t0, hfit, hz, and_self, iE, iN, iB, iC, iL, iD, iA, iS, iM, qa, zZ, ↓qm, ↓reduceIte, reduceCtorEq, nA, nM, nS, nE, nL, nD]; try simp only [qa, zY]
        refine ⟨⟨_, rfl⟩, rfl, _, q6.jn [0, 1, 2, 3, 4, 5, 6] [7, 6, 5, 4, 3, 2] ⟨by decide, ?_⟩ ?_, ⟨j + 1, acc, by omega, by rw [hnext, qan, if_pos hz], ?_⟩, ?_⟩
        · simp only [qg _ _ (qb _), zK, ↓reduceIte, reduceCtorEq, nE, nB, nA]
        · simp only [qg _ _ (qb _), zK, ↓reduceIte, reduceCtorEq, nE, nB, nA]
        · simp only [qd _ _ (qb _), zL, ↓reduceIte, reduceCtorEq, nE, nA]
        · simp only [zL, ↓reduceIte, reduceCtorEq, nE, nA]; omega
      · simp (maxSteps := 3000000) only [qh, zH, Xo, Xm, je, jd, jf, j5, xl, Ym, Yu, vt, hli, hli', hlj, hlj', hal, hbl, hb1, hb2, hb3, hb4, hb5, hb6, hf1, hf2, w1, w2, w5, hne, hp, hc, hlpb, Int.toNat_natCast, hw, jq hg.1.ok, qp t1, hacl, hpp, hn, qc, t0, qn t0, hfit, hz, and_self, iE, iN, iB, iC, iL, iD, iA, iS, iM, qa, zZ, ↓qm, ↓reduceIte, reduceCtorEq, nA, nM, nS, nE, nL, nD]; try simp only [qa, zY]
        refine ⟨⟨_, rfl⟩, rfl, _, q6.jn [0, 1, 2, 3, 4, 5, 8] [7, 6, 5, 4, 3, 2] ⟨by decide, ?_⟩ ?_, ⟨j + 1, yq p acc n (jv n.toNat m1 m2) ((f1 * f2).emod p * u4 p c (lpN n.toNat m1 m2 n.toNat)), by omega, hnext.symm, ?_⟩, ?_⟩
        · simp only [qg _ _ (qb _), zK, ↓reduceIte, reduceCtorEq, nE, nB, nA]
        · simp only [qg _ _ (qb _), zK, ↓reduceIte, reduceCtorEq, nE, nB, nA]
        · simp only [qd _ _ (qb _), zL, ↓reduceIte, reduceCtorEq, nE, nA]
        · simp only [zL, ↓reduceIte, reduceCtorEq, nE, nA]; omega
    · have hlj : ¬ ((j : Int) < b.length) := by omega
      obtain rfl : j = b.length := by omega
      simp (maxSteps := 3000000) only [qh, zH, Xj, Yv, je, jd, jf, j5, xl, Ym, Yu, vt, hlj, hwi, hbl, Int.lt_irrefl, iE, iN, iB, iC, iL, iD, iA, iS, iM, qa, zZ, ↓qm, ↓reduceIte, reduceCtorEq, nA, nM, nS, nE, nL, nD]; try simp only [qa, zY]
      refine ⟨_, q6.qz [6, 5, 4, 3, 2], ⟨i + 1, acc, by omega, by rw [hacc, List.take_length, qh9 hlt], rfl⟩, ?_⟩
      simp only [zL, ↓reduceIte, reduceCtorEq, nE, nA]; omega
  · have hli : ¬ ((i : Int) < a.length) := by omega
    obtain rfl : i = a.length := by omega
    rw [List.take_length] at hacc
    subst hacc
    simp (maxSteps := 3000000) only [qh, zH, Xk, Y5, je, jd, jf, j5, xl, Ym, Yu, vt, hli, Int.lt_irrefl, iE, iN, iB, iC, iL, iD, iA, iS, iM, qa, zZ, ↓qm, ↓reduceIte, reduceCtorEq, nA, nM, nS, nE, nL, nD]; try simp only [qa, zY]
    refine ⟨rfl, ?_⟩
    refine Ret.jn [0, 1, 6] ⟨⟨by simp, rfl, by decide⟩, ?_⟩ (rs := [.agg [.int .i64 p, .int .i64 c, .int .i64 n, .slc 6 0 (MP p n (j4 p c n a b)).length false 0]]) rfl rfl (by simp [z6]) ?_ ⟨?_, ?_⟩
    · simp only [qg _ _ (qb _), zK, ↓reduceIte, reduceCtorEq, nE, nB, nA]
    · intro j l; match j with
      | 0 => simp [zb, AO.ren]
      | 1 => simp [zb, AO.ren]
      | 2 => simp [zb, AO.ren]
      | j + 3 => simp [zb]
    · simp only [z6]
      simp only [zL, ↓reduceIte, reduceCtorEq, nE, nA]
    · simp only [qd _ _ (qb _), zL, ↓reduceIte, reduceCtorEq, nE, nA]
noncomputable def Xz : BE := fun hp xs => match xs with
  | [.agg [.int .i64 p, .int .i64 c, .int .i64 n, .slc b 0 la false 0], .agg [.int .i64 p', .int .i64 c', .int .i64 n', .slc b' 0 lb false 0]] => match rd hp b, rd hp b' with
    | some L, some L' => match Jt la L, Jt lb L' with
      | some ta, some tb => chk ((((2 ≤ p ∧ p ≤ 97) ∧ (0 ≤ c ∧ c ≤ p - 1) ∧ (0 ≤ n ∧ n ≤ 8) ∧ n' = n) ∧ qfx p n ta ∧ qfx p n tb) ∧ (ta.length ≤ 300 ∧ tb.length ≤ 300)) (some (elemV p c n hp.length (MP p n (j4 p c n ta tb)).length, hp ++ [.vec 18 (qt (MP p n (j4 p c n ta tb)))]))
      | _, _ => none
    | _, _ => none
  | _ => none
theorem qkd {f : FuncId} (hf : ∀ (p c n p' c' : Int) (a b : List (Int × List Nat × Int)), 2 ≤ p ∧ p ≤ 97 → 0 ≤ c ∧ c ≤ p - 1 → 0 ≤ n ∧ n ≤ 8 → j9 p n a → j9 p n b → a.length ≤ 300 ∧ b.length ≤ 300 →
    Am.Fn Try.prog f [elemV p c n 0 a.length, elemV p' c' n 1 b.length] [.ro (qt a), .ro (qt b)] (fun v H' => v = elemV p c n 2 (MP p n (j4 p c n a b)).length ∧ H' = [.ro (qt a), .ro (qt b), .vec 18 (qt (MP p n (j4 p c n a b)))])) : Am.Callee Try.prog f Xz := Callee.fp fun hp xs v hp' he => by
  unfold Xz at he
  split at he
  · rename_i p c n b la p' c' n' b' lb
    split at he
    · rename_i L L' hL hL'
      split at he
      · rename_i ta tb h1 h1'
        obtain ⟨⟨⟨⟨a1, a0, a2, a3⟩, a4, a5⟩, a6⟩, he2⟩ := qk he
        simp only [Option.some.injEq, Prod.mk.injEq] at he2
        obtain ⟨rfl, rfl⟩ := he2
        obtain ⟨e1, e2, e3, e4⟩ := j2 h1
        obtain ⟨f1, f2, f3, f4⟩ := j2 h1'
        have g1 := qw e2
        have g2 := qw f2
        subst a3
        refine ⟨[(b, 0), (b', 0)], [elemV p c n' 0 ta.length, elemV p' c' n' 1 tb.length], _, _, _, hf p c n' p' c' ta tb a1 a0 a2 (a4.q1a e2) (a5.q1a f2) a6, by simp [elemV, AV.ren, AV.zl, ofL, e1, f1], rfl,
          ⟨⟨L, hL, by omega, by rw [List.drop_zero, qd _ _ (qb _), g1, e1]; exact e3⟩, ⟨L', hL', by omega, by rw [List.drop_zero, qd _ _ (qb _), g2, f1]; exact f3⟩, trivial⟩, rfl,
          ⟨ql _ _ (qb _), ql _ _ (qb _), trivial⟩, ⟨⟨trivial, trivial, trivial, by simp [AV.under], trivial⟩, ⟨trivial, trivial, trivial, by simp [AV.under], trivial⟩, trivial⟩, by simp [elemV, AV.ren, AV.zl, Ren.ext], ?_⟩
        simp [after, upd, AO.wr, AO.ren, qd _ _ (qb _)]
      · cases he
    · cases he
  · cases he
noncomputable def B87 : zo := (B86.put 88 (Xz))
theorem qik : qx Try.prog B87 := (qe7.put (qkd qie))
end Go.Proofs.Ytkgoadglalpbfaa

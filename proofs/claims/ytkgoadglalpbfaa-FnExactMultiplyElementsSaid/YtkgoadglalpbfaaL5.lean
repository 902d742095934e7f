/- Contracts: round the loops of two diagrams, the implementation. -/
import Derived.Test.YtkgoadglalpbfaaL4
namespace Go.Proofs.Ytkgoadglalpbfaa
open Go.Am Go.Dia
open Nat renaming reduceAdd → nA, reduceMul → nM, reduceSub → nS, reduceEqDiff → nE, reduceLT → nL, reduceLeDiff → nD, reduceBEq → nB
open Int renaming reduceEq → iE, reduceNe → iN, reduceBEq → iB, reduceBNe → iC, reduceLT → iL, reduceLE → iD, reduceAdd → iA, reduceSub → iS, reduceMul → iM
set_option linter.unusedSimpArgs false
set_option linter.unusedVariables false
set_option maxRecDepth 4000
set_option maxHeartbeats 1000000
theorem u3 : B82 115 = some (Zm 1 g_n) := rfl
theorem gb : B82 145 = some (qu gp) := rfl
def InA (n : Nat) (d e : List Nat) (i x : Nat) (met : List Bool) : Prop :=
  met.length = 8 ∧ ((x = i ∧ ∀ y, mt met y ↔ Seen n d e i y) ∨ ∃ (T : Nat → Prop) (last : Nat), qb1 (XX n d e) (em e) (dm n d) i T last ∧ x = dm n d last ∧ ¬ T x ∧ ∀ y, mt met y ↔ Seen n d e i y ∨ (T y ∧ y ≠ i) ∨ y = x)
def InB (n : Nat) (d e : List Nat) (i y : Nat) (met : List Bool) : Prop :=
  met.length = 8 ∧ ∃ (T : Nat → Prop), qb1 (XX n d e) (em e) (dm n d) i T y ∧ ∀ z, mt met z ↔ Seen n d e i z ∨ (T z ∧ z ≠ i)
theorem qr6 {n : Nat} {d e : List Nat} (hd : isS n d = true) (he : isS n e = true) (hn : n ≤ 8) {i x : Nat} {met : List Bool} (hi : i < n) (h0 : ¬ Seen n d e i i) (h : InA n d e i x met) :
    XX n d e x ∧ XX n d e (em e x) ∧ em e x ≠ i ∧ ¬ mt met (em e x) ∧ InB n d e i (em e x) (met.set (em e x) true) := by
  have hX : XX n d e i := ⟨hi, fun h => h0 (.inl h)⟩
  have hf := Bz hd he
  have hg := By hd he
  obtain ⟨hl, ⟨rfl, hm⟩ | ⟨T, last, hT, rfl, hTx, hm⟩⟩ := h
  · have h1 := hf.mem _ hX
    have h2 : ¬ mt met (em e x) := fun h => Wm hd he hi h0 (.two .base) ((hm _).1 h)
    have h3 := hf.fix _ hX
    refine ⟨hX, h1, h3, h2, by rw [List.length_set]; exact hl, _, qb1.start hf hX, fun z => ?_⟩
    rw [bf (by have := h1.1; omega), hm]
    constructor
    · rintro (rfl | h)
      · exact .inr ⟨.inr rfl, h3⟩
      · exact .inl h
    · rintro (h | ⟨h | h, h'⟩)
      · exact .inr h
      · exact absurd h h'
      · exact .inl h
  · have hr := hT.ring _ hT.lm
    have h0' := hg.mem _ (Ring.mem hf hg hX hr)
    have h1 := hf.mem _ h0'
    obtain ⟨n1, n2, n3⟩ := hT.next hf hg hX hTx
    have h3 : em e (dm n d last) ≠ i := fun h => n2 (by rw [h]; exact hT.m0)
    have h4 : dm n d last ≠ i := fun h => hTx (by rw [h]; exact hT.m0)
    have h2 : ¬ mt met (em e (dm n d last)) := fun h => by
      rcases (hm _).1 h with h | ⟨h, _⟩ | h
      · exact Wm hd he hi h0 (Ring.swap (.one (.two hr))) h
      · exact n2 h
      · exact n3 h
    refine ⟨h0', h1, h3, h2, by rw [List.length_set]; exact hl, _, n1, fun z => ?_⟩
    rw [bf (by have := h1.1; omega), hm]
    constructor
    · rintro (rfl | h | ⟨h, h'⟩ | rfl)
      · exact .inr ⟨.inr (.inl rfl), h3⟩
      · exact .inl h
      · exact .inr ⟨.inr (.inr h), h'⟩
      · exact .inr ⟨.inl rfl, h4⟩
    · rintro (h | ⟨h | h | h, h'⟩)
      · exact .inr (.inl h)
      · exact .inr (.inr (.inr h))
      · exact .inl h
      · exact .inr (.inr (.inl ⟨h, h'⟩))
theorem qq1 {n : Nat} {d e : List Nat} (hd : isS n d = true) (he : isS n e = true) (hn : n ≤ 8) {i y : Nat} {met : List Bool} (hi : i < n) (h0 : ¬ Seen n d e i i) (h : InB n d e i y met) :
    XX n d e y ∧ XX n d e (dm n d y) ∧ (dm n d y = i → ∀ z, mt (met.set i true) z ↔ Seen n d e i z ∨ Ring (dm n d) (em e) i z) ∧ (dm n d y ≠ i → ¬ mt met (dm n d y) ∧ InA n d e i (dm n d y) (met.set (dm n d y) true)) := by
  have hX : XX n d e i := ⟨hi, fun h => h0 (.inl h)⟩
  have hf := Bz hd he
  have hg := By hd he
  obtain ⟨hl, T, hT, hm⟩ := h
  have hr := hT.ring _ hT.lm
  have hy := Ring.mem hf hg hX hr
  have h1 := hg.mem _ hy
  refine ⟨hy, h1, fun hk z => ?_, fun hk => ?_⟩
  · have hs := (hT.stop hf hg hX (by rw [hk]; exact hT.m0)).2
    rw [bf (by omega), hm]
    constructor
    · rintro (rfl | h | ⟨h, _⟩)
      · exact .inr .base
      · exact .inl h
      · exact .inr (Ring.swap ((hs _).1 h))
    · rintro (h | h)
      · exact .inr (.inl h)
      · by_cases e1 : z = i
        · exact .inl e1
        · exact .inr (.inr ⟨(hs _).2 (Ring.swap h), e1⟩)
  · have hnT : ¬ T (dm n d y) := fun h => hk (hT.stop hf hg hX h).1
    refine ⟨fun h => ?_, by rw [List.length_set]; exact hl, .inr ⟨T, y, hT, rfl, hnT, fun z => ?_⟩⟩
    · rcases (hm _).1 h with h | ⟨h, _⟩
      · exact Wm hd he hi h0 (Ring.swap (.two hr)) h
      · exact hnT h
    · rw [bf (by have := h1.1; omega), hm]
      constructor
      · rintro (h | h | h)
        · exact .inr (.inr h)
        · exact .inl h
        · exact .inr (.inl h)
      · rintro (h | h | h)
        · exact .inr (.inl h)
        · exact .inr (.inr h)
        · exact .inl h
open Classical in
noncomputable def Yu (n : Nat) (d e : List Nat) (i : Nat) (met : List Bool) : List Bool := (List.range 8).map fun z => decide (mt met z ∨ Ring (dm n d) (em e) i z)
theorem qsj {n : Nat} {d e : List Nat} {i : Nat} {met : List Bool} {z : Nat} (hz : z < 8) : mt (Yu n d e i met) z ↔ mt met z ∨ Ring (dm n d) (em e) i z := by
  conv => lhs; unfold mt Yu
  simp [List.getD_eq_getElem?_getD, hz]
theorem qtm {n : Nat} {d e : List Nat} {i : Nat} {met met' : List Bool} (hl : met'.length = 8) (h : ∀ z, mt met' z ↔ mt met z ∨ Ring (dm n d) (em e) i z) : met' = Yu n d e i met := by
  apply List.ext_getElem
  · simp [Yu, hl]
  · intro z h1 h2
    have h3 := h z
    have h4 : mt met' z ↔ met'[z] = true := by simp [mt, List.getD_eq_getElem?_getD, h1]
    simp only [Yu, List.getElem_map, List.getElem_range]
    rw [Bool.eq_iff_iff, ← h4, h3]
    simp
theorem qlq (N : Nat) (d e : List Nat) (hd : okD d) (he : okD e) (hds : isS N d = true) (hes : isS N e = true) {i : Nat} {met : List Bool} (hi : i < N) (hm0 : met.length = 8) (hmt : ∀ x, mt met x ↔ Seen N d e i x) (h0 : ¬ Seen N d e i i) :
    Am.Fn Try.prog 155 [.ptr 0 0, .bool true, .int .i64 i, .int .i64 i] (H3 N d e met) (fun v H' => v = .int .i64 (-1) ∧ H' = H3 N d e (Yu N d e i met)) := by
  refine Am.Fn.ofB qcy mixed V0 (by simp [AV.q7, AV.under, H3]) qh6 ?_
  obtain ⟨hN, hpd, _⟩ := ji hds
  obtain ⟨_, hpe, _⟩ := ji hes
  have hdl := hd.1
  have hel := he.1
  unfold H3
  simp (maxSteps := 3000000) only [qf, zH, Za, u3, gb, gp, g_n, ye, Qn, Qy, hm0, qe, hdl, hel, vu, Gn, iE, iN, iB, iC, iL, iD, iA, iS, iM, qb, zZ, ↓qp, ↓reduceIte, reduceCtorEq, nA, nM, nS, nE, nL, nD]; try simp only [qb, zY]
  refine qq4 qcy (fun k st => (∃ (x : Nat) (mm : List Bool), k = Ql (bls mm) ∧ InA N d e i x mm ∧ st = ⟨[(9, .int .i64 N), (0, .ptr 0 0), (1, .bool true), (2, .int .i64 x), (3, .int .i64 i)], [.cells (stk 1 2 mm), .ro (dia N d), .ro (dia N e)]⟩) ∨
      ∃ (y : Nat) (mm : List Bool), k = Ql (bls mm) ∧ InB N d e i y mm ∧ st = ⟨[(9, .int .i64 N), (0, .ptr 0 0), (1, .bool false), (2, .int .i64 (N + y : Nat)), (3, .int .i64 i)], [.cells (stk 1 2 mm), .ro (dia N d), .ro (dia N e)]⟩)
    ⟨_, qz.zc [9, 0, 1, 2, 3], _, .inl ⟨i, met, rfl, ⟨hm0, .inl ⟨rfl, hmt⟩⟩, rfl⟩⟩ ?_
  have hN0 : (N : Int) ≠ 0 := by omega
  rintro k st (⟨x, mm, rfl, hA, rfl⟩ | ⟨y, mm, rfl, hB, rfl⟩) post hpost
  · obtain ⟨x1, x2, x3, x4, x5⟩ := qr6 hds hes hN.2 hi h0 hA
    have hm := hA.1
    obtain ⟨z1, z2, z3⟩ := qfo hds hes x1
    have hxk := x1.1
    have hex : em e x = e.getD x 0 := rfl
    obtain ⟨hi16, hi16'⟩ := Xl (show x < 16 by omega)
    have hi17 : x < 16 := by omega
    have hcx : q8 .i64 ((e.getD x 0 : Nat) : Int) = ((e.getD x 0 : Nat) : Int) := yk (by omega)
    have hdx := Xn (n := (N : Int)) (m := e) (i := x) (by omega)
    have hli : ((N : Int) ≤ ((e.getD x 0 : Nat) : Int)) ↔ False := iff_false_intro (by omega)
    have hrem := qnh (N := N) (x := e.getD x 0) z3
    have hadd : q8 .i64 ((N : Int) + ((e.getD x 0 : Nat) : Int)) = ((N + e.getD x 0 : Nat) : Int) := by rw [wrap64 (by omega) (by omega)]; rfl
    have h8 := J0 (show e.getD x 0 < 8 by omega)
    have h8' : e.getD x 0 < 8 := by omega
    have h10 : 2 + e.getD x 0 < 8 + 3 := by omega
    have hst : (((e.getD x 0 : Nat) : Int) == (i : Int)) = false := by rw [beq_eq_false_iff_ne]; rw [hex] at x3; omega
    simp (maxSteps := 3000000) only [qf, zH, x7, u3, gb, gp, g_n, Bool.not_true, Bool.not_false, ye, Qn, Qy, Q2 hm, Ke hm h8', hm, qe, hdl, hel, hi16, hi16', hi17, hcx, hdx, hli, decide_false, decide_true, beq_self_eq_true, Bool.true_beq, Bool.false_beq, hrem, hadd, h8, h8', h10, hN0, hst, AV.one, iE, iN, iB, iC, iL, iD, iA, iS, iM, qb, zZ, ↓qp, ↓reduceIte, reduceCtorEq, nA, nM, nS, nE, nL, nD]; try simp only [qb, zY]
    have hlt := V4 (met := mm) (k := em e x) (by have := x2.1; omega) (by cases h : mm.getD (em e x) false with
      | false => rfl
      | true => exact absurd h x4)
    exact hpost _ _ _ (qz.zc [9, 0, 1, 2, 3]) (.inr ⟨em e x, _, rfl, x5, rfl⟩) hlt
  · obtain ⟨y1, y2, y3, y4⟩ := qq1 hds hes hN.2 hi h0 hB
    have hm := hB.1
    obtain ⟨z1, z2, z3⟩ := qfo hds hes y1
    have hyk := y1.1
    have hdy : dm N d y = d.getD (N + y) 0 - N := rfl
    obtain ⟨hi16, hi16'⟩ := Xl (show N + y < 16 by omega)
    have hi17 : N + y < 16 := by omega
    have hcx : q8 .i64 ((d.getD (N + y) 0 : Nat) : Int) = ((d.getD (N + y) 0 : Nat) : Int) := yk (by omega)
    have hdx := Xn (n := (N : Int)) (m := d) (i := N + y) (by omega)
    have hli : ((N : Int) ≤ ((d.getD (N + y) 0 : Nat) : Int)) ↔ True := iff_true_intro (by omega)
    have hrem := qn5 (N := N) (x := d.getD (N + y) 0) (by omega) (by omega)
    have h8 := J0 (show d.getD (N + y) 0 - N < 8 by omega)
    have h8' : d.getD (N + y) 0 - N < 8 := by omega
    have h10 : 2 + (d.getD (N + y) 0 - N) < 8 + 3 := by omega
    by_cases hk : dm N d y = i
    · have hst : ((((d.getD (N + y) 0 - N : Nat) : Int)) == (i : Int)) = true := by rw [beq_iff_eq]; omega
      simp (maxSteps := 3000000) only [qf, zH, x7, u3, gb, gp, g_n, Bool.not_true, Bool.not_false, ye, Qn, Qy, Q2 hm, Ke hm h8', hm, qe, hdl, hel, hi16, hi16', hi17, hcx, hdx, hli, decide_false, decide_true, beq_self_eq_true, Bool.true_beq, Bool.false_beq, hrem, h8, h8', h10, hN0, hst, AV.one, iE, iN, iB, iC, iL, iD, iA, iS, iM, qb, zZ, ↓qp, ↓reduceIte, reduceCtorEq, nA, nM, nS, nE, nL, nD]; try simp only [qb, zY]
      have hL : mm.set (d.getD (N + y) 0 - N) true = Yu N d e i met := qtm (by rw [List.length_set]; exact hm) fun z => by
        rw [show d.getD (N + y) 0 - N = i from hk, y3 hk, hmt]
      refine Ret.zw [0, 1, 2] ⟨⟨by simp, rfl, by decide⟩, ?_⟩ (rs := [.int .i64 (-1)]) rfl rfl (by simp [xc]) ?_ ⟨?_, ?_⟩
      · simp only [qc _ _ (qh _ _), Gp, zK, ↓reduceIte, reduceCtorEq, nE, nB, nA]
      · exact ro3
      · rfl
      · simp only [qd _ _ (qh _ _), Vw, zL, ↓reduceIte, reduceCtorEq, nE, nA]
        rw [hL]; rfl
    · have hst : ((((d.getD (N + y) 0 - N : Nat) : Int)) == (i : Int)) = false := by rw [beq_eq_false_iff_ne]; omega
      obtain ⟨q1, q2⟩ := y4 hk
      simp (maxSteps := 3000000) only [qf, zH, x7, u3, gb, gp, g_n, Bool.not_true, Bool.not_false, ye, Qn, Qy, Q2 hm, Ke hm h8', hm, qe, hdl, hel, hi16, hi16', hi17, hcx, hdx, hli, decide_false, decide_true, beq_self_eq_true, Bool.true_beq, Bool.false_beq, hrem, h8, h8', h10, hN0, hst, AV.one, iE, iN, iB, iC, iL, iD, iA, iS, iM, qb, zZ, ↓qp, ↓reduceIte, reduceCtorEq, nA, nM, nS, nE, nL, nD]; try simp only [qb, zY]
      have hlt := V4 (met := mm) (k := dm N d y) (by have := y2.1; omega) (by cases h : mm.getD (dm N d y) false with
        | false => rfl
        | true => exact absurd h q1)
      exact hpost _ _ _ (qz.zc [9, 0, 1, 2, 3]) (.inl ⟨dm N d y, _, rfl, q2, rfl⟩) hlt
end Go.Proofs.Ytkgoadglalpbfaa

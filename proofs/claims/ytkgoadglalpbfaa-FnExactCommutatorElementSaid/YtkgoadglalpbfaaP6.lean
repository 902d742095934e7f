/- Contracts: round the loops of two diagrams, the implementation. Contracts: stack.follow as a callee. Contracts: products of diagrams, the implementation. Contracts: products of diagrams, the implementation, as callees. Contracts: powers of a number, the implementation. Contracts: products of elements, the reference. Plain laws of elements: sums kept below the modulus. Contracts: products of elements, the implementation. Contracts: products of elements. -/
import Derived.Test.YtkgoadglalpbfaaP5
namespace Go.Proofs.Ytkgoadglalpbfaa
open Go.Am Go.Dia
open Nat renaming reduceAdd → nA, reduceMul → nM, reduceSub → nS, reduceEqDiff → nE, reduceLT → nL, reduceLeDiff → nD, reduceBEq → nB
open Int renaming reduceEq → iE, reduceNe → iN, reduceBEq → iB, reduceBNe → iC, reduceLT → iL, reduceLE → iD, reduceAdd → iA, reduceSub → iS, reduceMul → iM
set_option linter.unusedSimpArgs false
set_option linter.unusedVariables false
set_option maxRecDepth 4000
set_option maxHeartbeats 1000000
theorem bo : B82 115 = some (Xi 1 g_n) := rfl
theorem kq : B82 145 = some (qu ky) := rfl
def InA (n : Nat) (d e : List Nat) (i x : Nat) (met : List Bool) : Prop :=
  met.length = 8 ∧ ((x = i ∧ ∀ y, mt met y ↔ Seen n d e i y) ∨ ∃ (T : Nat → Prop) (last : Nat), qdj (XX n d e) (em e) (dm n d) i T last ∧ x = dm n d last ∧ ¬ T x ∧ ∀ y, mt met y ↔ Seen n d e i y ∨ (T y ∧ y ≠ i) ∨ y = x)
def InB (n : Nat) (d e : List Nat) (i y : Nat) (met : List Bool) : Prop :=
  met.length = 8 ∧ ∃ (T : Nat → Prop), qdj (XX n d e) (em e) (dm n d) i T y ∧ ∀ z, mt met z ↔ Seen n d e i z ∨ (T z ∧ z ≠ i)
theorem qvr {n : Nat} {d e : List Nat} (hd : isS n d = true) (he : isS n e = true) (hn : n ≤ 8) {i x : Nat} {met : List Bool} (hi : i < n) (h0 : ¬ Seen n d e i i) (h : InA n d e i x met) :
    XX n d e x ∧ XX n d e (em e x) ∧ em e x ≠ i ∧ ¬ mt met (em e x) ∧ InB n d e i (em e x) (met.set (em e x) true) := by
  have hX : XX n d e i := ⟨hi, fun h => h0 (.inl h)⟩
  have hf := Kx hd he
  have hg := Km hd he
  obtain ⟨hl, ⟨rfl, hm⟩ | ⟨T, last, hT, rfl, hTx, hm⟩⟩ := h
  · have h1 := hf.mem _ hX
    have h2 : ¬ mt met (em e x) := fun h => Yt hd he hi h0 (.two .base) ((hm _).1 h)
    have h3 := hf.fix _ hX
    refine ⟨hX, h1, h3, h2, by rw [List.length_set]; exact hl, _, qdj.start hf hX, fun z => ?_⟩
    rw [gg (by have := h1.1; omega), hm]
    constructor
    · rintro (rfl | h)
      · exact .inr ⟨.inr rfl, h3⟩
      · exact .inl h
    · rintro (h | ⟨h | h, h'⟩)
      · exact .inr h
      · exact absurd h h'
      · exact .inl h
  · have hr := hT.ring _ hT.lm
    have h0' := hg.mem _ (Ring.mem hf hg hX hr)
    have h1 := hf.mem _ h0'
    obtain ⟨n1, n2, n3⟩ := hT.next hf hg hX hTx
    have h3 : em e (dm n d last) ≠ i := fun h => n2 (by rw [h]; exact hT.m0)
    have h4 : dm n d last ≠ i := fun h => hTx (by rw [h]; exact hT.m0)
    have h2 : ¬ mt met (em e (dm n d last)) := fun h => by
      rcases (hm _).1 h with h | ⟨h, _⟩ | h
      · exact Yt hd he hi h0 (Ring.swap (.one (.two hr))) h
      · exact n2 h
      · exact n3 h
    refine ⟨h0', h1, h3, h2, by rw [List.length_set]; exact hl, _, n1, fun z => ?_⟩
    rw [gg (by have := h1.1; omega), hm]
    constructor
    · rintro (rfl | h | ⟨h, h'⟩ | rfl)
      · exact .inr ⟨.inr (.inl rfl), h3⟩
      · exact .inl h
      · exact .inr ⟨.inr (.inr h), h'⟩
      · exact .inr ⟨.inl rfl, h4⟩
    · rintro (h | ⟨h | h | h, h'⟩)
      · exact .inr (.inl h)
      · exact .inr (.inr (.inr h))
      · exact .inl h
      · exact .inr (.inr (.inl ⟨h, h'⟩))
theorem qsx {n : Nat} {d e : List Nat} (hd : isS n d = true) (he : isS n e = true) (hn : n ≤ 8) {i y : Nat} {met : List Bool} (hi : i < n) (h0 : ¬ Seen n d e i i) (h : InB n d e i y met) :
    XX n d e y ∧ XX n d e (dm n d y) ∧ (dm n d y = i → ∀ z, mt (met.set i true) z ↔ Seen n d e i z ∨ Ring (dm n d) (em e) i z) ∧ (dm n d y ≠ i → ¬ mt met (dm n d y) ∧ InA n d e i (dm n d y) (met.set (dm n d y) true)) := by
  have hX : XX n d e i := ⟨hi, fun h => h0 (.inl h)⟩
  have hf := Kx hd he
  have hg := Km hd he
  obtain ⟨hl, T, hT, hm⟩ := h
  have hr := hT.ring _ hT.lm
  have hy := Ring.mem hf hg hX hr
  have h1 := hg.mem _ hy
  refine ⟨hy, h1, fun hk z => ?_, fun hk => ?_⟩
  · have hs := (hT.stop hf hg hX (by rw [hk]; exact hT.m0)).2
    rw [gg (by omega), hm]
    constructor
    · rintro (rfl | h | ⟨h, _⟩)
      · exact .inr .base
      · exact .inl h
      · exact .inr (Ring.swap ((hs _).1 h))
    · rintro (h | h)
      · exact .inr (.inl h)
      · by_cases e1 : z = i
        · exact .inl e1
        · exact .inr (.inr ⟨(hs _).2 (Ring.swap h), e1⟩)
  · have hnT : ¬ T (dm n d y) := fun h => hk (hT.stop hf hg hX h).1
    refine ⟨fun h => ?_, by rw [List.length_set]; exact hl, .inr ⟨T, y, hT, rfl, hnT, fun z => ?_⟩⟩
    · rcases (hm _).1 h with h | ⟨h, _⟩
      · exact Yt hd he hi h0 (Ring.swap (.two hr)) h
      · exact hnT h
    · rw [gg (by have := h1.1; omega), hm]
      constructor
      · rintro (h | h | h)
        · exact .inr (.inr h)
        · exact .inl h
        · exact .inr (.inl h)
      · rintro (h | h | h)
        · exact .inr (.inl h)
        · exact .inr (.inr h)
        · exact .inl h
open Classical in
noncomputable def Bb (n : Nat) (d e : List Nat) (i : Nat) (met : List Bool) : List Bool := (List.range 8).map fun z => decide (mt met z ∨ Ring (dm n d) (em e) i z)
theorem qv6 {n : Nat} {d e : List Nat} {i : Nat} {met : List Bool} {z : Nat} (hz : z < 8) : mt (Bb n d e i met) z ↔ mt met z ∨ Ring (dm n d) (em e) i z := by
  conv => lhs; unfold mt Bb
  simp [List.getD_eq_getElem?_getD, hz]
theorem qto {n : Nat} {d e : List Nat} {i : Nat} {met met' : List Bool} (hl : met'.length = 8) (h : ∀ z, mt met' z ↔ mt met z ∨ Ring (dm n d) (em e) i z) : met' = Bb n d e i met := by
  apply List.ext_getElem
  · simp [Bb, hl]
  · intro z h1 h2
    have h3 := h z
    have h4 : mt met' z ↔ met'[z] = true := by simp [mt, List.getD_eq_getElem?_getD, h1]
    simp only [Bb, List.getElem_map, List.getElem_range]
    rw [Bool.eq_iff_iff, ← h4, h3]
    simp
theorem qm8 (N : Nat) (d e : List Nat) (hd : okD d) (he : okD e) (hds : isS N d = true) (hes : isS N e = true) {i : Nat} {met : List Bool} (hi : i < N) (hm0 : met.length = 8) (hmt : ∀ x, mt met x ↔ Seen N d e i x) (h0 : ¬ Seen N d e i i) :
    Am.Fn Try.prog 155 [.ptr 0 0, .bool true, .int .i64 i, .int .i64 i] (H3 N d e met) (fun v H' => v = .int .i64 (-1) ∧ H' = H3 N d e (Bb N d e i met)) := by
  refine Am.Fn.ofB qft mixed Wi (by simp [AV.q8, AV.under, H3]) qkz ?_
  obtain ⟨hN, hpd, _⟩ := jw hds
  obtain ⟨_, hpe, _⟩ := jw hes
  have hdl := hd.1
  have hel := he.1
  unfold H3
  simp (maxSteps := 3000000) only [qf, zH, Z3, bo, kq, ky, g_n, yq, Zj, Za, hm0, qe, hdl, hel, wm, Kn, iE, iN, iB, iC, iL, iD, iA, iS, iM, qa, zZ, ↓qp, ↓reduceIte, reduceCtorEq, nA, nM, nS, nE, nL, nD]; try simp only [qa, zY]
  refine qs9 qft (fun k st => (∃ (x : Nat) (mm : List Bool), k = Zf (bls mm) ∧ InA N d e i x mm ∧ st = ⟨[(9, .int .i64 N), (0, .ptr 0 0), (1, .bool true), (2, .int .i64 x), (3, .int .i64 i)], [.cells (stk 1 2 mm), .ro (dia N d), .ro (dia N e)]⟩) ∨
      ∃ (y : Nat) (mm : List Bool), k = Zf (bls mm) ∧ InB N d e i y mm ∧ st = ⟨[(9, .int .i64 N), (0, .ptr 0 0), (1, .bool false), (2, .int .i64 (N + y : Nat)), (3, .int .i64 i)], [.cells (stk 1 2 mm), .ro (dia N d), .ro (dia N e)]⟩)
    ⟨_, q6.za [9, 0, 1, 2, 3], _, .inl ⟨i, met, rfl, ⟨hm0, .inl ⟨rfl, hmt⟩⟩, rfl⟩⟩ ?_
  have hN0 : (N : Int) ≠ 0 := by omega
  rintro k st (⟨x, mm, rfl, hA, rfl⟩ | ⟨y, mm, rfl, hB, rfl⟩) post hpost
  · obtain ⟨x1, x2, x3, x4, x5⟩ := qvr hds hes hN.2 hi h0 hA
    have hm := hA.1
    obtain ⟨z1, z2, z3⟩ := qhb hds hes x1
    have hxk := x1.1
    have hex : em e x = e.getD x 0 := rfl
    obtain ⟨hi16, hi16'⟩ := Jf (show x < 16 by omega)
    have hi17 : x < 16 := by omega
    have hcx : q7 .i64 ((e.getD x 0 : Nat) : Int) = ((e.getD x 0 : Nat) : Int) := ue (by omega)
    have hdx := Jg (n := (N : Int)) (m := e) (i := x) (by omega)
    have hli : ((N : Int) ≤ ((e.getD x 0 : Nat) : Int)) ↔ False := iff_false_intro (by omega)
    have hrem := qp7 (N := N) (x := e.getD x 0) z3
    have hadd : q7 .i64 ((N : Int) + ((e.getD x 0 : Nat) : Int)) = ((N + e.getD x 0 : Nat) : Int) := by rw [wrap64 (by omega) (by omega)]; rfl
    have h8 := Vx (show e.getD x 0 < 8 by omega)
    have h8' : e.getD x 0 < 8 := by omega
    have h10 : 2 + e.getD x 0 < 8 + 3 := by omega
    have hst : (((e.getD x 0 : Nat) : Int) == (i : Int)) = false := by rw [beq_eq_false_iff_ne]; rw [hex] at x3; omega
    simp (maxSteps := 3000000) only [qf, zH, ji, bo, kq, ky, g_n, Bool.not_true, Bool.not_false, yq, Zj, Za, Z1 hm, K8 hm h8', hm, qe, hdl, hel, hi16, hi16', hi17, hcx, hdx, hli, decide_false, decide_true, beq_self_eq_true, Bool.true_beq, Bool.false_beq, hrem, hadd, h8, h8', h10, hN0, hst, AV.one, iE, iN, iB, iC, iL, iD, iA, iS, iM, qa, zZ, ↓qp, ↓reduceIte, reduceCtorEq, nA, nM, nS, nE, nL, nD]; try simp only [qa, zY]
    have hlt := Yk (met := mm) (k := em e x) (by have := x2.1; omega) (by cases h : mm.getD (em e x) false with
      | false => rfl
      | true => exact absurd h x4)
    exact hpost _ _ _ (q6.za [9, 0, 1, 2, 3]) (.inr ⟨em e x, _, rfl, x5, rfl⟩) hlt
  · obtain ⟨y1, y2, y3, y4⟩ := qsx hds hes hN.2 hi h0 hB
    have hm := hB.1
    obtain ⟨z1, z2, z3⟩ := qhb hds hes y1
    have hyk := y1.1
    have hdy : dm N d y = d.getD (N + y) 0 - N := rfl
    obtain ⟨hi16, hi16'⟩ := Jf (show N + y < 16 by omega)
    have hi17 : N + y < 16 := by omega
    have hcx : q7 .i64 ((d.getD (N + y) 0 : Nat) : Int) = ((d.getD (N + y) 0 : Nat) : Int) := ue (by omega)
    have hdx := Jg (n := (N : Int)) (m := d) (i := N + y) (by omega)
    have hli : ((N : Int) ≤ ((d.getD (N + y) 0 : Nat) : Int)) ↔ True := iff_true_intro (by omega)
    have hrem := qp6 (N := N) (x := d.getD (N + y) 0) (by omega) (by omega)
    have h8 := Vx (show d.getD (N + y) 0 - N < 8 by omega)
    have h8' : d.getD (N + y) 0 - N < 8 := by omega
    have h10 : 2 + (d.getD (N + y) 0 - N) < 8 + 3 := by omega
    by_cases hk : dm N d y = i
    · have hst : ((((d.getD (N + y) 0 - N : Nat) : Int)) == (i : Int)) = true := by rw [beq_iff_eq]; omega
      simp (maxSteps := 3000000) only [qf, zH, ji, bo, kq, ky, g_n, Bool.not_true, Bool.not_false, yq, Zj, Za, Z1 hm, K8 hm h8', hm, qe, hdl, hel, hi16, hi16', hi17, hcx, hdx, hli, decide_false, decide_true, beq_self_eq_true, Bool.true_beq, Bool.false_beq, hrem, h8, h8', h10, hN0, hst, AV.one, iE, iN, iB, iC, iL, iD, iA, iS, iM, qa, zZ, ↓qp, ↓reduceIte, reduceCtorEq, nA, nM, nS, nE, nL, nD]; try simp only [qa, zY]
      have hL : mm.set (d.getD (N + y) 0 - N) true = Bb N d e i met := qto (by rw [List.length_set]; exact hm) fun z => by
        rw [show d.getD (N + y) 0 - N = i from hk, y3 hk, hmt]
      refine Ret.xy [0, 1, 2] ⟨⟨by simp, rfl, by decide⟩, ?_⟩ (rs := [.int .i64 (-1)]) rfl rfl (by simp [xj]) ?_ ⟨?_, ?_⟩
      · simp only [qd _ _ (qh _ _), Kc, zK, ↓reduceIte, reduceCtorEq, nE, nB, nA]
      · exact ro3
      · rfl
      · simp only [qc _ _ (qh _ _), Wd, zL, ↓reduceIte, reduceCtorEq, nE, nA]
        rw [hL]; rfl
    · have hst : ((((d.getD (N + y) 0 - N : Nat) : Int)) == (i : Int)) = false := by rw [beq_eq_false_iff_ne]; omega
      obtain ⟨q1, q2⟩ := y4 hk
      simp (maxSteps := 3000000) only [qf, zH, ji, bo, kq, ky, g_n, Bool.not_true, Bool.not_false, yq, Zj, Za, Z1 hm, K8 hm h8', hm, qe, hdl, hel, hi16, hi16', hi17, hcx, hdx, hli, decide_false, decide_true, beq_self_eq_true, Bool.true_beq, Bool.false_beq, hrem, h8, h8', h10, hN0, hst, AV.one, iE, iN, iB, iC, iL, iD, iA, iS, iM, qa, zZ, ↓qp, ↓reduceIte, reduceCtorEq, nA, nM, nS, nE, nL, nD]; try simp only [qa, zY]
      have hlt := Yk (met := mm) (k := dm N d y) (by have := y2.1; omega) (by cases h : mm.getD (dm N d y) false with
        | false => rfl
        | true => exact absurd h q1)
      exact hpost _ _ _ (q6.za [9, 0, 1, 2, 3]) (.inl ⟨dm N d y, _, rfl, q2, rfl⟩) hlt
def qmz : List AV → Option (Nat × Nat × List Bool)
  | .ptr a 0 :: .ptr b 0 :: rest => match Vn (rest.take 8), rest.drop 8 with
    | some met, [.fn 145 [] []] => chk (met.length = 8) (some (a, b, met))
    | _, _ => none
  | _ => none
theorem qbs {a b : Nat} {met : List Bool} (h : met.length = 8) : qmz (stk a b met) = some (a, b, met) := by
  have h1 : (bls met).length = 8 := by rw [w9, h]
  have h2 : List.take 8 (bls met ++ [.fn 145 [] []]) = bls met := List.take_left' h1
  have h3 : List.drop 8 (bls met ++ [.fn 145 [] []]) = [.fn 145 [] []] := List.drop_left' h1
  simp only [stk, qmz, h2, h3, U2, chk, h, if_true]
theorem qn2 {l : List AV} {a b : Nat} {met : List Bool} (h : qmz l = some (a, b, met)) : l = stk a b met ∧ met.length = 8 := by
  unfold qmz at h
  split at h
  · rename_i a' b' rest
    split at h
    · rename_i met' h1 h2
      obtain ⟨h3, h4⟩ := qo h
      simp only [Option.some.injEq, Prod.mk.injEq] at h4
      obtain ⟨rfl, rfl, rfl⟩ := h4
      refine ⟨?_, h3⟩
      have h5 := Yc h1
      conv => lhs; rw [← List.take_append_drop 8 rest, h5, h2]
      rfl
    · cases h
  · cases h
def rdD (hp : List AO) (b : Nat) : Option (Int × List Nat) := match rd hp b with
  | some L => gq (L.take 17)
  | none => none
open Classical in
noncomputable def gb : BE := fun hp xs => match xs with
  | [.ptr b 0, .bool w, .int .i64 i, .int .i64 st] => match hp[b]? with
    | some (.cells l) => match qmz l with
      | some (b1, b2, met) => match rdD hp b1, rdD hp b2 with
        | some (n, d), some (n', e) => chk ((n' = n ∧ 0 ≤ n) ∧ (isS n.toNat d = true ∧ isS n.toNat e = true) ∧ b1 ≠ b ∧ b2 ≠ b)
          (if st = -1 then chk ((0 ≤ i ∧ i < 2 * n) ∧ w = decide (n ≤ i)) (some (.int .i64 (pr n.toNat d e i.toNat : Nat), hp.set b (.cells (stk b1 b2 (fol n.toNat d e (!w) i.toNat met)))))
          else chk ((st = i ∧ w = true ∧ 0 ≤ i ∧ i < n) ∧ (∀ x, mt met x ↔ Seen n.toNat d e i.toNat x) ∧ ¬ Seen n.toNat d e i.toNat i.toNat) (some (.int .i64 (-1), hp.set b (.cells (stk b1 b2 (Bb n.toNat d e i.toNat met))))))
        | _, _ => none
      | none => none
    | _ => none
  | _ => none
open Classical in
theorem qrt : Am.Callee Try.prog 155 gb := Callee.fp fun hp xs v hp' he => by
  unfold gb at he
  split at he
  · rename_i b w i st
    split at he
    · rename_i l hb
      split at he
      · rename_i b1 b2 met hs1
        obtain ⟨rfl, hm⟩ := qn2 hs1
        split at he
        · rename_i n d n' e hd1 he1
          obtain ⟨⟨⟨a1, a2⟩, ⟨a3, a4⟩, a5, a6⟩, he2⟩ := qo he
          subst a1
          obtain ⟨N, rfl⟩ : ∃ N : Nat, n' = N := ⟨n'.toNat, by omega⟩
          simp only [Int.toNat_natCast] at a3 a4 he2
          have rdd : ∀ {b : Nat} {m : List Nat}, rdD hp b = some ((N : Int), m) → okD m ∧ Fits hp (ofL [(b, 0)]) b 0 (.ro (dia N m)) ∧ ∃ L, rd hp b = some L ∧ 17 ≤ L.length ∧ L.take 17 = dia N m := fun {b m} h => by
            unfold rdD at h
            split at h
            · rename_i L hL
              obtain ⟨e1, hok⟩ := xk h
              have hlen : (dia (N : Int) m).length = 17 := by rw [qe, hok.1]
              have hLl : 17 ≤ L.length := by
                have := congrArg List.length e1
                rw [hlen, List.length_take] at this
                omega
              exact ⟨hok, ⟨L, hL, by rw [hlen]; omega, by rw [List.drop_zero, qc _ _ (qh _ _), hlen]; exact e1⟩, L, hL, hLl, e1⟩
            · cases h
          obtain ⟨hd, _, L1, r1, r2, r3⟩ := rdd hd1
          obtain ⟨he', _, L2, q1, q2, q3⟩ := rdd he1
          have hlen : ∀ {m : List Nat}, okD m → (dia (N : Int) m).length = 17 := fun h => by rw [qe, h.1]
          have hfit : Uw hp (ofL [(b, 0), (b1, 0), (b2, 0)]) [(b, 0), (b1, 0), (b2, 0)] (H3 N d e met) :=
            ⟨⟨rfl, by rw [hb]; simp only [AO.ren, Wd]; simp [AV.ren, ofL, stk]⟩, ⟨L1, r1, by rw [hlen hd]; omega, by rw [List.drop_zero, qc _ _ (qh _ _), hlen hd]; exact r3⟩, ⟨L2, q1, by rw [hlen he']; omega, by rw [List.drop_zero, qc _ _ (qh _ _), hlen he']; exact q3⟩, trivial⟩
          have hap : ∀ met, Va [(b, 0), (b1, 0), (b2, 0)] (H3 N d e met) = true := fun met => by simp [Va, H3, AO.wr, a5, a6]
          have hun : ∀ met, AO.K3 3 (H3 N d e met) := fun met => ⟨qhr (by omega) (by omega), qk _ _ (qh _ _), qk _ _ (qh _ _), trivial⟩
          split at he2
          · rename_i hst
            subst hst
            obtain ⟨⟨⟨c1, c2⟩, c3⟩, he3⟩ := qo he2
            simp only [Option.some.injEq, Prod.mk.injEq] at he3
            obtain ⟨rfl, rfl⟩ := he3
            obtain ⟨k, rfl⟩ : ∃ k : Nat, i = k := ⟨i.toNat, by omega⟩
            simp only [Int.toNat_natCast]
            have hw : w = !decide (k < N) := by
              rw [c3, Bool.eq_iff_iff]; simp
            obtain ⟨f, met', hf⟩ := V8 a3 a4 (i := k) (by omega) met
            have hfo := qfl hf
            subst hw
            rw [Bool.not_not, hfo]
            refine ⟨[(b, 0), (b1, 0), (b2, 0)], [.ptr 0 0, .bool (!decide (k < N)), .int .i64 k, .int .i64 (-1)], H3 N d e met, _, _, qnf N d e hd he' a3 a4 hf (by omega) hm, by simp [AV.ren, AV.zz, ofL], by simp [vn], hfit, hap met, hun met, ⟨by simp [AV.under, H3], trivial, trivial, trivial, trivial⟩, by simp [AV.ren, AV.zz], ?_⟩
            simp [after, upd, AO.wr, AO.ren, H3, Wd, AV.ren, qc _ _ (qh _ _)]
            simp [Ren.ext, ofL, stk]
          · obtain ⟨⟨⟨c1, c2, c3, c4⟩, c5, c6⟩, he3⟩ := qo he2
            simp only [Option.some.injEq, Prod.mk.injEq] at he3
            obtain ⟨rfl, rfl⟩ := he3
            subst c1; subst c2
            obtain ⟨k, rfl⟩ : ∃ k : Nat, st = k := ⟨st.toNat, by omega⟩
            simp only [Int.toNat_natCast] at c5 c6 ⊢
            refine ⟨[(b, 0), (b1, 0), (b2, 0)], [.ptr 0 0, .bool true, .int .i64 k, .int .i64 k], H3 N d e met, _, _, qm8 N d e hd he' a3 a4 (by omega) hm c5 c6, by simp [AV.ren, AV.zz, ofL], by simp [vn], hfit, hap met, hun met, ⟨by simp [AV.under, H3], trivial, trivial, trivial, trivial⟩, by simp [AV.ren, AV.zz], ?_⟩
            simp [after, upd, AO.wr, AO.ren, H3, Wd, AV.ren, qc _ _ (qh _ _)]
            simp [Ren.ext, ofL, stk]
        · cases he
      · cases he
    · cases he
  · cases he
noncomputable def B83 : xh := (B82.put 155 (gb))
theorem qjd : zf Try.prog B83 := (qft.put (qrt))
def H4 (N : Nat) (d e m : List Nat) (k : Nat) : List AO := [.ro (dia N d), .ro (dia N e), .cells (dia N m), .cells [.int .i64 k]]
theorem qs4 {N : Nat} {d e m : List Nat} {k n : Nat} : ∀ (j : Nat) (o : AO), (H4 N d e m k)[j]? = some o → o.under n := fun j o hj => by
  match j, hj with
  | 0, hj => cases hj; exact qk _ _ (qh _ _)
  | 1, hj => cases hj; exact qk _ _ (qh _ _)
  | 2, hj => cases hj; exact qk _ _ (qh _ _)
  | 3, hj => cases hj; exact ⟨trivial, trivial⟩
  | j + 4, hj => simp [H4] at hj
theorem qjc {m : List Nat} (h : okD m) {i x : Nat} (hx : x < 256) : okD (m.set i x) := by
  refine ⟨by rw [List.length_set]; exact h.1, fun y hy => ?_⟩
  rcases List.mem_or_eq_of_mem_set hy with h1 | rfl
  · exact h.2 y h1
  · exact hx
theorem qby {n : Nat} {d e : List Nat} (hd : isS n d = true) (he : isS n e = true) : ∀ {k : Nat}, k ≤ n → okD (Wc n d e k)
  | 0, _ => ⟨by simp [Wc], fun y hy => by simp [Wc] at hy; omega⟩
  | k + 1, hk => by
    obtain ⟨hn, _⟩ := jw hd
    have h1 := qco hd he (i := k) (by omega)
    have h2 := qco hd he (i := n + k) (by omega)
    exact qjc (qjc (qby hd he (by omega)) (by omega)) (by omega)
theorem v7 : B83 115 = some (Xi 1 g_n) := rfl
theorem j4 : B83 155 = some (gb) := rfl
theorem yi : B83 146 = some (Ub) := rfl
theorem yj : B83 147 = some (b8) := rfl
def J4 : AC := .seq (.region [oP 23 .lss 22 21]) (.seq (.cond 23 .skip (.exit 0)) (.seq (.block 1 (.seq (.region [oM 24 22,oM 12 24]) (.seq (.region [oM 25 3,oM 26 12,oM 27 11,oM 28 12,oC 29 155 [.t 27,(.c (.bool false)),.t 28,(.c (.int .i64 (-1)))],⟨some 30,none,.call (.t 25) [.t 26,.t 29]⟩]) (.region [oM 31 3,oM 32 10,oM 33 12,oP 34 .add 32 33,oM 35 11,oM 36 10,oM 37 12,oP 38 .add 36 37,oC 39 155 [.t 35,(.c (.bool true)),.t 38,(.c (.int .i64 (-1)))],⟨some 40,none,.call (.t 31) [.t 34,.t 39]⟩])))) (.region [oK 41 .add 22 1,oM 22 41])))
def Zk : AC := .seq (.region [oP 44 .lss 43 42]) (.seq (.cond 44 .skip (.exit 2)) (.seq (.block 3 (.seq (.region [oM 45 43,oM 13 45]) (.seq (.region [oM 46 11,oM 47 13,o0 48 (.vr (.t 46)),oF 49 2 48,o0 50 (.jl 8 1 (.t 49) (.t 47)),oL 51 50,o0 52 (.un .not (.t 51))]) (.cond 52 (.seq (.region [oM 53 11,oM 54 13,oM 55 13,oC 56 155 [.t 53,(.c (.bool true)),.t 54,.t 55]]) (.region [oM 57 4,⟨some 58,none,.call (.t 57) []⟩])) .skip)))) (.region [oK 59 .add 43 1,oM 43 59])))
def Bc : AC := .seq (.region [oM 42 10,oI 43 0]) (.block 2 (.loop Zk))
def qc3 : AC := .seq (.region [oM 14 0,oC 15 115 [.t 14],oM 10 15]) (.seq (.region [oM 16 0,oM 17 1,oM 18 2,o0 19 (.build [(.v (.pointer none)),(.v (.pointer none)),(.bool false),(.bool false),(.bool false),(.bool false),(.bool false),(.bool false),(.bool false),(.bool false),(.v .nilFunc)] [(0,1,.t 16),(1,1,.t 17),(10,1,.t 18)]),o0 20 (.box (.t 19)),oM 11 20]) (.seq (.seq (.region [oM 21 10,oI 22 0]) (.block 0 (.loop J4))) Bc))
theorem qjy : xa Try.prog 144 = some ⟨60, qc3, []⟩ := by kernel_rfl
theorem qmp (N : Nat) (d e : List Nat) (hd : okD d) (he : okD e) (hds : isS N d = true) (hes : isS N e = true) :
    Am.Fn Try.prog 144 [.ptr 0 0, .ptr 1 0, .fn 145 [] [], .fn 146 [] [.ptr 2 0], .fn 147 [] [.ptr 3 0]] (H4 N d e (List.replicate 16 0) 0) (fun v H' => v = .tup [] ∧ H' = H4 N d e (vo N d e) (lpN N d e N)) := by
  refine Am.Fn.ofB qjd mixed qjy (by simp [AV.q8, AV.under, H4]) qs4 ?_
  obtain ⟨hN, hpd, _⟩ := jw hds
  obtain ⟨_, hpe, _⟩ := jw hes
  have hdl := hd.1
  have hel := he.1
  have o1 : over [AV.v (.pointer none), .v (.pointer none), .bool false, .bool false, .bool false, .bool false, .bool false, .bool false, .bool false, .bool false, .v .nilFunc] 0 [.ptr 0 0] = [.ptr 0 0, .v (.pointer none), .bool false, .bool false, .bool false, .bool false, .bool false, .bool false, .bool false, .bool false, .v .nilFunc] := rfl
  have o2 : over [AV.ptr 0 0, .v (.pointer none), .bool false, .bool false, .bool false, .bool false, .bool false, .bool false, .bool false, .bool false, .v .nilFunc] 1 [.ptr 1 0] = [.ptr 0 0, .ptr 1 0, .bool false, .bool false, .bool false, .bool false, .bool false, .bool false, .bool false, .bool false, .v .nilFunc] := rfl
  have o3 : over [AV.ptr 0 0, .ptr 1 0, .bool false, .bool false, .bool false, .bool false, .bool false, .bool false, .bool false, .bool false, .v .nilFunc] 10 [.fn 145 [] []] = stk 0 1 (List.replicate 8 false) := rfl
  have l1 : ([AV.ptr 0 0, .v (.pointer none), .bool false, .bool false, .bool false, .bool false, .bool false, .bool false, .bool false, .bool false, .v .nilFunc] : List AV).length = 11 := rfl
  have l2 : ([AV.ptr 0 0, .ptr 1 0, .bool false, .bool false, .bool false, .bool false, .bool false, .bool false, .bool false, .bool false, .v .nilFunc] : List AV).length = 11 := rfl
  unfold H4
  simp (maxSteps := 3000000) only [qf, zH, qc3, v7, j4, yi, yj, b8, g_n, Ub, gb, qe, hdl, hel, wm, Kn, o1, o2, o3, l1, l2, AV.one, iE, iN, iB, iC, iL, iD, iA, iS, iM, qa, zZ, ↓qp, ↓reduceIte, reduceCtorEq, nA, nM, nS, nE, nL, nD]; try simp only [qa, zY]
  have hdo := zb (n := (N : Int)) hd
  have heo := zb (n := (N : Int)) he
  have hN0 : (0 : Int) ≤ (N : Int) := by omega
  refine WA.vc qjd (fun s => ∃ k : Nat, k ≤ N ∧ s = ⟨[(22, .int .i64 k), (21, .int .i64 N), (11, .ptr 4 0), (10, .int .i64 N), (4, .fn 147 [] [.ptr 3 0]), (3, .fn 146 [] [.ptr 2 0])], [.ro (dia N d), .ro (dia N e), .cells (dia N (Wc N d e k)), .cells [.int .i64 0], .cells (stk 0 1 (qdp N d e k))]⟩)
    (fun s => match get s.env 22 with | .int _ x => N - x.toNat | _ => 0) ⟨_, q6.za [22, 21, 11, 10, 4, 3], 0, by omega, rfl⟩ ?_
  rintro s ⟨k, hk, rfl⟩
  have hw : q7 .i64 ((k : Int) + 1) = ((k + 1 : Nat) : Int) := by rw [wrap64 (by omega) (by omega)]; rfl
  by_cases hlt : k < N
  · have hli : (k : Int) < (N : Int) := by omega
    have hk16 := y5 N d e k
    have hmk := (Ji hds hes k hk).len
    have hx1 := qco hds hes (i := k) (by omega)
    have hx2 := qco hds hes (i := N + k) (by omega)
    have hadd : q7 .i64 ((N : Int) + (k : Int)) = ((N + k : Nat) : Int) := by rw [wrap64 (by omega) (by omega)]; rfl
    have k1 : (0 : Int) ≤ (k : Int) ∧ (k : Int) < 2 * (N : Int) := by omega
    have k2 : (0 : Int) ≤ ((N + k : Nat) : Int) ∧ ((N + k : Nat) : Int) < 2 * (N : Int) := by omega
    have q1 : (false = decide ((N : Int) ≤ (k : Int))) = True := by simp; omega
    have q2 : (true = decide ((N : Int) ≤ ((N + k : Nat) : Int))) = True := by simp; omega
    have hf1 : (fol N d e true k (qdp N d e k)).length = 8 := by rw [qpd hds hes (by omega) (by simp [hlt])]; exact hmk
    have s1 := qbs (a := 0) (b := 1) hmk
    have s2 := qbs (a := 0) (b := 1) hf1
    have d0 := zb (n := (N : Int)) (qjc (qby hds hes hk) (i := k) (x := pr N d e k) (by omega))
    have d1 := zb (n := (N : Int)) (qby hds hes hk)
    have p1 : ((0 : Int) ≤ (k : Int) ∧ (k : Int) < 16) ∧ (0 : Int) ≤ ((pr N d e k : Nat) : Int) ∧ ((pr N d e k : Nat) : Int) < 256 := by omega
    have p2 : ((0 : Int) ≤ ((N + k : Nat) : Int) ∧ ((N + k : Nat) : Int) < 16) ∧ (0 : Int) ≤ ((pr N d e (N + k) : Nat) : Int) ∧ ((pr N d e (N + k) : Nat) : Int) < 256 := by omega
    simp (maxSteps := 3000000) only [qf, zH, J4, v7, j4, yi, yj, b8, g_n, Ub, gb, rdD, hw, hli, qe, hdl, hel, q9 hdl, q9 hel, hdo, heo, s1, s2, d0, d1, p1, p2, Int.toNat_natCast, hds, hes, k1, k2, hN0, q1, q2, hadd, AV.one, and_self, true_and, and_true, Bool.not_true, Bool.not_false, Ne, not_false_iff, not_false_eq_true, Nat.reduceEqDiff, reduceCtorEq, iE, iN, iB, iC, iL, iD, iA, iS, iM, qa, zZ, ↓qp, ↓reduceIte, reduceCtorEq, nA, nM, nS, nE, nL, nD]; try simp only [qa, zY]
    refine ⟨_, q6.za [22, 21, 11, 10, 4, 3], ⟨k + 1, by omega, rfl⟩, ?_⟩
    simp only [zL, ↓reduceIte, reduceCtorEq, nE, nA]; omega
  have hli : ¬ (k : Int) < (N : Int) := by omega
  obtain rfl : k = N := by omega
  simp (maxSteps := 3000000) only [qf, zH, J4, Bc, v7, j4, yi, yj, b8, g_n, Ub, gb, hli, Int.lt_irrefl, iE, iN, iB, iC, iL, iD, iA, iS, iM, qa, zZ, ↓qp, ↓reduceIte, reduceCtorEq, nA, nM, nS, nE, nL, nD]; try simp only [qa, zY]
  refine WA.vc qjd (fun s => ∃ (i : Nat) (met : List Bool), i ≤ k ∧ (met.length = 8 ∧ ∀ x, mt met x ↔ Seen k d e i x) ∧ s = ⟨[(43, .int .i64 i), (42, .int .i64 k), (11, .ptr 4 0), (4, .fn 147 [] [.ptr 3 0])], [.ro (dia k d), .ro (dia k e), .cells (dia k (vo k d e)), .cells [.int .i64 (lpN k d e i : Nat)], .cells (stk 0 1 met)]⟩)
    (fun s => match get s.env 43 with | .int _ x => k - x.toNat | _ => 0) ⟨_, q6.za [43, 42, 11, 4], 0, qdp k d e k, by omega, ⟨(Ji hds hes k (Nat.le_refl _)).len, fun x => ⟨.inl, fun h => h.elim id fun ⟨j, hj, _⟩ => absurd hj (Nat.not_lt_zero _)⟩⟩, rfl⟩ ?_
  clear hlt hli hw
  rintro s ⟨i, met, hi, ⟨hml, hmt⟩, rfl⟩
  have hw : q7 .i64 ((i : Int) + 1) = ((i + 1 : Nat) : Int) := by rw [wrap64 (by omega) (by omega)]; rfl
  have hle := qes k d e i
  by_cases hlt : i < k
  · have hli : (i : Int) < (k : Int) := by omega
    have g1 := Vx (show i < 8 by omega)
    have g2 : 2 + i < 8 + 3 := by omega
    have g3 := qwi (a := 0) (b := 1) hml (show i < 8 by omega)
    by_cases hs : Seen k d e i i
    · have hm1 : met.getD i false = true := (hmt i).2 hs
      simp (maxSteps := 3000000) only [qf, zH, Zk, v7, j4, yi, yj, b8, g_n, Ub, gb, hw, hli, g1, g2, g3, hm1, yq, hml, Bool.not_true, iE, iN, iB, iC, iL, iD, iA, iS, iM, qa, zZ, ↓qp, ↓reduceIte, reduceCtorEq, nA, nM, nS, nE, nL, nD]; try simp only [qa, zY]
      refine ⟨_, q6.za [43, 42, 11, 4], ⟨i + 1, met, by omega, ⟨hml, fun x => by rw [hmt, qjz hds hes hs]⟩, ?_⟩, ?_⟩
      · simp only [zL, ↓reduceIte, reduceCtorEq, nE, nA]
        simp only [lpN, if_pos hs]
      · simp only [zL, ↓reduceIte, reduceCtorEq, nE, nA]; omega
    · have hm1 : met.getD i false = false := by
        cases h : met.getD i false with
        | false => rfl
        | true => exact absurd ((hmt i).1 h) hs
      have s1 := qbs (a := 0) (b := 1) hml
      have k1 : (0 : Int) ≤ (i : Int) ∧ (i : Int) < (k : Int) := by omega
      have q1 : ((i : Int) = -1) = False := eq_false (by omega)
      have q2 : (∀ x, mt met x ↔ Seen k d e i x) = True := eq_true hmt
      have q3 : Seen k d e i i = False := eq_false hs
      have q4 : (0 : Int) ≤ ((lpN k d e i : Nat) : Int) ∧ ((lpN k d e i : Nat) : Int) ≤ 1000 := by omega
      have q5 : ((lpN k d e i : Nat) : Int) + 1 = ((lpN k d e i + 1 : Nat) : Int) := rfl
      simp (maxSteps := 3000000) only [qf, zH, Zk, v7, j4, yi, yj, b8, g_n, Ub, gb, rdD, hw, hli, g1, g2, g3, hm1, yq, hml, Bool.not_false, qe, hdl, hel, q9 hdl, q9 hel, hdo, heo, s1, Int.toNat_natCast, hds, hes, k1, hN0, q1, q2, q3, q4, q5, AV.one, and_self, true_and, and_true, Ne, not_false_iff, not_false_eq_true, if_false, Nat.reduceEqDiff, reduceCtorEq, iE, iN, iB, iC, iL, iD, iA, iS, iM, qa, zZ, ↓qp, ↓reduceIte, reduceCtorEq, nA, nM, nS, nE, nL, nD]; try simp only [qa, zY]
      refine ⟨_, q6.za [43, 42, 11, 4], ⟨i + 1, Bb k d e i met, by omega, ⟨by simp [Bb], fun x => ?_⟩, ?_⟩, ?_⟩
      · rw [qmt hlt hs]
        by_cases hx : x < 8
        · rw [qv6 hx, hmt]
        · constructor
          · intro h
            simp [mt, Bb, List.getD_eq_getElem?_getD, hx] at h
          · intro h
            have : x < k := by
              rcases h with h | h
              · exact qxu hds hes h
              · exact (Ring.mem (Km hds hes) (Kx hds hes) ⟨hlt, fun h => hs (.inl h)⟩ h).1
            omega
      · simp only [zL, ↓reduceIte, reduceCtorEq, nE, nA]
        simp only [lpN, if_neg hs]
      · simp only [zL, ↓reduceIte, reduceCtorEq, nE, nA]; omega
  · have hli : ¬ (i : Int) < (k : Int) := by omega
    obtain rfl : i = k := by omega
    simp (maxSteps := 3000000) only [qf, zH, Zk, v7, j4, yi, yj, b8, g_n, Ub, gb, hli, Int.lt_irrefl, iE, iN, iB, iC, iL, iD, iA, iS, iM, qa, zZ, ↓qp, ↓reduceIte, reduceCtorEq, nA, nM, nS, nE, nL, nD]; try simp only [qa, zY]
    refine Ret.xy [0, 1, 2, 3] ⟨⟨by simp, rfl, by decide⟩, ?_⟩ (rs := []) rfl rfl (by simp [xj]) ?_ ⟨rfl, ?_⟩
    · simp only [qd _ _ (qh _ _), zK, ↓reduceIte, reduceCtorEq, nE, nB, nA]
    · intro j l h
      match j, h with
      | 0, _ => exact ⟨_, rfl⟩
      | 1, _ => exact ⟨_, rfl⟩
      | 2, h => simp [ze, AO.ren] at h
      | 3, h => simp [ze, AO.ren] at h
      | j + 4, h => simp [ze] at h
    · simp only [qc _ _ (qh _ _), zL, ↓reduceIte, reduceCtorEq, nE, nA]
noncomputable def W0 : BE := fun hp xs => match xs with
  | [.ptr b1 0, .ptr b2 0, .fn 145 [] [], .fn 146 [] [.ptr b3 0], .fn 147 [] [.ptr b4 0]] => match rdD hp b1, rdD hp b2, hp[b3]?, hp[b4]? with
    | some (n, d), some (n', e), some (.cells l), some (.cells [.int .i64 k]) => match gq l with
      | some (n2, m) => chk ((n' = n ∧ n2 = n ∧ 0 ≤ n ∧ k = 0) ∧ (isS n.toNat d = true ∧ isS n.toNat e = true) ∧ m = List.replicate 16 0 ∧ b3 ≠ b1 ∧ b4 ≠ b1 ∧ b3 ≠ b2 ∧ b4 ≠ b2 ∧ b4 ≠ b3)
          (some (.tup [], (hp.set b3 (.cells (dia n (vo n.toNat d e)))).set b4 (.cells [.int .i64 (lpN n.toNat d e n.toNat : Nat)])))
      | none => none
    | _, _, _, _ => none
  | _ => none
theorem qm4 {hp : List AO} {b N : Nat} {m : List Nat} (h : rdD hp b = some ((N : Int), m)) : okD m ∧ ∀ ρ, Fits hp ρ b 0 (.ro (dia N m)) := by
  unfold rdD at h
  split at h
  · rename_i L hL
    obtain ⟨e1, hok⟩ := xk h
    have hlen : (dia (N : Int) m).length = 17 := by rw [qe, hok.1]
    have hLl : 17 ≤ L.length := by
      have := congrArg List.length e1
      rw [hlen, List.length_take] at this
      omega
    exact ⟨hok, fun ρ => ⟨L, hL, by rw [hlen]; omega, by rw [List.drop_zero, qc _ _ (qh _ _), hlen]; exact e1⟩⟩
  · cases h
theorem qro : Am.Callee Try.prog 144 W0 := Callee.fp fun hp xs v hp' he => by
  unfold W0 at he
  split at he
  · rename_i b1 b2 b3 b4
    split at he
    · rename_i n d n' e l k hd1 he1 h3 h4
      split at he
      · rename_i n2 m hm1
        obtain ⟨⟨⟨a1, a2, a3, a4⟩, ⟨a5, a6⟩, a7, a8, a9, a10, a11, a12⟩, he2⟩ := qo he
        simp only [Option.some.injEq, Prod.mk.injEq] at he2
        obtain ⟨rfl, rfl⟩ := he2
        obtain ⟨rfl, hm⟩ := xk hm1
        subst a1; subst a2; subst a4; subst a7
        obtain ⟨N, rfl⟩ : ∃ N : Nat, n2 = N := ⟨n2.toNat, by omega⟩
        simp only [Int.toNat_natCast] at a5 a6 ⊢
        obtain ⟨hd, f1⟩ := qm4 hd1
        obtain ⟨he', f2⟩ := qm4 he1
        refine ⟨[(b1, 0), (b2, 0), (b3, 0), (b4, 0)], [.ptr 0 0, .ptr 1 0, .fn 145 [] [], .fn 146 [] [.ptr 2 0], .fn 147 [] [.ptr 3 0]], H4 N d e (List.replicate 16 0) 0, _, _, qmp N d e hd he' a5 a6, by simp [AV.ren, AV.zz, ofL], by simp [vn],
          ⟨f1 _, f2 _, ⟨rfl, by rw [h3]; simp only [AO.ren, qc _ _ (qh _ _)]⟩, ⟨rfl, by rw [h4]; simp [AO.ren, AV.zz, AV.ren]⟩, trivial⟩, by simp [Va, H4, AO.wr, a8, a9, a10, a11, a12], ⟨qk _ _ (qh _ _), qk _ _ (qh _ _), qk _ _ (qh _ _), ⟨trivial, trivial⟩, trivial⟩, by simp [AV.q8, AV.under, H4], by simp [AV.ren, AV.zz], ?_⟩
        simp [after, upd, AO.wr, AO.ren, H4, AV.zz, AV.ren, qc _ _ (qh _ _)]
      · cases he
    · cases he
  · cases he
noncomputable def B84 : xh := (B83.put 144 (W0))
theorem qol : zf Try.prog B84 := (qjd.put (qro))
theorem qbk : B84 145 = some (qu ky) := rfl
theorem qbg : B84 146 = some (Ub) := rfl
theorem qbr : B84 147 = some (b8) := rfl
theorem qb8 : B84 144 = some (W0) := rfl
def qam : AT := (.one (oN 14 17 6) (.alt (oL 15 7) (.one (oS 17 4 14) (.one (oM 5 15) (.nil))) (.alt (oS 17 4 14) (.one (oL 15 7) (.one (oM 5 15) (.nil))) (.none))))
def qh8 : AC := .seq (.region [o0 2 (.box (.t 0)),o0 3 (.box (.t 1)),o0 4 (.alloc [.int .i64 0,.int .u8 0,.int .u8 0,.int .u8 0,.int .u8 0,.int .u8 0,.int .u8 0,.int .u8 0,.int .u8 0,.int .u8 0,.int .u8 0,.int .u8 0,.int .u8 0,.int .u8 0,.int .u8 0,.int .u8 0,.int .u8 0]),oI 5 0]) (.seq (.region [oF 8 0 2,oL 9 8,o0 10 (.build [.int .i64 0,.int .u8 0,.int .u8 0,.int .u8 0,.int .u8 0,.int .u8 0,.int .u8 0,.int .u8 0,.int .u8 0,.int .u8 0,.int .u8 0,.int .u8 0,.int .u8 0,.int .u8 0,.int .u8 0,.int .u8 0,.int .u8 0] [(0,1,.t 9)]),o0 6 (.alloc [.int .i64 0,.int .u8 0,.int .u8 0,.int .u8 0,.int .u8 0,.int .u8 0,.int .u8 0,.int .u8 0,.int .u8 0,.int .u8 0,.int .u8 0,.int .u8 0,.int .u8 0,.int .u8 0,.int .u8 0,.int .u8 0,.int .u8 0]),o0 7 (.alloc [.int .i64 0]),oS 17 6 10,⟨none,none,.op (.Zz (.t 7) (.c (.int .i64 0)))⟩]) (.seq (.region [o0 11 (.qf8 146 [] [.t 6]),o0 12 (.qf8 147 [] [.t 7]),⟨some 13,none,.call (.c (.fn 144 [] [])) [.t 2,.t 3,(.c (.fn 145 [] [])),.t 11,.t 12]⟩]) (.seq (.tree false qam) .ret)))
theorem qq4 : xa Try.prog 127 = some ⟨16, qh8, [.kl 4 17, .slot 5]⟩ := by kernel_rfl
theorem qrl (N : Nat) (d e : List Nat) (hd : okD d) (he : okD e) (hds : isS N d = true) (hes : isS N e = true) :
    Am.Fn Try.prog 127 [.agg (dia N d), .agg (dia N e)] [] (fun v H' => v = .tup [.agg (dia N (vo N d e)), .int .i64 (lpN N d e N : Nat)] ∧ H' = []) := by
  refine Am.Fn.vb (R := fun v => v = _) qol mixed qq4 (by simp) (by simp) ?_
  obtain ⟨hN, hpd, _⟩ := jw hds
  have hdl := hd.1
  have hel := he.1
  have hdo := zb (n := (N : Int)) hd
  have heo := zb (n := (N : Int)) he
  have hzo := zb (n := (N : Int)) (m := List.replicate 16 0) ⟨by simp, fun y hy => by simp at hy; omega⟩
  have hN0 : (0 : Int) ≤ (N : Int) := by omega
  simp (maxSteps := 3000000) only [qf, zH, qh8, qbk, qbg, qbr, qb8, ky, b8, W0, Ub, rdD, x9, y7, Ku, qe, hdl, hel, wm, xo, vx zh zh, List.length_replicate, q9 hdl, q9 hel, hdo, heo, hzo, hds, hes, hN0, Int.toNat_natCast, AV.one, and_self, true_and, and_true, Ne, not_false_iff, not_false_eq_true, Nat.reduceEqDiff, reduceCtorEq, List.all_nil, List.all_cons, List.map_nil, List.map_cons, Bool.and_self, iE, iN, iB, iC, iL, iD, iA, iS, iM, qa, zZ, ↓qp, ↓reduceIte, reduceCtorEq, nA, nM, nS, nE, nL, nD]; try simp only [qa, zY]
  have hp16 : (vo N d e).length = 16 := y5 N d e N
  refine WA.Jz qol (fun s => s = ⟨[(5, .int .i64 (lpN N d e N : Nat)), (4, .ptr 2 0)], [.cells (dia N d), .cells (dia N e), .cells (dia N (vo N d e)), .cells (dia N (vo N d e)), .cells [.int .i64 (lpN N d e N : Nat)]]⟩) ?_ ?_
  · unfold qam
    simp (maxSteps := 3000000) only [qf, zH, wj, uc, qe, hp16, q9 hp16, xo, vx zh hp16, List.length_replicate, Nat.le_refl, AV.one, iE, iN, iB, iC, iL, iD, iA, iS, iM, qa, zZ, ↓qp, ↓reduceIte, reduceCtorEq, nA, nM, nS, nE, nL, nD]; try simp only [qa, zY]
    repeat' (with_reducible refine And.intro ?_ ?_)
    all_goals exact ⟨_, q6.za [5, 4], rfl⟩
  rintro s rfl
  simp (maxSteps := 3000000) only [qf, zH, qe, hp16, q9 hp16, iE, iN, iB, iC, iL, iD, iA, iS, iM, qa, zZ, ↓qp, ↓reduceIte, reduceCtorEq, nA, nM, nS, nE, nL, nD]; try simp only [qa, zY]
  simp only [qh, Bool.and_self]
noncomputable def B85 : xh := (B84.put 127 (qu wy))
theorem qo1 : zf Try.prog B85 := (qol.put (qew qrl))
def W6 : AC := .seq (.region [oP 10 .lss 9 8]) (.seq (.cond 10 .skip (.exit 0)) (.seq (.block 1 (.region [oM 11 7,oM 12 0,oP 13 .mul 11 12,oM 14 2,oP 15 .rem 13 14,oM 7 15])) (.region [oK 16 .add 9 1,oM 9 16])))
def qau : AC := .seq (.region [oM 17 7,oM 6 17]) .ret
def qh2 : AC := .seq (.region [oI 6 0]) (.seq (.region [oI 7 1]) (.seq (.seq (.region [oM 8 1,oI 9 0]) (.block 0 (.loop W6))) qau))
theorem qqn : xa Try.prog 128 = some ⟨18, qh2, [.slot 6]⟩ := by kernel_rfl
theorem qqh (p c : Int) (K : Nat) (hp : 2 ≤ p ∧ p ≤ 97) (hc : 0 ≤ c ∧ c ≤ p - 1) (hK : K ≤ 1000000) : Am.Fn Try.prog 128 [.int .i64 c, .int .i64 K, .int .i64 p] [] (fun v H' => v = .int .i64 (bt p c K) ∧ H' = []) := by
  refine Am.Fn.vb (R := fun v => v = _) qo1 mixed qqn (by simp) (by simp) ?_
  have hne : p ≠ 0 := by omega
  simp (maxSteps := 3000000) only [qf, zH, qh2, hne, iE, iN, iB, iC, iL, iD, iA, iS, iM, qa, zZ, ↓qp, ↓reduceIte, reduceCtorEq, nA, nM, nS, nE, nL, nD]; try simp only [qa, zY]
  refine WA.vc qo1 (fun s => ∃ j : Nat, j ≤ K ∧ s = ⟨[(9, .int .i64 j), (8, .int .i64 K), (7, .int .i64 (bt p c j)), (0, .int .i64 c), (2, .int .i64 p)], []⟩)
    (fun s => match get s.env 9 with | .int _ x => K - x.toNat | _ => 0) ⟨_, q6.za [9, 8, 7, 0, 2], 0, by omega, rfl⟩ ?_
  rintro s ⟨j, hj, rfl⟩
  by_cases hlt : j < K
  · have hli : (j : Int) < (K : Int) := by omega
    obtain ⟨m1, m2, m3, m4⟩ := pow_mul hp hc (qju (c := c) hp.1 j)
    have hw : q7 .i64 ((j : Int) + 1) = ((j + 1 : Nat) : Int) := by rw [wrap64 (by omega) (by omega)]; rfl
    have hnext : (bt p c j * c).emod p = bt p c (j + 1) := rfl
    simp (maxSteps := 3000000) only [qf, zH, W6, hli, m1, m2, hw, hne, hnext, iE, iN, iB, iC, iL, iD, iA, iS, iM, qa, zZ, ↓qp, ↓reduceIte, reduceCtorEq, nA, nM, nS, nE, nL, nD]; try simp only [qa, zY]
    refine ⟨_, q6.za [9, 8, 7, 0, 2], ⟨j + 1, by omega, ?_⟩, ?_⟩
    · simp only [zL, ↓reduceIte, reduceCtorEq, nE, nA]
    · simp only [zL, ↓reduceIte, reduceCtorEq, nE, nA]; omega
  · have hli : ¬ (j : Int) < (K : Int) := by omega
    obtain rfl : j = K := by omega
    simp (maxSteps := 3000000) only [qf, zH, W6, qau, hli, Int.lt_irrefl, iE, iN, iB, iC, iL, iD, iA, iS, iM, qa, zZ, ↓qp, ↓reduceIte, reduceCtorEq, nA, nM, nS, nE, nL, nD]; try simp only [qa, zY]
def V0 : List AV → Option AV
  | [.int .i64 c, .int .i64 k, .int .i64 p] => chk (((2 ≤ p ∧ p ≤ 97) ∧ (0 ≤ c ∧ c ≤ p - 1)) ∧ 0 ≤ k ∧ k ≤ 1000000) (some (.int .i64 (bt p c k.toNat)))
  | _ => none
theorem qw8 : Am.Callee Try.prog 128 (qu V0) := Am.Callee.plain fun xs v he => by
  unfold V0 at he
  split at he
  · rename_i c k p
    obtain ⟨⟨⟨h1, h2⟩, h3⟩, he⟩ := qo he
    cases he
    obtain ⟨K, rfl⟩ : ∃ K : Nat, k = K := ⟨k.toNat, by omega⟩
    rw [Int.toNat_natCast]
    exact ⟨rfl, rfl, qqh p c K h1 h2 (by omega)⟩
  · cases he
noncomputable def B86 : xh := (B85.put 128 (qu V0))
theorem qd8 : zf Try.prog B86 := (qo1.put (qw8))
noncomputable def prT (p c n : Int) (t u : Int × List Nat × Int) : Int × List Nat × Int := (n, vo n.toNat t.2.1 u.2.1, (t.2.2 * u.2.2).emod p * bt p c (lpN n.toNat t.2.1 u.2.1 n.toNat))
noncomputable def vh (p c n : Int) (a b : List (Int × List Nat × Int)) : List (Int × List Nat × Int) := a.flatMap fun t => b.map (prT p c n t)
def MP (p n : Int) (l : List (Int × List Nat × Int)) : List (Int × List Nat × Int) := chP p n id (fun _ => 1) [] l
theorem qxy {p n : Int} {l : List (Int × List Nat × Int)} {t : Int × List Nat × Int} : MP p n (l ++ [t]) = yp p (MP p n l) n t.2.1 t.2.2 := by
  unfold MP chP; rw [List.foldl_append]; simp
theorem qia {p c n : Int} {a b : List (Int × List Nat × Int)} {i : Nat} (h : i < a.length) : vh p c n (a.take (i + 1)) b = vh p c n (a.take i) b ++ b.map (prT p c n a[i]) := by
  rw [List.take_succ_eq_append_getElem h, vh, List.flatMap_append]; simp [vh]
theorem ql6 {p c n : Int} {t : Int × List Nat × Int} {b : List (Int × List Nat × Int)} {j : Nat} (h : j < b.length) : (b.take (j + 1)).map (prT p c n t) = (b.take j).map (prT p c n t) ++ [prT p c n t b[j]] := by
  rw [List.take_succ_eq_append_getElem h, List.map_append]; rfl
theorem qnm {p c n : Int} (hp : 2 ≤ p ∧ p ≤ 97) (hc : 0 ≤ c ∧ c ≤ p - 1) {t u : Int × List Nat × Int} (h1 : isS n.toNat t.2.1 = true) (h2 : isS n.toNat u.2.1 = true) (f1 : 1 ≤ t.2.2 ∧ t.2.2 ≤ p - 1) (f2 : 1 ≤ u.2.2 ∧ u.2.2 ≤ p - 1) :
    okD (prT p c n t u).2.1 ∧ isS n.toNat (prT p c n t u).2.1 = true ∧ 0 ≤ (prT p c n t u).2.2 ∧ (prT p c n t u).2.2 ≤ 9216 := by
  have h := qvn h1 h2
  have hr : 0 ≤ (t.2.2 * u.2.2).emod p ∧ (t.2.2 * u.2.2).emod p ≤ p - 1 := ⟨Int.emod_nonneg _ (by omega), Int.le_sub_one_of_lt (Int.emod_lt_of_pos (t.2.2 * u.2.2) (show 0 < p by omega))⟩
  obtain ⟨_, _, m3, m4⟩ := pow_mul hp (qju (c := c) hp.1 (lpN n.toNat t.2.1 u.2.1 n.toNat)) hr
  exact ⟨h.2, h.1, m3, m4⟩
theorem qit {p c n : Int} (hp : 2 ≤ p ∧ p ≤ 97) (hc : 0 ≤ c ∧ c ≤ p - 1) {a b : List (Int × List Nat × Int)} (ha : j0 p n a) (hb : j0 p n b) : qru n 10000 id (fun _ => 1) (vh p c n a b) := fun t ht => by
  obtain ⟨x, hx, ht⟩ := List.mem_flatMap.1 ht
  obtain ⟨u, hu, rfl⟩ := List.mem_map.1 ht
  obtain ⟨h1, h2, h3, h4⟩ := qnm (c := c) hp hc (ha.dia x hx).2 (hb.dia u hu).2 (ha.fac x hx) (hb.fac u hu)
  exact ⟨h1, h2, by show -10000 ≤ (prT p c n x u).2.2 * 1; omega, by show (prT p c n x u).2.2 * 1 ≤ 10000; omega⟩
theorem qlz {p c n : Int} {a b : List (Int × List Nat × Int)} {i j : Nat} (hi : i < a.length) {t : Int × List Nat × Int} (ht : t ∈ vh p c n (a.take i) b ++ (b.take j).map (prT p c n a[i])) : t ∈ vh p c n a b := by
  rcases List.mem_append.1 ht with h | h
  · obtain ⟨x, hx, h⟩ := List.mem_flatMap.1 h
    exact List.mem_flatMap.2 ⟨x, List.mem_of_mem_take hx, h⟩
  · obtain ⟨u, hu, rfl⟩ := List.mem_map.1 h
    exact List.mem_flatMap.2 ⟨_, List.getElem_mem hi, List.mem_map.2 ⟨u, List.mem_of_mem_take hu, rfl⟩⟩
theorem qaq {p c n : Int} {a b : List (Int × List Nat × Int)} : (vh p c n a b).length = a.length * b.length := by
  induction a with
  | nil => simp [vh]
  | cons x a ih =>
    have : vh p c n (x :: a) b = b.map (prT p c n x) ++ vh p c n a b := rfl
    rw [this, List.length_append, List.length_map, ih, List.length_cons, Nat.add_mul]; omega
theorem qq9 {p c n : Int} (hp : 2 ≤ p ∧ p ≤ 97) (hc : 0 ≤ c ∧ c ≤ p - 1) {a b : List (Int × List Nat × Int)} (ha : j0 p n a) (hb : j0 p n b) (hl : a.length ≤ 300 ∧ b.length ≤ 300) {i j : Nat} (hi : i < a.length) :
    j0 p n (MP p n (vh p c n (a.take i) b ++ (b.take j).map (prT p c n a[i]))) ∧ (MP p n (vh p c n (a.take i) b ++ (b.take j).map (prT p c n a[i]))).length ≤ 100000 := by
  have h0 : j0 p n [] := ⟨(fun t h => by cases h), (fun t h => by cases h), (fun t h => by cases h), .nil⟩
  have h := K1 (p := p) (F := 10000) (φ := id) (κ := fun _ => 1) (by omega) h0 (a := vh p c n (a.take i) b ++ (b.take j).map (prT p c n a[i])) fun t ht => qit (c := c) hp hc ha hb t (qlz hi ht)
  refine ⟨h.1, Nat.le_trans h.2 ?_⟩
  rw [List.length_nil, List.length_append, qaq, List.length_map, List.length_take, List.length_take]
  have h1 : (min i a.length) * b.length ≤ 300 * 300 := Nat.mul_le_mul (by omega) hl.2
  omega
theorem j1 : B86 125 = some (qu wy) := rfl
theorem j3 : B86 70 = some (y9) := rfl
theorem j2 : B86 83 = some (qu Y3) := rfl
theorem vu : B86 61 = some (Xm) := rfl
def Y8 : AT := (.one (oF 28 3 2) (.one (oL 29 28) (.one (oM 30 6) (.one (oX 31 18 29 30) (.one (oF 32 0 31) (.one (oN 33 17 32) (.one (oF 34 3 3) (.one (oL 35 34) (.one (oM 36 7) (.one (oX 37 18 35 36) (.one (oF 38 0 37) (.one (oN 39 17 38) (.alt (oC 40 125 [.t 33,.t 39]) (.one (oM 27 40) (.one (oE 41 0 27) (.one (oE 42 1 27) (.one (o0 8 (.alloc [.int .i64 0,.int .u8 0,.int .u8 0,.int .u8 0,.int .u8 0,.int .u8 0,.int .u8 0,.int .u8 0,.int .u8 0,.int .u8 0,.int .u8 0,.int .u8 0,.int .u8 0,.int .u8 0,.int .u8 0,.int .u8 0,.int .u8 0])) (.one (oS 17 8 41) (.one (oM 9 42) (.nil))))))) (.alt (o0 8 (.alloc [.int .i64 0,.int .u8 0,.int .u8 0,.int .u8 0,.int .u8 0,.int .u8 0,.int .u8 0,.int .u8 0,.int .u8 0,.int .u8 0,.int .u8 0,.int .u8 0,.int .u8 0,.int .u8 0,.int .u8 0,.int .u8 0,.int .u8 0])) (.one (oC 40 125 [.t 33,.t 39]) (.one (oM 27 40) (.one (oE 41 0 27) (.one (oE 42 1 27) (.one (oS 17 8 41) (.one (oM 9 42) (.nil))))))) (.none)))))))))))))))
def X5 : AC := .seq (.draw true [oF 43 3 2,oL 44 43,oM 45 6,oX 46 18 44 45,oF 47 17 46,oL 48 47,oF 49 3 3,oL 50 49,oM 51 7,oX 52 18 50 51,oF 53 17 52,oL 54 53,oP 55 .mul 48 54,oF 56 0 2,oL 57 56,oP 58 .rem 55 57,oF 59 0 2,oL 60 59,oF 61 1 2,oL 62 61,oM 63 9,oC 64 83 [.t 60,.t 62,.t 63],oP 65 .mul 58 64,oM 10 65]) (.region [oF 66 0 2,oL 67 66,oF 68 3 5,oL 69 68,oN 70 17 8,oM 71 10,oC 72 61 [.t 67,.t 69,.t 70,.t 71],oF 73 3 5,oT 73 72])
def Xx : AC := .region [oM 25 7,oK 26 .add 25 1,oM 7 26]
def X3 : AC := .seq (.seq (.region [oM 20 7,oF 21 3 3,oL 22 21,o0 23 (.len .slc (.t 22)),oP 24 .lss 20 23]) (.cond 24 .skip (.exit 2))) (.seq (.block 3 (.seq (.tree false Y8) X5)) Xx)
def Ud : AC := .region [oM 18 6,oK 19 .add 18 1,oM 6 19]
def Xv : AC := .seq (.seq (.region [oM 13 6,oF 14 3 2,oL 15 14,o0 16 (.len .slc (.t 15)),oP 17 .lss 13 16]) (.cond 17 .skip (.exit 0))) (.seq (.block 1 (.seq (.region [oI 7 0]) (.block 2 (.loop X3)))) Ud)
def Ua : AC := .seq (.region [oN 74 4 5,oS 4 4 74]) .ret
def K0 : AC := .seq (.region [o0 2 (.box (.t 0)),o0 3 (.box (.t 1)),o0 4 (.alloc [.int .i64 0,.int .i64 0,.int .i64 0,(.v (.slice none 0 0))])]) (.seq (.region [oN 11 4 2,oC 12 70 [.t 11],o0 5 (.alloc [.int .i64 0,.int .i64 0,.int .i64 0,(.v (.slice none 0 0))]),oS 4 5 12]) (.seq (.seq (.region [oI 6 0]) (.block 0 (.loop Xv))) Ua))
theorem qiq : xa Try.prog 88 = some ⟨75, K0, [.kl 4 4]⟩ := by kernel_rfl
theorem qin (p c n p' c' : Int) (a b : List (Int × List Nat × Int)) (hp : 2 ≤ p ∧ p ≤ 97) (hc : 0 ≤ c ∧ c ≤ p - 1) (hn : 0 ≤ n ∧ n ≤ 8) (ha : j0 p n a) (hb : j0 p n b) (hl : a.length ≤ 300 ∧ b.length ≤ 300) :
    Am.Fn Try.prog 88 [elemV p c n 0 a.length, elemV p' c' n 1 b.length] [.ro (qn a), .ro (qn b)] (fun v H' => v = elemV p c n 2 (MP p n (vh p c n a b)).length ∧ H' = [.ro (qn a), .ro (qn b), .vec 18 (qn (MP p n (vh p c n a b)))]) := by
  refine Am.Fn.ofB qd8 mixed qiq (by simp [elemV, AV.q8, AV.under]) (b9 (qb _) (qb _)) ?_
  have hal := qm ha.ok
  have hbl := qm hb.ok
  simp (maxSteps := 3000000) only [qf, zH, K0, j1, j3, j2, vu, y9, Y3, Xm, wy, elemV, hal, hbl, iE, iN, iB, iC, iL, iD, iA, iS, iM, qa, zZ, ↓qp, ↓reduceIte, reduceCtorEq, nA, nM, nS, nE, nL, nD]; try simp only [qa, zY]
  refine ⟨rfl, ?_⟩
  refine WA.vc qd8 (fun s => ∃ (i : Nat) (acc : List (Int × List Nat × Int)), i ≤ a.length ∧ acc = MP p n (vh p c n (a.take i) b) ∧
      s = ⟨[(6, .int .i64 i), (5, .ptr 5 0), (4, .ptr 4 0), (3, .ptr 3 0), (2, .ptr 2 0)], [.ro (qn a), .ro (qn b), .cells [.int .i64 p, .int .i64 c, .int .i64 n, .slc 0 0 a.length false 0], .cells [.int .i64 p', .int .i64 c', .int .i64 n, .slc 1 0 b.length false 0], qbt, .cells [.int .i64 p, .int .i64 c, .int .i64 n, .slc 6 0 acc.length false 0], .vec 18 (qn acc)]⟩)
    (fun s => match get s.env 6 with | .int _ x => a.length - x.toNat | _ => 0) ⟨_, q6.xy [0, 1, 2, 3, 4, 6, 5] [6, 5, 4, 3, 2] ⟨by decide, ?_⟩ ?_, 0, [], by omega, rfl, ?_⟩ ?_
  · simp only [qd _ _ (qb _), zK, ↓reduceIte, reduceCtorEq, nE, nB, nA]
  · simp only [qd _ _ (qb _), zK, ↓reduceIte, reduceCtorEq, nE, nB, nA]
  · simp only [qc _ _ (qb _), zL, ↓reduceIte, reduceCtorEq, nE, nA]
    rfl
  rintro s ⟨i, acc, hi, hacc, rfl⟩
  have hwi : q7 .i64 ((i : Int) + 1) = ((i + 1 : Nat) : Int) := by rw [wrap64 (by omega) (by omega)]; rfl
  by_cases hlt : i < a.length
  · have hli : (i : Int) < a.length := by omega
    have hli' : (0 : Int) ≤ i := by omega
    simp (maxSteps := 3000000) only [qf, zH, Xv, j1, j3, j2, vu, y9, Y3, Xm, wy, hli, iE, iN, iB, iC, iL, iD, iA, iS, iM, qa, zZ, ↓qp, ↓reduceIte, reduceCtorEq, nA, nM, nS, nE, nL, nD]; try simp only [qa, zY]
    have ea : MP p n (vh p c n (a.take i) b) = MP p n (vh p c n (a.take i) b ++ (b.take 0).map (prT p c n a[i])) := by simp
    rw [ea] at hacc
    refine WA.vc qd8 (fun s => ∃ (j : Nat) (acc : List (Int × List Nat × Int)), j ≤ b.length ∧ acc = MP p n (vh p c n (a.take i) b ++ (b.take j).map (prT p c n a[i])) ∧
        s = ⟨[(7, .int .i64 j), (6, .int .i64 i), (5, .ptr 5 0), (4, .ptr 4 0), (3, .ptr 3 0), (2, .ptr 2 0)], [.ro (qn a), .ro (qn b), .cells [.int .i64 p, .int .i64 c, .int .i64 n, .slc 0 0 a.length false 0], .cells [.int .i64 p', .int .i64 c', .int .i64 n, .slc 1 0 b.length false 0], qbt, .cells [.int .i64 p, .int .i64 c, .int .i64 n, .slc 6 0 acc.length false 0], .vec 18 (qn acc)]⟩)
      (fun s => match get s.env 7 with | .int _ x => b.length - x.toNat | _ => 0) ⟨_, q6.za [7, 6, 5, 4, 3, 2], 0, acc, by omega, hacc, rfl⟩ ?_
    clear hacc
    rintro s ⟨j, acc, hj, hacc, rfl⟩
    by_cases hltj : j < b.length
    · have hg := qq9 hp hc ha hb hl (j := j) hlt
      rw [← hacc] at hg
      have hlj : (j : Int) < b.length := by omega
      have hlj' : (0 : Int) ≤ j := by omega
      have hw : q7 .i64 ((j : Int) + 1) = ((j + 1 : Nat) : Int) := by rw [wrap64 (by omega) (by omega)]; rfl
      have hd1 := uj ha.ok hlt
      have hf1 := Jq ha.ok hlt
      have hd2 := uj hb.ok hltj
      have hf2 := Jq hb.ok hltj
      have ok1 := ha.ok _ (List.getElem_mem hlt)
      have ok2 := hb.ok _ (List.getElem_mem hltj)
      have z1 := ha.dia _ (List.getElem_mem hlt)
      have z2 := hb.dia _ (List.getElem_mem hltj)
      have c1 := ha.fac _ (List.getElem_mem hlt)
      have c2 := hb.fac _ (List.getElem_mem hltj)
      obtain ⟨t1, t2, t3, t4⟩ := qnm (c := c) hp hc z1.2 z2.2 c1 c2
      rw [z1.1] at hd1
      rw [z2.1] at hd2
      have hnext : MP p n (vh p c n (a.take i) b ++ (b.take (j + 1)).map (prT p c n a[i])) = yp p acc n (prT p c n a[i] b[j]).2.1 (prT p c n a[i] b[j]).2.2 := by
        rw [ql6 hltj, ← List.append_assoc, qxy, ← hacc]
      have s1 := z1.2
      have s2 := z2.2
      have hprd : (prT p c n a[i] b[j]).2.1 = vo n.toNat a[i].2.1 b[j].2.1 := rfl
      have hprf : (prT p c n a[i] b[j]).2.2 = (a[i].2.2 * b[j].2.2).emod p * bt p c (lpN n.toNat a[i].2.1 b[j].2.1 n.toNat) := rfl
      rw [hprd, hprf] at hnext
      rw [hprd] at t1 t2
      rw [hprf] at t3 t4
      have hlpb : (0 : Int) ≤ ((lpN n.toNat a[i].2.1 b[j].2.1 n.toNat : Nat) : Int) ∧ ((lpN n.toNat a[i].2.1 b[j].2.1 n.toNat : Nat) : Int) ≤ 1000000 := by
        have := qes n.toNat a[i].2.1 b[j].2.1 n.toNat; omega
      clear hprd hprf z1 z2
      generalize a[i].2.1 = m1 at hd1 ok1 s1 t1 t2 t3 t4 hlpb hnext
      generalize a[i].2.2 = f1 at hf1 c1 t3 t4 hnext
      generalize b[j].2.1 = m2 at hd2 ok2 s2 t1 t2 t3 t4 hlpb hnext
      generalize b[j].2.2 = f2 at hf2 c2 t3 t4 hnext
      obtain ⟨w1, w2, w3, w4⟩ := pow_mul (p := p) (c := f2) (x := f1) hp (by omega) (by omega)
      have w5 : q7 .i64 ((f1 * f2).emod p * bt p c (lpN n.toNat m1 m2 n.toNat)) = (f1 * f2).emod p * bt p c (lpN n.toNat m1 m2 n.toNat) := wrap64 (by omega) (by omega)
      have hne : p ≠ 0 := by omega
      have hb1 : i * 18 < a.length * 18 := by omega
      have hb2 : i * 18 + 17 ≤ a.length * 18 := by omega
      have hb3 : i * 18 + 17 < a.length * 18 := by omega
      have hb4 : j * 18 < b.length * 18 := by omega
      have hb5 : j * 18 + 17 ≤ b.length * 18 := by omega
      have hb6 : j * 18 + 17 < b.length * 18 := by omega
      have hfit := hg.1.fit (by omega) (by omega)
      have hacl := qm hg.1.ok
      have hpp : 0 < p ∧ p ≤ 1000000 := by omega
      have hn0 : 0 ≤ n := hn.1
      have t0 := t1.1
      simp (maxSteps := 3000000) only [qf, zH, X3, j1, j3, j2, vu, y9, Y3, Xm, wy, hlj, hbl, iE, iN, iB, iC, iL, iD, iA, iS, iM, qa, zZ, ↓qp, ↓reduceIte, reduceCtorEq, nA, nM, nS, nE, nL, nD]; try simp only [qa, zY]
      refine WA.Jz qd8 (fun s => s = ⟨[(9, .int .i64 (lpN n.toNat m1 m2 n.toNat : Nat)), (8, .ptr 7 0), (7, .int .i64 j), (6, .int .i64 i), (5, .ptr 5 0), (4, .ptr 4 0), (3, .ptr 3 0), (2, .ptr 2 0)], [.ro (qn a), .ro (qn b), .cells [.int .i64 p, .int .i64 c, .int .i64 n, .slc 0 0 a.length false 0], .cells [.int .i64 p', .int .i64 c', .int .i64 n, .slc 1 0 b.length false 0], qbt, .cells [.int .i64 p, .int .i64 c, .int .i64 n, .slc 6 0 acc.length false 0], .vec 18 (qn acc), .cells (dia n (vo n.toNat m1 m2))]⟩) ?_ ?_
      · unfold Y8
        simp (maxSteps := 3000000) only [qf, zH, wj, uc, j1, j3, j2, vu, y9, Y3, Xm, wy, hli, hli', hlj, hlj', hal, hbl, hb1, hb2, hb3, hb4, hb5, hb6, hd1, hd2, zb ok1, zb ok2, s1, s2, hn0, x9, y7, u9 t0, qe, t0, xo, List.length_replicate, Nat.le_refl, and_self, iE, iN, iB, iC, iL, iD, iA, iS, iM, qa, zZ, ↓qp, ↓reduceIte, reduceCtorEq, nA, nM, nS, nE, nL, nD]; try simp only [qa, zY]
        repeat' first | (with_reducible exact ⟨_, rfl⟩) | (exact rfl) | (with_reducible refine And.intro ?_ ?_)
        all_goals exact ⟨_, q6.za [9, 8, 7, 6, 5, 4, 3, 2], rfl⟩
      rintro s rfl
      by_cases hz : ((f1 * f2).emod p * bt p c (lpN n.toNat m1 m2 n.toNat)).emod p = 0
      · simp (maxSteps := 3000000) only [qf, zH, X5, Xx, j1, j3, j2, vu, y9, Y3, Xm, wy, hli, hli', hlj, hlj', hal, hbl, hb1, hb2, hb3, hb4, hb5, hb6, hf1, hf2, w1, w2, w5, hne, hp, hc, hlpb, Int.toNat_natCast, hw, z6 hg.1.ok, zb t1, hacl, hpp, hn, qe, t0, q9 t0, hfit, hz, and_self, iE, iN, iB, iC, iL, iD, iA, iS, iM, qa, zZ, ↓qp, ↓reduceIte, reduceCtorEq, nA, nM, nS, nE, nL, nD]; try simp only [qa, zY]
        refine ⟨⟨_, rfl⟩, rfl, _, q6.xy [0, 1, 2, 3, 4, 5, 6] [7, 6, 5, 4, 3, 2] ⟨by decide, ?_⟩ ?_, ⟨j + 1, acc, by omega, by rw [hnext, Gf, if_pos hz], ?_⟩, ?_⟩
        · simp only [qd _ _ (qb _), zK, ↓reduceIte, reduceCtorEq, nE, nB, nA]
        · simp only [qd _ _ (qb _), zK, ↓reduceIte, reduceCtorEq, nE, nB, nA]
        · simp only [qc _ _ (qb _), zL, ↓reduceIte, reduceCtorEq, nE, nA]
        · simp only [zL, ↓reduceIte, reduceCtorEq, nE, nA]; omega
      · simp (maxSteps := 3000000) only [qf, zH, X5, Xx, j1, j3, j2, vu, y9, Y3, Xm, wy, hli, hli', hlj, hlj', hal, hbl, hb1, hb2, hb3, hb4, hb5, hb6, hf1, hf2, w1, w2, w5, hne, hp, hc, hlpb, Int.toNat_natCast, hw, z6 hg.1.ok, zb t1, hacl, hpp, hn, qe, t0, q9 t0, hfit, hz, and_self, iE, iN, iB, iC, iL, iD, iA, iS, iM, qa, zZ, ↓qp, ↓reduceIte, reduceCtorEq, nA, nM, nS, nE, nL, nD]; try simp only [qa, zY]
        refine ⟨⟨_, rfl⟩, rfl, _, q6.xy [0, 1, 2, 3, 4, 5, 8] [7, 6, 5, 4, 3, 2] ⟨by decide, ?_⟩ ?_, ⟨j + 1, yp p acc n (vo n.toNat m1 m2) ((f1 * f2).emod p * bt p c (lpN n.toNat m1 m2 n.toNat)), by omega, hnext.symm, ?_⟩, ?_⟩
        · simp only [qd _ _ (qb _), zK, ↓reduceIte, reduceCtorEq, nE, nB, nA]
        · simp only [qd _ _ (qb _), zK, ↓reduceIte, reduceCtorEq, nE, nB, nA]
        · simp only [qc _ _ (qb _), zL, ↓reduceIte, reduceCtorEq, nE, nA]
        · simp only [zL, ↓reduceIte, reduceCtorEq, nE, nA]; omega
    · have hlj : ¬ ((j : Int) < b.length) := by omega
      obtain rfl : j = b.length := by omega
      simp (maxSteps := 3000000) only [qf, zH, X3, Ud, j1, j3, j2, vu, y9, Y3, Xm, wy, hlj, hwi, hbl, Int.lt_irrefl, iE, iN, iB, iC, iL, iD, iA, iS, iM, qa, zZ, ↓qp, ↓reduceIte, reduceCtorEq, nA, nM, nS, nE, nL, nD]; try simp only [qa, zY]
      refine ⟨_, q6.za [6, 5, 4, 3, 2], ⟨i + 1, acc, by omega, by rw [hacc, List.take_length, qia hlt], rfl⟩, ?_⟩
      simp only [zL, ↓reduceIte, reduceCtorEq, nE, nA]; omega
  · have hli : ¬ ((i : Int) < a.length) := by omega
    obtain rfl : i = a.length := by omega
    rw [List.take_length] at hacc
    subst hacc
    simp (maxSteps := 3000000) only [qf, zH, Xv, Ua, j1, j3, j2, vu, y9, Y3, Xm, wy, hli, Int.lt_irrefl, iE, iN, iB, iC, iL, iD, iA, iS, iM, qa, zZ, ↓qp, ↓reduceIte, reduceCtorEq, nA, nM, nS, nE, nL, nD]; try simp only [qa, zY]
    refine ⟨rfl, ?_⟩
    refine Ret.xy [0, 1, 6] ⟨⟨by simp, rfl, by decide⟩, ?_⟩ (rs := [.agg [.int .i64 p, .int .i64 c, .int .i64 n, .slc 6 0 (MP p n (vh p c n a b)).length false 0]]) rfl rfl (by simp [xj]) ?_ ⟨?_, ?_⟩
    · simp only [qd _ _ (qb _), zK, ↓reduceIte, reduceCtorEq, nE, nB, nA]
    · intro j l; match j with
      | 0 => simp [ze, AO.ren]
      | 1 => simp [ze, AO.ren]
      | 2 => simp [ze, AO.ren]
      | j + 3 => simp [ze]
    · simp only [xj]
      simp only [zL, ↓reduceIte, reduceCtorEq, nE, nA]
    · simp only [qc _ _ (qb _), zL, ↓reduceIte, reduceCtorEq, nE, nA]
noncomputable def Qv : BE := fun hp xs => match xs with
  | [.agg [.int .i64 p, .int .i64 c, .int .i64 n, .slc b 0 la false 0], .agg [.int .i64 p', .int .i64 c', .int .i64 n', .slc b' 0 lb false 0]] => match rd hp b, rd hp b' with
    | some L, some L' => match Qa la L, Qa lb L' with
      | some ta, some tb => chk ((((2 ≤ p ∧ p ≤ 97) ∧ (0 ≤ c ∧ c ≤ p - 1) ∧ (0 ≤ n ∧ n ≤ 8) ∧ n' = n) ∧ Bi p n ta ∧ Bi p n tb) ∧ (ta.length ≤ 300 ∧ tb.length ≤ 300)) (some (elemV p c n hp.length (MP p n (vh p c n ta tb)).length, hp ++ [.vec 18 (qn (MP p n (vh p c n ta tb)))]))
      | _, _ => none
    | _, _ => none
  | _ => none
theorem qlr {f : FuncId} (hf : ∀ (p c n p' c' : Int) (a b : List (Int × List Nat × Int)), 2 ≤ p ∧ p ≤ 97 → 0 ≤ c ∧ c ≤ p - 1 → 0 ≤ n ∧ n ≤ 8 → j0 p n a → j0 p n b → a.length ≤ 300 ∧ b.length ≤ 300 →
    Am.Fn Try.prog f [elemV p c n 0 a.length, elemV p' c' n 1 b.length] [.ro (qn a), .ro (qn b)] (fun v H' => v = elemV p c n 2 (MP p n (vh p c n a b)).length ∧ H' = [.ro (qn a), .ro (qn b), .vec 18 (qn (MP p n (vh p c n a b)))])) : Am.Callee Try.prog f Qv := Callee.fp fun hp xs v hp' he => by
  unfold Qv at he
  split at he
  · rename_i p c n b la p' c' n' b' lb
    split at he
    · rename_i L L' hL hL'
      split at he
      · rename_i ta tb h1 h1'
        obtain ⟨⟨⟨⟨a1, a0, a2, a3⟩, a4, a5⟩, a6⟩, he2⟩ := qo he
        simp only [Option.some.injEq, Prod.mk.injEq] at he2
        obtain ⟨rfl, rfl⟩ := he2
        obtain ⟨e1, e2, e3, e4⟩ := xl h1
        obtain ⟨f1, f2, f3, f4⟩ := xl h1'
        have g1 := qm e2
        have g2 := qm f2
        subst a3
        refine ⟨[(b, 0), (b', 0)], [elemV p c n' 0 ta.length, elemV p' c' n' 1 tb.length], _, _, _, hf p c n' p' c' ta tb a1 a0 a2 (a4.qgj e2) (a5.qgj f2) a6, by simp [elemV, AV.ren, AV.zz, ofL, e1, f1], rfl,
          ⟨⟨L, hL, by omega, by rw [List.drop_zero, qc _ _ (qb _), g1, e1]; exact e3⟩, ⟨L', hL', by omega, by rw [List.drop_zero, qc _ _ (qb _), g2, f1]; exact f3⟩, trivial⟩, rfl,
          ⟨qk _ _ (qb _), qk _ _ (qb _), trivial⟩, ⟨⟨trivial, trivial, trivial, by simp [AV.under], trivial⟩, ⟨trivial, trivial, trivial, by simp [AV.under], trivial⟩, trivial⟩, by simp [elemV, AV.ren, AV.zz, Ren.ext], ?_⟩
        simp [after, upd, AO.wr, AO.ren, qc _ _ (qb _)]
      · cases he
    · cases he
  · cases he
noncomputable def B87 : xh := (B86.put 88 (Qv))
theorem qjs : zf Try.prog B87 := (qd8.put (qlr qin))
def Yv (n : Int) (m : List Nat) (S : List (Int × List Nat × Int)) : Int := match Zq n m S with
  | none => 0
  | some j => (S.getD j zT).2.2
def Gh (n : Int) (m : List Nat) (v : Int) (S : List (Int × List Nat × Int)) : List (Int × List Nat × Int) := match Zq n m S with
  | none => S ++ [(n, m, v)]
  | some j => S.set j (n, m, v)
theorem qlc {n v : Int} {m : List Nat} {S : List (Int × List Nat × Int)} : Gh n m v S = Zr n m (v - Yv n m S) S := by
  unfold Gh Yv
  cases h : Zq n m S with
  | none => simp only [(qbc h).1, Int.sub_zero]
  | some j =>
    simp only [(By h).2.2.2]
    rw [show (S.getD j zT).2.2 + (v - (S.getD j zT).2.2) = v by omega]
theorem Bp {n v : Int} {m : List Nat} {S : List (Int × List Nat × Int)} {u : Int × List Nat × Int} (h : u ∈ Gh n m v S) : u ∈ S ∨ u = (n, m, v) := by
  unfold Gh at h
  split at h
  · rcases List.mem_append.1 h with h | h
    · exact .inl h
    · exact .inr (List.mem_singleton.1 h)
  · exact List.mem_or_eq_of_mem_set h
theorem qvx {n v : Int} {m : List Nat} {S : List (Int × List Nat × Int)} : (Gh n m v S).length ≤ S.length + 1 := by
  unfold Gh
  split <;> simp
def qjf (p n : Int) (S : List (Int × List Nat × Int)) : Prop := qba n 10000 S ∧ ∀ t ∈ S, 0 ≤ t.2.2 ∧ t.2.2 ≤ p - 1
theorem qw3 {p n : Int} (hp : 0 < p) {m : List Nat} {S : List (Int × List Nat × Int)} (h : qjf p n S) : 0 ≤ Yv n m S ∧ Yv n m S ≤ p - 1 := by
  unfold Yv
  cases e : Zq n m S with
  | none => exact ⟨Int.le_refl 0, by show (0 : Int) ≤ p - 1; omega⟩
  | some j => exact h.2 _ (by rw [yc (By e).1]; exact List.getElem_mem _)
theorem qtd {p n v : Int} {m : List Nat} {S : List (Int × List Nat × Int)} (hp : p ≤ 97) (h : qjf p n S) (hm : okD m) (hs : isS n.toNat m = true) (hv : 0 ≤ v ∧ v ≤ p - 1) : qjf p n (Gh n m v S) := by
  have hone := qfa (n := n) (f := v - Yv n m S) (m := m) (ts := S) (fun t ht => (h.1.dia t ht).1) h.1.one
  rw [← qlc] at hone
  refine ⟨⟨fun t ht => ?_, fun t ht => ?_, fun t ht => ?_, hone⟩, fun t ht => ?_⟩
  · rcases Bp ht with h1 | rfl
    · exact h.1.ok t h1
    · exact hm
  · rcases Bp ht with h1 | rfl
    · exact h.1.dia t h1
    · exact ⟨rfl, hs⟩
  · rcases Bp ht with h1 | rfl
    · exact h.1.fac t h1
    · exact ⟨by show -10000 ≤ v; omega, by show v ≤ 10000; omega⟩
  · rcases Bp ht with h1 | rfl
    · exact h.2 t h1
    · exact hv
def qbu (p n : Int) (m : List Nat) (f : Int) (S : List (Int × List Nat × Int)) : List (Int × List Nat × Int) := Gh n m ((Yv n m S + f).emod p) S
def ML (p n : Int) (l : List (Int × List Nat × Int)) : List (Int × List Nat × Int) := l.foldl (fun S t => qbu p n t.2.1 t.2.2 S) []
theorem qwx {p n : Int} {l : List (Int × List Nat × Int)} {t : Int × List Nat × Int} : ML p n (l ++ [t]) = qbu p n t.2.1 t.2.2 (ML p n l) := by
  unfold ML; rw [List.foldl_append]; rfl
theorem qvk {p n f : Int} {m : List Nat} {S : List (Int × List Nat × Int)} (hp : 0 < p ∧ p ≤ 97) (h : qjf p n S) (hm : okD m) (hs : isS n.toNat m = true) : qjf p n (qbu p n m f S) :=
  qtd hp.2 h hm hs ⟨Int.emod_nonneg _ (by omega), Int.le_sub_one_of_lt (Int.emod_lt_of_pos _ hp.1)⟩
theorem qfq {p n : Int} (hp : 0 < p ∧ p ≤ 97) : ∀ {l acc : List (Int × List Nat × Int)}, qjf p n acc → (∀ t ∈ l, okD t.2.1 ∧ isS n.toNat t.2.1 = true) → qjf p n (l.foldl (fun S t => qbu p n t.2.1 t.2.2 S) acc) ∧ (l.foldl (fun S t => qbu p n t.2.1 t.2.2 S) acc).length ≤ acc.length + l.length
  | [], acc, h, _ => ⟨h, by simp⟩
  | t :: l, acc, h, hl => by
    have h1 := hl t (List.mem_cons_self ..)
    have := qfq hp (l := l) (qvk (f := t.2.2) hp h h1.1 h1.2) fun u hu => hl u (List.mem_cons_of_mem _ hu)
    have h2 : (qbu p n t.2.1 t.2.2 acc).length ≤ acc.length + 1 := qvx
    refine ⟨this.1, ?_⟩
    have h3 := this.2
    rw [List.foldl_cons, List.length_cons]; omega
theorem qwo {p n f : Int} {m m' : List Nat} {S : List (Int × List Nat × Int)} (h : ∀ t ∈ S, t.1 = n) : p ∣ cf m (qbu p n m' f S) - (cf m S + if m' = m then f else 0) := by
  unfold qbu
  rw [qlc, qi2 h]
  by_cases e : m' = m
  · rw [if_pos e, if_pos e]
    have := qd1 p (Yv n m' S + f)
    refine kz this (Int.dvd_zero p) ?_
    omega
  · rw [if_neg e, if_neg e]
    refine kz (Int.dvd_zero p) (Int.dvd_zero p) ?_
    omega
theorem qwp {p n f : Int} {m : List Nat} {S : List (Int × List Nat × Int)} (h : ∀ t ∈ S, t.1 = n) : ∀ t ∈ qbu p n m f S, t.1 = n := fun t ht => by
  rcases Bp ht with h1 | rfl
  · exact h t h1
  · rfl
theorem qpr {p n : Int} {m : List Nat} : ∀ {l acc : List (Int × List Nat × Int)}, (∀ t ∈ acc, t.1 = n) → p ∣ cf m (l.foldl (fun S t => qbu p n t.2.1 t.2.2 S) acc) - (cf m acc + qlf id (fun _ => 1) m l)
  | [], acc, h => by simp [qlf]
  | t :: l, acc, h => by
    have ih := qpr (p := p) (m := m) (l := l) (qwp (p := p) (m := t.2.1) (f := t.2.2) h)
    have h1 := qwo (p := p) (f := t.2.2) (m := m) (m' := t.2.1) h
    rw [List.foldl_cons]
    refine kz ih h1 ?_
    simp only [qlf, id, Int.mul_one]
    omega
theorem qxq {p n : Int} {l : List (Int × List Nat × Int)} (hp : 0 < p ∧ p ≤ 97) (h : qru n 10000 id (fun _ => 1) l) : Xo (xz p (ML p n l)) = MP p n l := by
  have h0 : j0 p n [] := ⟨(fun t h => by cases h), (fun t h => by cases h), (fun t h => by cases h), .nil⟩
  have hs := (qfq (p := p) (n := n) hp (l := l) (acc := []) ⟨⟨(fun t h => by cases h), (fun t h => by cases h), (fun t h => by cases h), .nil⟩, fun t h => by cases h⟩ fun t ht => ⟨(h t ht).1, (h t ht).2.1⟩).1
  refine qcs hp.1 (qko hp.1 hs.1) (K1 hp.1 h0 h).1 fun m => ?_
  have h1 := qpr (p := p) (n := n) (m := m) (acc := []) (l := l) (by simp)
  have h2 := quk (p := p) (n := n) (φ := id) (κ := fun _ => 1) (m := m) (acc := []) (a := l) (by simp)
  have h3 := qpx (p := p) (m := m) (S := ML p n l)
  have h4 := kz h3 h1 (z := cf m (Xo (xz p (ML p n l))) - (cf m [] + qlf id (fun _ => 1) m l)) (by unfold ML; omega)
  exact qfw h4 h2 (by unfold MP; omega)
theorem qog {n : Int} {m : List Nat} {S : List (Int × List Nat × Int)} (hm : m.length = 16) (ho : okT S) (h : Zq n m S = none) (v : Int) :
    ud KD true (.agg (dia n m)) (esT 0 S) 0 = some none ∧ Yv n m S = 0 ∧ (AO.map (esT 0 S ++ [(⟨.agg (dia n m), .int .i64 v, S.length⟩ : AE)]) (S.length + 1)) = ym (Gh n m v S) := by
  refine ⟨by rw [Wt hm ho, h]; rfl, by unfold Yv; rw [h], ?_⟩
  have e : Gh n m v S = S ++ [(n, m, v)] := by unfold Gh; rw [h]
  rw [e]
  show _ = AO.map (esT 0 (S ++ [(n, m, v)])) (S ++ [(n, m, v)]).length
  rw [qjq]; simp [esT]
theorem qoh {n : Int} {m : List Nat} {S : List (Int × List Nat × Int)} {j : Nat} (hm : m.length = 16) (ho : okT S) (h : Zq n m S = some j) (v : Int) :
    ud KD true (.agg (dia n m)) (esT 0 S) 0 = some (some (j, ⟨.agg (dia n m), .int .i64 (Yv n m S), j⟩)) ∧ (AO.map ((esT 0 S).set j ⟨.agg (dia n m), .int .i64 v, j⟩) S.length) = ym (Gh n m v S) := by
  have e1 : Yv n m S = (S.getD j zT).2.2 := by unfold Yv; rw [h]
  refine ⟨by rw [Wt hm ho, h, e1]; simp, ?_⟩
  have e : Gh n m v S = S.set j (n, m, v) := by unfold Gh; rw [h]
  rw [e]
  show _ = AO.map (esT 0 (S.set j (n, m, v))) (S.set j (n, m, v)).length
  have := qio (n := n) (v := v) (m := m) (ts := S) (k := 0) (j := j)
  rw [Nat.zero_add] at this
  rw [this]; simp
theorem qwc {p c n : Int} (hp : 2 ≤ p ∧ p ≤ 97) (hc : 0 ≤ c ∧ c ≤ p - 1) {a b : List (Int × List Nat × Int)} (ha : j0 p n a) (hb : j0 p n b) (hl : a.length ≤ 300 ∧ b.length ≤ 300) {l : List (Int × List Nat × Int)} (h : ∀ t ∈ l, t ∈ vh p c n a b) (hl : l.length ≤ 100000) :
    qjf p n (ML p n l) ∧ (ML p n l).length ≤ 100000 := by
  have hm := qit (c := c) hp hc ha hb
  have h1 := qfq (p := p) (n := n) (by omega) (l := l) (acc := []) ⟨⟨(fun t h => by cases h), (fun t h => by cases h), (fun t h => by cases h), .nil⟩, fun t h => by cases h⟩ fun t ht => ⟨(hm t (h t ht)).1, (hm t (h t ht)).2.1⟩
  exact ⟨h1.1, Nat.le_trans h1.2 (by simpa using hl)⟩
theorem j5 : B87 113 = some (yw) := rfl
theorem u6 : B87 128 = some (qu V0) := rfl
theorem bh : B87 127 = some (qu wy) := rfl
def gr : AC := .seq (.region [oP 24 .lss 23 22]) (.seq (.cond 24 .skip (.exit 2)) (.seq (.block 3 (.seq (.region [oX 25 18 21 23,oN 26 18 25,o0 9 (.alloc [.int .i64 0,.int .u8 0,.int .u8 0,.int .u8 0,.int .u8 0,.int .u8 0,.int .u8 0,.int .u8 0,.int .u8 0,.int .u8 0,.int .u8 0,.int .u8 0,.int .u8 0,.int .u8 0,.int .u8 0,.int .u8 0,.int .u8 0,.int .i64 0]),oS 18 9 26]) (.seq (.region [oF 28 0 7,oN 29 17 28,oF 30 0 9,oN 31 17 30,oC 32 127 [.t 29,.t 31],oM 27 32,oE 33 0 27,oE 34 1 27,o0 10 (.alloc [.int .i64 0,.int .u8 0,.int .u8 0,.int .u8 0,.int .u8 0,.int .u8 0,.int .u8 0,.int .u8 0,.int .u8 0,.int .u8 0,.int .u8 0,.int .u8 0,.int .u8 0,.int .u8 0,.int .u8 0,.int .u8 0,.int .u8 0]),oS 17 10 33,oM 11 34]) (.draw true [oM 35 5,oN 36 17 10,oM 37 5,oN 38 17 10,o0 39 (.lookup [.int,.int,.int,.int,.int,.int,.int,.int,.int,.int,.int,.int,.int,.int,.int,.int,.int] true (.int .i64 0) false (.t 37) (.t 38)),oF 40 17 7,oL 41 40,oF 42 17 9,oL 43 42,oP 44 .mul 41 43,oF 45 0 2,oL 46 45,oP 47 .rem 44 46,oF 48 1 2,oL 49 48,oM 50 11,oF 51 0 2,oL 52 51,oF 56 0 2,oL 57 56,oC 53 128 [.t 49,.t 50,.t 52],oP 54 .mul 47 53,oP 55 .add 39 54,oP 58 .rem 55 57,⟨none,none,.op (.Kh [.int,.int,.int,.int,.int,.int,.int,.int,.int,.int,.int,.int,.int,.int,.int,.int,.int] true (.t 35) (.t 36) (.t 58))⟩])))) (.region [oK 59 .add 23 1,oM 23 59])))
def Vt : AC := .region [oK 60 .add 16 1,oM 16 60]
def Zl : AC := .seq (.region [oP 17 .lss 16 15]) (.seq (.cond 17 .skip (.exit 0)) (.seq (.block 1 (.seq (.region [oX 18 18 14 16,oN 19 18 18,o0 7 (.alloc [.int .i64 0,.int .u8 0,.int .u8 0,.int .u8 0,.int .u8 0,.int .u8 0,.int .u8 0,.int .u8 0,.int .u8 0,.int .u8 0,.int .u8 0,.int .u8 0,.int .u8 0,.int .u8 0,.int .u8 0,.int .u8 0,.int .u8 0,.int .i64 0]),oS 18 7 19]) (.seq (.region [oF 20 3 3,oL 21 20,o0 22 (.len .slc (.t 21)),oI 23 0]) (.block 2 (.loop gr))))) Vt))
def Vr : AC := .seq (.region [oM 61 5,oC 62 113 [.t 2,.t 61],oS 4 4 62]) .ret
def Ur : AC := .seq (.region [o0 2 (.box (.t 0)),o0 3 (.box (.t 1)),o0 4 (.alloc [.int .i64 0,.int .i64 0,.int .i64 0,(.v (.slice none 0 0))])]) (.seq (.region [o0 12 (.K7),oM 5 12]) (.seq (.seq (.region [oF 13 3 2,oL 14 13,o0 15 (.len .slc (.t 14)),oI 16 0]) (.block 0 (.loop Zl))) Vr))
theorem qfp : xa Try.prog 90 = some ⟨63, Ur, [.kl 4 4]⟩ := by kernel_rfl
theorem qef (p c n p' c' : Int) (a b : List (Int × List Nat × Int)) (hp : 2 ≤ p ∧ p ≤ 97) (hc : 0 ≤ c ∧ c ≤ p - 1) (hn : 0 ≤ n ∧ n ≤ 8) (ha : j0 p n a) (hb : j0 p n b) (hl : a.length ≤ 300 ∧ b.length ≤ 300) :
    Am.Fn Try.prog 90 [elemV p c n 0 a.length, elemV p' c' n 1 b.length] [.ro (qn a), .ro (qn b)] (fun v H' => v = elemV p c n 2 (MP p n (vh p c n a b)).length ∧ H' = [.ro (qn a), .ro (qn b), .vec 18 (qn (MP p n (vh p c n a b)))]) := by
  refine Am.Fn.ofB qjs mixed qfp (by simp [elemV, AV.q8, AV.under]) (b9 (qb _) (qb _)) ?_
  have hal := qm ha.ok
  have hbl := qm hb.ok
  simp (maxSteps := 3000000) only [qf, zH, Ur, j5, u6, bh, V0, wy, yw, elemV, hal, hbl, Nat.le_refl, iE, iN, iB, iC, iL, iD, iA, iS, iM, qa, zZ, ↓qp, ↓reduceIte, reduceCtorEq, nA, nM, nS, nE, nL, nD]; try simp only [qa, zY]
  have hlen2 : ∀ l : List (Int × List Nat × Int), (∀ t ∈ l, t ∈ vh p c n a b) → l.length ≤ 100000 → qjf p n (ML p n l) ∧ (ML p n l).length ≤ 100000 := fun l h1 h2 => qwc (c := c) hp hc ha hb hl h1 h2
  refine WA.vc qjs (fun s => ∃ (i : Nat) (S : List (Int × List Nat × Int)), i ≤ a.length ∧ S = ML p n (vh p c n (a.take i) b) ∧ s = ⟨[(16, .int .i64 i), (15, .int .i64 a.length), (14, .slc 0 0 a.length false 0), (5, .map 5), (4, .ptr 4 0), (3, .ptr 3 0), (2, .ptr 2 0)], [.ro (qn a), .ro (qn b), .cells [.int .i64 p, .int .i64 c, .int .i64 n, .slc 0 0 a.length false 0], .cells [.int .i64 p', .int .i64 c', .int .i64 n, .slc 1 0 b.length false 0], qbt, ym S]⟩)
    (fun s => match get s.env 16 with | .int _ x => a.length - x.toNat | _ => 0) ⟨_, q6.za [16, 15, 14, 5, 4, 3, 2], 0, [], by omega, rfl, rfl⟩ ?_
  rintro s ⟨i, S, hi, hS, rfl⟩
  have hwi : q7 .i64 ((i : Int) + 1) = ((i + 1 : Nat) : Int) := by rw [wrap64 (by omega) (by omega)]; rfl
  by_cases hlt : i < a.length
  · have hli : (i : Int) < a.length := by omega
    have hli' : (0 : Int) ≤ i := by omega
    have hg0 := b7 ha.ok hlt
    have ok1 := ha.ok _ (List.getElem_mem hlt)
    have z1 := ha.dia _ (List.getElem_mem hlt)
    have c1 := ha.fac _ (List.getElem_mem hlt)
    have hb1 : i * 18 < a.length * 18 := by omega
    have hb2 : i * 18 + 18 ≤ a.length * 18 := by omega
    have hov := Qe (t := (0, List.replicate 16 0, 0)) (u := a[i]) (by simp) ok1.1
    have htl := zx (t := a[i]) ok1
    have htd := Bj (t := a[i]) ok1
    have htf := ur (t := a[i]) ok1
    rw [z1.1] at htd
    have hmem : ∀ j, ∀ t ∈ vh p c n (a.take i) b ++ (b.take j).map (prT p c n a[i]), t ∈ vh p c n a b := fun j t ht => qlz hlt ht
    have hmln : ∀ j, (vh p c n (a.take i) b ++ (b.take j).map (prT p c n a[i])).length ≤ 100000 := fun j => by
      rw [List.length_append, qaq, List.length_map, List.length_take, List.length_take]
      have h1 : (min i a.length) * b.length ≤ 300 * 300 := Nat.mul_le_mul (by omega) hl.2
      omega
    have hms : vh p c n (a.take (i + 1)) b = vh p c n (a.take i) b ++ b.map (prT p c n a[i]) := qia hlt
    have hnx : ∀ j (h : j < b.length), (b.take (j + 1)).map (prT p c n a[i]) = (b.take j).map (prT p c n a[i]) ++ [prT p c n a[i] b[j]] := fun j h => ql6 h
    obtain ⟨t, ht⟩ : ∃ t, t = a[i] := ⟨_, rfl⟩
    rw [← ht] at hg0 ok1 z1 c1 hov htl htd htf hms
    simp only [← ht] at hmem hmln hnx
    clear ht
    simp (maxSteps := 3000000) only [qf, zH, Zl, j5, u6, bh, V0, wy, yw, hli, hli', hal, hbl, hb1, hb2, hg0, jr, htl, jq, xp, hov, List.length_replicate, Nat.le_refl, iE, iN, iB, iC, iL, iD, iA, iS, iM, qa, zZ, ↓qp, ↓reduceIte, reduceCtorEq, nA, nM, nS, nE, nL, nD]; try simp only [qa, zY]
    have ea : vh p c n (a.take i) b = vh p c n (a.take i) b ++ (b.take 0).map (prT p c n t) := by simp
    rw [ea] at hS
    refine WA.vc qjs (fun s => ∃ (j : Nat) (S : List (Int × List Nat × Int)), j ≤ b.length ∧ S = ML p n (vh p c n (a.take i) b ++ (b.take j).map (prT p c n t)) ∧ s = ⟨[(23, .int .i64 j), (22, .int .i64 b.length), (21, .slc 1 0 b.length false 0), (7, .ptr 6 0), (16, .int .i64 i), (15, .int .i64 a.length), (14, .slc 0 0 a.length false 0), (5, .map 5), (4, .ptr 4 0), (3, .ptr 3 0), (2, .ptr 2 0)], [.ro (qn a), .ro (qn b), .cells [.int .i64 p, .int .i64 c, .int .i64 n, .slc 0 0 a.length false 0], .cells [.int .i64 p', .int .i64 c', .int .i64 n, .slc 1 0 b.length false 0], qbt, ym S, .cells (trm t)]⟩)
      (fun s => match get s.env 23 with | .int _ x => b.length - x.toNat | _ => 0) ⟨_, q6.za [23, 22, 21, 7, 16, 15, 14, 5, 4, 3, 2], 0, S, by omega, hS, rfl⟩ ?_
    clear hS
    rintro s ⟨j, S, hj, hS, rfl⟩
    by_cases hltj : j < b.length
    · obtain ⟨hs, hsl⟩ := hlen2 _ (hmem j) (hmln j)
      rw [← hS] at hs hsl
      have hlj : (j : Int) < b.length := by omega
      have hlj' : (0 : Int) ≤ j := by omega
      have hw : q7 .i64 ((j : Int) + 1) = ((j + 1 : Nat) : Int) := by rw [wrap64 (by omega) (by omega)]; rfl
      have hq0 := b7 hb.ok hltj
      have ok2 := hb.ok _ (List.getElem_mem hltj)
      have z2 := hb.dia _ (List.getElem_mem hltj)
      have c2 := hb.fac _ (List.getElem_mem hltj)
      have hb4 : j * 18 < b.length * 18 := by omega
      have hb5 : j * 18 + 18 ≤ b.length * 18 := by omega
      have hov2 := Qe (t := (0, List.replicate 16 0, 0)) (u := b[j]) (by simp) ok2.1
      have htl2 := zx (t := b[j]) ok2
      have htd2 := Bj (t := b[j]) ok2
      have htf2 := ur (t := b[j]) ok2
      rw [z2.1] at htd2
      obtain ⟨t1, t2, t3, t4⟩ := qnm (c := c) hp hc z1.2 z2.2 c1 c2
      have hnext : ML p n (vh p c n (a.take i) b ++ (b.take (j + 1)).map (prT p c n t)) = qbu p n (prT p c n t b[j]).2.1 (prT p c n t b[j]).2.2 S := by
        rw [hnx j hltj, ← List.append_assoc, qwx, ← hS]
      obtain ⟨u, hu⟩ : ∃ u, u = b[j] := ⟨_, rfl⟩
      rw [← hu] at hq0 ok2 z2 c2 hov2 htl2 htd2 htf2 t1 t2 t3 t4 hnext
      clear hu
      have s1 := z1.2
      have s2 := z2.2
      have hprd : (prT p c n t u).2.1 = vo n.toNat t.2.1 u.2.1 := rfl
      have hprf : (prT p c n t u).2.2 = (t.2.2 * u.2.2).emod p * bt p c (lpN n.toNat t.2.1 u.2.1 n.toNat) := rfl
      rw [hprd, hprf] at hnext
      rw [hprd] at t1 t2
      rw [hprf] at t3 t4
      have hlpb : (0 : Int) ≤ ((lpN n.toNat t.2.1 u.2.1 n.toNat : Nat) : Int) ∧ ((lpN n.toNat t.2.1 u.2.1 n.toNat : Nat) : Int) ≤ 1000000 := by
        have := qes n.toNat t.2.1 u.2.1 n.toNat; omega
      obtain ⟨w1, w2, w3, w4⟩ := pow_mul (p := p) (c := u.2.2) (x := t.2.2) hp (by omega) (by omega)
      have w5 : q7 .i64 ((t.2.2 * u.2.2).emod p * bt p c (lpN n.toNat t.2.1 u.2.1 n.toNat)) = (t.2.2 * u.2.2).emod p * bt p c (lpN n.toNat t.2.1 u.2.1 n.toNat) := wrap64 (by omega) (by omega)
      have hne : p ≠ 0 := by omega
      have hn0 : 0 ≤ n := hn.1
      have t0 := t1.1
      have hvb := qw3 (by omega) hs (m := vo n.toNat t.2.1 u.2.1)
      have hkok : kok KD true (.agg (dia n (vo n.toNat t.2.1 u.2.1))) = true := qjj t0
      have hmT : ym S = .map (esT 0 S) S.length := rfl
      have do1 := zb (n := n) ok1
      have do2 := zb (n := n) ok2
      clear hprd hprf
      cases hix : Zq n (vo n.toNat t.2.1 u.2.1) S with
      | none =>
        obtain ⟨f1, f2, f3⟩ := qog t0 hs.1.ok hix ((0 + (t.2.2 * u.2.2).emod p * bt p c (lpN n.toNat t.2.1 u.2.1 n.toNat)).emod p)
        have w6 : q7 .i64 (0 + (t.2.2 * u.2.2).emod p * bt p c (lpN n.toNat t.2.1 u.2.1 n.toNat)) = 0 + (t.2.2 * u.2.2).emod p * bt p c (lpN n.toNat t.2.1 u.2.1 n.toNat) := wrap64 (by omega) (by omega)
        have w7 : Int.tmod (0 + (t.2.2 * u.2.2).emod p * bt p c (lpN n.toNat t.2.1 u.2.1 n.toNat)) p = (0 + (t.2.2 * u.2.2).emod p * bt p c (lpN n.toNat t.2.1 u.2.1 n.toNat)).emod p := Int.tmod_eq_emod_of_nonneg (by omega)
        simp (maxSteps := 3000000) only [qf, zH, gr, j5, u6, bh, V0, wy, yw, hlj, hlj', hal, hbl, hb4, hb5, hq0, jr, htl, htl2, htd, htd2, htf, htf2, jq, xp, hov2, x9, y7, u9 t0, q9 t0, qe, t0, xo, List.length_replicate, Nat.le_refl, do1, do2, s1, s2, hn0, w1, w2, w5, w6, w7, hne, hp, hc, hlpb, Int.toNat_natCast, hmT, hkok, f1, vn, hw, and_self, iE, iN, iB, iC, iL, iD, iA, iS, iM, qa, zZ, ↓qp, ↓reduceIte, reduceCtorEq, nA, nM, nS, nE, nL, nD]; try simp only [qa, zY]
        rw [f3]
        refine ⟨⟨_, rfl⟩, _, q6.xy [0, 1, 2, 3, 4, 5, 6] [23, 22, 21, 7, 16, 15, 14, 5, 4, 3, 2] ⟨by decide, ?_⟩ ?_, ⟨j + 1, Gh n (vo n.toNat t.2.1 u.2.1) ((0 + (t.2.2 * u.2.2).emod p * bt p c (lpN n.toNat t.2.1 u.2.1 n.toNat)).emod p) S, by omega, by rw [hnext, qbu, f2], ?_⟩, ?_⟩
        · simp only [qd _ _ (qb _), qd _ _ (wu _), ym, ↓zy, zK, ↓reduceIte, reduceCtorEq, nE, nB, nA]
        · simp only [qd _ _ (qb _), qd _ _ (wu _), ym, ↓zy, zK, ↓reduceIte, reduceCtorEq, nE, nB, nA]
        · simp only [qc _ _ (qb _), qc _ _ (wu _), ym, ↓uw, zL, ↓reduceIte, reduceCtorEq, nE, nA]
        · simp only [zL, ↓reduceIte, reduceCtorEq, nE, nA]; omega
      | some q =>
        obtain ⟨f1, f3⟩ := qoh t0 hs.1.ok hix ((Yv n (vo n.toNat t.2.1 u.2.1) S + (t.2.2 * u.2.2).emod p * bt p c (lpN n.toNat t.2.1 u.2.1 n.toNat)).emod p)
        have w6 : q7 .i64 (Yv n (vo n.toNat t.2.1 u.2.1) S + (t.2.2 * u.2.2).emod p * bt p c (lpN n.toNat t.2.1 u.2.1 n.toNat)) = Yv n (vo n.toNat t.2.1 u.2.1) S + (t.2.2 * u.2.2).emod p * bt p c (lpN n.toNat t.2.1 u.2.1 n.toNat) := wrap64 (by omega) (by omega)
        have w7 : Int.tmod (Yv n (vo n.toNat t.2.1 u.2.1) S + (t.2.2 * u.2.2).emod p * bt p c (lpN n.toNat t.2.1 u.2.1 n.toNat)) p = (Yv n (vo n.toNat t.2.1 u.2.1) S + (t.2.2 * u.2.2).emod p * bt p c (lpN n.toNat t.2.1 u.2.1 n.toNat)).emod p := Int.tmod_eq_emod_of_nonneg (by omega)
        simp (maxSteps := 3000000) only [qf, zH, gr, j5, u6, bh, V0, wy, yw, hlj, hlj', hal, hbl, hb4, hb5, hq0, jr, htl, htl2, htd, htd2, htf, htf2, jq, xp, hov2, x9, y7, u9 t0, q9 t0, qe, t0, xo, List.length_replicate, Nat.le_refl, do1, do2, s1, s2, hn0, w1, w2, w5, w6, w7, hne, hp, hc, hlpb, Int.toNat_natCast, hmT, hkok, f1, vn, hw, and_self, iE, iN, iB, iC, iL, iD, iA, iS, iM, qa, zZ, ↓qp, ↓reduceIte, reduceCtorEq, nA, nM, nS, nE, nL, nD]; try simp only [qa, zY]
        rw [f3]
        refine ⟨⟨_, rfl⟩, _, q6.xy [0, 1, 2, 3, 4, 5, 6] [23, 22, 21, 7, 16, 15, 14, 5, 4, 3, 2] ⟨by decide, ?_⟩ ?_, ⟨j + 1, Gh n (vo n.toNat t.2.1 u.2.1) ((Yv n (vo n.toNat t.2.1 u.2.1) S + (t.2.2 * u.2.2).emod p * bt p c (lpN n.toNat t.2.1 u.2.1 n.toNat)).emod p) S, by omega, by rw [hnext, qbu], ?_⟩, ?_⟩
        · simp only [qd _ _ (qb _), qd _ _ (wu _), ym, ↓zy, zK, ↓reduceIte, reduceCtorEq, nE, nB, nA]
        · simp only [qd _ _ (qb _), qd _ _ (wu _), ym, ↓zy, zK, ↓reduceIte, reduceCtorEq, nE, nB, nA]
        · simp only [qc _ _ (qb _), qc _ _ (wu _), ym, ↓uw, zL, ↓reduceIte, reduceCtorEq, nE, nA]
        · simp only [zL, ↓reduceIte, reduceCtorEq, nE, nA]; omega
    · have hlj : ¬ ((j : Int) < b.length) := by omega
      obtain rfl : j = b.length := by omega
      simp (maxSteps := 3000000) only [qf, zH, gr, Vt, j5, u6, bh, V0, wy, yw, hlj, hwi, hbl, Int.lt_irrefl, iE, iN, iB, iC, iL, iD, iA, iS, iM, qa, zZ, ↓qp, ↓reduceIte, reduceCtorEq, nA, nM, nS, nE, nL, nD]; try simp only [qa, zY]
      refine ⟨_, q6.xy [0, 1, 2, 3, 4, 5] [16, 15, 14, 5, 4, 3, 2] ⟨by decide, ?_⟩ ?_, ⟨i + 1, S, by omega, by rw [hS, List.take_length, hms], ?_⟩, ?_⟩
      · simp only [qd _ _ (qb _), ym, ↓zy, zK, ↓reduceIte, reduceCtorEq, nE, nB, nA]
      · simp only [qd _ _ (qb _), ym, ↓zy, zK, ↓reduceIte, reduceCtorEq, nE, nB, nA]
      · simp only [qc _ _ (qb _), ym, ↓uw, zL, ↓reduceIte, reduceCtorEq, nE, nA]
      · simp only [zL, ↓reduceIte, reduceCtorEq, nE, nA]; omega
  · have hli : ¬ ((i : Int) < a.length) := by omega
    obtain rfl : i = a.length := by omega
    rw [List.take_length] at hS
    obtain ⟨hs, hsl⟩ := hlen2 (vh p c n a b) (fun t h => h) (by
      rw [qaq]
      have : a.length * b.length ≤ 300 * 300 := Nat.mul_le_mul hl.1 hl.2
      omega)
    have hlaw := qxq (p := p) (n := n) (by omega) (qit (c := c) hp hc ha hb)
    have hll : (xz p (ML p n (vh p c n a b))).length = (MP p n (vh p c n a b)).length := by rw [← hlaw]; exact (ki _).length_eq.symm
    rw [← hll, ← hlaw]
    rw [← hS] at hs hsl ⊢
    clear hS hll hlaw
    have hap := qhz hs.1
    obtain ⟨hz1, hz2, hz3⟩ := qt7 (p := p) hn hs.1
    have hSo := hs.1.ok
    have hmT : ym S = .map (esT 0 S) S.length := rfl
    have hts := qjv (ts := S) (k := 0) hSo
    have hSl' : S.length ≤ 1000000 := by omega
    have hpp : 0 < p ∧ p ≤ 1000000 := by omega
    simp (maxSteps := 3000000) only [qf, zH, Zl, Vr, j5, u6, bh, V0, wy, yw, hli, hmT, Int.lt_irrefl, hts, hpp, hSl', hz1, hz2, hap, and_self, elemV, iE, iN, iB, iC, iL, iD, iA, iS, iM, qa, zZ, ↓qp, ↓reduceIte, reduceCtorEq, nA, nM, nS, nE, nL, nD]; try simp only [qa, zY]
    rw [hz3]
    refine ⟨hz2, rfl, ?_⟩
    refine Ret.xy [0, 1, 6] ⟨⟨by simp, rfl, by decide⟩, ?_⟩ (rs := [.agg [.int .i64 p, .int .i64 c, .int .i64 n, .slc 6 0 (xz p S).length false 0]]) rfl rfl (by simp [xj]) ?_ ⟨?_, ?_⟩
    · simp only [qd _ _ (qb _), ↓zy, zK, ↓reduceIte, reduceCtorEq, nE, nB, nA]
    · intro j l; match j with
      | 0 => simp [ze, AO.ren]
      | 1 => simp [ze, AO.ren]
      | 2 => simp [ze, AO.ren]
      | j + 3 => simp [ze]
    · simp only [xj]
      simp only [zL, ↓reduceIte, reduceCtorEq, nE, nA]
    · simp only [qc _ _ (qb _), zL, ↓reduceIte, reduceCtorEq, nE, nA]
noncomputable def B88 : xh := (B87.put 90 (Qv))
theorem qyd : zf Try.prog B88 := (qjs.put (qlr qef))
theorem Bx {p c n : Int} (hp : 2 ≤ p ∧ p ≤ 97) (hc : 0 ≤ c ∧ c ≤ p - 1) {a b : List (Int × List Nat × Int)} (ha : j0 p n a) (hb : j0 p n b) (hl : a.length ≤ 300 ∧ b.length ≤ 300) : j0 p n (MP p n (vh p c n a b)) ∧ (MP p n (vh p c n a b)).length ≤ 100000 := by
  have h0 : j0 p n [] := ⟨(fun t h => by cases h), (fun t h => by cases h), (fun t h => by cases h), .nil⟩
  have h := K1 (p := p) (F := 10000) (φ := id) (κ := fun _ => 1) (by omega) h0 (qit (c := c) hp hc ha hb)
  refine ⟨h.1, Nat.le_trans h.2 ?_⟩
  rw [List.length_nil, qaq]
  have h1 : a.length * b.length ≤ 300 * 300 := Nat.mul_le_mul hl.1 hl.2
  omega
noncomputable def B89 : xh := B88
theorem qd7 : zf Try.prog B89 := qyd
end Go.Proofs.Ytkgoadglalpbfaa

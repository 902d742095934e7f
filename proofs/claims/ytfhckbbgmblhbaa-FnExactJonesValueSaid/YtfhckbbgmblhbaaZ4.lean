/- Contracts of functions of the program, and plain laws, part 4: each text of this part is proved without further condition. -/
import Derived.Test.YtfhckbbgmblhbaaZ3
namespace Go.Proofs.Ytfhckbbgmblhbaa
open Go.Am Go.Dia
open Nat renaming reduceAdd → nA, reduceMul → nM, reduceSub → nS, reduceEqDiff → nE, reduceLT → nL, reduceLeDiff → nD, reduceBEq → nB
open Int renaming reduceEq → iE, reduceNe → iN, reduceBEq → iB, reduceBNe → iC, reduceLT → iL, reduceLE → iD, reduceAdd → iA, reduceSub → iS, reduceMul → iM
set_option linter.unusedSimpArgs false
set_option linter.unusedVariables false
set_option maxRecDepth 4000
set_option maxHeartbeats 1000000
theorem u4 : B82 168 = some (V3 1 g_n) := rfl
theorem kn : B82 171 = some (qk kz) := rfl
def InA (n : Nat) (d e : List Nat) (i x : Nat) (met : List Bool) : Prop :=
  met.length = 8 ∧ ((x = i ∧ ∀ y, mt met y ↔ Seen n d e i y) ∨ ∃ (T : Nat → Prop) (last : Nat), qd8 (XX n d e) (em e) (dm n d) i T last ∧ x = dm n d last ∧ ¬ T x ∧ ∀ y, mt met y ↔ Seen n d e i y ∨ (T y ∧ y ≠ i) ∨ y = x)
def InB (n : Nat) (d e : List Nat) (i y : Nat) (met : List Bool) : Prop :=
  met.length = 8 ∧ ∃ (T : Nat → Prop), qd8 (XX n d e) (em e) (dm n d) i T y ∧ ∀ z, mt met z ↔ Seen n d e i z ∨ (T z ∧ z ≠ i)
theorem qtv {n : Nat} {d e : List Nat} (hd : isS n d = true) (he : isS n e = true) (hn : n ≤ 8) {i x : Nat} {met : List Bool} (hi : i < n) (h0 : ¬ Seen n d e i i) (h : InA n d e i x met) :
    XX n d e x ∧ XX n d e (em e x) ∧ em e x ≠ i ∧ ¬ mt met (em e x) ∧ InB n d e i (em e x) (met.set (em e x) true) := by
  have hX : XX n d e i := ⟨hi, fun h => h0 (.inl h)⟩
  have hf := qac hd he
  have hg := K5 hd he
  obtain ⟨hl, ⟨rfl, hm⟩ | ⟨T, last, hT, rfl, hTx, hm⟩⟩ := h
  · have h1 := hf.mem _ hX
    have h2 : ¬ mt met (em e x) := fun h => Y5 hd he hi h0 (.two .base) ((hm _).1 h)
    have h3 := hf.fix _ hX
    refine ⟨hX, h1, h3, h2, by rw [List.length_set]; exact hl, _, qd8.start hf hX, fun z => ?_⟩
    rw [bm (by have := h1.1; omega), hm]
    constructor
    · rintro (rfl | h)
      · exact .inr ⟨.inr rfl, h3⟩
      · exact .inl h
    · rintro (h | ⟨h | h, h'⟩)
      · exact .inr h
      · exact absurd h h'
      · exact .inl h
  · have hr := hT.ring _ hT.lm
    have h0' := hg.mem _ (Ring.mem hf hg hX hr)
    have h1 := hf.mem _ h0'
    obtain ⟨n1, n2, n3⟩ := hT.next hf hg hX hTx
    have h3 : em e (dm n d last) ≠ i := fun h => n2 (by rw [h]; exact hT.m0)
    have h4 : dm n d last ≠ i := fun h => hTx (by rw [h]; exact hT.m0)
    have h2 : ¬ mt met (em e (dm n d last)) := fun h => by
      rcases (hm _).1 h with h | ⟨h, _⟩ | h
      · exact Y5 hd he hi h0 (Ring.swap (.one (.two hr))) h
      · exact n2 h
      · exact n3 h
    refine ⟨h0', h1, h3, h2, by rw [List.length_set]; exact hl, _, n1, fun z => ?_⟩
    rw [bm (by have := h1.1; omega), hm]
    constructor
    · rintro (rfl | h | ⟨h, h'⟩ | rfl)
      · exact .inr ⟨.inr (.inl rfl), h3⟩
      · exact .inl h
      · exact .inr ⟨.inr (.inr h), h'⟩
      · exact .inr ⟨.inl rfl, h4⟩
    · rintro (h | ⟨h | h | h, h'⟩)
      · exact .inr (.inl h)
      · exact .inr (.inr (.inr h))
      · exact .inl h
      · exact .inr (.inr (.inl ⟨h, h'⟩))
theorem qv1 {n : Nat} {d e : List Nat} (hd : isS n d = true) (he : isS n e = true) (hn : n ≤ 8) {i y : Nat} {met : List Bool} (hi : i < n) (h0 : ¬ Seen n d e i i) (h : InB n d e i y met) :
    XX n d e y ∧ XX n d e (dm n d y) ∧ (dm n d y = i → ∀ z, mt (met.set i true) z ↔ Seen n d e i z ∨ Ring (dm n d) (em e) i z) ∧ (dm n d y ≠ i → ¬ mt met (dm n d y) ∧ InA n d e i (dm n d y) (met.set (dm n d y) true)) := by
  have hX : XX n d e i := ⟨hi, fun h => h0 (.inl h)⟩
  have hf := qac hd he
  have hg := K5 hd he
  obtain ⟨hl, T, hT, hm⟩ := h
  have hr := hT.ring _ hT.lm
  have hy := Ring.mem hf hg hX hr
  have h1 := hg.mem _ hy
  refine ⟨hy, h1, fun hk z => ?_, fun hk => ?_⟩
  · have hs := (hT.stop hf hg hX (by rw [hk]; exact hT.m0)).2
    rw [bm (by omega), hm]
    constructor
    · rintro (rfl | h | ⟨h, _⟩)
      · exact .inr .base
      · exact .inl h
      · exact .inr (Ring.swap ((hs _).1 h))
    · rintro (h | h)
      · exact .inr (.inl h)
      · by_cases e1 : z = i
        · exact .inl e1
        · exact .inr (.inr ⟨(hs _).2 (Ring.swap h), e1⟩)
  · have hnT : ¬ T (dm n d y) := fun h => hk (hT.stop hf hg hX h).1
    refine ⟨fun h => ?_, by rw [List.length_set]; exact hl, .inr ⟨T, y, hT, rfl, hnT, fun z => ?_⟩⟩
    · rcases (hm _).1 h with h | ⟨h, _⟩
      · exact Y5 hd he hi h0 (Ring.swap (.two hr)) h
      · exact hnT h
    · rw [bm (by have := h1.1; omega), hm]
      constructor
      · rintro (h | h | h)
        · exact .inr (.inr h)
        · exact .inl h
        · exact .inr (.inl h)
      · rintro (h | h | h)
        · exact .inr (.inl h)
        · exact .inr (.inr h)
        · exact .inl h
open Classical in
noncomputable def Gn (n : Nat) (d e : List Nat) (i : Nat) (met : List Bool) : List Bool := (List.range 8).map fun z => decide (mt met z ∨ Ring (dm n d) (em e) i z)
theorem qu3 {n : Nat} {d e : List Nat} {i : Nat} {met : List Bool} {z : Nat} (hz : z < 8) : mt (Gn n d e i met) z ↔ mt met z ∨ Ring (dm n d) (em e) i z := by
  conv => lhs; unfold mt Gn
  simp [List.getD_eq_getElem?_getD, hz]
theorem qxi {n : Nat} {d e : List Nat} {i : Nat} {met met' : List Bool} (hl : met'.length = 8) (h : ∀ z, mt met' z ↔ mt met z ∨ Ring (dm n d) (em e) i z) : met' = Gn n d e i met := by
  apply List.ext_getElem
  · simp [Gn, hl]
  · intro z h1 h2
    have h3 := h z
    have h4 : mt met' z ↔ met'[z] = true := by simp [mt, List.getD_eq_getElem?_getD, h1]
    simp only [Gn, List.getElem_map, List.getElem_range]
    rw [Bool.eq_iff_iff, ← h4, h3]
    simp
theorem qoe (N : Nat) (d e : List Nat) (hd : okD d) (he : okD e) (hds : isS N d = true) (hes : isS N e = true) {i : Nat} {met : List Bool} (hi : i < N) (hm0 : met.length = 8) (hmt : ∀ x, mt met x ↔ Seen N d e i x) (h0 : ¬ Seen N d e i i) :
    Am.Fn Try.prog 187 [.ptr 0 0, .bool true, .int .i64 i, .int .i64 i] (H3 N d e met) (fun v H' => v = .int .i64 (-1) ∧ H' = H3 N d e (Gn N d e i met)) := by
  refine Am.Fn.ofB qg6 mixed Wz (by simp [AV.qn, AV.under, H3]) qlm ?_
  obtain ⟨hN, hpd, _⟩ := z6 hds
  obtain ⟨_, hpe, _⟩ := z6 hes
  have hdl := hd.1
  have hel := he.1
  unfold H3
  simp (maxSteps := 3000000) only [qf, zH, Xc, u4, kn, kz, g_n, wu, Q8, Zn, hm0, qg, hdl, hel, gw, Uj, iE, iN, iB, iC, iL, iD, iA, iS, iM, qa, zZ, ↓qt, ↓reduceIte, reduceCtorEq, nA, nM, nS, nE, nL, nD]; try simp only [qa, zY]
  refine qt5 qg6 (fun k st => (∃ (x : Nat) (mm : List Bool), k = bl (bls mm) ∧ InA N d e i x mm ∧ st = ⟨[(9, .int .i64 N), (0, .ptr 0 0), (1, .bool true), (2, .int .i64 x), (3, .int .i64 i)], [.cells (stk 1 2 mm), .ro (dia N d), .ro (dia N e)]⟩) ∨
      ∃ (y : Nat) (mm : List Bool), k = bl (bls mm) ∧ InB N d e i y mm ∧ st = ⟨[(9, .int .i64 N), (0, .ptr 0 0), (1, .bool false), (2, .int .i64 (N + y : Nat)), (3, .int .i64 i)], [.cells (stk 1 2 mm), .ro (dia N d), .ro (dia N e)]⟩)
    ⟨_, qv.qw [9, 0, 1, 2, 3], _, .inl ⟨i, met, rfl, ⟨hm0, .inl ⟨rfl, hmt⟩⟩, rfl⟩⟩ ?_
  have hN0 : (N : Int) ≠ 0 := by omega
  rintro k st (⟨x, mm, rfl, hA, rfl⟩ | ⟨y, mm, rfl, hB, rfl⟩) post hpost
  · obtain ⟨x1, x2, x3, x4, x5⟩ := qtv hds hes hN.2 hi h0 hA
    have hm := hA.1
    obtain ⟨z1, z2, z3⟩ := qip hds hes x1
    have hxk := x1.1
    have hex : em e x = e.getD x 0 := rfl
    obtain ⟨hi16, hi16'⟩ := vz (show x < 16 by omega)
    have hi17 : x < 16 := by omega
    have hcx : qm .i64 ((e.getD x 0 : Nat) : Int) = ((e.getD x 0 : Nat) : Int) := kp (by omega)
    have hdx := Jw (n := (N : Int)) (m := e) (i := x) (by omega)
    have hli : ((N : Int) ≤ ((e.getD x 0 : Nat) : Int)) ↔ False := iff_false_intro (by omega)
    have hrem := qqp (N := N) (x := e.getD x 0) z3
    have hadd : qm .i64 ((N : Int) + ((e.getD x 0 : Nat) : Int)) = ((N + e.getD x 0 : Nat) : Int) := by rw [wrap64 (by omega) (by omega)]; rfl
    have h8 := Wu (show e.getD x 0 < 8 by omega)
    have h8' : e.getD x 0 < 8 := by omega
    have h10 : 2 + e.getD x 0 < 8 + 3 := by omega
    have hst : (((e.getD x 0 : Nat) : Int) == (i : Int)) = false := by rw [beq_eq_false_iff_ne]; rw [hex] at x3; omega
    simp (maxSteps := 3000000) only [qf, zH, xe, u4, kn, kz, g_n, Bool.not_true, Bool.not_false, wu, Q8, Zn, Z4 hm, qa0 hm h8', hm, qg, hdl, hel, hi16, hi16', hi17, hcx, hdx, hli, decide_false, decide_true, beq_self_eq_true, Bool.true_beq, Bool.false_beq, hrem, hadd, h8, h8', h10, hN0, hst, AV.one, iE, iN, iB, iC, iL, iD, iA, iS, iM, qa, zZ, ↓qt, ↓reduceIte, reduceCtorEq, nA, nM, nS, nE, nL, nD]; try simp only [qa, zY]
    have hlt := Qo (met := mm) (k := em e x) (by have := x2.1; omega) (by cases h : mm.getD (em e x) false with
      | false => rfl
      | true => exact absurd h x4)
    exact hpost _ _ _ (qv.qw [9, 0, 1, 2, 3]) (.inr ⟨em e x, _, rfl, x5, rfl⟩) hlt
  · obtain ⟨y1, y2, y3, y4⟩ := qv1 hds hes hN.2 hi h0 hB
    have hm := hB.1
    obtain ⟨z1, z2, z3⟩ := qip hds hes y1
    have hyk := y1.1
    have hdy : dm N d y = d.getD (N + y) 0 - N := rfl
    obtain ⟨hi16, hi16'⟩ := vz (show N + y < 16 by omega)
    have hi17 : N + y < 16 := by omega
    have hcx : qm .i64 ((d.getD (N + y) 0 : Nat) : Int) = ((d.getD (N + y) 0 : Nat) : Int) := kp (by omega)
    have hdx := Jw (n := (N : Int)) (m := d) (i := N + y) (by omega)
    have hli : ((N : Int) ≤ ((d.getD (N + y) 0 : Nat) : Int)) ↔ True := iff_true_intro (by omega)
    have hrem := qqs (N := N) (x := d.getD (N + y) 0) (by omega) (by omega)
    have h8 := Wu (show d.getD (N + y) 0 - N < 8 by omega)
    have h8' : d.getD (N + y) 0 - N < 8 := by omega
    have h10 : 2 + (d.getD (N + y) 0 - N) < 8 + 3 := by omega
    by_cases hk : dm N d y = i
    · have hst : ((((d.getD (N + y) 0 - N : Nat) : Int)) == (i : Int)) = true := by rw [beq_iff_eq]; omega
      simp (maxSteps := 3000000) only [qf, zH, xe, u4, kn, kz, g_n, Bool.not_true, Bool.not_false, wu, Q8, Zn, Z4 hm, qa0 hm h8', hm, qg, hdl, hel, hi16, hi16', hi17, hcx, hdx, hli, decide_false, decide_true, beq_self_eq_true, Bool.true_beq, Bool.false_beq, hrem, h8, h8', h10, hN0, hst, AV.one, iE, iN, iB, iC, iL, iD, iA, iS, iM, qa, zZ, ↓qt, ↓reduceIte, reduceCtorEq, nA, nM, nS, nE, nL, nD]; try simp only [qa, zY]
      have hL : mm.set (d.getD (N + y) 0 - N) true = Gn N d e i met := qxi (by rw [List.length_set]; exact hm) fun z => by
        rw [show d.getD (N + y) 0 - N = i from hk, y3 hk, hmt]
      refine Ret.xv [0, 1, 2] ⟨⟨by simp, rfl, by decide⟩, ?_⟩ (rs := [.int .i64 (-1)]) rfl rfl (by simp [xa]) ?_ ⟨?_, ?_⟩
      · simp only [qe _ _ (qd _ _), qah, zK, ↓reduceIte, reduceCtorEq, nE, nB, nA]
      · exact ro3
      · rfl
      · simp only [qb _ _ (qd _ _), W9, zL, ↓reduceIte, reduceCtorEq, nE, nA]
        rw [hL]; rfl
    · have hst : ((((d.getD (N + y) 0 - N : Nat) : Int)) == (i : Int)) = false := by rw [beq_eq_false_iff_ne]; omega
      obtain ⟨q1, q2⟩ := y4 hk
      simp (maxSteps := 3000000) only [qf, zH, xe, u4, kn, kz, g_n, Bool.not_true, Bool.not_false, wu, Q8, Zn, Z4 hm, qa0 hm h8', hm, qg, hdl, hel, hi16, hi16', hi17, hcx, hdx, hli, decide_false, decide_true, beq_self_eq_true, Bool.true_beq, Bool.false_beq, hrem, h8, h8', h10, hN0, hst, AV.one, iE, iN, iB, iC, iL, iD, iA, iS, iM, qa, zZ, ↓qt, ↓reduceIte, reduceCtorEq, nA, nM, nS, nE, nL, nD]; try simp only [qa, zY]
      have hlt := Qo (met := mm) (k := dm N d y) (by have := y2.1; omega) (by cases h : mm.getD (dm N d y) false with
        | false => rfl
        | true => exact absurd h q1)
      exact hpost _ _ _ (qv.qw [9, 0, 1, 2, 3]) (.inl ⟨dm N d y, _, rfl, q2, rfl⟩) hlt
def qlw : List AV → Option (Nat × Nat × List Bool)
  | .ptr a 0 :: .ptr b 0 :: rest => match Wi (rest.take 8), rest.drop 8 with
    | some met, [.fn 171 [] []] => chk (met.length = 8) (some (a, b, met))
    | _, _ => none
  | _ => none
theorem qb9 {a b : Nat} {met : List Bool} (h : met.length = 8) : qlw (stk a b met) = some (a, b, met) := by
  have h1 : (bls met).length = 8 := by rw [zs, h]
  have h2 : List.take 8 (bls met ++ [.fn 171 [] []]) = bls met := List.take_left' h1
  have h3 : List.drop 8 (bls met ++ [.fn 171 [] []]) = [.fn 171 [] []] := List.drop_left' h1
  simp only [stk, qlw, h2, h3, Bm, chk, h, if_true]
theorem qo7 {l : List AV} {a b : Nat} {met : List Bool} (h : qlw l = some (a, b, met)) : l = stk a b met ∧ met.length = 8 := by
  unfold qlw at h
  split at h
  · rename_i a' b' rest
    split at h
    · rename_i met' h1 h2
      obtain ⟨h3, h4⟩ := ql h
      simp only [Option.some.injEq, Prod.mk.injEq] at h4
      obtain ⟨rfl, rfl, rfl⟩ := h4
      refine ⟨?_, h3⟩
      have h5 := Y8 h1
      conv => lhs; rw [← List.take_append_drop 8 rest, h5, h2]
      rfl
    · cases h
  · cases h
def rdD (hp : List AO) (b : Nat) : Option (Int × List Nat) := match rd hp b with
  | some L => yz (L.take 17)
  | none => none
open Classical in
noncomputable def bg : BE := fun hp xs => match xs with
  | [.ptr b 0, .bool w, .int .i64 i, .int .i64 st] => match hp[b]? with
    | some (.cells l) => match qlw l with
      | some (b1, b2, met) => match rdD hp b1, rdD hp b2 with
        | some (n, d), some (n', e) => chk ((n' = n ∧ 0 ≤ n) ∧ (isS n.toNat d = true ∧ isS n.toNat e = true) ∧ b1 ≠ b ∧ b2 ≠ b)
          (if st = -1 then chk ((0 ≤ i ∧ i < 2 * n) ∧ w = decide (n ≤ i)) (some (.int .i64 (pr n.toNat d e i.toNat : Nat), hp.set b (.cells (stk b1 b2 (fol n.toNat d e (!w) i.toNat met)))))
          else chk ((st = i ∧ w = true ∧ 0 ≤ i ∧ i < n) ∧ (∀ x, mt met x ↔ Seen n.toNat d e i.toNat x) ∧ ¬ Seen n.toNat d e i.toNat i.toNat) (some (.int .i64 (-1), hp.set b (.cells (stk b1 b2 (Gn n.toNat d e i.toNat met))))))
        | _, _ => none
      | none => none
    | _ => none
  | _ => none
open Classical in
theorem qth : Am.Callee Try.prog 187 bg := Callee.fp fun hp xs v hp' he => by
  unfold bg at he
  split at he
  · rename_i b w i st
    split at he
    · rename_i l hb
      split at he
      · rename_i b1 b2 met hs1
        obtain ⟨rfl, hm⟩ := qo7 hs1
        split at he
        · rename_i n d n' e hd1 he1
          obtain ⟨⟨⟨a1, a2⟩, ⟨a3, a4⟩, a5, a6⟩, he2⟩ := ql he
          subst a1
          obtain ⟨N, rfl⟩ : ∃ N : Nat, n' = N := ⟨n'.toNat, by omega⟩
          simp only [Int.toNat_natCast] at a3 a4 he2
          have rdd : ∀ {b : Nat} {m : List Nat}, rdD hp b = some ((N : Int), m) → okD m ∧ Fits hp (ofL [(b, 0)]) b 0 (.ro (dia N m)) ∧ ∃ L, rd hp b = some L ∧ 17 ≤ L.length ∧ L.take 17 = dia N m := fun {b m} h => by
            unfold rdD at h
            split at h
            · rename_i L hL
              obtain ⟨e1, hok⟩ := xf h
              have hlen : (dia (N : Int) m).length = 17 := by rw [qg, hok.1]
              have hLl : 17 ≤ L.length := by
                have := congrArg List.length e1
                rw [hlen, List.length_take] at this
                omega
              exact ⟨hok, ⟨L, hL, by rw [hlen]; omega, by rw [List.drop_zero, qb _ _ (qd _ _), hlen]; exact e1⟩, L, hL, hLl, e1⟩
            · cases h
          obtain ⟨hd, _, L1, r1, r2, r3⟩ := rdd hd1
          obtain ⟨he', _, L2, q1, q2, q3⟩ := rdd he1
          have hlen : ∀ {m : List Nat}, okD m → (dia (N : Int) m).length = 17 := fun h => by rw [qg, h.1]
          have hfit : Bx hp (ofL [(b, 0), (b1, 0), (b2, 0)]) [(b, 0), (b1, 0), (b2, 0)] (H3 N d e met) :=
            ⟨⟨rfl, by rw [hb]; simp only [AO.ren, W9]; simp [AV.ren, ofL, stk]⟩, ⟨L1, r1, by rw [hlen hd]; omega, by rw [List.drop_zero, qb _ _ (qd _ _), hlen hd]; exact r3⟩, ⟨L2, q1, by rw [hlen he']; omega, by rw [List.drop_zero, qb _ _ (qd _ _), hlen he']; exact q3⟩, trivial⟩
          have hap : ∀ met, Jf [(b, 0), (b1, 0), (b2, 0)] (H3 N d e met) = true := fun met => by simp [Jf, H3, AO.wr, a5, a6]
          have hun : ∀ met, AO.qa8 3 (H3 N d e met) := fun met => ⟨qin (by omega) (by omega), qi _ _ (qd _ _), qi _ _ (qd _ _), trivial⟩
          split at he2
          · rename_i hst
            subst hst
            obtain ⟨⟨⟨c1, c2⟩, c3⟩, he3⟩ := ql he2
            simp only [Option.some.injEq, Prod.mk.injEq] at he3
            obtain ⟨rfl, rfl⟩ := he3
            obtain ⟨k, rfl⟩ : ∃ k : Nat, i = k := ⟨i.toNat, by omega⟩
            simp only [Int.toNat_natCast]
            have hw : w = !decide (k < N) := by
              rw [c3, Bool.eq_iff_iff]; simp
            obtain ⟨f, met', hf⟩ := W2 a3 a4 (i := k) (by omega) met
            have hfo := qfo hf
            subst hw
            rw [Bool.not_not, hfo]
            refine ⟨[(b, 0), (b1, 0), (b2, 0)], [.ptr 0 0, .bool (!decide (k < N)), .int .i64 k, .int .i64 (-1)], H3 N d e met, _, _, qp0 N d e hd he' a3 a4 hf (by omega) hm, by simp [AV.ren, AV.zg, ofL], by simp [je], hfit, hap met, hun met, ⟨by simp [AV.under, H3], trivial, trivial, trivial, trivial⟩, by simp [AV.ren, AV.zg], ?_⟩
            simp [after, upd, AO.wr, AO.ren, H3, W9, AV.ren, qb _ _ (qd _ _)]
            simp [Ren.ext, ofL, stk]
          · obtain ⟨⟨⟨c1, c2, c3, c4⟩, c5, c6⟩, he3⟩ := ql he2
            simp only [Option.some.injEq, Prod.mk.injEq] at he3
            obtain ⟨rfl, rfl⟩ := he3
            subst c1; subst c2
            obtain ⟨k, rfl⟩ : ∃ k : Nat, st = k := ⟨st.toNat, by omega⟩
            simp only [Int.toNat_natCast] at c5 c6 ⊢
            refine ⟨[(b, 0), (b1, 0), (b2, 0)], [.ptr 0 0, .bool true, .int .i64 k, .int .i64 k], H3 N d e met, _, _, qoe N d e hd he' a3 a4 (by omega) hm c5 c6, by simp [AV.ren, AV.zg, ofL], by simp [je], hfit, hap met, hun met, ⟨by simp [AV.under, H3], trivial, trivial, trivial, trivial⟩, by simp [AV.ren, AV.zg], ?_⟩
            simp [after, upd, AO.wr, AO.ren, H3, W9, AV.ren, qb _ _ (qd _ _)]
            simp [Ren.ext, ofL, stk]
        · cases he
      · cases he
    · cases he
  · cases he
noncomputable def B83 : zh := (B82.put 187 (bg))
theorem qkf : qq Try.prog B83 := (qg6.put (qth))
def H4 (N : Nat) (d e m : List Nat) (k : Nat) : List AO := [.ro (dia N d), .ro (dia N e), .cells (dia N m), .cells [.int .i64 k]]
theorem qwx {N : Nat} {d e m : List Nat} {k n : Nat} : ∀ (j : Nat) (o : AO), (H4 N d e m k)[j]? = some o → o.under n := fun j o hj => by
  match j, hj with
  | 0, hj => cases hj; exact qi _ _ (qd _ _)
  | 1, hj => cases hj; exact qi _ _ (qd _ _)
  | 2, hj => cases hj; exact qi _ _ (qd _ _)
  | 3, hj => cases hj; exact ⟨trivial, trivial⟩
  | j + 4, hj => simp [H4] at hj
theorem qj1 {m : List Nat} (h : okD m) {i x : Nat} (hx : x < 256) : okD (m.set i x) := by
  refine ⟨by rw [List.length_set]; exact h.1, fun y hy => ?_⟩
  rcases List.mem_or_eq_of_mem_set hy with h1 | rfl
  · exact h.2 y h1
  · exact hx
theorem qcb {n : Nat} {d e : List Nat} (hd : isS n d = true) (he : isS n e = true) : ∀ {k : Nat}, k ≤ n → okD (Ya n d e k)
  | 0, _ => ⟨by simp [Ya], fun y hy => by simp [Ya] at hy; omega⟩
  | k + 1, hk => by
    obtain ⟨hn, _⟩ := z6 hd
    have h1 := qdu hd he (i := k) (by omega)
    have h2 := qdu hd he (i := n + k) (by omega)
    exact qj1 (qj1 (qcb hd he (by omega)) (by omega)) (by omega)
theorem vb : B83 168 = some (V3 1 g_n) := rfl
theorem ja : B83 187 = some (bg) := rfl
theorem wg : B83 172 = some (U3) := rfl
theorem we : B83 173 = some (xg) := rfl
def J9 : AC := .seq (.region [oP 23 .lss 22 21]) (.seq (.cond 23 .skip (.exit 0)) (.seq (.block 1 (.seq (.region [oM 24 22,oM 12 24]) (.seq (.region [oM 25 3,oM 26 12,oM 27 11,oM 28 12,oC 29 187 [.t 27,(.c (.bool false)),.t 28,(.c (.int .i64 (-1)))],⟨some 30,none,.call (.t 25) [.t 26,.t 29]⟩]) (.region [oM 31 3,oM 32 10,oM 33 12,oP 34 .add 32 33,oM 35 11,oM 36 10,oM 37 12,oP 38 .add 36 37,oC 39 187 [.t 35,(.c (.bool true)),.t 38,(.c (.int .i64 (-1)))],⟨some 40,none,.call (.t 31) [.t 34,.t 39]⟩])))) (.region [oK 41 .add 22 1,oM 22 41])))
def Za : AC := .seq (.region [oP 44 .lss 43 42]) (.seq (.cond 44 .skip (.exit 2)) (.seq (.block 3 (.seq (.region [oM 45 43,oM 13 45]) (.seq (.region [oM 46 11,oM 47 13,o0 48 (.jn (.t 46)),oF 49 2 48,o0 50 (.zz 8 1 (.t 49) (.t 47)),oL 51 50,o0 52 (.un .not (.t 51))]) (.cond 52 (.seq (.region [oM 53 11,oM 54 13,oM 55 13,oC 56 187 [.t 53,(.c (.bool true)),.t 54,.t 55]]) (.region [oM 57 4,⟨some 58,none,.call (.t 57) []⟩])) .skip)))) (.region [oK 59 .add 43 1,oM 43 59])))
def Bn : AC := .seq (.region [oM 42 10,oI 43 0]) (.block 2 (.loop Za))
def qdc : AC := .seq (.region [oM 14 0,oC 15 168 [.t 14],oM 10 15]) (.seq (.region [oM 16 0,oM 17 1,oM 18 2,o0 19 (.build [(.v (.pointer none)),(.v (.pointer none)),(.bool false),(.bool false),(.bool false),(.bool false),(.bool false),(.bool false),(.bool false),(.bool false),(.v .nilFunc)] [(0,1,.t 16),(1,1,.t 17),(10,1,.t 18)]),o0 20 (.box (.t 19)),oM 11 20]) (.seq (.seq (.region [oM 21 10,oI 22 0]) (.block 0 (.loop J9))) Bn))
theorem qli : zk Try.prog 170 = some ⟨60, qdc, []⟩ := by kernel_rfl
theorem qmx (N : Nat) (d e : List Nat) (hd : okD d) (he : okD e) (hds : isS N d = true) (hes : isS N e = true) :
    Am.Fn Try.prog 170 [.ptr 0 0, .ptr 1 0, .fn 171 [] [], .fn 172 [] [.ptr 2 0], .fn 173 [] [.ptr 3 0]] (H4 N d e (List.replicate 16 0) 0) (fun v H' => v = .tup [] ∧ H' = H4 N d e (ju N d e) (lpN N d e N)) := by
  refine Am.Fn.ofB qkf mixed qli (by simp [AV.qn, AV.under, H4]) qwx ?_
  obtain ⟨hN, hpd, _⟩ := z6 hds
  obtain ⟨_, hpe, _⟩ := z6 hes
  have hdl := hd.1
  have hel := he.1
  have o1 : over [AV.v (.pointer none), .v (.pointer none), .bool false, .bool false, .bool false, .bool false, .bool false, .bool false, .bool false, .bool false, .v .nilFunc] 0 [.ptr 0 0] = [.ptr 0 0, .v (.pointer none), .bool false, .bool false, .bool false, .bool false, .bool false, .bool false, .bool false, .bool false, .v .nilFunc] := rfl
  have o2 : over [AV.ptr 0 0, .v (.pointer none), .bool false, .bool false, .bool false, .bool false, .bool false, .bool false, .bool false, .bool false, .v .nilFunc] 1 [.ptr 1 0] = [.ptr 0 0, .ptr 1 0, .bool false, .bool false, .bool false, .bool false, .bool false, .bool false, .bool false, .bool false, .v .nilFunc] := rfl
  have o3 : over [AV.ptr 0 0, .ptr 1 0, .bool false, .bool false, .bool false, .bool false, .bool false, .bool false, .bool false, .bool false, .v .nilFunc] 10 [.fn 171 [] []] = stk 0 1 (List.replicate 8 false) := rfl
  have l1 : ([AV.ptr 0 0, .v (.pointer none), .bool false, .bool false, .bool false, .bool false, .bool false, .bool false, .bool false, .bool false, .v .nilFunc] : List AV).length = 11 := rfl
  have l2 : ([AV.ptr 0 0, .ptr 1 0, .bool false, .bool false, .bool false, .bool false, .bool false, .bool false, .bool false, .bool false, .v .nilFunc] : List AV).length = 11 := rfl
  unfold H4
  simp (maxSteps := 3000000) only [qf, zH, qdc, vb, ja, wg, we, xg, g_n, U3, bg, qg, hdl, hel, gw, Uj, o1, o2, o3, l1, l2, AV.one, iE, iN, iB, iC, iL, iD, iA, iS, iM, qa, zZ, ↓qt, ↓reduceIte, reduceCtorEq, nA, nM, nS, nE, nL, nD]; try simp only [qa, zY]
  have hdo := q8 (n := (N : Int)) hd
  have heo := q8 (n := (N : Int)) he
  have hN0 : (0 : Int) ≤ (N : Int) := by omega
  refine WA.jq qkf (fun s => ∃ k : Nat, k ≤ N ∧ s = ⟨[(22, .int .i64 k), (21, .int .i64 N), (11, .ptr 4 0), (10, .int .i64 N), (4, .fn 173 [] [.ptr 3 0]), (3, .fn 172 [] [.ptr 2 0])], [.ro (dia N d), .ro (dia N e), .cells (dia N (Ya N d e k)), .cells [.int .i64 0], .cells (stk 0 1 (qd0 N d e k))]⟩)
    (fun s => match get s.env 22 with | .int _ x => N - x.toNat | _ => 0) ⟨_, qv.qw [22, 21, 11, 10, 4, 3], 0, by omega, rfl⟩ ?_
  rintro s ⟨k, hk, rfl⟩
  have hw : qm .i64 ((k : Int) + 1) = ((k + 1 : Nat) : Int) := by rw [wrap64 (by omega) (by omega)]; rfl
  by_cases hlt : k < N
  · have hli : (k : Int) < (N : Int) := by omega
    have hk16 := ye N d e k
    have hmk := (Ju hds hes k hk).len
    have hx1 := qdu hds hes (i := k) (by omega)
    have hx2 := qdu hds hes (i := N + k) (by omega)
    have hadd : qm .i64 ((N : Int) + (k : Int)) = ((N + k : Nat) : Int) := by rw [wrap64 (by omega) (by omega)]; rfl
    have k1 : (0 : Int) ≤ (k : Int) ∧ (k : Int) < 2 * (N : Int) := by omega
    have k2 : (0 : Int) ≤ ((N + k : Nat) : Int) ∧ ((N + k : Nat) : Int) < 2 * (N : Int) := by omega
    have q1 : (false = decide ((N : Int) ≤ (k : Int))) = True := by simp; omega
    have q2 : (true = decide ((N : Int) ≤ ((N + k : Nat) : Int))) = True := by simp; omega
    have hf1 : (fol N d e true k (qd0 N d e k)).length = 8 := by rw [qqw hds hes (by omega) (by simp [hlt])]; exact hmk
    have s1 := qb9 (a := 0) (b := 1) hmk
    have s2 := qb9 (a := 0) (b := 1) hf1
    have d0 := q8 (n := (N : Int)) (qj1 (qcb hds hes hk) (i := k) (x := pr N d e k) (by omega))
    have d1 := q8 (n := (N : Int)) (qcb hds hes hk)
    have p1 : ((0 : Int) ≤ (k : Int) ∧ (k : Int) < 16) ∧ (0 : Int) ≤ ((pr N d e k : Nat) : Int) ∧ ((pr N d e k : Nat) : Int) < 256 := by omega
    have p2 : ((0 : Int) ≤ ((N + k : Nat) : Int) ∧ ((N + k : Nat) : Int) < 16) ∧ (0 : Int) ≤ ((pr N d e (N + k) : Nat) : Int) ∧ ((pr N d e (N + k) : Nat) : Int) < 256 := by omega
    simp (maxSteps := 3000000) only [qf, zH, J9, vb, ja, wg, we, xg, g_n, U3, bg, rdD, hw, hli, qg, hdl, hel, za hdl, za hel, hdo, heo, s1, s2, d0, d1, p1, p2, Int.toNat_natCast, hds, hes, k1, k2, hN0, q1, q2, hadd, AV.one, and_self, true_and, and_true, Bool.not_true, Bool.not_false, Ne, not_false_iff, not_false_eq_true, Nat.reduceEqDiff, reduceCtorEq, iE, iN, iB, iC, iL, iD, iA, iS, iM, qa, zZ, ↓qt, ↓reduceIte, reduceCtorEq, nA, nM, nS, nE, nL, nD]; try simp only [qa, zY]
    refine ⟨_, qv.qw [22, 21, 11, 10, 4, 3], ⟨k + 1, by omega, rfl⟩, ?_⟩
    simp only [zL, ↓reduceIte, reduceCtorEq, nE, nA]; omega
  have hli : ¬ (k : Int) < (N : Int) := by omega
  obtain rfl : k = N := by omega
  simp (maxSteps := 3000000) only [qf, zH, J9, Bn, vb, ja, wg, we, xg, g_n, U3, bg, hli, Int.lt_irrefl, iE, iN, iB, iC, iL, iD, iA, iS, iM, qa, zZ, ↓qt, ↓reduceIte, reduceCtorEq, nA, nM, nS, nE, nL, nD]; try simp only [qa, zY]
  refine WA.jq qkf (fun s => ∃ (i : Nat) (met : List Bool), i ≤ k ∧ (met.length = 8 ∧ ∀ x, mt met x ↔ Seen k d e i x) ∧ s = ⟨[(43, .int .i64 i), (42, .int .i64 k), (11, .ptr 4 0), (4, .fn 173 [] [.ptr 3 0])], [.ro (dia k d), .ro (dia k e), .cells (dia k (ju k d e)), .cells [.int .i64 (lpN k d e i : Nat)], .cells (stk 0 1 met)]⟩)
    (fun s => match get s.env 43 with | .int _ x => k - x.toNat | _ => 0) ⟨_, qv.qw [43, 42, 11, 4], 0, qd0 k d e k, by omega, ⟨(Ju hds hes k (Nat.le_refl _)).len, fun x => ⟨.inl, fun h => h.elim id fun ⟨j, hj, _⟩ => absurd hj (Nat.not_lt_zero _)⟩⟩, rfl⟩ ?_
  clear hlt hli hw
  rintro s ⟨i, met, hi, ⟨hml, hmt⟩, rfl⟩
  have hw : qm .i64 ((i : Int) + 1) = ((i + 1 : Nat) : Int) := by rw [wrap64 (by omega) (by omega)]; rfl
  have hle := qfk k d e i
  by_cases hlt : i < k
  · have hli : (i : Int) < (k : Int) := by omega
    have g1 := Wu (show i < 8 by omega)
    have g2 : 2 + i < 8 + 3 := by omega
    have g3 := qye (a := 0) (b := 1) hml (show i < 8 by omega)
    by_cases hs : Seen k d e i i
    · have hm1 : met.getD i false = true := (hmt i).2 hs
      simp (maxSteps := 3000000) only [qf, zH, Za, vb, ja, wg, we, xg, g_n, U3, bg, hw, hli, g1, g2, g3, hm1, wu, hml, Bool.not_true, iE, iN, iB, iC, iL, iD, iA, iS, iM, qa, zZ, ↓qt, ↓reduceIte, reduceCtorEq, nA, nM, nS, nE, nL, nD]; try simp only [qa, zY]
      refine ⟨_, qv.qw [43, 42, 11, 4], ⟨i + 1, met, by omega, ⟨hml, fun x => by rw [hmt, qmn hds hes hs]⟩, ?_⟩, ?_⟩
      · simp only [zL, ↓reduceIte, reduceCtorEq, nE, nA]
        simp only [lpN, if_pos hs]
      · simp only [zL, ↓reduceIte, reduceCtorEq, nE, nA]; omega
    · have hm1 : met.getD i false = false := by
        cases h : met.getD i false with
        | false => rfl
        | true => exact absurd ((hmt i).1 h) hs
      have s1 := qb9 (a := 0) (b := 1) hml
      have k1 : (0 : Int) ≤ (i : Int) ∧ (i : Int) < (k : Int) := by omega
      have q1 : ((i : Int) = -1) = False := eq_false (by omega)
      have q2 : (∀ x, mt met x ↔ Seen k d e i x) = True := eq_true hmt
      have q3 : Seen k d e i i = False := eq_false hs
      have q4 : (0 : Int) ≤ ((lpN k d e i : Nat) : Int) ∧ ((lpN k d e i : Nat) : Int) ≤ 1000 := by omega
      have q5 : ((lpN k d e i : Nat) : Int) + 1 = ((lpN k d e i + 1 : Nat) : Int) := rfl
      simp (maxSteps := 3000000) only [qf, zH, Za, vb, ja, wg, we, xg, g_n, U3, bg, rdD, hw, hli, g1, g2, g3, hm1, wu, hml, Bool.not_false, qg, hdl, hel, za hdl, za hel, hdo, heo, s1, Int.toNat_natCast, hds, hes, k1, hN0, q1, q2, q3, q4, q5, AV.one, and_self, true_and, and_true, Ne, not_false_iff, not_false_eq_true, if_false, Nat.reduceEqDiff, reduceCtorEq, iE, iN, iB, iC, iL, iD, iA, iS, iM, qa, zZ, ↓qt, ↓reduceIte, reduceCtorEq, nA, nM, nS, nE, nL, nD]; try simp only [qa, zY]
      refine ⟨_, qv.qw [43, 42, 11, 4], ⟨i + 1, Gn k d e i met, by omega, ⟨by simp [Gn], fun x => ?_⟩, ?_⟩, ?_⟩
      · rw [qmo hlt hs]
        by_cases hx : x < 8
        · rw [qu3 hx, hmt]
        · constructor
          · intro h
            simp [mt, Gn, List.getD_eq_getElem?_getD, hx] at h
          · intro h
            have : x < k := by
              rcases h with h | h
              · exact qy4 hds hes h
              · exact (Ring.mem (K5 hds hes) (qac hds hes) ⟨hlt, fun h => hs (.inl h)⟩ h).1
            omega
      · simp only [zL, ↓reduceIte, reduceCtorEq, nE, nA]
        simp only [lpN, if_neg hs]
      · simp only [zL, ↓reduceIte, reduceCtorEq, nE, nA]; omega
  · have hli : ¬ (i : Int) < (k : Int) := by omega
    obtain rfl : i = k := by omega
    simp (maxSteps := 3000000) only [qf, zH, Za, vb, ja, wg, we, xg, g_n, U3, bg, hli, Int.lt_irrefl, iE, iN, iB, iC, iL, iD, iA, iS, iM, qa, zZ, ↓qt, ↓reduceIte, reduceCtorEq, nA, nM, nS, nE, nL, nD]; try simp only [qa, zY]
    refine Ret.xv [0, 1, 2, 3] ⟨⟨by simp, rfl, by decide⟩, ?_⟩ (rs := []) rfl rfl (by simp [xa]) ?_ ⟨rfl, ?_⟩
    · simp only [qe _ _ (qd _ _), zK, ↓reduceIte, reduceCtorEq, nE, nB, nA]
    · intro j l h
      match j, h with
      | 0, _ => exact ⟨_, rfl⟩
      | 1, _ => exact ⟨_, rfl⟩
      | 2, h => simp [q9, AO.ren] at h
      | 3, h => simp [q9, AO.ren] at h
      | j + 4, h => simp [q9] at h
    · simp only [qb _ _ (qd _ _), zL, ↓reduceIte, reduceCtorEq, nE, nA]
noncomputable def Ym : BE := fun hp xs => match xs with
  | [.ptr b1 0, .ptr b2 0, .fn 171 [] [], .fn 172 [] [.ptr b3 0], .fn 173 [] [.ptr b4 0]] => match rdD hp b1, rdD hp b2, hp[b3]?, hp[b4]? with
    | some (n, d), some (n', e), some (.cells l), some (.cells [.int .i64 k]) => match yz l with
      | some (n2, m) => chk ((n' = n ∧ n2 = n ∧ 0 ≤ n ∧ k = 0) ∧ (isS n.toNat d = true ∧ isS n.toNat e = true) ∧ m = List.replicate 16 0 ∧ b3 ≠ b1 ∧ b4 ≠ b1 ∧ b3 ≠ b2 ∧ b4 ≠ b2 ∧ b4 ≠ b3)
          (some (.tup [], (hp.set b3 (.cells (dia n (ju n.toNat d e)))).set b4 (.cells [.int .i64 (lpN n.toNat d e n.toNat : Nat)])))
      | none => none
    | _, _, _, _ => none
  | _ => none
theorem qe5 {hp : List AO} {b N : Nat} {m : List Nat} (h : rdD hp b = some ((N : Int), m)) : okD m ∧ ∀ ρ, Fits hp ρ b 0 (.ro (dia N m)) := by
  unfold rdD at h
  split at h
  · rename_i L hL
    obtain ⟨e1, hok⟩ := xf h
    have hlen : (dia (N : Int) m).length = 17 := by rw [qg, hok.1]
    have hLl : 17 ≤ L.length := by
      have := congrArg List.length e1
      rw [hlen, List.length_take] at this
      omega
    exact ⟨hok, fun ρ => ⟨L, hL, by rw [hlen]; omega, by rw [List.drop_zero, qb _ _ (qd _ _), hlen]; exact e1⟩⟩
  · cases h
theorem qr0 : Am.Callee Try.prog 170 Ym := Callee.fp fun hp xs v hp' he => by
  unfold Ym at he
  split at he
  · rename_i b1 b2 b3 b4
    split at he
    · rename_i n d n' e l k hd1 he1 h3 h4
      split at he
      · rename_i n2 m hm1
        obtain ⟨⟨⟨a1, a2, a3, a4⟩, ⟨a5, a6⟩, a7, a8, a9, a10, a11, a12⟩, he2⟩ := ql he
        simp only [Option.some.injEq, Prod.mk.injEq] at he2
        obtain ⟨rfl, rfl⟩ := he2
        obtain ⟨rfl, hm⟩ := xf hm1
        subst a1; subst a2; subst a4; subst a7
        obtain ⟨N, rfl⟩ : ∃ N : Nat, n2 = N := ⟨n2.toNat, by omega⟩
        simp only [Int.toNat_natCast] at a5 a6 ⊢
        obtain ⟨hd, f1⟩ := qe5 hd1
        obtain ⟨he', f2⟩ := qe5 he1
        refine ⟨[(b1, 0), (b2, 0), (b3, 0), (b4, 0)], [.ptr 0 0, .ptr 1 0, .fn 171 [] [], .fn 172 [] [.ptr 2 0], .fn 173 [] [.ptr 3 0]], H4 N d e (List.replicate 16 0) 0, _, _, qmx N d e hd he' a5 a6, by simp [AV.ren, AV.zg, ofL], by simp [je],
          ⟨f1 _, f2 _, ⟨rfl, by rw [h3]; simp only [AO.ren, qb _ _ (qd _ _)]⟩, ⟨rfl, by rw [h4]; simp [AO.ren, AV.zg, AV.ren]⟩, trivial⟩, by simp [Jf, H4, AO.wr, a8, a9, a10, a11, a12], ⟨qi _ _ (qd _ _), qi _ _ (qd _ _), qi _ _ (qd _ _), ⟨trivial, trivial⟩, trivial⟩, by simp [AV.qn, AV.under, H4], by simp [AV.ren, AV.zg], ?_⟩
        simp [after, upd, AO.wr, AO.ren, H4, AV.zg, AV.ren, qb _ _ (qd _ _)]
      · cases he
    · cases he
  · cases he
noncomputable def B84 : zh := (B83.put 170 (Ym))
theorem qp3 : qq Try.prog B84 := (qkf.put (qr0))
theorem qbv : B84 171 = some (qk kz) := rfl
theorem qb6 : B84 172 = some (U3) := rfl
theorem qct : B84 173 = some (xg) := rfl
theorem qcj : B84 170 = some (Ym) := rfl
def qa7 : AT := (.one (oN 14 17 6) (.alt (oL 15 7) (.one (oS 17 4 14) (.one (oM 5 15) (.nil))) (.alt (oS 17 4 14) (.one (oL 15 7) (.one (oM 5 15) (.nil))) (.none))))
def qh6 : AC := .seq (.region [o0 2 (.box (.t 0)),o0 3 (.box (.t 1)),oD 4,oI 5 0]) (.seq (.region [oF 8 0 2,oL 9 8,o0 10 (.build [.int .i64 0,.int .u8 0,.int .u8 0,.int .u8 0,.int .u8 0,.int .u8 0,.int .u8 0,.int .u8 0,.int .u8 0,.int .u8 0,.int .u8 0,.int .u8 0,.int .u8 0,.int .u8 0,.int .u8 0,.int .u8 0,.int .u8 0] [(0,1,.t 9)]),oD 6,o0 7 (.alloc [.int .i64 0]),oS 17 6 10,⟨none,none,.op (.bq (.t 7) (.c (.int .i64 0)))⟩]) (.seq (.region [o0 11 (.qd4 172 [] [.t 6]),o0 12 (.qd4 173 [] [.t 7]),⟨some 13,none,.call (.c (.fn 170 [] [])) [.t 2,.t 3,(.c (.fn 171 [] [])),.t 11,.t 12]⟩]) (.seq (.tree false qa7) .ret)))
theorem qtp : zk Try.prog 144 = some ⟨16, qh6, [.Q9 4 17, .slot 5]⟩ := by kernel_rfl
theorem qst (N : Nat) (d e : List Nat) (hd : okD d) (he : okD e) (hds : isS N d = true) (hes : isS N e = true) :
    Am.Fn Try.prog 144 [.agg (dia N d), .agg (dia N e)] [] (fun v H' => v = .tup [.agg (dia N (ju N d e)), .int .i64 (lpN N d e N : Nat)] ∧ H' = []) := by
  refine Am.Fn.xo (R := fun v => v = _) qp3 mixed qtp (by simp) (by simp) ?_
  obtain ⟨hN, hpd, _⟩ := z6 hds
  have hdl := hd.1
  have hel := he.1
  have hdo := q8 (n := (N : Int)) hd
  have heo := q8 (n := (N : Int)) he
  have hzo := q8 (n := (N : Int)) (m := List.replicate 16 0) ⟨by simp, fun y hy => by simp at hy; omega⟩
  have hN0 : (0 : Int) ≤ (N : Int) := by omega
  simp (maxSteps := 3000000) only [qf, zH, qh6, qbv, qb6, qct, qcj, kz, xg, Ym, U3, rdD, yg, xr, Ud, qg, hdl, hel, gw, j2, ud vv vv, List.length_replicate, za hdl, za hel, hdo, heo, hzo, hds, hes, hN0, Int.toNat_natCast, AV.one, and_self, true_and, and_true, Ne, not_false_iff, not_false_eq_true, Nat.reduceEqDiff, reduceCtorEq, List.all_nil, List.all_cons, List.map_nil, List.map_cons, Bool.and_self, iE, iN, iB, iC, iL, iD, iA, iS, iM, qa, zZ, ↓qt, ↓reduceIte, reduceCtorEq, nA, nM, nS, nE, nL, nD]; try simp only [qa, zY]
  have hp16 : (ju N d e).length = 16 := ye N d e N
  refine WA.qng qp3 (fun s => s = ⟨[(5, .int .i64 (lpN N d e N : Nat)), (4, .ptr 2 0)], [.cells (dia N d), .cells (dia N e), .cells (dia N (ju N d e)), .cells (dia N (ju N d e)), .cells [.int .i64 (lpN N d e N : Nat)]]⟩) ?_ ?_
  · unfold qa7
    simp (maxSteps := 3000000) only [qf, zH, Vs, Y0, qg, hp16, za hp16, j2, ud vv hp16, List.length_replicate, Nat.le_refl, AV.one, iE, iN, iB, iC, iL, iD, iA, iS, iM, qa, zZ, ↓qt, ↓reduceIte, reduceCtorEq, nA, nM, nS, nE, nL, nD]; try simp only [qa, zY]
    repeat' (with_reducible refine And.intro ?_ ?_)
    all_goals exact ⟨_, qv.qw [5, 4], rfl⟩
  rintro s rfl
  simp (maxSteps := 3000000) only [qf, zH, qg, hp16, za hp16, iE, iN, iB, iC, iL, iD, iA, iS, iM, qa, zZ, ↓qt, ↓reduceIte, reduceCtorEq, nA, nM, nS, nE, nL, nD]; try simp only [qa, zY]
  simp only [qd, Bool.and_self]
noncomputable def B85 : zh := (B84.put 144 (qk vp))
theorem qoq : qq Try.prog B85 := (qp3.put (qg8 qst))
def Yw : AC := .seq (.region [oP 10 .lss 9 8]) (.seq (.cond 10 .skip (.exit 0)) (.seq (.block 1 (.region [oM 11 7,oM 12 0,oP 13 .mul 11 12,oM 14 2,oP 15 .rem 13 14,oM 7 15])) (.region [oK 16 .add 9 1,oM 9 16])))
def qap : AC := .seq (.region [oM 17 7,oM 6 17]) .ret
def qim : AC := .seq (.region [oI 6 0]) (.seq (.region [oI 7 1]) (.seq (.seq (.region [oM 8 1,oI 9 0]) (.block 0 (.loop Yw))) qap))
theorem qr4 : zk Try.prog 75 = some ⟨18, qim, [.slot 6]⟩ := by kernel_rfl
theorem qsc (p c : Int) (K : Nat) (hp : 2 ≤ p ∧ p ≤ 97) (hc : 0 ≤ c ∧ c ≤ p - 1) (hK : K ≤ 1000000) : Am.Fn Try.prog 75 [.int .i64 c, .int .i64 K, .int .i64 p] [] (fun v H' => v = .int .i64 (jz p c K) ∧ H' = []) := by
  refine Am.Fn.xo (R := fun v => v = _) qoq mixed qr4 (by simp) (by simp) ?_
  have hne : p ≠ 0 := by omega
  simp (maxSteps := 3000000) only [qf, zH, qim, hne, iE, iN, iB, iC, iL, iD, iA, iS, iM, qa, zZ, ↓qt, ↓reduceIte, reduceCtorEq, nA, nM, nS, nE, nL, nD]; try simp only [qa, zY]
  refine WA.jq qoq (fun s => ∃ j : Nat, j ≤ K ∧ s = ⟨[(9, .int .i64 j), (8, .int .i64 K), (7, .int .i64 (jz p c j)), (0, .int .i64 c), (2, .int .i64 p)], []⟩)
    (fun s => match get s.env 9 with | .int _ x => K - x.toNat | _ => 0) ⟨_, qv.qw [9, 8, 7, 0, 2], 0, by omega, rfl⟩ ?_
  rintro s ⟨j, hj, rfl⟩
  by_cases hlt : j < K
  · have hli : (j : Int) < (K : Int) := by omega
    obtain ⟨m1, m2, m3, m4⟩ := pow_mul hp hc (qa9 (c := c) hp.1 j)
    have hw : qm .i64 ((j : Int) + 1) = ((j + 1 : Nat) : Int) := by rw [wrap64 (by omega) (by omega)]; rfl
    have hnext : (jz p c j * c).emod p = jz p c (j + 1) := rfl
    simp (maxSteps := 3000000) only [qf, zH, Yw, hli, m1, m2, hw, hne, hnext, iE, iN, iB, iC, iL, iD, iA, iS, iM, qa, zZ, ↓qt, ↓reduceIte, reduceCtorEq, nA, nM, nS, nE, nL, nD]; try simp only [qa, zY]
    refine ⟨_, qv.qw [9, 8, 7, 0, 2], ⟨j + 1, by omega, ?_⟩, ?_⟩
    · simp only [zL, ↓reduceIte, reduceCtorEq, nE, nA]
    · simp only [zL, ↓reduceIte, reduceCtorEq, nE, nA]; omega
  · have hli : ¬ (j : Int) < (K : Int) := by omega
    obtain rfl : j = K := by omega
    simp (maxSteps := 3000000) only [qf, zH, Yw, qap, hli, Int.lt_irrefl, iE, iN, iB, iC, iL, iD, iA, iS, iM, qa, zZ, ↓qt, ↓reduceIte, reduceCtorEq, nA, nM, nS, nE, nL, nD]; try simp only [qa, zY]
def jo : List AV → Option AV
  | [.int .i64 c, .int .i64 k, .int .i64 p] => chk (((2 ≤ p ∧ p ≤ 97) ∧ (0 ≤ c ∧ c ≤ p - 1)) ∧ 0 ≤ k ∧ k ≤ 1000000) (some (.int .i64 (jz p c k.toNat)))
  | _ => none
theorem qxw : Am.Callee Try.prog 75 (qk jo) := Am.Callee.plain fun xs v he => by
  unfold jo at he
  split at he
  · rename_i c k p
    obtain ⟨⟨⟨h1, h2⟩, h3⟩, he⟩ := ql he
    cases he
    obtain ⟨K, rfl⟩ : ∃ K : Nat, k = K := ⟨k.toNat, by omega⟩
    rw [Int.toNat_natCast]
    exact ⟨rfl, rfl, qsc p c K h1 h2 (by omega)⟩
  · cases he
noncomputable def B86 : zh := (B85.put 75 (qk jo))
theorem qe8 : qq Try.prog B86 := (qoq.put (qxw))
noncomputable def prT (p c n : Int) (t u : Int × List Nat × Int) : Int × List Nat × Int := (n, ju n.toNat t.2.1 u.2.1, (t.2.2 * u.2.2).emod p * jz p c (lpN n.toNat t.2.1 u.2.1 n.toNat))
noncomputable def wt (p c n : Int) (a b : List (Int × List Nat × Int)) : List (Int × List Nat × Int) := a.flatMap fun t => b.map (prT p c n t)
def MP (p n : Int) (l : List (Int × List Nat × Int)) : List (Int × List Nat × Int) := chP p n id (fun _ => 1) [] l
theorem qxu {p n : Int} {l : List (Int × List Nat × Int)} {t : Int × List Nat × Int} : MP p n (l ++ [t]) = vi p (MP p n l) n t.2.1 t.2.2 := by
  unfold MP chP; rw [List.foldl_append]; simp
theorem qix {p c n : Int} {a b : List (Int × List Nat × Int)} {i : Nat} (h : i < a.length) : wt p c n (a.take (i + 1)) b = wt p c n (a.take i) b ++ b.map (prT p c n a[i]) := by
  rw [List.take_succ_eq_append_getElem h, wt, List.flatMap_append]; simp [wt]
theorem qn9 {p c n : Int} {t : Int × List Nat × Int} {b : List (Int × List Nat × Int)} {j : Nat} (h : j < b.length) : (b.take (j + 1)).map (prT p c n t) = (b.take j).map (prT p c n t) ++ [prT p c n t b[j]] := by
  rw [List.take_succ_eq_append_getElem h, List.map_append]; rfl
theorem qpz {p c n : Int} (hp : 2 ≤ p ∧ p ≤ 97) (hc : 0 ≤ c ∧ c ≤ p - 1) {t u : Int × List Nat × Int} (h1 : isS n.toNat t.2.1 = true) (h2 : isS n.toNat u.2.1 = true) (f1 : 1 ≤ t.2.2 ∧ t.2.2 ≤ p - 1) (f2 : 1 ≤ u.2.2 ∧ u.2.2 ≤ p - 1) :
    okD (prT p c n t u).2.1 ∧ isS n.toNat (prT p c n t u).2.1 = true ∧ 0 ≤ (prT p c n t u).2.2 ∧ (prT p c n t u).2.2 ≤ 9216 := by
  have h := qt7 h1 h2
  have hr : 0 ≤ (t.2.2 * u.2.2).emod p ∧ (t.2.2 * u.2.2).emod p ≤ p - 1 := ⟨Int.emod_nonneg _ (by omega), Int.le_sub_one_of_lt (Int.emod_lt_of_pos (t.2.2 * u.2.2) (show 0 < p by omega))⟩
  obtain ⟨_, _, m3, m4⟩ := pow_mul hp (qa9 (c := c) hp.1 (lpN n.toNat t.2.1 u.2.1 n.toNat)) hr
  exact ⟨h.2, h.1, m3, m4⟩
theorem qjx {p c n : Int} (hp : 2 ≤ p ∧ p ≤ 97) (hc : 0 ≤ c ∧ c ≤ p - 1) {a b : List (Int × List Nat × Int)} (ha : xd p n a) (hb : xd p n b) : qtj n 10000 id (fun _ => 1) (wt p c n a b) := fun t ht => by
  obtain ⟨x, hx, ht⟩ := List.mem_flatMap.1 ht
  obtain ⟨u, hu, rfl⟩ := List.mem_map.1 ht
  obtain ⟨h1, h2, h3, h4⟩ := qpz (c := c) hp hc (ha.dia x hx).2 (hb.dia u hu).2 (ha.fac x hx) (hb.fac u hu)
  exact ⟨h1, h2, by show -10000 ≤ (prT p c n x u).2.2 * 1; omega, by show (prT p c n x u).2.2 * 1 ≤ 10000; omega⟩
theorem qkv {p c n : Int} {a b : List (Int × List Nat × Int)} {i j : Nat} (hi : i < a.length) {t : Int × List Nat × Int} (ht : t ∈ wt p c n (a.take i) b ++ (b.take j).map (prT p c n a[i])) : t ∈ wt p c n a b := by
  rcases List.mem_append.1 ht with h | h
  · obtain ⟨x, hx, h⟩ := List.mem_flatMap.1 h
    exact List.mem_flatMap.2 ⟨x, List.mem_of_mem_take hx, h⟩
  · obtain ⟨u, hu, rfl⟩ := List.mem_map.1 h
    exact List.mem_flatMap.2 ⟨_, List.getElem_mem hi, List.mem_map.2 ⟨u, List.mem_of_mem_take hu, rfl⟩⟩
theorem qbs {p c n : Int} {a b : List (Int × List Nat × Int)} : (wt p c n a b).length = a.length * b.length := by
  induction a with
  | nil => simp [wt]
  | cons x a ih =>
    have : wt p c n (x :: a) b = b.map (prT p c n x) ++ wt p c n a b := rfl
    rw [this, List.length_append, List.length_map, ih, List.length_cons, Nat.add_mul]; omega
theorem qs4 {p c n : Int} (hp : 2 ≤ p ∧ p ≤ 97) (hc : 0 ≤ c ∧ c ≤ p - 1) {a b : List (Int × List Nat × Int)} (ha : xd p n a) (hb : xd p n b) (hl : a.length ≤ 300 ∧ b.length ≤ 300) {i j : Nat} (hi : i < a.length) :
    xd p n (MP p n (wt p c n (a.take i) b ++ (b.take j).map (prT p c n a[i]))) ∧ (MP p n (wt p c n (a.take i) b ++ (b.take j).map (prT p c n a[i]))).length ≤ 100000 := by
  have h0 : xd p n [] := ⟨(fun t h => by cases h), (fun t h => by cases h), (fun t h => by cases h), .nil⟩
  have h := qba (p := p) (F := 10000) (φ := id) (κ := fun _ => 1) (by omega) h0 (a := wt p c n (a.take i) b ++ (b.take j).map (prT p c n a[i])) fun t ht => qjx (c := c) hp hc ha hb t (qkv hi ht)
  refine ⟨h.1, Nat.le_trans h.2 ?_⟩
  rw [List.length_nil, List.length_append, qbs, List.length_map, List.length_take, List.length_take]
  have h1 : (min i a.length) * b.length ≤ 300 * 300 := Nat.mul_le_mul (by omega) hl.2
  omega
theorem x6 : B86 140 = some (qk vp) := rfl
theorem x8 : B86 97 = some (vd) := rfl
theorem xz : B86 69 = some (qk yy) := rfl
theorem jy : B86 100 = some (Xm) := rfl
def Us : AT := (.one (oF 28 3 2) (.one (oL 29 28) (.one (oM 30 6) (.one (oX 31 18 29 30) (.one (oF 32 0 31) (.one (oN 33 17 32) (.one (oF 34 3 3) (.one (oL 35 34) (.one (oM 36 7) (.one (oX 37 18 35 36) (.one (oF 38 0 37) (.one (oN 39 17 38) (.alt (oC 40 140 [.t 33,.t 39]) (.one (oM 27 40) (.one (oE 41 0 27) (.one (oE 42 1 27) (.one (oD 8) (.one (oS 17 8 41) (.one (oM 9 42) (.nil))))))) (.alt (oD 8) (.one (oC 40 140 [.t 33,.t 39]) (.one (oM 27 40) (.one (oE 41 0 27) (.one (oE 42 1 27) (.one (oS 17 8 41) (.one (oM 9 42) (.nil))))))) (.none)))))))))))))))
def Jb : AC := .seq (.draw true [oF 43 3 2,oL 44 43,oM 45 6,oX 46 18 44 45,oF 47 17 46,oL 48 47,oF 49 3 3,oL 50 49,oM 51 7,oX 52 18 50 51,oF 53 17 52,oL 54 53,oP 55 .mul 48 54,oF 56 0 2,oL 57 56,oP 58 .rem 55 57,oF 59 0 2,oL 60 59,oF 61 1 2,oL 62 61,oM 63 9,oC 64 69 [.t 60,.t 62,.t 63],oP 65 .mul 58 64,oM 10 65]) (.region [oF 66 0 2,oL 67 66,oF 68 3 5,oL 69 68,oN 70 17 8,oM 71 10,oC 72 100 [.t 67,.t 69,.t 70,.t 71],oF 73 3 5,oT 73 72])
def X5 : AC := .region [oM 25 7,oK 26 .add 25 1,oM 7 26]
def X7 : AC := .seq (.seq (.region [oM 20 7,oF 21 3 3,oL 22 21,o0 23 (.len .slc (.t 22)),oP 24 .lss 20 23]) (.cond 24 .skip (.exit 2))) (.seq (.block 3 (.seq (.tree false Us) Jb)) X5)
def Um : AC := .region [oM 18 6,oK 19 .add 18 1,oM 6 19]
def X1 : AC := .seq (.seq (.region [oM 13 6,oF 14 3 2,oL 15 14,o0 16 (.len .slc (.t 15)),oP 17 .lss 13 16]) (.cond 17 .skip (.exit 0))) (.seq (.block 1 (.seq (.region [oI 7 0]) (.block 2 (.loop X7)))) Um)
def U0 : AC := .seq (.region [oN 74 4 5,oS 4 4 74]) .ret
def qbl : AC := .seq (.region [o0 2 (.box (.t 0)),o0 3 (.box (.t 1)),oZ 4]) (.seq (.region [oN 11 4 2,oC 12 97 [.t 11],oZ 5,oS 4 5 12]) (.seq (.seq (.region [oI 6 0]) (.block 0 (.loop X1))) U0))
theorem qi8 : zk Try.prog 98 = some ⟨75, qbl, [.Q9 4 4]⟩ := by kernel_rfl
theorem qj7 (p c n p' c' : Int) (a b : List (Int × List Nat × Int)) (hp : 2 ≤ p ∧ p ≤ 97) (hc : 0 ≤ c ∧ c ≤ p - 1) (hn : 0 ≤ n ∧ n ≤ 8) (ha : xd p n a) (hb : xd p n b) (hl : a.length ≤ 300 ∧ b.length ≤ 300) :
    Am.Fn Try.prog 98 [elemV p c n 0 a.length, elemV p' c' n 1 b.length] [.ro (qy a), .ro (qy b)] (fun v H' => v = elemV p c n 2 (MP p n (wt p c n a b)).length ∧ H' = [.ro (qy a), .ro (qy b), .vec 18 (qy (MP p n (wt p c n a b)))]) := by
  refine Am.Fn.ofB qe8 mixed qi8 (by simp [elemV, AV.qn, AV.under]) (J2 (qc _) (qc _)) ?_
  have hal := zb ha.ok
  have hbl := zb hb.ok
  simp (maxSteps := 3000000) only [qf, zH, qbl, x6, x8, xz, jy, vd, yy, Xm, vp, elemV, hal, hbl, iE, iN, iB, iC, iL, iD, iA, iS, iM, qa, zZ, ↓qt, ↓reduceIte, reduceCtorEq, nA, nM, nS, nE, nL, nD]; try simp only [qa, zY]
  refine ⟨rfl, ?_⟩
  refine WA.jq qe8 (fun s => ∃ (i : Nat) (acc : List (Int × List Nat × Int)), i ≤ a.length ∧ acc = MP p n (wt p c n (a.take i) b) ∧
      s = ⟨[(6, .int .i64 i), (5, .ptr 5 0), (4, .ptr 4 0), (3, .ptr 3 0), (2, .ptr 2 0)], [.ro (qy a), .ro (qy b), .cells [.int .i64 p, .int .i64 c, .int .i64 n, .slc 0 0 a.length false 0], .cells [.int .i64 p', .int .i64 c', .int .i64 n, .slc 1 0 b.length false 0], qoj, .cells [.int .i64 p, .int .i64 c, .int .i64 n, .slc 6 0 acc.length false 0], .vec 18 (qy acc)]⟩)
    (fun s => match get s.env 6 with | .int _ x => a.length - x.toNat | _ => 0) ⟨_, qv.xv [0, 1, 2, 3, 4, 6, 5] [6, 5, 4, 3, 2] ⟨by decide, ?_⟩ ?_, 0, [], by omega, rfl, ?_⟩ ?_
  · simp only [qe _ _ (qc _), zK, ↓reduceIte, reduceCtorEq, nE, nB, nA]
  · simp only [qe _ _ (qc _), zK, ↓reduceIte, reduceCtorEq, nE, nB, nA]
  · simp only [qb _ _ (qc _), zL, ↓reduceIte, reduceCtorEq, nE, nA]
    rfl
  rintro s ⟨i, acc, hi, hacc, rfl⟩
  have hwi : qm .i64 ((i : Int) + 1) = ((i + 1 : Nat) : Int) := by rw [wrap64 (by omega) (by omega)]; rfl
  by_cases hlt : i < a.length
  · have hli : (i : Int) < a.length := by omega
    have hli' : (0 : Int) ≤ i := by omega
    simp (maxSteps := 3000000) only [qf, zH, X1, x6, x8, xz, jy, vd, yy, Xm, vp, hli, iE, iN, iB, iC, iL, iD, iA, iS, iM, qa, zZ, ↓qt, ↓reduceIte, reduceCtorEq, nA, nM, nS, nE, nL, nD]; try simp only [qa, zY]
    have ea : MP p n (wt p c n (a.take i) b) = MP p n (wt p c n (a.take i) b ++ (b.take 0).map (prT p c n a[i])) := by simp
    rw [ea] at hacc
    refine WA.jq qe8 (fun s => ∃ (j : Nat) (acc : List (Int × List Nat × Int)), j ≤ b.length ∧ acc = MP p n (wt p c n (a.take i) b ++ (b.take j).map (prT p c n a[i])) ∧
        s = ⟨[(7, .int .i64 j), (6, .int .i64 i), (5, .ptr 5 0), (4, .ptr 4 0), (3, .ptr 3 0), (2, .ptr 2 0)], [.ro (qy a), .ro (qy b), .cells [.int .i64 p, .int .i64 c, .int .i64 n, .slc 0 0 a.length false 0], .cells [.int .i64 p', .int .i64 c', .int .i64 n, .slc 1 0 b.length false 0], qoj, .cells [.int .i64 p, .int .i64 c, .int .i64 n, .slc 6 0 acc.length false 0], .vec 18 (qy acc)]⟩)
      (fun s => match get s.env 7 with | .int _ x => b.length - x.toNat | _ => 0) ⟨_, qv.qw [7, 6, 5, 4, 3, 2], 0, acc, by omega, hacc, rfl⟩ ?_
    clear hacc
    rintro s ⟨j, acc, hj, hacc, rfl⟩
    by_cases hltj : j < b.length
    · have hg := qs4 hp hc ha hb hl (j := j) hlt
      rw [← hacc] at hg
      have hlj : (j : Int) < b.length := by omega
      have hlj' : (0 : Int) ≤ j := by omega
      have hw : qm .i64 ((j : Int) + 1) = ((j + 1 : Nat) : Int) := by rw [wrap64 (by omega) (by omega)]; rfl
      have hd1 := Qm ha.ok hlt
      have hf1 := Yr ha.ok hlt
      have hd2 := Qm hb.ok hltj
      have hf2 := Yr hb.ok hltj
      have ok1 := ha.ok _ (List.getElem_mem hlt)
      have ok2 := hb.ok _ (List.getElem_mem hltj)
      have z1 := ha.dia _ (List.getElem_mem hlt)
      have z2 := hb.dia _ (List.getElem_mem hltj)
      have c1 := ha.fac _ (List.getElem_mem hlt)
      have c2 := hb.fac _ (List.getElem_mem hltj)
      obtain ⟨t1, t2, t3, t4⟩ := qpz (c := c) hp hc z1.2 z2.2 c1 c2
      rw [z1.1] at hd1
      rw [z2.1] at hd2
      have hnext : MP p n (wt p c n (a.take i) b ++ (b.take (j + 1)).map (prT p c n a[i])) = vi p acc n (prT p c n a[i] b[j]).2.1 (prT p c n a[i] b[j]).2.2 := by
        rw [qn9 hltj, ← List.append_assoc, qxu, ← hacc]
      have s1 := z1.2
      have s2 := z2.2
      have hprd : (prT p c n a[i] b[j]).2.1 = ju n.toNat a[i].2.1 b[j].2.1 := rfl
      have hprf : (prT p c n a[i] b[j]).2.2 = (a[i].2.2 * b[j].2.2).emod p * jz p c (lpN n.toNat a[i].2.1 b[j].2.1 n.toNat) := rfl
      rw [hprd, hprf] at hnext
      rw [hprd] at t1 t2
      rw [hprf] at t3 t4
      have hlpb : (0 : Int) ≤ ((lpN n.toNat a[i].2.1 b[j].2.1 n.toNat : Nat) : Int) ∧ ((lpN n.toNat a[i].2.1 b[j].2.1 n.toNat : Nat) : Int) ≤ 1000000 := by
        have := qfk n.toNat a[i].2.1 b[j].2.1 n.toNat; omega
      clear hprd hprf z1 z2
      generalize a[i].2.1 = m1 at hd1 ok1 s1 t1 t2 t3 t4 hlpb hnext
      generalize a[i].2.2 = f1 at hf1 c1 t3 t4 hnext
      generalize b[j].2.1 = m2 at hd2 ok2 s2 t1 t2 t3 t4 hlpb hnext
      generalize b[j].2.2 = f2 at hf2 c2 t3 t4 hnext
      obtain ⟨w1, w2, w3, w4⟩ := pow_mul (p := p) (c := f2) (x := f1) hp (by omega) (by omega)
      have w5 : qm .i64 ((f1 * f2).emod p * jz p c (lpN n.toNat m1 m2 n.toNat)) = (f1 * f2).emod p * jz p c (lpN n.toNat m1 m2 n.toNat) := wrap64 (by omega) (by omega)
      have hne : p ≠ 0 := by omega
      have hb1 : i * 18 < a.length * 18 := by omega
      have hb2 : i * 18 + 17 ≤ a.length * 18 := by omega
      have hb3 : i * 18 + 17 < a.length * 18 := by omega
      have hb4 : j * 18 < b.length * 18 := by omega
      have hb5 : j * 18 + 17 ≤ b.length * 18 := by omega
      have hb6 : j * 18 + 17 < b.length * 18 := by omega
      have hfit := hg.1.fit (by omega) (by omega)
      have hacl := zb hg.1.ok
      have hpp : 0 < p ∧ p ≤ 1000000 := by omega
      have hn0 : 0 ≤ n := hn.1
      have t0 := t1.1
      simp (maxSteps := 3000000) only [qf, zH, X7, x6, x8, xz, jy, vd, yy, Xm, vp, hlj, hbl, iE, iN, iB, iC, iL, iD, iA, iS, iM, qa, zZ, ↓qt, ↓reduceIte, reduceCtorEq, nA, nM, nS, nE, nL, nD]; try simp only [qa, zY]
      refine WA.qng qe8 (fun s => s = ⟨[(9, .int .i64 (lpN n.toNat m1 m2 n.toNat : Nat)), (8, .ptr 7 0), (7, .int .i64 j), (6, .int .i64 i), (5, .ptr 5 0), (4, .ptr 4 0), (3, .ptr 3 0), (2, .ptr 2 0)], [.ro (qy a), .ro (qy b), .cells [.int .i64 p, .int .i64 c, .int .i64 n, .slc 0 0 a.length false 0], .cells [.int .i64 p', .int .i64 c', .int .i64 n, .slc 1 0 b.length false 0], qoj, .cells [.int .i64 p, .int .i64 c, .int .i64 n, .slc 6 0 acc.length false 0], .vec 18 (qy acc), .cells (dia n (ju n.toNat m1 m2))]⟩) ?_ ?_
      · unfold Us
        simp (maxSteps := 3000000) only [qf, zH, Vs, Y0, x6, x8, xz, jy, vd, yy, Xm, vp, hli, hli', hlj, hlj', hal, hbl, hb1, hb2, hb3, hb4, hb5, hb6, hd1, hd2, q8 ok1, q8 ok2, s1, s2, hn0, yg, xr, W7 t0, qg, t0, j2, List.length_replicate, Nat.le_refl, and_self, iE, iN, iB, iC, iL, iD, iA, iS, iM, qa, zZ, ↓qt, ↓reduceIte, reduceCtorEq, nA, nM, nS, nE, nL, nD]; try simp only [qa, zY]
        repeat' first | (with_reducible exact ⟨_, rfl⟩) | (exact rfl) | (with_reducible refine And.intro ?_ ?_)
        all_goals exact ⟨_, qv.qw [9, 8, 7, 6, 5, 4, 3, 2], rfl⟩
      rintro s rfl
      by_cases hz : ((f1 * f2).emod p * jz p c (lpN n.toNat m1 m2 n.toNat)).emod p = 0
      · simp (maxSteps := 3000000) only [qf, zH, Jb, X5, x6, x8, xz, jy, vd, yy, Xm, vp, hli, hli', hlj, hlj', hal, hbl, hb1, hb2, hb3, hb4, hb5, hb6, hf1, hf2, w1, w2, w5, hne, hp, hc, hlpb, Int.toNat_natCast, hw, jh hg.1.ok, q8 t1, hacl, hpp, hn, qg, t0, za t0, hfit, hz, and_self, iE, iN, iB, iC, iL, iD, iA, iS, iM, qa, zZ, ↓qt, ↓reduceIte, reduceCtorEq, nA, nM, nS, nE, nL, nD]; try simp only [qa, zY]
        refine ⟨⟨_, rfl⟩, rfl, _, qv.xv [0, 1, 2, 3, 4, 5, 6] [7, 6, 5, 4, 3, 2] ⟨by decide, ?_⟩ ?_, ⟨j + 1, acc, by omega, by rw [hnext, G2, if_pos hz], ?_⟩, ?_⟩
        · simp only [qe _ _ (qc _), zK, ↓reduceIte, reduceCtorEq, nE, nB, nA]
        · simp only [qe _ _ (qc _), zK, ↓reduceIte, reduceCtorEq, nE, nB, nA]
        · simp only [qb _ _ (qc _), zL, ↓reduceIte, reduceCtorEq, nE, nA]
        · simp only [zL, ↓reduceIte, reduceCtorEq, nE, nA]; omega
      · simp (maxSteps := 3000000) only [qf, zH, Jb, X5, x6, x8, xz, jy, vd, yy, Xm, vp, hli, hli', hlj, hlj', hal, hbl, hb1, hb2, hb3, hb4, hb5, hb6, hf1, hf2, w1, w2, w5, hne, hp, hc, hlpb, Int.toNat_natCast, hw, jh hg.1.ok, q8 t1, hacl, hpp, hn, qg, t0, za t0, hfit, hz, and_self, iE, iN, iB, iC, iL, iD, iA, iS, iM, qa, zZ, ↓qt, ↓reduceIte, reduceCtorEq, nA, nM, nS, nE, nL, nD]; try simp only [qa, zY]
        refine ⟨⟨_, rfl⟩, rfl, _, qv.xv [0, 1, 2, 3, 4, 5, 8] [7, 6, 5, 4, 3, 2] ⟨by decide, ?_⟩ ?_, ⟨j + 1, vi p acc n (ju n.toNat m1 m2) ((f1 * f2).emod p * jz p c (lpN n.toNat m1 m2 n.toNat)), by omega, hnext.symm, ?_⟩, ?_⟩
        · simp only [qe _ _ (qc _), zK, ↓reduceIte, reduceCtorEq, nE, nB, nA]
        · simp only [qe _ _ (qc _), zK, ↓reduceIte, reduceCtorEq, nE, nB, nA]
        · simp only [qb _ _ (qc _), zL, ↓reduceIte, reduceCtorEq, nE, nA]
        · simp only [zL, ↓reduceIte, reduceCtorEq, nE, nA]; omega
    · have hlj : ¬ ((j : Int) < b.length) := by omega
      obtain rfl : j = b.length := by omega
      simp (maxSteps := 3000000) only [qf, zH, X7, Um, x6, x8, xz, jy, vd, yy, Xm, vp, hlj, hwi, hbl, Int.lt_irrefl, iE, iN, iB, iC, iL, iD, iA, iS, iM, qa, zZ, ↓qt, ↓reduceIte, reduceCtorEq, nA, nM, nS, nE, nL, nD]; try simp only [qa, zY]
      refine ⟨_, qv.qw [6, 5, 4, 3, 2], ⟨i + 1, acc, by omega, by rw [hacc, List.take_length, qix hlt], rfl⟩, ?_⟩
      simp only [zL, ↓reduceIte, reduceCtorEq, nE, nA]; omega
  · have hli : ¬ ((i : Int) < a.length) := by omega
    obtain rfl : i = a.length := by omega
    rw [List.take_length] at hacc
    subst hacc
    simp (maxSteps := 3000000) only [qf, zH, X1, U0, x6, x8, xz, jy, vd, yy, Xm, vp, hli, Int.lt_irrefl, iE, iN, iB, iC, iL, iD, iA, iS, iM, qa, zZ, ↓qt, ↓reduceIte, reduceCtorEq, nA, nM, nS, nE, nL, nD]; try simp only [qa, zY]
    refine ⟨rfl, ?_⟩
    refine Ret.xv [0, 1, 6] ⟨⟨by simp, rfl, by decide⟩, ?_⟩ (rs := [.agg [.int .i64 p, .int .i64 c, .int .i64 n, .slc 6 0 (MP p n (wt p c n a b)).length false 0]]) rfl rfl (by simp [xa]) ?_ ⟨?_, ?_⟩
    · simp only [qe _ _ (qc _), zK, ↓reduceIte, reduceCtorEq, nE, nB, nA]
    · intro j l; match j with
      | 0 => simp [q9, AO.ren]
      | 1 => simp [q9, AO.ren]
      | 2 => simp [q9, AO.ren]
      | j + 3 => simp [q9]
    · simp only [xa]
      simp only [zL, ↓reduceIte, reduceCtorEq, nE, nA]
    · simp only [qb _ _ (qc _), zL, ↓reduceIte, reduceCtorEq, nE, nA]
noncomputable def V5 : BE := fun hp xs => match xs with
  | [.agg [.int .i64 p, .int .i64 c, .int .i64 n, .slc b 0 la false 0], .agg [.int .i64 p', .int .i64 c', .int .i64 n', .slc b' 0 lb false 0]] => match rd hp b, rd hp b' with
    | some L, some L' => match Vz la L, Vz lb L' with
      | some ta, some tb => chk ((((2 ≤ p ∧ p ≤ 97) ∧ (0 ≤ c ∧ c ≤ p - 1) ∧ (0 ≤ n ∧ n ≤ 8) ∧ n' = n) ∧ Kr p n ta ∧ Kr p n tb) ∧ (ta.length ≤ 300 ∧ tb.length ≤ 300)) (some (elemV p c n hp.length (MP p n (wt p c n ta tb)).length, hp ++ [.vec 18 (qy (MP p n (wt p c n ta tb)))]))
      | _, _ => none
    | _, _ => none
  | _ => none
theorem qmp {f : FuncId} (hf : ∀ (p c n p' c' : Int) (a b : List (Int × List Nat × Int)), 2 ≤ p ∧ p ≤ 97 → 0 ≤ c ∧ c ≤ p - 1 → 0 ≤ n ∧ n ≤ 8 → xd p n a → xd p n b → a.length ≤ 300 ∧ b.length ≤ 300 →
    Am.Fn Try.prog f [elemV p c n 0 a.length, elemV p' c' n 1 b.length] [.ro (qy a), .ro (qy b)] (fun v H' => v = elemV p c n 2 (MP p n (wt p c n a b)).length ∧ H' = [.ro (qy a), .ro (qy b), .vec 18 (qy (MP p n (wt p c n a b)))])) : Am.Callee Try.prog f V5 := Callee.fp fun hp xs v hp' he => by
  unfold V5 at he
  split at he
  · rename_i p c n b la p' c' n' b' lb
    split at he
    · rename_i L L' hL hL'
      split at he
      · rename_i ta tb h1 h1'
        obtain ⟨⟨⟨⟨a1, a0, a2, a3⟩, a4, a5⟩, a6⟩, he2⟩ := ql he
        simp only [Option.some.injEq, Prod.mk.injEq] at he2
        obtain ⟨rfl, rfl⟩ := he2
        obtain ⟨e1, e2, e3, e4⟩ := Q3 h1
        obtain ⟨f1, f2, f3, f4⟩ := Q3 h1'
        have g1 := zb e2
        have g2 := zb f2
        subst a3
        refine ⟨[(b, 0), (b', 0)], [elemV p c n' 0 ta.length, elemV p' c' n' 1 tb.length], _, _, _, hf p c n' p' c' ta tb a1 a0 a2 (a4.qjv e2) (a5.qjv f2) a6, by simp [elemV, AV.ren, AV.zg, ofL, e1, f1], rfl,
          ⟨⟨L, hL, by omega, by rw [List.drop_zero, qb _ _ (qc _), g1, e1]; exact e3⟩, ⟨L', hL', by omega, by rw [List.drop_zero, qb _ _ (qc _), g2, f1]; exact f3⟩, trivial⟩, rfl,
          ⟨qi _ _ (qc _), qi _ _ (qc _), trivial⟩, ⟨⟨trivial, trivial, trivial, by simp [AV.under], trivial⟩, ⟨trivial, trivial, trivial, by simp [AV.under], trivial⟩, trivial⟩, by simp [elemV, AV.ren, AV.zg, Ren.ext], ?_⟩
        simp [after, upd, AO.wr, AO.ren, qb _ _ (qc _)]
      · cases he
    · cases he
  · cases he
noncomputable def B87 : zh := (B86.put 98 (V5))
theorem qjh : qq Try.prog B87 := (qe8.put (qmp qj7))
def Y1 (n : Int) (m : List Nat) (S : List (Int × List Nat × Int)) : Int := match Z0 n m S with
  | none => 0
  | some j => (S.getD j zT).2.2
def Ka (n : Int) (m : List Nat) (v : Int) (S : List (Int × List Nat × Int)) : List (Int × List Nat × Int) := match Z0 n m S with
  | none => S ++ [(n, m, v)]
  | some j => S.set j (n, m, v)
theorem ql9 {n v : Int} {m : List Nat} {S : List (Int × List Nat × Int)} : Ka n m v S = Zz n m (v - Y1 n m S) S := by
  unfold Ka Y1
  cases h : Z0 n m S with
  | none => simp only [(qb3 h).1, Int.sub_zero]
  | some j =>
    simp only [(G6 h).2.2.2]
    rw [show (S.getD j zT).2.2 + (v - (S.getD j zT).2.2) = v by omega]
theorem Bq {n v : Int} {m : List Nat} {S : List (Int × List Nat × Int)} {u : Int × List Nat × Int} (h : u ∈ Ka n m v S) : u ∈ S ∨ u = (n, m, v) := by
  unfold Ka at h
  split at h
  · rcases List.mem_append.1 h with h | h
    · exact .inl h
    · exact .inr (List.mem_singleton.1 h)
  · exact List.mem_or_eq_of_mem_set h
theorem qt4 {n v : Int} {m : List Nat} {S : List (Int × List Nat × Int)} : (Ka n m v S).length ≤ S.length + 1 := by
  unfold Ka
  split <;> simp
def qkh (p n : Int) (S : List (Int × List Nat × Int)) : Prop := qcm n 10000 S ∧ ∀ t ∈ S, 0 ≤ t.2.2 ∧ t.2.2 ≤ p - 1
theorem qyy {p n : Int} (hp : 0 < p) {m : List Nat} {S : List (Int × List Nat × Int)} (h : qkh p n S) : 0 ≤ Y1 n m S ∧ Y1 n m S ≤ p - 1 := by
  unfold Y1
  cases e : Z0 n m S with
  | none => exact ⟨Int.le_refl 0, by show (0 : Int) ≤ p - 1; omega⟩
  | some j => exact h.2 _ (by rw [Js (G6 e).1]; exact List.getElem_mem _)
theorem qvb {p n v : Int} {m : List Nat} {S : List (Int × List Nat × Int)} (hp : p ≤ 97) (h : qkh p n S) (hm : okD m) (hs : isS n.toNat m = true) (hv : 0 ≤ v ∧ v ≤ p - 1) : qkh p n (Ka n m v S) := by
  have hone := qg3 (n := n) (f := v - Y1 n m S) (m := m) (ts := S) (fun t ht => (h.1.dia t ht).1) h.1.one
  rw [← ql9] at hone
  refine ⟨⟨fun t ht => ?_, fun t ht => ?_, fun t ht => ?_, hone⟩, fun t ht => ?_⟩
  · rcases Bq ht with h1 | rfl
    · exact h.1.ok t h1
    · exact hm
  · rcases Bq ht with h1 | rfl
    · exact h.1.dia t h1
    · exact ⟨rfl, hs⟩
  · rcases Bq ht with h1 | rfl
    · exact h.1.fac t h1
    · exact ⟨by show -10000 ≤ v; omega, by show v ≤ 10000; omega⟩
  · rcases Bq ht with h1 | rfl
    · exact h.2 t h1
    · exact hv
def qb5 (p n : Int) (m : List Nat) (f : Int) (S : List (Int × List Nat × Int)) : List (Int × List Nat × Int) := Ka n m ((Y1 n m S + f).emod p) S
def ML (p n : Int) (l : List (Int × List Nat × Int)) : List (Int × List Nat × Int) := l.foldl (fun S t => qb5 p n t.2.1 t.2.2 S) []
theorem qza {p n : Int} {l : List (Int × List Nat × Int)} {t : Int × List Nat × Int} : ML p n (l ++ [t]) = qb5 p n t.2.1 t.2.2 (ML p n l) := by
  unfold ML; rw [List.foldl_append]; rfl
theorem qup {p n f : Int} {m : List Nat} {S : List (Int × List Nat × Int)} (hp : 0 < p ∧ p ≤ 97) (h : qkh p n S) (hm : okD m) (hs : isS n.toNat m = true) : qkh p n (qb5 p n m f S) :=
  qvb hp.2 h hm hs ⟨Int.emod_nonneg _ (by omega), Int.le_sub_one_of_lt (Int.emod_lt_of_pos _ hp.1)⟩
theorem qg4 {p n : Int} (hp : 0 < p ∧ p ≤ 97) : ∀ {l acc : List (Int × List Nat × Int)}, qkh p n acc → (∀ t ∈ l, okD t.2.1 ∧ isS n.toNat t.2.1 = true) → qkh p n (l.foldl (fun S t => qb5 p n t.2.1 t.2.2 S) acc) ∧ (l.foldl (fun S t => qb5 p n t.2.1 t.2.2 S) acc).length ≤ acc.length + l.length
  | [], acc, h, _ => ⟨h, by simp⟩
  | t :: l, acc, h, hl => by
    have h1 := hl t (List.mem_cons_self ..)
    have := qg4 hp (l := l) (qup (f := t.2.2) hp h h1.1 h1.2) fun u hu => hl u (List.mem_cons_of_mem _ hu)
    have h2 : (qb5 p n t.2.1 t.2.2 acc).length ≤ acc.length + 1 := qt4
    refine ⟨this.1, ?_⟩
    have h3 := this.2
    rw [List.foldl_cons, List.length_cons]; omega
theorem qyl {p n f : Int} {m m' : List Nat} {S : List (Int × List Nat × Int)} (h : ∀ t ∈ S, t.1 = n) : p ∣ cf m (qb5 p n m' f S) - (cf m S + if m' = m then f else 0) := by
  unfold qb5
  rw [ql9, qje h]
  by_cases e : m' = m
  · rw [if_pos e, if_pos e]
    have := qel p (Y1 n m' S + f)
    refine k8 this (Int.dvd_zero p) ?_
    omega
  · rw [if_neg e, if_neg e]
    refine k8 (Int.dvd_zero p) (Int.dvd_zero p) ?_
    omega
theorem qxz {p n f : Int} {m : List Nat} {S : List (Int × List Nat × Int)} (h : ∀ t ∈ S, t.1 = n) : ∀ t ∈ qb5 p n m f S, t.1 = n := fun t ht => by
  rcases Bq ht with h1 | rfl
  · exact h t h1
  · rfl
theorem qq7 {p n : Int} {m : List Nat} : ∀ {l acc : List (Int × List Nat × Int)}, (∀ t ∈ acc, t.1 = n) → p ∣ cf m (l.foldl (fun S t => qb5 p n t.2.1 t.2.2 S) acc) - (cf m acc + qne id (fun _ => 1) m l)
  | [], acc, h => by simp [qne]
  | t :: l, acc, h => by
    have ih := qq7 (p := p) (m := m) (l := l) (qxz (p := p) (m := t.2.1) (f := t.2.2) h)
    have h1 := qyl (p := p) (f := t.2.2) (m := m) (m' := t.2.1) h
    rw [List.foldl_cons]
    refine k8 ih h1 ?_
    simp only [qne, id, Int.mul_one]
    omega
theorem qyo {p n : Int} {l : List (Int × List Nat × Int)} (hp : 0 < p ∧ p ≤ 97) (h : qtj n 10000 id (fun _ => 1) l) : Z2 (zr p (ML p n l)) = MP p n l := by
  have h0 : xd p n [] := ⟨(fun t h => by cases h), (fun t h => by cases h), (fun t h => by cases h), .nil⟩
  have hs := (qg4 (p := p) (n := n) hp (l := l) (acc := []) ⟨⟨(fun t h => by cases h), (fun t h => by cases h), (fun t h => by cases h), .nil⟩, fun t h => by cases h⟩ fun t ht => ⟨(h t ht).1, (h t ht).2.1⟩).1
  refine qdk hp.1 (ql1 hp.1 hs.1) (qba hp.1 h0 h).1 fun m => ?_
  have h1 := qq7 (p := p) (n := n) (m := m) (acc := []) (l := l) (by simp)
  have h2 := qur (p := p) (n := n) (φ := id) (κ := fun _ => 1) (m := m) (acc := []) (a := l) (by simp)
  have h3 := qqx (p := p) (m := m) (S := ML p n l)
  have h4 := k8 h3 h1 (z := cf m (Z2 (zr p (ML p n l))) - (cf m [] + qne id (fun _ => 1) m l)) (by unfold ML; omega)
  exact qe2 h4 h2 (by unfold MP; omega)
theorem qpx {n : Int} {m : List Nat} {S : List (Int × List Nat × Int)} (hm : m.length = 16) (ho : okT S) (h : Z0 n m S = none) (v : Int) :
    wx KD true (.agg (dia n m)) (esT 0 S) 0 = some none ∧ Y1 n m S = 0 ∧ (AO.map (esT 0 S ++ [(⟨.agg (dia n m), .int .i64 v, S.length⟩ : AE)]) (S.length + 1)) = wk (Ka n m v S) := by
  refine ⟨by rw [W0 hm ho, h]; rfl, by unfold Y1; rw [h], ?_⟩
  have e : Ka n m v S = S ++ [(n, m, v)] := by unfold Ka; rw [h]
  rw [e]
  show _ = AO.map (esT 0 (S ++ [(n, m, v)])) (S ++ [(n, m, v)]).length
  rw [qjl]; simp [esT]
theorem qog {n : Int} {m : List Nat} {S : List (Int × List Nat × Int)} {j : Nat} (hm : m.length = 16) (ho : okT S) (h : Z0 n m S = some j) (v : Int) :
    wx KD true (.agg (dia n m)) (esT 0 S) 0 = some (some (j, ⟨.agg (dia n m), .int .i64 (Y1 n m S), j⟩)) ∧ (AO.map ((esT 0 S).set j ⟨.agg (dia n m), .int .i64 v, j⟩) S.length) = wk (Ka n m v S) := by
  have e1 : Y1 n m S = (S.getD j zT).2.2 := by unfold Y1; rw [h]
  refine ⟨by rw [W0 hm ho, h, e1]; simp, ?_⟩
  have e : Ka n m v S = S.set j (n, m, v) := by unfold Ka; rw [h]
  rw [e]
  show _ = AO.map (esT 0 (S.set j (n, m, v))) (S.set j (n, m, v)).length
  have := qi3 (n := n) (v := v) (m := m) (ts := S) (k := 0) (j := j)
  rw [Nat.zero_add] at this
  rw [this]; simp
theorem qu2 {p c n : Int} (hp : 2 ≤ p ∧ p ≤ 97) (hc : 0 ≤ c ∧ c ≤ p - 1) {a b : List (Int × List Nat × Int)} (ha : xd p n a) (hb : xd p n b) (hl : a.length ≤ 300 ∧ b.length ≤ 300) {l : List (Int × List Nat × Int)} (h : ∀ t ∈ l, t ∈ wt p c n a b) (hl : l.length ≤ 100000) :
    qkh p n (ML p n l) ∧ (ML p n l).length ≤ 100000 := by
  have hm := qjx (c := c) hp hc ha hb
  have h1 := qg4 (p := p) (n := n) (by omega) (l := l) (acc := []) ⟨⟨(fun t h => by cases h), (fun t h => by cases h), (fun t h => by cases h), .nil⟩, fun t h => by cases h⟩ fun t ht => ⟨(hm t (h t ht)).1, (hm t (h t ht)).2.1⟩
  exact ⟨h1.1, Nat.le_trans h1.2 (by simpa using hl)⟩
theorem x9 : B87 105 = some (v7) := rfl
theorem y9 : B87 75 = some (qk jo) := rfl
theorem uo : B87 144 = some (qk vp) := rfl
def bw : AC := .seq (.region [oP 24 .lss 23 22]) (.seq (.cond 24 .skip (.exit 2)) (.seq (.block 3 (.seq (.region [oX 25 18 21 23,oN 26 18 25,o0 9 (.alloc [.int .i64 0,.int .u8 0,.int .u8 0,.int .u8 0,.int .u8 0,.int .u8 0,.int .u8 0,.int .u8 0,.int .u8 0,.int .u8 0,.int .u8 0,.int .u8 0,.int .u8 0,.int .u8 0,.int .u8 0,.int .u8 0,.int .u8 0,.int .i64 0]),oS 18 9 26]) (.seq (.region [oF 28 0 7,oN 29 17 28,oF 30 0 9,oN 31 17 30,oC 32 144 [.t 29,.t 31],oM 27 32,oE 33 0 27,oE 34 1 27,oD 10,oS 17 10 33,oM 11 34]) (.draw true [oM 35 5,oN 36 17 10,oM 37 5,oN 38 17 10,o0 39 (.lookup [.int,.int,.int,.int,.int,.int,.int,.int,.int,.int,.int,.int,.int,.int,.int,.int,.int] true (.int .i64 0) false (.t 37) (.t 38)),oF 40 17 7,oL 41 40,oF 42 17 9,oL 43 42,oP 44 .mul 41 43,oF 45 0 2,oL 46 45,oP 47 .rem 44 46,oF 48 1 2,oL 49 48,oM 50 11,oF 51 0 2,oL 52 51,oF 56 0 2,oL 57 56,oC 53 75 [.t 49,.t 50,.t 52],oP 54 .mul 47 53,oP 55 .add 39 54,oP 58 .rem 55 57,⟨none,none,.op (.Gf [.int,.int,.int,.int,.int,.int,.int,.int,.int,.int,.int,.int,.int,.int,.int,.int,.int] true (.t 35) (.t 36) (.t 58))⟩])))) (.region [oK 59 .add 23 1,oM 23 59])))
def Wp : AC := .region [oK 60 .add 16 1,oM 16 60]
def Zc : AC := .seq (.region [oP 17 .lss 16 15]) (.seq (.cond 17 .skip (.exit 0)) (.seq (.block 1 (.seq (.region [oX 18 18 14 16,oN 19 18 18,o0 7 (.alloc [.int .i64 0,.int .u8 0,.int .u8 0,.int .u8 0,.int .u8 0,.int .u8 0,.int .u8 0,.int .u8 0,.int .u8 0,.int .u8 0,.int .u8 0,.int .u8 0,.int .u8 0,.int .u8 0,.int .u8 0,.int .u8 0,.int .u8 0,.int .i64 0]),oS 18 7 19]) (.seq (.region [oF 20 3 3,oL 21 20,o0 22 (.len .slc (.t 21)),oI 23 0]) (.block 2 (.loop bw))))) Wp))
def V9 : AC := .seq (.region [oM 61 5,oC 62 105 [.t 2,.t 61],oS 4 4 62]) .ret
def Bd : AC := .seq (.region [o0 2 (.box (.t 0)),o0 3 (.box (.t 1)),oZ 4]) (.seq (.region [o0 12 (.Kt),oM 5 12]) (.seq (.seq (.region [oF 13 3 2,oL 14 13,o0 15 (.len .slc (.t 14)),oI 16 0]) (.block 0 (.loop Zc))) V9))
theorem qe9 : zk Try.prog 90 = some ⟨63, Bd, [.Q9 4 4]⟩ := by kernel_rfl
theorem qff (p c n p' c' : Int) (a b : List (Int × List Nat × Int)) (hp : 2 ≤ p ∧ p ≤ 97) (hc : 0 ≤ c ∧ c ≤ p - 1) (hn : 0 ≤ n ∧ n ≤ 8) (ha : xd p n a) (hb : xd p n b) (hl : a.length ≤ 300 ∧ b.length ≤ 300) :
    Am.Fn Try.prog 90 [elemV p c n 0 a.length, elemV p' c' n 1 b.length] [.ro (qy a), .ro (qy b)] (fun v H' => v = elemV p c n 2 (MP p n (wt p c n a b)).length ∧ H' = [.ro (qy a), .ro (qy b), .vec 18 (qy (MP p n (wt p c n a b)))]) := by
  refine Am.Fn.ofB qjh mixed qe9 (by simp [elemV, AV.qn, AV.under]) (J2 (qc _) (qc _)) ?_
  have hal := zb ha.ok
  have hbl := zb hb.ok
  simp (maxSteps := 3000000) only [qf, zH, Bd, x9, y9, uo, jo, vp, v7, elemV, hal, hbl, Nat.le_refl, iE, iN, iB, iC, iL, iD, iA, iS, iM, qa, zZ, ↓qt, ↓reduceIte, reduceCtorEq, nA, nM, nS, nE, nL, nD]; try simp only [qa, zY]
  have hlen2 : ∀ l : List (Int × List Nat × Int), (∀ t ∈ l, t ∈ wt p c n a b) → l.length ≤ 100000 → qkh p n (ML p n l) ∧ (ML p n l).length ≤ 100000 := fun l h1 h2 => qu2 (c := c) hp hc ha hb hl h1 h2
  refine WA.jq qjh (fun s => ∃ (i : Nat) (S : List (Int × List Nat × Int)), i ≤ a.length ∧ S = ML p n (wt p c n (a.take i) b) ∧ s = ⟨[(16, .int .i64 i), (15, .int .i64 a.length), (14, .slc 0 0 a.length false 0), (5, .map 5), (4, .ptr 4 0), (3, .ptr 3 0), (2, .ptr 2 0)], [.ro (qy a), .ro (qy b), .cells [.int .i64 p, .int .i64 c, .int .i64 n, .slc 0 0 a.length false 0], .cells [.int .i64 p', .int .i64 c', .int .i64 n, .slc 1 0 b.length false 0], qoj, wk S]⟩)
    (fun s => match get s.env 16 with | .int _ x => a.length - x.toNat | _ => 0) ⟨_, qv.qw [16, 15, 14, 5, 4, 3, 2], 0, [], by omega, rfl, rfl⟩ ?_
  rintro s ⟨i, S, hi, hS, rfl⟩
  have hwi : qm .i64 ((i : Int) + 1) = ((i + 1 : Nat) : Int) := by rw [wrap64 (by omega) (by omega)]; rfl
  by_cases hlt : i < a.length
  · have hli : (i : Int) < a.length := by omega
    have hli' : (0 : Int) ≤ i := by omega
    have hg0 := Xw ha.ok hlt
    have ok1 := ha.ok _ (List.getElem_mem hlt)
    have z1 := ha.dia _ (List.getElem_mem hlt)
    have c1 := ha.fac _ (List.getElem_mem hlt)
    have hb1 : i * 18 < a.length * 18 := by omega
    have hb2 : i * 18 + 18 ≤ a.length * 18 := by omega
    have hov := ka (t := (0, List.replicate 16 0, 0)) (u := a[i]) (by simp) ok1.1
    have htl := xq (t := a[i]) ok1
    have htd := Bz (t := a[i]) ok1
    have htf := Z6 (t := a[i]) ok1
    rw [z1.1] at htd
    have hmem : ∀ j, ∀ t ∈ wt p c n (a.take i) b ++ (b.take j).map (prT p c n a[i]), t ∈ wt p c n a b := fun j t ht => qkv hlt ht
    have hmln : ∀ j, (wt p c n (a.take i) b ++ (b.take j).map (prT p c n a[i])).length ≤ 100000 := fun j => by
      rw [List.length_append, qbs, List.length_map, List.length_take, List.length_take]
      have h1 : (min i a.length) * b.length ≤ 300 * 300 := Nat.mul_le_mul (by omega) hl.2
      omega
    have hms : wt p c n (a.take (i + 1)) b = wt p c n (a.take i) b ++ b.map (prT p c n a[i]) := qix hlt
    have hnx : ∀ j (h : j < b.length), (b.take (j + 1)).map (prT p c n a[i]) = (b.take j).map (prT p c n a[i]) ++ [prT p c n a[i] b[j]] := fun j h => qn9 h
    obtain ⟨t, ht⟩ : ∃ t, t = a[i] := ⟨_, rfl⟩
    rw [← ht] at hg0 ok1 z1 c1 hov htl htd htf hms
    simp only [← ht] at hmem hmln hnx
    clear ht
    simp (maxSteps := 3000000) only [qf, zH, Zc, x9, y9, uo, jo, vp, v7, hli, hli', hal, hbl, hb1, hb2, hg0, jr, htl, vy, yk, hov, List.length_replicate, Nat.le_refl, iE, iN, iB, iC, iL, iD, iA, iS, iM, qa, zZ, ↓qt, ↓reduceIte, reduceCtorEq, nA, nM, nS, nE, nL, nD]; try simp only [qa, zY]
    have ea : wt p c n (a.take i) b = wt p c n (a.take i) b ++ (b.take 0).map (prT p c n t) := by simp
    rw [ea] at hS
    refine WA.jq qjh (fun s => ∃ (j : Nat) (S : List (Int × List Nat × Int)), j ≤ b.length ∧ S = ML p n (wt p c n (a.take i) b ++ (b.take j).map (prT p c n t)) ∧ s = ⟨[(23, .int .i64 j), (22, .int .i64 b.length), (21, .slc 1 0 b.length false 0), (7, .ptr 6 0), (16, .int .i64 i), (15, .int .i64 a.length), (14, .slc 0 0 a.length false 0), (5, .map 5), (4, .ptr 4 0), (3, .ptr 3 0), (2, .ptr 2 0)], [.ro (qy a), .ro (qy b), .cells [.int .i64 p, .int .i64 c, .int .i64 n, .slc 0 0 a.length false 0], .cells [.int .i64 p', .int .i64 c', .int .i64 n, .slc 1 0 b.length false 0], qoj, wk S, .cells (trm t)]⟩)
      (fun s => match get s.env 23 with | .int _ x => b.length - x.toNat | _ => 0) ⟨_, qv.qw [23, 22, 21, 7, 16, 15, 14, 5, 4, 3, 2], 0, S, by omega, hS, rfl⟩ ?_
    clear hS
    rintro s ⟨j, S, hj, hS, rfl⟩
    by_cases hltj : j < b.length
    · obtain ⟨hs, hsl⟩ := hlen2 _ (hmem j) (hmln j)
      rw [← hS] at hs hsl
      have hlj : (j : Int) < b.length := by omega
      have hlj' : (0 : Int) ≤ j := by omega
      have hw : qm .i64 ((j : Int) + 1) = ((j + 1 : Nat) : Int) := by rw [wrap64 (by omega) (by omega)]; rfl
      have hq0 := Xw hb.ok hltj
      have ok2 := hb.ok _ (List.getElem_mem hltj)
      have z2 := hb.dia _ (List.getElem_mem hltj)
      have c2 := hb.fac _ (List.getElem_mem hltj)
      have hb4 : j * 18 < b.length * 18 := by omega
      have hb5 : j * 18 + 18 ≤ b.length * 18 := by omega
      have hov2 := ka (t := (0, List.replicate 16 0, 0)) (u := b[j]) (by simp) ok2.1
      have htl2 := xq (t := b[j]) ok2
      have htd2 := Bz (t := b[j]) ok2
      have htf2 := Z6 (t := b[j]) ok2
      rw [z2.1] at htd2
      obtain ⟨t1, t2, t3, t4⟩ := qpz (c := c) hp hc z1.2 z2.2 c1 c2
      have hnext : ML p n (wt p c n (a.take i) b ++ (b.take (j + 1)).map (prT p c n t)) = qb5 p n (prT p c n t b[j]).2.1 (prT p c n t b[j]).2.2 S := by
        rw [hnx j hltj, ← List.append_assoc, qza, ← hS]
      obtain ⟨u, hu⟩ : ∃ u, u = b[j] := ⟨_, rfl⟩
      rw [← hu] at hq0 ok2 z2 c2 hov2 htl2 htd2 htf2 t1 t2 t3 t4 hnext
      clear hu
      have s1 := z1.2
      have s2 := z2.2
      have hprd : (prT p c n t u).2.1 = ju n.toNat t.2.1 u.2.1 := rfl
      have hprf : (prT p c n t u).2.2 = (t.2.2 * u.2.2).emod p * jz p c (lpN n.toNat t.2.1 u.2.1 n.toNat) := rfl
      rw [hprd, hprf] at hnext
      rw [hprd] at t1 t2
      rw [hprf] at t3 t4
      have hlpb : (0 : Int) ≤ ((lpN n.toNat t.2.1 u.2.1 n.toNat : Nat) : Int) ∧ ((lpN n.toNat t.2.1 u.2.1 n.toNat : Nat) : Int) ≤ 1000000 := by
        have := qfk n.toNat t.2.1 u.2.1 n.toNat; omega
      obtain ⟨w1, w2, w3, w4⟩ := pow_mul (p := p) (c := u.2.2) (x := t.2.2) hp (by omega) (by omega)
      have w5 : qm .i64 ((t.2.2 * u.2.2).emod p * jz p c (lpN n.toNat t.2.1 u.2.1 n.toNat)) = (t.2.2 * u.2.2).emod p * jz p c (lpN n.toNat t.2.1 u.2.1 n.toNat) := wrap64 (by omega) (by omega)
      have hne : p ≠ 0 := by omega
      have hn0 : 0 ≤ n := hn.1
      have t0 := t1.1
      have hvb := qyy (by omega) hs (m := ju n.toNat t.2.1 u.2.1)
      have hkok : kok KD true (.agg (dia n (ju n.toNat t.2.1 u.2.1))) = true := qen t0
      have hmT : wk S = .map (esT 0 S) S.length := rfl
      have do1 := q8 (n := n) ok1
      have do2 := q8 (n := n) ok2
      clear hprd hprf
      cases hix : Z0 n (ju n.toNat t.2.1 u.2.1) S with
      | none =>
        obtain ⟨f1, f2, f3⟩ := qpx t0 hs.1.ok hix ((0 + (t.2.2 * u.2.2).emod p * jz p c (lpN n.toNat t.2.1 u.2.1 n.toNat)).emod p)
        have w6 : qm .i64 (0 + (t.2.2 * u.2.2).emod p * jz p c (lpN n.toNat t.2.1 u.2.1 n.toNat)) = 0 + (t.2.2 * u.2.2).emod p * jz p c (lpN n.toNat t.2.1 u.2.1 n.toNat) := wrap64 (by omega) (by omega)
        have w7 : Int.tmod (0 + (t.2.2 * u.2.2).emod p * jz p c (lpN n.toNat t.2.1 u.2.1 n.toNat)) p = (0 + (t.2.2 * u.2.2).emod p * jz p c (lpN n.toNat t.2.1 u.2.1 n.toNat)).emod p := Int.tmod_eq_emod_of_nonneg (by omega)
        simp (maxSteps := 3000000) only [qf, zH, bw, x9, y9, uo, jo, vp, v7, hlj, hlj', hal, hbl, hb4, hb5, hq0, jr, htl, htl2, htd, htd2, htf, htf2, vy, yk, hov2, yg, xr, W7 t0, za t0, qg, t0, j2, List.length_replicate, Nat.le_refl, do1, do2, s1, s2, hn0, w1, w2, w5, w6, w7, hne, hp, hc, hlpb, Int.toNat_natCast, hmT, hkok, f1, je, hw, and_self, iE, iN, iB, iC, iL, iD, iA, iS, iM, qa, zZ, ↓qt, ↓reduceIte, reduceCtorEq, nA, nM, nS, nE, nL, nD]; try simp only [qa, zY]
        rw [f3]
        refine ⟨⟨_, rfl⟩, _, qv.xv [0, 1, 2, 3, 4, 5, 6] [23, 22, 21, 7, 16, 15, 14, 5, 4, 3, 2] ⟨by decide, ?_⟩ ?_, ⟨j + 1, Ka n (ju n.toNat t.2.1 u.2.1) ((0 + (t.2.2 * u.2.2).emod p * jz p c (lpN n.toNat t.2.1 u.2.1 n.toNat)).emod p) S, by omega, by rw [hnext, qb5, f2], ?_⟩, ?_⟩
        · simp only [qe _ _ (qc _), qe _ _ (bh _), wk, ↓zj, zK, ↓reduceIte, reduceCtorEq, nE, nB, nA]
        · simp only [qe _ _ (qc _), qe _ _ (bh _), wk, ↓zj, zK, ↓reduceIte, reduceCtorEq, nE, nB, nA]
        · simp only [qb _ _ (qc _), qb _ _ (bh _), wk, ↓y5, zL, ↓reduceIte, reduceCtorEq, nE, nA]
        · simp only [zL, ↓reduceIte, reduceCtorEq, nE, nA]; omega
      | some q =>
        obtain ⟨f1, f3⟩ := qog t0 hs.1.ok hix ((Y1 n (ju n.toNat t.2.1 u.2.1) S + (t.2.2 * u.2.2).emod p * jz p c (lpN n.toNat t.2.1 u.2.1 n.toNat)).emod p)
        have w6 : qm .i64 (Y1 n (ju n.toNat t.2.1 u.2.1) S + (t.2.2 * u.2.2).emod p * jz p c (lpN n.toNat t.2.1 u.2.1 n.toNat)) = Y1 n (ju n.toNat t.2.1 u.2.1) S + (t.2.2 * u.2.2).emod p * jz p c (lpN n.toNat t.2.1 u.2.1 n.toNat) := wrap64 (by omega) (by omega)
        have w7 : Int.tmod (Y1 n (ju n.toNat t.2.1 u.2.1) S + (t.2.2 * u.2.2).emod p * jz p c (lpN n.toNat t.2.1 u.2.1 n.toNat)) p = (Y1 n (ju n.toNat t.2.1 u.2.1) S + (t.2.2 * u.2.2).emod p * jz p c (lpN n.toNat t.2.1 u.2.1 n.toNat)).emod p := Int.tmod_eq_emod_of_nonneg (by omega)
        simp (maxSteps := 3000000) only [qf, zH, bw, x9, y9, uo, jo, vp, v7, hlj, hlj', hal, hbl, hb4, hb5, hq0, jr, htl, htl2, htd, htd2, htf, htf2, vy, yk, hov2, yg, xr, W7 t0, za t0, qg, t0, j2, List.length_replicate, Nat.le_refl, do1, do2, s1, s2, hn0, w1, w2, w5, w6, w7, hne, hp, hc, hlpb, Int.toNat_natCast, hmT, hkok, f1, je, hw, and_self, iE, iN, iB, iC, iL, iD, iA, iS, iM, qa, zZ, ↓qt, ↓reduceIte, reduceCtorEq, nA, nM, nS, nE, nL, nD]; try simp only [qa, zY]
        rw [f3]
        refine ⟨⟨_, rfl⟩, _, qv.xv [0, 1, 2, 3, 4, 5, 6] [23, 22, 21, 7, 16, 15, 14, 5, 4, 3, 2] ⟨by decide, ?_⟩ ?_, ⟨j + 1, Ka n (ju n.toNat t.2.1 u.2.1) ((Y1 n (ju n.toNat t.2.1 u.2.1) S + (t.2.2 * u.2.2).emod p * jz p c (lpN n.toNat t.2.1 u.2.1 n.toNat)).emod p) S, by omega, by rw [hnext, qb5], ?_⟩, ?_⟩
        · simp only [qe _ _ (qc _), qe _ _ (bh _), wk, ↓zj, zK, ↓reduceIte, reduceCtorEq, nE, nB, nA]
        · simp only [qe _ _ (qc _), qe _ _ (bh _), wk, ↓zj, zK, ↓reduceIte, reduceCtorEq, nE, nB, nA]
        · simp only [qb _ _ (qc _), qb _ _ (bh _), wk, ↓y5, zL, ↓reduceIte, reduceCtorEq, nE, nA]
        · simp only [zL, ↓reduceIte, reduceCtorEq, nE, nA]; omega
    · have hlj : ¬ ((j : Int) < b.length) := by omega
      obtain rfl : j = b.length := by omega
      simp (maxSteps := 3000000) only [qf, zH, bw, Wp, x9, y9, uo, jo, vp, v7, hlj, hwi, hbl, Int.lt_irrefl, iE, iN, iB, iC, iL, iD, iA, iS, iM, qa, zZ, ↓qt, ↓reduceIte, reduceCtorEq, nA, nM, nS, nE, nL, nD]; try simp only [qa, zY]
      refine ⟨_, qv.xv [0, 1, 2, 3, 4, 5] [16, 15, 14, 5, 4, 3, 2] ⟨by decide, ?_⟩ ?_, ⟨i + 1, S, by omega, by rw [hS, List.take_length, hms], ?_⟩, ?_⟩
      · simp only [qe _ _ (qc _), wk, ↓zj, zK, ↓reduceIte, reduceCtorEq, nE, nB, nA]
      · simp only [qe _ _ (qc _), wk, ↓zj, zK, ↓reduceIte, reduceCtorEq, nE, nB, nA]
      · simp only [qb _ _ (qc _), wk, ↓y5, zL, ↓reduceIte, reduceCtorEq, nE, nA]
      · simp only [zL, ↓reduceIte, reduceCtorEq, nE, nA]; omega
  · have hli : ¬ ((i : Int) < a.length) := by omega
    obtain rfl : i = a.length := by omega
    rw [List.take_length] at hS
    obtain ⟨hs, hsl⟩ := hlen2 (wt p c n a b) (fun t h => h) (by
      rw [qbs]
      have : a.length * b.length ≤ 300 * 300 := Nat.mul_le_mul hl.1 hl.2
      omega)
    have hlaw := qyo (p := p) (n := n) (by omega) (qjx (c := c) hp hc ha hb)
    have hll : (zr p (ML p n (wt p c n a b))).length = (MP p n (wt p c n a b)).length := by rw [← hlaw]; exact (kh _).length_eq.symm
    rw [← hll, ← hlaw]
    rw [← hS] at hs hsl ⊢
    clear hS hll hlaw
    have hap := qil hs.1
    obtain ⟨hz1, hz2, hz3⟩ := qux (p := p) hn hs.1
    have hSo := hs.1.ok
    have hmT : wk S = .map (esT 0 S) S.length := rfl
    have hts := qkk (ts := S) (k := 0) hSo
    have hSl' : S.length ≤ 1000000 := by omega
    have hpp : 0 < p ∧ p ≤ 1000000 := by omega
    simp (maxSteps := 3000000) only [qf, zH, Zc, V9, x9, y9, uo, jo, vp, v7, hli, hmT, Int.lt_irrefl, hts, hpp, hSl', hz1, hz2, hap, and_self, elemV, iE, iN, iB, iC, iL, iD, iA, iS, iM, qa, zZ, ↓qt, ↓reduceIte, reduceCtorEq, nA, nM, nS, nE, nL, nD]; try simp only [qa, zY]
    rw [hz3]
    refine ⟨hz2, rfl, ?_⟩
    refine Ret.xv [0, 1, 6] ⟨⟨by simp, rfl, by decide⟩, ?_⟩ (rs := [.agg [.int .i64 p, .int .i64 c, .int .i64 n, .slc 6 0 (zr p S).length false 0]]) rfl rfl (by simp [xa]) ?_ ⟨?_, ?_⟩
    · simp only [qe _ _ (qc _), ↓zj, zK, ↓reduceIte, reduceCtorEq, nE, nB, nA]
    · intro j l; match j with
      | 0 => simp [q9, AO.ren]
      | 1 => simp [q9, AO.ren]
      | 2 => simp [q9, AO.ren]
      | j + 3 => simp [q9]
    · simp only [xa]
      simp only [zL, ↓reduceIte, reduceCtorEq, nE, nA]
    · simp only [qb _ _ (qc _), zL, ↓reduceIte, reduceCtorEq, nE, nA]
noncomputable def B88 : zh := (B87.put 90 (V5))
theorem q0g : qq Try.prog B88 := (qjh.put (qmp qff))
theorem qy6 {p c n : Int} (hp : 2 ≤ p ∧ p ≤ 97) (hc : 0 ≤ c ∧ c ≤ p - 1) {a b : List (Int × List Nat × Int)} (ha : xd p n a) (hb : xd p n b) (hl : a.length ≤ 300 ∧ b.length ≤ 300) : xd p n (MP p n (wt p c n a b)) ∧ (MP p n (wt p c n a b)).length ≤ 100000 := by
  have h0 : xd p n [] := ⟨(fun t h => by cases h), (fun t h => by cases h), (fun t h => by cases h), .nil⟩
  have h := qba (p := p) (F := 10000) (φ := id) (κ := fun _ => 1) (by omega) h0 (qjx (c := c) hp hc ha hb)
  refine ⟨h.1, Nat.le_trans h.2 ?_⟩
  rw [List.length_nil, qbs]
  have h1 : a.length * b.length ≤ 300 * 300 := Nat.mul_le_mul hl.1 hl.2
  omega
noncomputable def B89 : zh := B88
theorem q0c : qq Try.prog B89 := q0g
theorem Y6 (l : List (Int × List Nat × Int)) : AV.ky (qy l) = [] := yq _ (qc l)
noncomputable def B91 : zh := ((B89.put 143 (gm)).put 88 (qk j6))
theorem qvu : qq Try.prog B91 := ((q0c.put (qul)).put (qhy q06))
theorem Bg {m : List Nat} {i k : Nat} (hm : okD m) (hi : i < 16) (hk : k < 16) : okD ((m.set i k).set k i) := by
  refine ⟨by simp [hm.1], fun x hx => ?_⟩
  rcases List.mem_or_eq_of_mem_set hx with hx | rfl
  · rcases List.mem_or_eq_of_mem_set hx with hx | rfl
    · exact hm.2 x hx
    · omega
  · omega
def qdv : AC := .seq (.region [o0 3 (.box (.t 0)),oD 6]) (.seq (.region [oM 7 1,oM 8 2,o0 9 (.conv .u8 (.t 8)),oF 10 1 3,o0 11 (.zz 16 1 (.t 10) (.t 7)),oT 11 9]) (.seq (.region [oM 12 2,oM 13 1,o0 14 (.conv .u8 (.t 13)),oF 15 1 3,o0 16 (.zz 16 1 (.t 15) (.t 12)),oT 16 14]) (.seq (.region [oN 17 17 3,oS 17 6 17]) .ret)))
theorem ql6 : zk Try.prog 139 = some ⟨18, qdv, [.Q9 6 17]⟩ := by kernel_rfl
theorem qoa (n : Int) (m : List Nat) (i k : Nat) (hm : okD m) (hi : i < 16) (hk : k < 16) :
    Am.Fn Try.prog 139 [.agg (dia n m), .int .i64 i, .int .i64 k] [] (fun v H' => v = .agg (dia n ((m.set i k).set k i)) ∧ H' = []) := by
  refine Am.Fn.xo (R := fun v => v = _) qvu mixed ql6 (by simp) (by simp) ?_
  obtain ⟨a1, a2⟩ := vz hi
  obtain ⟨b1, b2⟩ := vz hk
  have hu1 : qm .u8 (i : Int) = i := K2 (by omega)
  have hu2 : qm .u8 (k : Int) = k := K2 (by omega)
  have hml := hm.1
  have hs := (Bg hm hi hk).1
  simp (maxSteps := 3000000) only [qf, zH, qdv, yg, xr, qg, hml, List.length_set, a1, a2, b1, b2, hu1, hu2, qer, AV.one, za hs, ud vv hs, j2, List.length_replicate, iE, iN, iB, iC, iL, iD, iA, iS, iM, qa, zZ, ↓qt, ↓reduceIte, reduceCtorEq, nA, nM, nS, nE, nL, nD]; try simp only [qa, zY]
  exact qd _ _
def Qk : List AV → Option AV
  | [.agg l, .int .i64 i, .int .i64 k] => match yz l with
    | some (n, m) => chk ((0 ≤ i ∧ i < 16) ∧ (0 ≤ k ∧ k < 16)) (some (.agg (dia n ((m.set i.toNat k.toNat).set k.toNat i.toNat))))
    | none => none
  | _ => none
theorem qy7 : Am.Callee Try.prog 139 (qk Qk) := Am.Callee.plain fun xs v he => by
  unfold Qk at he
  split at he
  · rename_i l i k
    split at he
    · rename_i n m hd
      obtain ⟨⟨h1, h2⟩, he⟩ := ql he
      cases he
      obtain ⟨rfl, hm⟩ := xf hd
      obtain ⟨i, rfl⟩ : ∃ j : Nat, i = j := ⟨i.toNat, by omega⟩
      obtain ⟨k, rfl⟩ : ∃ j : Nat, k = j := ⟨k.toNat, by omega⟩
      simp only [Int.toNat_natCast]
      exact ⟨by simp only [AV.zl, AV.zq, qd, Bool.and_self], by simp only [AV.zq, qd], qoa n m i k hm (by omega) (by omega)⟩
    · cases he
  · cases he
noncomputable def B92 : zh := (B91.put 139 (qk Qk))
theorem qpu : qq Try.prog B92 := (qvu.put (qy7))
theorem X9 : B92 103 = some (qhc vf) := rfl
theorem Zo : B92 97 = some (vd) := rfl
theorem bn : B92 143 = some (gm) := rfl
theorem Wx : B92 88 = some (qk j6) := rfl
theorem Z7 : B92 139 = some (qk Qk) := rfl
def Ws : AC := .seq (.seq (.region [oM 7 4,oM 8 0,oP 9 .lss 7 8]) (.cond 9 .skip (.exit 0))) (.seq (.block 1 (.region [oN 12 17 3,oM 13 4,oM 14 0,oM 15 4,oP 16 .add 14 15,oC 17 139 [.t 12,.t 13,.t 16],oS 17 3 17])) (.region [oM 10 4,oK 11 .add 10 1,oM 4 11]))
def Ky : AC := .seq (.region [oN 18 17 3,oS 17 2 18]) .ret
def qf8 : AC := .seq (.region [oD 2]) (.seq (.region [oM 5 0,o0 6 (.build [.int .i64 0,.int .u8 0,.int .u8 0,.int .u8 0,.int .u8 0,.int .u8 0,.int .u8 0,.int .u8 0,.int .u8 0,.int .u8 0,.int .u8 0,.int .u8 0,.int .u8 0,.int .u8 0,.int .u8 0,.int .u8 0,.int .u8 0] [(0,1,.t 5)]),oD 3,oS 17 3 6]) (.seq (.seq (.region [oI 4 0]) (.block 0 (.loop Ws))) Ky))
theorem qph : zk Try.prog 83 = some ⟨19, qf8, [.Q9 2 17]⟩ := by kernel_rfl
theorem qps (n : Nat) (hn : n ≤ 8) : Am.Fn Try.prog 83 [.int .i64 n] [] (fun v H' => v = .agg (dia n (xp n)) ∧ H' = []) := by
  refine Am.Fn.xo (R := fun v => v = _) qpu mixed qph (by simp) (by simp) ?_
  simp (maxSteps := 3000000) only [qf, zH, qf8, X9, Zo, bn, Wx, Z7, vd, gm, vf, Qk, j6, yg, xr, Ud, qg, j2, ud vv vv, List.length_replicate, iE, iN, iB, iC, iL, iD, iA, iS, iM, qa, zZ, ↓qt, ↓reduceIte, reduceCtorEq, nA, nM, nS, nE, nL, nD]; try simp only [qa, zY]
  refine WA.jq qpu (fun s => ∃ i : Nat, i ≤ n ∧ s = ⟨[(4, .int .i64 i), (3, .ptr 1 0), (2, .ptr 0 0), (0, .int .i64 n)], [.cells (dia 0 (List.replicate 16 0)), .cells (dia n (V1 n i))]⟩)
    (fun s => match get s.env 4 with | .int _ x => n - x.toNat | _ => 0) ⟨_, qv.qw [4, 3, 2, 0], 0, by omega, rfl⟩ ?_
  rintro s ⟨i, hi, rfl⟩
  have hw : qm .i64 ((i : Int) + 1) = ((i + 1 : Nat) : Int) := by rw [wrap64 (by omega) (by omega)]; rfl
  have hok := qav hn hi
  have hok1 := hok.1
  by_cases hlt : i < n
  · have hli : (i : Int) < (n : Int) := by omega
    have h2 : qm .i64 ((n : Int) + i) = ((n + i : Nat) : Int) := by rw [wrap64 (by omega) (by omega)]; rfl
    have c1 : (0 : Int) ≤ i ∧ (i : Int) < 16 := by omega
    have c2 : (0 : Int) ≤ (n + i : Nat) ∧ ((n + i : Nat) : Int) < 16 := by omega
    have hnext : V1 n (i + 1) = ((V1 n i).set i (n + i)).set (n + i) i := rfl
    have hok2 := (qav hn hlt).1
    rw [hnext] at hok2
    simp (maxSteps := 3000000) only [qf, zH, Ws, X9, Zo, bn, Wx, Z7, vd, gm, vf, Qk, j6, hli, hw, h2, q8 hok, c1, c2, qg, hok1, hok2, za hok1, ud hok1 hok2, j2, List.length_set, and_self, iE, iN, iB, iC, iL, iD, iA, iS, iM, qa, zZ, ↓qt, ↓reduceIte, reduceCtorEq, nA, nM, nS, nE, nL, nD]; try simp only [qa, zY]
    refine ⟨_, qv.qw [4, 3, 2, 0], ⟨i + 1, by omega, ?_⟩, ?_⟩
    · simp only [zL, ↓reduceIte, reduceCtorEq, nE, nA]; rw [hnext]
    · simp only [zL, ↓reduceIte, reduceCtorEq, nE, nA]; omega
  · have hli : ¬ ((i : Int) < (n : Int)) := by omega
    obtain rfl : i = n := by omega
    simp (maxSteps := 3000000) only [qf, zH, Ws, Ky, X9, Zo, bn, Wx, Z7, vd, gm, vf, Qk, j6, hli, qg, hok1, za hok1, ud vv hok1, j2, List.length_replicate, Int.lt_irrefl, iE, iN, iB, iC, iL, iD, iA, iS, iM, qa, zZ, ↓qt, ↓reduceIte, reduceCtorEq, nA, nM, nS, nE, nL, nD]; try simp only [qa, zY]
    exact ⟨qd _ _, rfl⟩
noncomputable def B93 : zh := (B92.put 83 (qk j6))
theorem qon : qq Try.prog B93 := (qpu.put (qhy qps))
theorem Uo : B93 103 = some (qhc vf) := rfl
theorem Wl : B93 97 = some (vd) := rfl
theorem Z3 : B93 143 = some (gm) := rfl
theorem Kw : B93 88 = some (qk j6) := rfl
theorem W8 : B93 139 = some (qk Qk) := rfl
theorem U5 : B93 83 = some (qk j6) := rfl
def Vu (n i : Nat) : List Nat := ((((xp n).set i (i + 1)).set (i + 1) i).set (n + i) (n + i + 1)).set (n + i + 1) (n + i)
theorem qt0 {n : Nat} (h : 1 ≤ n ∧ n ≤ 8) : isS n (xp n) = true := by
  have h0 : ((List.range 9).all fun n => n == 0 || isS n (xp n)) = true := by decide
  have h1 := List.all_eq_true.1 h0 n (List.mem_range.2 (by omega))
  simpa [show n ≠ 0 by omega] using h1
theorem qqz {n i : Nat} (h : n ≤ 8) (hi : i + 1 < n) : isS n (Vu n i) = true := by
  have h0 : ((List.range 9).all fun n => (List.range n).all fun i => i + 1 == n || isS n (Vu n i)) = true := by decide
  have h1 := List.all_eq_true.1 (List.all_eq_true.1 h0 n (List.mem_range.2 (by omega))) i (List.mem_range.2 (by omega))
  simpa [show i + 1 ≠ n by omega] using h1
theorem Zv {n : Nat} (hn : n ≤ 8) : okD (xp n) := qav hn (Nat.le_refl n)
theorem Wc {n i : Nat} (hn : n ≤ 8) (hi : i + 1 < n) : okD (Vu n i) := Bg (Bg (Zv hn) (by omega) (by omega)) (by omega) (by omega)
def qgi : AC := .seq (.region [oD 4]) (.seq (.region [oM 5 0,oC 6 83 [.t 5],oM 7 1,oM 8 1,oK 9 .add 8 1,oC 10 139 [.t 6,.t 7,.t 9],oM 11 0,oM 12 1,oP 13 .add 11 12,oM 14 0,oM 15 1,oP 16 .add 14 15,oK 17 .add 16 1,oC 18 139 [.t 10,.t 13,.t 17],oS 17 4 18]) .ret)
theorem qoh : zk Try.prog 84 = some ⟨19, qgi, [.Q9 4 17]⟩ := by kernel_rfl
theorem qou (n i : Nat) (hn : n ≤ 8) (hi : i + 1 < n) : Am.Fn Try.prog 84 [.int .i64 n, .int .i64 i] [] (fun v H' => v = .agg (dia n (Vu n i)) ∧ H' = []) := by
  refine Am.Fn.xo (R := fun v => v = _) qon mixed qoh (by simp) (by simp) ?_
  have w1 : qm .i64 ((i : Int) + 1) = ((i + 1 : Nat) : Int) := by rw [wrap64 (by omega) (by omega)]; rfl
  have w2 : qm .i64 ((n : Int) + i) = ((n + i : Nat) : Int) := by rw [wrap64 (by omega) (by omega)]; rfl
  have w3 : qm .i64 (((n + i : Nat) : Int) + 1) = ((n + i + 1 : Nat) : Int) := by rw [wrap64 (by omega) (by omega)]; rfl
  have c0 : (0 : Int) ≤ n ∧ (n : Int) ≤ 8 := by omega
  have c1 : (0 : Int) ≤ i ∧ (i : Int) < 16 := by omega
  have c2 : (0 : Int) ≤ (i + 1 : Nat) ∧ ((i + 1 : Nat) : Int) < 16 := by omega
  have c3 : (0 : Int) ≤ (n + i : Nat) ∧ ((n + i : Nat) : Int) < 16 := by omega
  have c4 : (0 : Int) ≤ (n + i + 1 : Nat) ∧ ((n + i + 1 : Nat) : Int) < 16 := by omega
  have o1 := Zv hn
  have o2 := Bg (i := i) (k := i + 1) o1 (by omega) (by omega)
  have o3 : ((((xp n).set i (i + 1)).set (i + 1) i).set (n + i) (n + i + 1)).set (n + i + 1) (n + i) = Vu n i := rfl
  have o4 := (Wc hn hi).1
  simp (maxSteps := 3000000) only [qf, zH, qgi, Uo, Wl, Z3, Kw, W8, U5, vd, gm, vf, Qk, j6, w1, w2, w3, c0, c1, c2, c3, c4, q8 o1, q8 o2, o3, yg, xr, qg, o4, za o4, ud vv o4, j2, List.length_replicate, and_self, iE, iN, iB, iC, iL, iD, iA, iS, iM, qa, zZ, ↓qt, ↓reduceIte, reduceCtorEq, nA, nM, nS, nE, nL, nD]; try simp only [qa, zY]
  exact qd _ _
def Wa : List AV → Option AV
  | [.int .i64 n, .int .i64 i] => chk (n ≤ 8 ∧ 0 ≤ i ∧ i + 1 < n) (some (.agg (dia n (Vu n.toNat i.toNat))))
  | _ => none
theorem qm4 {f : FuncId} (h : ∀ n i : Nat, n ≤ 8 → i + 1 < n → Am.Fn Try.prog f [.int .i64 n, .int .i64 i] [] (fun v H' => v = .agg (dia n (Vu n i)) ∧ H' = [])) : Am.Callee Try.prog f (qk Wa) := Am.Callee.plain fun xs v he => by
  unfold Wa at he
  split at he
  · rename_i n i
    obtain ⟨h1, he⟩ := ql he
    cases he
    obtain ⟨n, rfl⟩ : ∃ j : Nat, n = j := ⟨n.toNat, by omega⟩
    obtain ⟨i, rfl⟩ : ∃ j : Nat, i = j := ⟨i.toNat, by omega⟩
    simp only [Int.toNat_natCast]
    exact ⟨rfl, by simp only [AV.zq, qd], h n i (by omega) (by omega)⟩
  · cases he
def Kd : AC := .seq (.region [oD 4]) (.seq (.region [oM 6 0,oC 7 88 [.t 6],oD 5,oS 17 5 7]) (.seq (.region [oM 8 1,oM 9 1,oK 10 .add 9 1,oC 11 143 [.t 5,.t 8,.t 10]]) (.seq (.region [oM 12 0,oM 13 1,oP 14 .add 12 13,oM 15 0,oM 16 1,oP 17 .add 15 16,oK 18 .add 17 1,oC 19 143 [.t 5,.t 14,.t 18]]) (.seq (.region [oN 20 17 5,oS 17 4 20]) .ret))))
theorem qhg : zk Try.prog 125 = some ⟨21, Kd, [.Q9 4 17]⟩ := by kernel_rfl
theorem qhn (n i : Nat) (hn : n ≤ 8) (hi : i + 1 < n) : Am.Fn Try.prog 125 [.int .i64 n, .int .i64 i] [] (fun v H' => v = .agg (dia n (Vu n i)) ∧ H' = []) := by
  refine Am.Fn.xo (R := fun v => v = _) qon mixed qhg (by simp) (by simp) ?_
  have w1 : qm .i64 ((i : Int) + 1) = ((i + 1 : Nat) : Int) := by rw [wrap64 (by omega) (by omega)]; rfl
  have w2 : qm .i64 ((n : Int) + i) = ((n + i : Nat) : Int) := by rw [wrap64 (by omega) (by omega)]; rfl
  have w3 : qm .i64 (((n + i : Nat) : Int) + 1) = ((n + i + 1 : Nat) : Int) := by rw [wrap64 (by omega) (by omega)]; rfl
  have c0 : (0 : Int) ≤ n ∧ (n : Int) ≤ 8 := by omega
  have c1 : (0 : Int) ≤ i ∧ (i : Int) < 16 := by omega
  have c2 : (0 : Int) ≤ (i + 1 : Nat) ∧ ((i + 1 : Nat) : Int) < 16 := by omega
  have c3 : (0 : Int) ≤ (n + i : Nat) ∧ ((n + i : Nat) : Int) < 16 := by omega
  have c4 : (0 : Int) ≤ (n + i + 1 : Nat) ∧ ((n + i + 1 : Nat) : Int) < 16 := by omega
  have o1 := Zv hn
  have o2 := Bg (i := i) (k := i + 1) o1 (by omega) (by omega)
  have o3 : ((((xp n).set i (i + 1)).set (i + 1) i).set (n + i) (n + i + 1)).set (n + i + 1) (n + i) = Vu n i := rfl
  have o4 := (Wc hn hi).1
  have o5 := o1.1
  simp (maxSteps := 3000000) only [qf, zH, Kd, Uo, Wl, Z3, Kw, W8, U5, vd, gm, vf, Qk, j6, w1, w2, w3, c0, c1, c2, c3, c4, q8 o1, q8 o2, o3, yg, xr, qg, o4, o5, za o4, za o5, ud vv o4, ud vv o5, j2, List.length_replicate, and_self, iE, iN, iB, iC, iL, iD, iA, iS, iM, qa, zZ, ↓qt, ↓reduceIte, reduceCtorEq, nA, nM, nS, nE, nL, nD]; try simp only [qa, zY]
  exact qd _ _
noncomputable def B94 : zh := ((B93.put 84 (qk Wa)).put 125 (qk Wa))
theorem qwa : qq Try.prog B94 := ((qon.put (qm4 qou)).put (qm4 qhn))
theorem qd5 : B94 103 = some (qhc vf) := rfl
theorem qbb : B94 97 = some (vd) := rfl
theorem Ba : B94 143 = some (gm) := rfl
theorem qha : B94 88 = some (qk j6) := rfl
theorem qcq : B94 139 = some (qk Qk) := rfl
theorem qd2 : B94 83 = some (qk j6) := rfl
theorem qjr {l L : List AV} (hl : AV.zl l = true) (hL : AV.zl L = true) {env : Env} {hp : List AO} {s j b k : Nat} {p c n : Int} (h0 : hp[0]? = some (.ro l)) (hs : get env s = .ptr j 0)
    (hj : hp[j]? = some (.cells [.int .i64 p, .int .i64 c, .int .i64 n, .slc b 0 k false 0])) (hb : hp[b]? = some (.vec 18 L)) :
    Ret [.Q9 s 4] [.ro l] (fun v H' => v = elemV p c n 1 k ∧ H' = [.ro l, .vec 18 L]) ⟨env, hp⟩ := by
  have hb0 : 0 ≠ b := fun e => by subst e; rw [h0] at hb; cases hb
  refine Ret.xv [0, b] ⟨⟨by simp, rfl, by simp [hb0]⟩, ?_⟩ (rs := [.agg [.int .i64 p, .int .i64 c, .int .i64 n, .slc b 0 k false 0]]) ?_ (by simp [xa, AV.within, AV.z7]) (by simp [xa]) ?_ ⟨?_, ?_⟩
  · intro i hi
    simp only [List.mem_cons, List.not_mem_nil, or_false] at hi
    rcases hi with rfl | rfl
    · rw [h0]; exact qe _ _ hl
    · rw [hb]; exact qe _ _ hL
  · simp [Yi, hs, qh, ev, rd, hj, chk]
  · intro i m; match i with
    | 0 => exact fun _ => ⟨_, rfl⟩
    | 1 => simp [q9, hb, AO.ren]
    | i + 2 => simp [q9]
  · simp only [xa, AV.ren, AV.zg, qmq, pos, if_neg hb0, if_true]
    rfl
  · simp [q9, h0, hb, AO.ren, qb _ _ hl, qb _ _ hL]
def K8 : AC := .seq (.region [o0 1 (.box (.t 0)),oZ 2]) (.seq (.region [oN 4 4 1,oC 5 97 [.t 4],oZ 3,oS 4 3 5]) (.seq (.draw true [oF 6 3 3,oL 7 6,oF 8 2 1,oL 9 8,oC 10 83 [.t 9],o0 11 (.build [.int .i64 0,.int .u8 0,.int .u8 0,.int .u8 0,.int .u8 0,.int .u8 0,.int .u8 0,.int .u8 0,.int .u8 0,.int .u8 0,.int .u8 0,.int .u8 0,.int .u8 0,.int .u8 0,.int .u8 0,.int .u8 0,.int .u8 0,.int .i64 0] [(0,17,.t 10),(17,1,(.c (.int .i64 1)))]),o0 12 (.Q4 1 [.int .i64 0,.int .u8 0,.int .u8 0,.int .u8 0,.int .u8 0,.int .u8 0,.int .u8 0,.int .u8 0,.int .u8 0,.int .u8 0,.int .u8 0,.int .u8 0,.int .u8 0,.int .u8 0,.int .u8 0,.int .u8 0,.int .u8 0,.int .i64 0] [(0,18,.t 11)]),o0 13 (.append 18 32 (.t 7) (.t 12)),oF 14 3 3,oT 14 13]) (.seq (.region [oN 15 4 3,oS 4 2 15]) .ret)))
theorem qe7 : zk Try.prog 119 = some ⟨16, K8, [.Q9 2 4]⟩ := by kernel_rfl
theorem qpv (p c n : Int) (k : Nat) (hn : 1 ≤ n ∧ n ≤ 8) :
    Am.Fn Try.prog 119 [elemV p c n 0 k] [.ro []] (fun v H' => v = elemV p c n 1 1 ∧ H' = [.ro [], .vec 18 (qy [(n, xp n.toNat, 1)])]) := by
  refine Am.Fn.ofW qwa mixed qe7 (by simp [elemV, AV.qn, AV.under]) (jv rfl) ?_
  have o1 := Zv (n := n.toNat) (by omega)
  have o2 := o1.1
  have c0 : 0 ≤ n ∧ n ≤ 8 := by omega
  have e0 : (trm (0, List.replicate 16 0, 0)).length = 18 := rfl
  have e1 : over (trm (0, List.replicate 16 0, 0)) 0 (dia n (xp n.toNat)) = trm (n, xp n.toNat, 0) := Zw (by simp) o2
  have e2 : over (trm (n, xp n.toNat, 0)) 17 [.int .i64 1] = trm (n, xp n.toNat, 1) := Z5 o2
  have e3 : over (trm (0, List.replicate 16 0, 0)) 0 (trm (n, xp n.toNat, 1)) = trm (n, xp n.toNat, 1) := ka (by simp) o2
  have e4 : (trm (n, xp n.toNat, 1)).length = 18 := by rw [wv, o2]
  have e5 : (trm (n, xp n.toNat, 0)).length = 18 := by rw [wv, o2]
  simp (maxSteps := 3000000) only [qf, zH, K8, qd5, qbb, Ba, qha, qcq, qd2, vd, gm, vf, Qk, j6, elemV, c0, qg, o2, vy, e0, e1, e2, e3, e4, e5, jr, src, lim, gz, Option.map_some, Option.map_none, List.all_nil, Nat.zero_mul, Int.toNat_zero, List.take_zero, Nat.le_refl, and_self, iE, iN, iB, iC, iL, iD, iA, iS, iM, qa, zZ, ↓qt, ↓reduceIte, reduceCtorEq, nA, nM, nS, nE, nL, nD]; try simp only [qa, zY]
  exact ⟨rfl, ⟨_, rfl⟩, by rw [gg o2, jr], rfl, rfl, _, qv.refl _, qjr rfl (qc _) rfl rfl rfl (by rw [gg o2]; simp [qy])⟩
def qok : BE := fun hp xs => match xs with
  | [.agg [.int .i64 p, .int .i64 c, .int .i64 n, .slc b 0 k false 0]] => match rd hp b with
    | some _ => chk (1 ≤ n ∧ n ≤ 8) (some (elemV p c n hp.length 1, hp ++ [.vec 18 (qy [(n, xp n.toNat, 1)])]))
    | none => none
  | _ => none
theorem q0a : Am.Callee Try.prog 119 qok := Callee.fp fun hp xs v hp' he => by
  unfold qok at he
  split at he
  · rename_i p c n b k
    split at he
    · rename_i L hL
      obtain ⟨h1, he⟩ := ql he
      simp only [Option.some.injEq, Prod.mk.injEq] at he
      obtain ⟨rfl, rfl⟩ := he
      refine ⟨[(b, 0)], [elemV p c n 0 k], _, _, _, qpv p c n k h1, by simp [elemV, AV.ren, AV.zg, ofL], rfl, ⟨⟨L, hL, by simp, by simp [AV.zg]⟩, trivial⟩, rfl, ⟨trivial, trivial⟩, ⟨⟨trivial, trivial, trivial, by simp [AV.under], trivial⟩, trivial⟩, by simp [elemV, AV.ren, AV.zg, Ren.ext], ?_⟩
      simp [after, upd, AO.wr, AO.ren, AV.zg, qb _ _ (qc _)]
    · cases he
  · cases he
noncomputable def B95 : zh := (B94.put 119 (qok))
theorem qki : qq Try.prog B95 := (qwa.put (q0a))
end Go.Proofs.Ytfhckbbgmblhbaa

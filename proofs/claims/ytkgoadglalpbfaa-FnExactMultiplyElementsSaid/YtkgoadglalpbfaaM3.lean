/- Contracts: products of elements, the implementation. -/
import Derived.Test.YtkgoadglalpbfaaM2
namespace Go.Proofs.Ytkgoadglalpbfaa
open Go.Am Go.Dia
set_option linter.unusedSimpArgs false
set_option linter.unusedVariables false
set_option maxRecDepth 4000
set_option maxHeartbeats 1000000

theorem findT_none {n : Int} {m : List Nat} {S : List (Int × List Nat × Int)} (hm : m.length = 16) (ho : okT S) (h : idxT n m S = none) (v : Int) :
    findK KD true (.agg (dia n m)) (esT 0 S) 0 = some none ∧ valT n m S = 0 ∧ (AO.map (esT 0 S ++ [(⟨.agg (dia n m), .int .i64 v, S.length⟩ : AE)]) (S.length + 1)) = mapT (setT n m v S) := by
  refine ⟨by rw [findK_es hm ho, h]; rfl, by unfold valT; rw [h], ?_⟩
  have e : setT n m v S = S ++ [(n, m, v)] := by unfold setT; rw [h]
  rw [e]
  show _ = AO.map (esT 0 (S ++ [(n, m, v)])) (S ++ [(n, m, v)]).length
  rw [esT_app]; simp [esT]
theorem findT_some {n : Int} {m : List Nat} {S : List (Int × List Nat × Int)} {j : Nat} (hm : m.length = 16) (ho : okT S) (h : idxT n m S = some j) (v : Int) :
    findK KD true (.agg (dia n m)) (esT 0 S) 0 = some (some (j, ⟨.agg (dia n m), .int .i64 (valT n m S), j⟩)) ∧ (AO.map ((esT 0 S).set j ⟨.agg (dia n m), .int .i64 v, j⟩) S.length) = mapT (setT n m v S) := by
  have e1 : valT n m S = (S.getD j zT).2.2 := by unfold valT; rw [h]
  refine ⟨by rw [findK_es hm ho, h, e1]; simp, ?_⟩
  have e : setT n m v S = S.set j (n, m, v) := by unfold setT; rw [h]
  rw [e]
  show _ = AO.map (esT 0 (S.set j (n, m, v))) (S.set j (n, m, v)).length
  have := esT_set (n := n) (v := v) (m := m) (ts := S) (k := 0) (j := j)
  rw [Nat.zero_add] at this
  rw [this]; simp
theorem part_sum {p c n : Int} (hp : 2 ≤ p ∧ p ≤ 97) (hc : 0 ≤ c ∧ c ≤ p - 1) {a b : List (Int × List Nat × Int)} (ha : GoodT p n a) (hb : GoodT p n b) (hl : a.length ≤ 300 ∧ b.length ≤ 300) {l : List (Int × List Nat × Int)} (h : ∀ t ∈ l, t ∈ mulT p c n a b) (hl : l.length ≤ 100000) :
    SumP p n (ML p n l) ∧ (ML p n l).length ≤ 100000 := by
  have hm := mul_ok (c := c) hp hc ha hb
  have h1 := fold_sum (p := p) (n := n) (by omega) (l := l) (acc := []) ⟨⟨(fun t h => by cases h), (fun t h => by cases h), (fun t h => by cases h), .nil⟩, fun t h => by cases h⟩ fun t ht => ⟨(hm t (h t ht)).1, (hm t (h t ht)).2.1⟩
  exact ⟨h1.1, Nat.le_trans h1.2 (by simpa using hl)⟩
theorem B87_i_Element_with_M3 : B87 113 = some (g_with) := rfl
theorem B87_i_power_M3 : B87 128 = some (plainE g_ipow) := rfl
theorem B87_i_times_M3 : B87 127 = some (plainE g_times) := rfl
def a_i_multiplied_l1 : AC := .seq (.region [⟨some 24, none, .op (.bin .lss (.t 23) (.t 22))⟩]) (.seq (.cond 24 .skip (.exit 2)) (.seq (.block 3 (.seq (.region [⟨some 25, none, .op (.iaddrS 18 (.t 21) (.t 23))⟩,
              ⟨some 26, none, .op (.loadN 18 (.t 25))⟩,
              ⟨some 9, none, .op (.alloc [(.int .i64 0), (.int .u8 0), (.int .u8 0), (.int .u8 0), (.int .u8 0), (.int .u8 0), (.int .u8 0), (.int .u8 0), (.int .u8 0), (.int .u8 0), (.int .u8 0), (.int .u8 0), (.int .u8 0), (.int .u8 0), (.int .u8 0), (.int .u8 0), (.int .u8 0), (.int .i64 0)])⟩,
              ⟨none, none, .op (.storeN 18 (.t 9) (.t 26))⟩]) (.seq (.region [⟨some 28, none, .op (.faddr 0 (.t 7))⟩,
              ⟨some 29, none, .op (.loadN 17 (.t 28))⟩,
              ⟨some 30, none, .op (.faddr 0 (.t 9))⟩,
              ⟨some 31, none, .op (.loadN 17 (.t 30))⟩,
              ⟨some 32, none, .call (.c (.fn 127 [] [])) [(.t 29), (.t 31)]⟩,
              ⟨some 27, none, .op (.mov (.t 32))⟩,
              ⟨some 33, none, .op (.ext 0 (.t 27))⟩,
              ⟨some 34, none, .op (.ext 1 (.t 27))⟩,
              ⟨some 10, none, .op (.alloc [(.int .i64 0), (.int .u8 0), (.int .u8 0), (.int .u8 0), (.int .u8 0), (.int .u8 0), (.int .u8 0), (.int .u8 0), (.int .u8 0), (.int .u8 0), (.int .u8 0), (.int .u8 0), (.int .u8 0), (.int .u8 0), (.int .u8 0), (.int .u8 0), (.int .u8 0)])⟩,
              ⟨none, none, .op (.storeN 17 (.t 10) (.t 33))⟩,
              ⟨some 11, none, .op (.mov (.t 34))⟩]) (.draw true [⟨some 35, none, .op (.mov (.t 5))⟩,
             ⟨some 36, none, .op (.loadN 17 (.t 10))⟩,
             ⟨some 37, none, .op (.mov (.t 5))⟩,
             ⟨some 38, none, .op (.loadN 17 (.t 10))⟩,
             ⟨some 39, none, .op (.lookup [.int, .int, .int, .int, .int, .int, .int, .int, .int, .int, .int, .int, .int, .int, .int, .int, .int] true (.int .i64 0) false (.t 37) (.t 38))⟩,
             ⟨some 40, none, .op (.faddr 17 (.t 7))⟩,
             ⟨some 41, none, .op (.load1 (.t 40))⟩,
             ⟨some 42, none, .op (.faddr 17 (.t 9))⟩,
             ⟨some 43, none, .op (.load1 (.t 42))⟩,
             ⟨some 44, none, .op (.bin .mul (.t 41) (.t 43))⟩,
             ⟨some 45, none, .op (.faddr 0 (.t 2))⟩,
             ⟨some 46, none, .op (.load1 (.t 45))⟩,
             ⟨some 47, none, .op (.bin .rem (.t 44) (.t 46))⟩,
             ⟨some 48, none, .op (.faddr 1 (.t 2))⟩,
             ⟨some 49, none, .op (.load1 (.t 48))⟩,
             ⟨some 50, none, .op (.mov (.t 11))⟩,
             ⟨some 51, none, .op (.faddr 0 (.t 2))⟩,
             ⟨some 52, none, .op (.load1 (.t 51))⟩,
             ⟨some 56, none, .op (.faddr 0 (.t 2))⟩,
             ⟨some 57, none, .op (.load1 (.t 56))⟩,
             ⟨some 53, none, .call (.c (.fn 128 [] [])) [(.t 49), (.t 50), (.t 52)]⟩,
             ⟨some 54, none, .op (.bin .mul (.t 47) (.t 53))⟩,
             ⟨some 55, none, .op (.bin .add (.t 39) (.t 54))⟩,
             ⟨some 58, none, .op (.bin .rem (.t 55) (.t 57))⟩,
             ⟨none, none, .op (.mapupd [.int, .int, .int, .int, .int, .int, .int, .int, .int, .int, .int, .int, .int, .int, .int, .int, .int] true (.t 35) (.t 36) (.t 58))⟩])))) (.region [⟨some 59, none, .op (.bin .add (.t 23) (.c (.int .i64 1)))⟩,
           ⟨some 23, none, .op (.mov (.t 59))⟩])))
def a_i_multiplied_k1 : AC := .region [⟨some 60, none, .op (.bin .add (.t 16) (.c (.int .i64 1)))⟩,
       ⟨some 16, none, .op (.mov (.t 60))⟩]
def a_i_multiplied_l2 : AC := .seq (.region [⟨some 17, none, .op (.bin .lss (.t 16) (.t 15))⟩]) (.seq (.cond 17 .skip (.exit 0)) (.seq (.block 1 (.seq (.region [⟨some 18, none, .op (.iaddrS 18 (.t 14) (.t 16))⟩,
          ⟨some 19, none, .op (.loadN 18 (.t 18))⟩,
          ⟨some 7, none, .op (.alloc [(.int .i64 0), (.int .u8 0), (.int .u8 0), (.int .u8 0), (.int .u8 0), (.int .u8 0), (.int .u8 0), (.int .u8 0), (.int .u8 0), (.int .u8 0), (.int .u8 0), (.int .u8 0), (.int .u8 0), (.int .u8 0), (.int .u8 0), (.int .u8 0), (.int .u8 0), (.int .i64 0)])⟩,
          ⟨none, none, .op (.storeN 18 (.t 7) (.t 19))⟩]) (.seq (.region [⟨some 20, none, .op (.faddr 3 (.t 3))⟩,
          ⟨some 21, none, .op (.load1 (.t 20))⟩,
          ⟨some 22, none, .op (.len .slc (.t 21))⟩,
          ⟨some 23, none, .op (.mov (.c (.int .i64 0)))⟩]) (.block 2 (.loop a_i_multiplied_l1))))) a_i_multiplied_k1))
def a_i_multiplied_k2 : AC := .seq (.region [⟨some 61, none, .op (.mov (.t 5))⟩,
     ⟨some 62, none, .call (.c (.fn 113 [] [])) [(.t 2), (.t 61)]⟩,
     ⟨none, none, .op (.storeN 4 (.t 4) (.t 62))⟩]) .ret
def a_i_multiplied : AC := .seq (.region [⟨some 2, none, .op (.box (.t 0))⟩,
     ⟨some 3, none, .op (.box (.t 1))⟩,
     ⟨some 4, none, .op (.alloc [(.int .i64 0), (.int .i64 0), (.int .i64 0), (.v (.slice none 0 0))])⟩]) (.seq (.region [⟨some 12, none, .op (.mkmap)⟩,
     ⟨some 5, none, .op (.mov (.t 12))⟩]) (.seq (.seq (.region [⟨some 13, none, .op (.faddr 3 (.t 2))⟩,
      ⟨some 14, none, .op (.load1 (.t 13))⟩,
      ⟨some 15, none, .op (.len .slc (.t 14))⟩,
      ⟨some 16, none, .op (.mov (.c (.int .i64 0)))⟩]) (.block 0 (.loop a_i_multiplied_l2))) a_i_multiplied_k2))
theorem r_i_multiplied : readF Try.prog 90 = some ⟨63, a_i_multiplied, [.cellN 4 4]⟩ := by kernel_rfl
theorem c_i_multiplied (p c n p' c' : Int) (a b : List (Int × List Nat × Int)) (hp : 2 ≤ p ∧ p ≤ 97) (hc : 0 ≤ c ∧ c ≤ p - 1) (hn : 0 ≤ n ∧ n ≤ 8) (ha : GoodT p n a) (hb : GoodT p n b) (hl : a.length ≤ 300 ∧ b.length ≤ 300) :
    Am.Fn Try.prog 90 [elemV p c n 0 a.length, elemV p' c' n 1 b.length] [.ro (trms a), .ro (trms b)] (fun v H' => v = elemV p c n 2 (MP p n (mulT p c n a b)).length ∧ H' = [.ro (trms a), .ro (trms b), .vec 18 (trms (MP p n (mulT p c n a b)))]) := by
  refine Am.Fn.ofB B87_ok mixed r_i_multiplied (by simp [elemV, AV.unders, AV.under]) (ro_under2 (scals_trms _) (scals_trms _)) ?_
  have hal := trms_length ha.ok
  have hbl := trms_length hb.ok
  simp (maxSteps := 3000000) only [over4E, heapL, fillA, rd, wrt, wrl, AO.withl, a_i_multiplied, B87_i_Element_with_M3, B87_i_power_M3, B87_i_times_M3, g_ipow, g_times, g_with, elemV, hal, hbl, Nat.le_refl, Int.reduceEq, Int.reduceNe, Int.reduceBEq, Int.reduceBNe, Int.reduceLT, Int.reduceLE, Int.reduceAdd, Int.reduceSub, Int.reduceMul, idX_eq, wbE, ↓symP, symE, listE, AK.isCall, enumE, ev, putE, abin, aun, AV.cells, ↓reduceIte, reduceCtorEq, Nat.reduceAdd, Nat.reduceMul, Nat.reduceSub, Nat.reduceEqDiff, Nat.reduceLT, Nat.reduceLeDiff, implies_true, Back, retv, retV, AV.scal, AV.scals]; try simp only [idX_eq, ite_both, pickP_both, not_not_eq, Bool.not_eq_false, Bool.not_eq_true]
  have hlen2 : ∀ l : List (Int × List Nat × Int), (∀ t ∈ l, t ∈ mulT p c n a b) → l.length ≤ 100000 → SumP p n (ML p n l) ∧ (ML p n l).length ≤ 100000 := fun l h1 h2 => part_sum (c := c) hp hc ha hb hl h1 h2
  refine WA.loopB B87_ok (fun s => ∃ (i : Nat) (S : List (Int × List Nat × Int)), i ≤ a.length ∧ S = ML p n (mulT p c n (a.take i) b) ∧ s = ⟨[(16, .int .i64 i), (15, .int .i64 a.length), (14, .slc 0 0 a.length false 0), (5, .map 5), (4, .ptr 4 0), (3, .ptr 3 0), (2, .ptr 2 0)], [.ro (trms a), .ro (trms b), .cells [.int .i64 p, .int .i64 c, .int .i64 n, .slc 0 0 a.length false 0], .cells [.int .i64 p', .int .i64 c', .int .i64 n, .slc 1 0 b.length false 0], nilE, mapT S]⟩)
    (fun s => match get s.env 16 with | .int _ x => a.length - x.toNat | _ => 0) ⟨_, Weak.slots [16, 15, 14, 5, 4, 3, 2], 0, [], by omega, rfl, rfl⟩ ?_
  rintro s ⟨i, S, hi, hS, rfl⟩
  have hwi : wrapK .i64 ((i : Int) + 1) = ((i + 1 : Nat) : Int) := by rw [wrap64 (by omega) (by omega)]; rfl
  by_cases hlt : i < a.length
  · have hli : (i : Int) < a.length := by omega
    have hli' : (0 : Int) ≤ i := by omega
    have hg0 := trms_get ha.ok hlt
    have ok1 := ha.ok _ (List.getElem_mem hlt)
    have z1 := ha.dia _ (List.getElem_mem hlt)
    have c1 := ha.fac _ (List.getElem_mem hlt)
    have hb1 : i * 18 < a.length * 18 := by omega
    have hb2 : i * 18 + 18 ≤ a.length * 18 := by omega
    have hov := over_trm (t := (0, List.replicate 16 0, 0)) (u := a[i]) (by simp) ok1.1
    have htl := trm_length (t := a[i]) ok1
    have htd := trm_dia' (t := a[i]) ok1
    have htf := trm_factor (t := a[i]) ok1
    rw [z1.1] at htd
    have hmem : ∀ j, ∀ t ∈ mulT p c n (a.take i) b ++ (b.take j).map (prT p c n a[i]), t ∈ mulT p c n a b := fun j t ht => mulT_mem hlt ht
    have hmln : ∀ j, (mulT p c n (a.take i) b ++ (b.take j).map (prT p c n a[i])).length ≤ 100000 := fun j => by
      rw [List.length_append, mulT_len, List.length_map, List.length_take, List.length_take]
      have h1 : (min i a.length) * b.length ≤ 300 * 300 := Nat.mul_le_mul (by omega) hl.2
      omega
    have hms : mulT p c n (a.take (i + 1)) b = mulT p c n (a.take i) b ++ b.map (prT p c n a[i]) := mulT_succ hlt
    have hnx : ∀ j (h : j < b.length), (b.take (j + 1)).map (prT p c n a[i]) = (b.take j).map (prT p c n a[i]) ++ [prT p c n a[i] b[j]] := fun j h => map_succ h
    obtain ⟨t, ht⟩ : ∃ t, t = a[i] := ⟨_, rfl⟩
    rw [← ht] at hg0 ok1 z1 c1 hov htl htd htf hms
    simp only [← ht] at hmem hmln hnx
    clear ht
    simp (maxSteps := 3000000) only [over4E, heapL, fillA, rd, wrt, wrl, AO.withl, a_i_multiplied_l2, B87_i_Element_with_M3, B87_i_power_M3, B87_i_times_M3, g_ipow, g_times, g_with, hli, hli', hal, hbl, hb1, hb2, hg0, ones_trm, htl, trm_zero, trm_zero_len, hov, List.length_replicate, Nat.le_refl, Int.reduceEq, Int.reduceNe, Int.reduceBEq, Int.reduceBNe, Int.reduceLT, Int.reduceLE, Int.reduceAdd, Int.reduceSub, Int.reduceMul, idX_eq, wbE, ↓symP, symE, listE, AK.isCall, enumE, ev, putE, abin, aun, AV.cells, ↓reduceIte, reduceCtorEq, Nat.reduceAdd, Nat.reduceMul, Nat.reduceSub, Nat.reduceEqDiff, Nat.reduceLT, Nat.reduceLeDiff, implies_true, Back, retv, retV, AV.scal, AV.scals]; try simp only [idX_eq, ite_both, pickP_both, not_not_eq, Bool.not_eq_false, Bool.not_eq_true]
    have ea : mulT p c n (a.take i) b = mulT p c n (a.take i) b ++ (b.take 0).map (prT p c n t) := by simp
    rw [ea] at hS
    refine WA.loopB B87_ok (fun s => ∃ (j : Nat) (S : List (Int × List Nat × Int)), j ≤ b.length ∧ S = ML p n (mulT p c n (a.take i) b ++ (b.take j).map (prT p c n t)) ∧ s = ⟨[(23, .int .i64 j), (22, .int .i64 b.length), (21, .slc 1 0 b.length false 0), (7, .ptr 6 0), (16, .int .i64 i), (15, .int .i64 a.length), (14, .slc 0 0 a.length false 0), (5, .map 5), (4, .ptr 4 0), (3, .ptr 3 0), (2, .ptr 2 0)], [.ro (trms a), .ro (trms b), .cells [.int .i64 p, .int .i64 c, .int .i64 n, .slc 0 0 a.length false 0], .cells [.int .i64 p', .int .i64 c', .int .i64 n, .slc 1 0 b.length false 0], nilE, mapT S, .cells (trm t)]⟩)
      (fun s => match get s.env 23 with | .int _ x => b.length - x.toNat | _ => 0) ⟨_, Weak.slots [23, 22, 21, 7, 16, 15, 14, 5, 4, 3, 2], 0, S, by omega, hS, rfl⟩ ?_
    clear hS
    rintro s ⟨j, S, hj, hS, rfl⟩
    by_cases hltj : j < b.length
    · obtain ⟨hs, hsl⟩ := hlen2 _ (hmem j) (hmln j)
      rw [← hS] at hs hsl
      have hlj : (j : Int) < b.length := by omega
      have hlj' : (0 : Int) ≤ j := by omega
      have hw : wrapK .i64 ((j : Int) + 1) = ((j + 1 : Nat) : Int) := by rw [wrap64 (by omega) (by omega)]; rfl
      have hq0 := trms_get hb.ok hltj
      have ok2 := hb.ok _ (List.getElem_mem hltj)
      have z2 := hb.dia _ (List.getElem_mem hltj)
      have c2 := hb.fac _ (List.getElem_mem hltj)
      have hb4 : j * 18 < b.length * 18 := by omega
      have hb5 : j * 18 + 18 ≤ b.length * 18 := by omega
      have hov2 := over_trm (t := (0, List.replicate 16 0, 0)) (u := b[j]) (by simp) ok2.1
      have htl2 := trm_length (t := b[j]) ok2
      have htd2 := trm_dia' (t := b[j]) ok2
      have htf2 := trm_factor (t := b[j]) ok2
      rw [z2.1] at htd2
      obtain ⟨t1, t2, t3, t4⟩ := prT_ok (c := c) hp hc z1.2 z2.2 c1 c2
      have hnext : ML p n (mulT p c n (a.take i) b ++ (b.take (j + 1)).map (prT p c n t)) = addM p n (prT p c n t b[j]).2.1 (prT p c n t b[j]).2.2 S := by
        rw [hnx j hltj, ← List.append_assoc, ML_snoc, ← hS]
      obtain ⟨u, hu⟩ : ∃ u, u = b[j] := ⟨_, rfl⟩
      rw [← hu] at hq0 ok2 z2 c2 hov2 htl2 htd2 htf2 t1 t2 t3 t4 hnext
      clear hu
      have s1 := z1.2
      have s2 := z2.2
      have hprd : (prT p c n t u).2.1 = prodL n.toNat t.2.1 u.2.1 := rfl
      have hprf : (prT p c n t u).2.2 = (t.2.2 * u.2.2).emod p * powP p c (lpN n.toNat t.2.1 u.2.1 n.toNat) := rfl
      rw [hprd, hprf] at hnext
      rw [hprd] at t1 t2
      rw [hprf] at t3 t4
      have hlpb : (0 : Int) ≤ ((lpN n.toNat t.2.1 u.2.1 n.toNat : Nat) : Int) ∧ ((lpN n.toNat t.2.1 u.2.1 n.toNat : Nat) : Int) ≤ 1000000 := by
        have := lpN_le n.toNat t.2.1 u.2.1 n.toNat; omega
      obtain ⟨w1, w2, w3, w4⟩ := pow_mul (p := p) (c := u.2.2) (x := t.2.2) hp (by omega) (by omega)
      have w5 : wrapK .i64 ((t.2.2 * u.2.2).emod p * powP p c (lpN n.toNat t.2.1 u.2.1 n.toNat)) = (t.2.2 * u.2.2).emod p * powP p c (lpN n.toNat t.2.1 u.2.1 n.toNat) := wrap64 (by omega) (by omega)
      have hne : p ≠ 0 := by omega
      have hn0 : 0 ≤ n := hn.1
      have t0 := t1.1
      have hvb := valT_bd (by omega) hs (m := prodL n.toNat t.2.1 u.2.1)
      have hkok : kok KD true (.agg (dia n (prodL n.toNat t.2.1 u.2.1))) = true := kok_dia t0
      have hmT : mapT S = .map (esT 0 S) S.length := rfl
      have do1 := diaOf_dia (n := n) ok1
      have do2 := diaOf_dia (n := n) ok2
      clear hprd hprf
      cases hix : idxT n (prodL n.toNat t.2.1 u.2.1) S with
      | none =>
        obtain ⟨f1, f2, f3⟩ := findT_none t0 hs.1.ok hix ((0 + (t.2.2 * u.2.2).emod p * powP p c (lpN n.toNat t.2.1 u.2.1 n.toNat)).emod p)
        have w6 : wrapK .i64 (0 + (t.2.2 * u.2.2).emod p * powP p c (lpN n.toNat t.2.1 u.2.1 n.toNat)) = 0 + (t.2.2 * u.2.2).emod p * powP p c (lpN n.toNat t.2.1 u.2.1 n.toNat) := wrap64 (by omega) (by omega)
        have w7 : Int.tmod (0 + (t.2.2 * u.2.2).emod p * powP p c (lpN n.toNat t.2.1 u.2.1 n.toNat)) p = (0 + (t.2.2 * u.2.2).emod p * powP p c (lpN n.toNat t.2.1 u.2.1 n.toNat)).emod p := Int.tmod_eq_emod_of_nonneg (by omega)
        simp (maxSteps := 3000000) only [over4E, heapL, fillA, rd, wrt, wrl, AO.withl, a_i_multiplied_l1, B87_i_Element_with_M3, B87_i_power_M3, B87_i_times_M3, g_ipow, g_times, g_with, hlj, hlj', hal, hbl, hb4, hb5, hq0, ones_trm, htl, htl2, htd, htd2, htf, htf2, trm_zero, trm_zero_len, hov2, dia_zero, dia_zero_len, over_dia0 t0, dia_take17 t0, dia_length, t0, ones_dia, List.length_replicate, Nat.le_refl, do1, do2, s1, s2, hn0, w1, w2, w5, w6, w7, hne, hp, hc, hlpb, Int.toNat_natCast, hmT, hkok, f1, noTopB, hw, and_self, Int.reduceEq, Int.reduceNe, Int.reduceBEq, Int.reduceBNe, Int.reduceLT, Int.reduceLE, Int.reduceAdd, Int.reduceSub, Int.reduceMul, idX_eq, wbE, ↓symP, symE, listE, AK.isCall, enumE, ev, putE, abin, aun, AV.cells, ↓reduceIte, reduceCtorEq, Nat.reduceAdd, Nat.reduceMul, Nat.reduceSub, Nat.reduceEqDiff, Nat.reduceLT, Nat.reduceLeDiff, implies_true, Back, retv, retV, AV.scal, AV.scals]; try simp only [idX_eq, ite_both, pickP_both, not_not_eq, Bool.not_eq_false, Bool.not_eq_true]
        rw [f3]
        refine ⟨⟨_, rfl⟩, _, Weak.keep [0, 1, 2, 3, 4, 5, 6] [23, 22, 21, 7, 16, 15, 14, 5, 4, 3, 2] ⟨by decide, ?_⟩ ?_, ⟨j + 1, setT n (prodL n.toNat t.2.1 u.2.1) ((0 + (t.2.2 * u.2.2).emod p * powP p c (lpN n.toNat t.2.1 u.2.1 n.toNat)).emod p) S, by omega, by rw [hnext, addM, f2], ?_⟩, ?_⟩
        · simp only [withins_scal _ _ (scals_trms _), withins_scal _ _ (scals_trm _), mapT, ↓esT_within, keepW, keepL, AV.within, AV.withins, ↓reduceIte, reduceCtorEq, Nat.reduceEqDiff, Nat.reduceBEq, implies_true, Nat.reduceAdd]
        · simp only [withins_scal _ _ (scals_trms _), withins_scal _ _ (scals_trm _), mapT, ↓esT_within, keepW, keepL, AV.within, AV.withins, ↓reduceIte, reduceCtorEq, Nat.reduceEqDiff, Nat.reduceBEq, implies_true, Nat.reduceAdd]
        · simp only [rens_scal _ _ (scals_trms _), rens_scal _ _ (scals_trm _), mapT, ↓esT_ren, keptL, keptW, keptE, kepts, slots, ↓reduceIte, reduceCtorEq, Nat.reduceEqDiff, AV.ren, AV.rens, pos, Nat.reduceAdd]
        · simp only [keptL, keptW, keptE, kepts, slots, ↓reduceIte, reduceCtorEq, Nat.reduceEqDiff, AV.ren, AV.rens, pos, Nat.reduceAdd]; omega
      | some q =>
        obtain ⟨f1, f3⟩ := findT_some t0 hs.1.ok hix ((valT n (prodL n.toNat t.2.1 u.2.1) S + (t.2.2 * u.2.2).emod p * powP p c (lpN n.toNat t.2.1 u.2.1 n.toNat)).emod p)
        have w6 : wrapK .i64 (valT n (prodL n.toNat t.2.1 u.2.1) S + (t.2.2 * u.2.2).emod p * powP p c (lpN n.toNat t.2.1 u.2.1 n.toNat)) = valT n (prodL n.toNat t.2.1 u.2.1) S + (t.2.2 * u.2.2).emod p * powP p c (lpN n.toNat t.2.1 u.2.1 n.toNat) := wrap64 (by omega) (by omega)
        have w7 : Int.tmod (valT n (prodL n.toNat t.2.1 u.2.1) S + (t.2.2 * u.2.2).emod p * powP p c (lpN n.toNat t.2.1 u.2.1 n.toNat)) p = (valT n (prodL n.toNat t.2.1 u.2.1) S + (t.2.2 * u.2.2).emod p * powP p c (lpN n.toNat t.2.1 u.2.1 n.toNat)).emod p := Int.tmod_eq_emod_of_nonneg (by omega)
        simp (maxSteps := 3000000) only [over4E, heapL, fillA, rd, wrt, wrl, AO.withl, a_i_multiplied_l1, B87_i_Element_with_M3, B87_i_power_M3, B87_i_times_M3, g_ipow, g_times, g_with, hlj, hlj', hal, hbl, hb4, hb5, hq0, ones_trm, htl, htl2, htd, htd2, htf, htf2, trm_zero, trm_zero_len, hov2, dia_zero, dia_zero_len, over_dia0 t0, dia_take17 t0, dia_length, t0, ones_dia, List.length_replicate, Nat.le_refl, do1, do2, s1, s2, hn0, w1, w2, w5, w6, w7, hne, hp, hc, hlpb, Int.toNat_natCast, hmT, hkok, f1, noTopB, hw, and_self, Int.reduceEq, Int.reduceNe, Int.reduceBEq, Int.reduceBNe, Int.reduceLT, Int.reduceLE, Int.reduceAdd, Int.reduceSub, Int.reduceMul, idX_eq, wbE, ↓symP, symE, listE, AK.isCall, enumE, ev, putE, abin, aun, AV.cells, ↓reduceIte, reduceCtorEq, Nat.reduceAdd, Nat.reduceMul, Nat.reduceSub, Nat.reduceEqDiff, Nat.reduceLT, Nat.reduceLeDiff, implies_true, Back, retv, retV, AV.scal, AV.scals]; try simp only [idX_eq, ite_both, pickP_both, not_not_eq, Bool.not_eq_false, Bool.not_eq_true]
        rw [f3]
        refine ⟨⟨_, rfl⟩, _, Weak.keep [0, 1, 2, 3, 4, 5, 6] [23, 22, 21, 7, 16, 15, 14, 5, 4, 3, 2] ⟨by decide, ?_⟩ ?_, ⟨j + 1, setT n (prodL n.toNat t.2.1 u.2.1) ((valT n (prodL n.toNat t.2.1 u.2.1) S + (t.2.2 * u.2.2).emod p * powP p c (lpN n.toNat t.2.1 u.2.1 n.toNat)).emod p) S, by omega, by rw [hnext, addM], ?_⟩, ?_⟩
        · simp only [withins_scal _ _ (scals_trms _), withins_scal _ _ (scals_trm _), mapT, ↓esT_within, keepW, keepL, AV.within, AV.withins, ↓reduceIte, reduceCtorEq, Nat.reduceEqDiff, Nat.reduceBEq, implies_true, Nat.reduceAdd]
        · simp only [withins_scal _ _ (scals_trms _), withins_scal _ _ (scals_trm _), mapT, ↓esT_within, keepW, keepL, AV.within, AV.withins, ↓reduceIte, reduceCtorEq, Nat.reduceEqDiff, Nat.reduceBEq, implies_true, Nat.reduceAdd]
        · simp only [rens_scal _ _ (scals_trms _), rens_scal _ _ (scals_trm _), mapT, ↓esT_ren, keptL, keptW, keptE, kepts, slots, ↓reduceIte, reduceCtorEq, Nat.reduceEqDiff, AV.ren, AV.rens, pos, Nat.reduceAdd]
        · simp only [keptL, keptW, keptE, kepts, slots, ↓reduceIte, reduceCtorEq, Nat.reduceEqDiff, AV.ren, AV.rens, pos, Nat.reduceAdd]; omega
    · have hlj : ¬ ((j : Int) < b.length) := by omega
      obtain rfl : j = b.length := by omega
      simp (maxSteps := 3000000) only [over4E, heapL, fillA, rd, wrt, wrl, AO.withl, a_i_multiplied_l1, a_i_multiplied_k1, B87_i_Element_with_M3, B87_i_power_M3, B87_i_times_M3, g_ipow, g_times, g_with, hlj, hwi, hbl, Int.lt_irrefl, Int.reduceEq, Int.reduceNe, Int.reduceBEq, Int.reduceBNe, Int.reduceLT, Int.reduceLE, Int.reduceAdd, Int.reduceSub, Int.reduceMul, idX_eq, wbE, ↓symP, symE, listE, AK.isCall, enumE, ev, putE, abin, aun, AV.cells, ↓reduceIte, reduceCtorEq, Nat.reduceAdd, Nat.reduceMul, Nat.reduceSub, Nat.reduceEqDiff, Nat.reduceLT, Nat.reduceLeDiff, implies_true, Back, retv, retV, AV.scal, AV.scals]; try simp only [idX_eq, ite_both, pickP_both, not_not_eq, Bool.not_eq_false, Bool.not_eq_true]
      refine ⟨_, Weak.keep [0, 1, 2, 3, 4, 5] [16, 15, 14, 5, 4, 3, 2] ⟨by decide, ?_⟩ ?_, ⟨i + 1, S, by omega, by rw [hS, List.take_length, hms], ?_⟩, ?_⟩
      · simp only [withins_scal _ _ (scals_trms _), mapT, ↓esT_within, keepW, keepL, AV.within, AV.withins, ↓reduceIte, reduceCtorEq, Nat.reduceEqDiff, Nat.reduceBEq, implies_true, Nat.reduceAdd]
      · simp only [withins_scal _ _ (scals_trms _), mapT, ↓esT_within, keepW, keepL, AV.within, AV.withins, ↓reduceIte, reduceCtorEq, Nat.reduceEqDiff, Nat.reduceBEq, implies_true, Nat.reduceAdd]
      · simp only [rens_scal _ _ (scals_trms _), mapT, ↓esT_ren, keptL, keptW, keptE, kepts, slots, ↓reduceIte, reduceCtorEq, Nat.reduceEqDiff, AV.ren, AV.rens, pos, Nat.reduceAdd]
      · simp only [keptL, keptW, keptE, kepts, slots, ↓reduceIte, reduceCtorEq, Nat.reduceEqDiff, AV.ren, AV.rens, pos, Nat.reduceAdd]; omega
  · have hli : ¬ ((i : Int) < a.length) := by omega
    obtain rfl : i = a.length := by omega
    rw [List.take_length] at hS
    obtain ⟨hs, hsl⟩ := hlen2 (mulT p c n a b) (fun t h => h) (by
      rw [mulT_len]
      have : a.length * b.length ≤ 300 * 300 := Nat.mul_le_mul hl.1 hl.2
      omega)
    have hlaw := mul_law (p := p) (n := n) (by omega) (mul_ok (c := c) hp hc ha hb)
    have hll : (restT p (ML p n (mulT p c n a b))).length = (MP p n (mulT p c n a b)).length := by rw [← hlaw]; exact (sortT_perm _).length_eq.symm
    rw [← hll, ← hlaw]
    rw [← hS] at hs hsl ⊢
    clear hS hll hlaw
    have hap := sum_apart hs.1
    obtain ⟨hz1, hz2, hz3⟩ := sum_sz (p := p) hn hs.1
    have hSo := hs.1.ok
    have hmT : mapT S = .map (esT 0 S) S.length := rfl
    have hts := tsE_esT (ts := S) (k := 0) hSo
    have hSl' : S.length ≤ 1000000 := by omega
    have hpp : 0 < p ∧ p ≤ 1000000 := by omega
    simp (maxSteps := 3000000) only [over4E, heapL, fillA, rd, wrt, wrl, AO.withl, a_i_multiplied_l2, a_i_multiplied_k2, B87_i_Element_with_M3, B87_i_power_M3, B87_i_times_M3, g_ipow, g_times, g_with, hli, hmT, Int.lt_irrefl, hts, hpp, hSl', hz1, hz2, hap, and_self, elemV, Int.reduceEq, Int.reduceNe, Int.reduceBEq, Int.reduceBNe, Int.reduceLT, Int.reduceLE, Int.reduceAdd, Int.reduceSub, Int.reduceMul, idX_eq, wbE, ↓symP, symE, listE, AK.isCall, enumE, ev, putE, abin, aun, AV.cells, ↓reduceIte, reduceCtorEq, Nat.reduceAdd, Nat.reduceMul, Nat.reduceSub, Nat.reduceEqDiff, Nat.reduceLT, Nat.reduceLeDiff, implies_true, Back, retv, retV, AV.scal, AV.scals]; try simp only [idX_eq, ite_both, pickP_both, not_not_eq, Bool.not_eq_false, Bool.not_eq_true]
    rw [hz3]
    refine ⟨hz2, rfl, ?_⟩
    refine Ret.keep [0, 1, 6] ⟨⟨by simp, rfl, by decide⟩, ?_⟩ (rs := [.agg [.int .i64 p, .int .i64 c, .int .i64 n, .slc 6 0 (restT p S).length false 0]]) rfl rfl (by simp [retV]) ?_ ⟨?_, ?_⟩
    · simp only [withins_scal _ _ (scals_trms _), ↓esT_within, keepW, keepL, AV.within, AV.withins, ↓reduceIte, reduceCtorEq, Nat.reduceEqDiff, Nat.reduceBEq, implies_true, Nat.reduceAdd]
    · intro j l; match j with
      | 0 => simp [kepts, AO.ren]
      | 1 => simp [kepts, AO.ren]
      | 2 => simp [kepts, AO.ren]
      | j + 3 => simp [kepts]
    · simp only [retV]
      simp only [keptL, keptW, keptE, kepts, slots, ↓reduceIte, reduceCtorEq, Nat.reduceEqDiff, AV.ren, AV.rens, pos, Nat.reduceAdd]
    · simp only [rens_scal _ _ (scals_trms _), keptL, keptW, keptE, kepts, slots, ↓reduceIte, reduceCtorEq, Nat.reduceEqDiff, AV.ren, AV.rens, pos, Nat.reduceAdd]
noncomputable def B88 : Book := (B87.put 90 (g_mul))

theorem B88_ok : BookOk Try.prog B88 := (B87_ok.put (k_mul_of c_i_multiplied))

end Go.Proofs.Ytkgoadglalpbfaa

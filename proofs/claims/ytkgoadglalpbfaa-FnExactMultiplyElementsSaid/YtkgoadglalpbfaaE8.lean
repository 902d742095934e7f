/- Contracts: marks in elements. -/
import Derived.Test.YtkgoadglalpbfaaE7
namespace Go.Proofs.Ytkgoadglalpbfaa
open Go.Am Go.Dia
set_option linter.unusedSimpArgs false
set_option linter.unusedVariables false
set_option maxRecDepth 4000
set_option maxHeartbeats 1000000

def a_w_markTermS_l1 : AC := .seq (.seq (.region [⟨some 21, none, .op (.mov (.t 6))⟩,
              ⟨some 22, none, .op (.bin .lss (.t 21) (.c (.int .i64 16)))⟩]) (.cond 22 .skip (.exit 2))) (.seq (.block 3 (.seq (.region [⟨some 25, none, .op (.mov (.t 0))⟩,
               ⟨some 26, none, .op (.mov (.t 5))⟩,
               ⟨some 27, none, .op (.mov (.t 6))⟩,
               ⟨some 28, none, .op (.mov (.t 1))⟩,
               ⟨some 29, none, .op (.conv .u8 (.t 28))⟩,
               ⟨some 30, none, .op (.iaddrS 18 (.t 25) (.t 26))⟩,
               ⟨some 31, none, .op (.faddr 0 (.t 30))⟩,
               ⟨some 32, none, .op (.faddr 1 (.t 31))⟩,
               ⟨some 33, none, .op (.iaddrA 16 1 (.t 32) (.t 27))⟩,
               ⟨none, none, .op (.store1 (.t 33) (.t 29))⟩]) (.region [⟨some 34, none, .op (.mov (.t 1))⟩,
              ⟨some 35, none, .op (.bin .add (.t 34) (.c (.int .i64 1)))⟩,
              ⟨some 1, none, .op (.mov (.t 35))⟩]))) (.region [⟨some 23, none, .op (.mov (.t 6))⟩,
            ⟨some 24, none, .op (.bin .add (.t 23) (.c (.int .i64 1)))⟩,
            ⟨some 6, none, .op (.mov (.t 24))⟩]))
def a_w_markTermS_k1 : AC := .seq (.region [⟨some 36, none, .op (.mov (.t 0))⟩,
          ⟨some 37, none, .op (.mov (.t 5))⟩,
          ⟨some 38, none, .op (.mov (.t 1))⟩,
          ⟨some 39, none, .op (.iaddrS 18 (.t 36) (.t 37))⟩,
          ⟨some 40, none, .op (.faddr 17 (.t 39))⟩,
          ⟨none, none, .op (.store1 (.t 40) (.t 38))⟩]) (.region [⟨some 41, none, .op (.mov (.t 1))⟩,
         ⟨some 42, none, .op (.bin .add (.t 41) (.c (.int .i64 1)))⟩,
         ⟨some 1, none, .op (.mov (.t 42))⟩])
def a_w_markTermS_k2 : AC := .region [⟨some 11, none, .op (.mov (.t 5))⟩,
       ⟨some 12, none, .op (.bin .add (.t 11) (.c (.int .i64 1)))⟩,
       ⟨some 5, none, .op (.mov (.t 12))⟩]
def a_w_markTermS_l2 : AC := .seq (.seq (.region [⟨some 7, none, .op (.mov (.t 5))⟩,
         ⟨some 8, none, .op (.mov (.t 0))⟩,
         ⟨some 9, none, .op (.len .slc (.t 8))⟩,
         ⟨some 10, none, .op (.bin .lss (.t 7) (.t 9))⟩]) (.cond 10 .skip (.exit 0))) (.seq (.block 1 (.seq (.region [⟨some 13, none, .op (.mov (.t 0))⟩,
          ⟨some 14, none, .op (.mov (.t 5))⟩,
          ⟨some 15, none, .op (.mov (.t 1))⟩,
          ⟨some 16, none, .op (.iaddrS 18 (.t 13) (.t 14))⟩,
          ⟨some 17, none, .op (.faddr 0 (.t 16))⟩,
          ⟨some 18, none, .op (.faddr 0 (.t 17))⟩,
          ⟨none, none, .op (.store1 (.t 18) (.t 15))⟩]) (.seq (.region [⟨some 19, none, .op (.mov (.t 1))⟩,
          ⟨some 20, none, .op (.bin .add (.t 19) (.c (.int .i64 1)))⟩,
          ⟨some 1, none, .op (.mov (.t 20))⟩]) (.seq (.seq (.region [⟨some 6, none, .op (.mov (.c (.int .i64 0)))⟩]) (.block 2 (.loop a_w_markTermS_l1))) a_w_markTermS_k1)))) a_w_markTermS_k2)
def a_w_markTermS_k3 : AC := .seq (.region [⟨some 43, none, .op (.mov (.t 1))⟩,
     ⟨some 4, none, .op (.mov (.t 43))⟩]) .ret
def a_w_markTermS : AC := .seq (.region [⟨some 4, none, .op (.mov (.c (.int .i64 0)))⟩]) (.seq (.seq (.region [⟨some 5, none, .op (.mov (.c (.int .i64 0)))⟩]) (.block 0 (.loop a_w_markTermS_l2))) a_w_markTermS_k3)
theorem r_w_markTermS : readF Try.prog 55 = some ⟨44, a_w_markTermS, [.slot 4]⟩ := by kernel_rfl

def a_w_markElement : AC := .seq (.region [⟨some 2, none, .op (.box (.t 0))⟩,
     ⟨some 4, none, .op (.mov (.c (.int .i64 0)))⟩]) (.seq (.region [⟨some 5, none, .op (.faddr 3 (.t 2))⟩,
     ⟨some 6, none, .op (.load1 (.t 5))⟩,
     ⟨some 7, none, .op (.mov (.t 1))⟩,
     ⟨some 8, none, .call (.c (.fn 55 [] [])) [(.t 6), (.t 7)]⟩,
     ⟨some 1, none, .op (.mov (.t 8))⟩]) (.seq (.region [⟨some 9, none, .op (.mov (.t 1))⟩,
     ⟨some 4, none, .op (.mov (.t 9))⟩]) .ret))
theorem r_w_markElement : readF Try.prog 20 = some ⟨10, a_w_markElement, [.slot 4]⟩ := by kernel_rfl
def a_w_heldTermS_l1 : AC := .seq (.seq (.region [⟨some 23, none, .op (.mov (.t 6))⟩,
              ⟨some 24, none, .op (.bin .lss (.t 23) (.c (.int .i64 16)))⟩]) (.cond 24 .skip (.exit 2))) (.seq (.block 3 (.seq (.seq (.region [⟨some 27, none, .op (.mov (.t 0))⟩,
                ⟨some 28, none, .op (.mov (.t 5))⟩,
                ⟨some 29, none, .op (.mov (.t 6))⟩,
                ⟨some 30, none, .op (.iaddrS 18 (.t 27) (.t 28))⟩,
                ⟨some 31, none, .op (.faddr 0 (.t 30))⟩,
                ⟨some 32, none, .op (.faddr 1 (.t 31))⟩,
                ⟨some 33, none, .op (.iaddrA 16 1 (.t 32) (.t 29))⟩,
                ⟨some 34, none, .op (.load1 (.t 33))⟩,
                ⟨some 35, none, .op (.mov (.t 1))⟩,
                ⟨some 36, none, .op (.conv .u8 (.t 35))⟩,
                ⟨some 37, none, .op (.bin .neq (.t 34) (.t 36))⟩]) (.cond 37 (.seq (.region [⟨some 4, none, .op (.mov (.c (.int .i64 (-1))))⟩]) .ret) .skip)) (.region [⟨some 38, none, .op (.mov (.t 1))⟩,
              ⟨some 39, none, .op (.bin .add (.t 38) (.c (.int .i64 1)))⟩,
              ⟨some 1, none, .op (.mov (.t 39))⟩]))) (.region [⟨some 25, none, .op (.mov (.t 6))⟩,
            ⟨some 26, none, .op (.bin .add (.t 25) (.c (.int .i64 1)))⟩,
            ⟨some 6, none, .op (.mov (.t 26))⟩]))
def a_w_heldTermS_k1 : AC := .seq (.seq (.region [⟨some 40, none, .op (.mov (.t 0))⟩,
           ⟨some 41, none, .op (.mov (.t 5))⟩,
           ⟨some 42, none, .op (.iaddrS 18 (.t 40) (.t 41))⟩,
           ⟨some 43, none, .op (.faddr 17 (.t 42))⟩,
           ⟨some 44, none, .op (.load1 (.t 43))⟩,
           ⟨some 45, none, .op (.mov (.t 1))⟩,
           ⟨some 46, none, .op (.bin .neq (.t 44) (.t 45))⟩]) (.cond 46 (.seq (.region [⟨some 4, none, .op (.mov (.c (.int .i64 (-1))))⟩]) .ret) .skip)) (.region [⟨some 47, none, .op (.mov (.t 1))⟩,
         ⟨some 48, none, .op (.bin .add (.t 47) (.c (.int .i64 1)))⟩,
         ⟨some 1, none, .op (.mov (.t 48))⟩])
def a_w_heldTermS_k2 : AC := .region [⟨some 11, none, .op (.mov (.t 5))⟩,
       ⟨some 12, none, .op (.bin .add (.t 11) (.c (.int .i64 1)))⟩,
       ⟨some 5, none, .op (.mov (.t 12))⟩]
def a_w_heldTermS_l2 : AC := .seq (.seq (.region [⟨some 7, none, .op (.mov (.t 5))⟩,
         ⟨some 8, none, .op (.mov (.t 0))⟩,
         ⟨some 9, none, .op (.len .slc (.t 8))⟩,
         ⟨some 10, none, .op (.bin .lss (.t 7) (.t 9))⟩]) (.cond 10 .skip (.exit 0))) (.seq (.block 1 (.seq (.seq (.region [⟨some 13, none, .op (.mov (.t 0))⟩,
           ⟨some 14, none, .op (.mov (.t 5))⟩,
           ⟨some 15, none, .op (.iaddrS 18 (.t 13) (.t 14))⟩,
           ⟨some 16, none, .op (.faddr 0 (.t 15))⟩,
           ⟨some 17, none, .op (.faddr 0 (.t 16))⟩,
           ⟨some 18, none, .op (.load1 (.t 17))⟩,
           ⟨some 19, none, .op (.mov (.t 1))⟩,
           ⟨some 20, none, .op (.bin .neq (.t 18) (.t 19))⟩]) (.cond 20 (.seq (.region [⟨some 4, none, .op (.mov (.c (.int .i64 (-1))))⟩]) .ret) .skip)) (.seq (.region [⟨some 21, none, .op (.mov (.t 1))⟩,
          ⟨some 22, none, .op (.bin .add (.t 21) (.c (.int .i64 1)))⟩,
          ⟨some 1, none, .op (.mov (.t 22))⟩]) (.seq (.seq (.region [⟨some 6, none, .op (.mov (.c (.int .i64 0)))⟩]) (.block 2 (.loop a_w_heldTermS_l1))) a_w_heldTermS_k1)))) a_w_heldTermS_k2)
def a_w_heldTermS_k3 : AC := .seq (.region [⟨some 49, none, .op (.mov (.t 1))⟩,
     ⟨some 4, none, .op (.mov (.t 49))⟩]) .ret
def a_w_heldTermS : AC := .seq (.region [⟨some 4, none, .op (.mov (.c (.int .i64 0)))⟩]) (.seq (.seq (.region [⟨some 5, none, .op (.mov (.c (.int .i64 0)))⟩]) (.block 0 (.loop a_w_heldTermS_l2))) a_w_heldTermS_k3)
theorem r_w_heldTermS : readF Try.prog 67 = some ⟨50, a_w_heldTermS, [.slot 4]⟩ := by kernel_rfl

def a_w_heldElement : AC := .seq (.region [⟨some 2, none, .op (.box (.t 0))⟩,
     ⟨some 4, none, .op (.mov (.c (.int .i64 0)))⟩]) (.seq (.region [⟨some 5, none, .op (.faddr 3 (.t 2))⟩,
     ⟨some 6, none, .op (.load1 (.t 5))⟩,
     ⟨some 7, none, .op (.mov (.t 1))⟩,
     ⟨some 8, none, .call (.c (.fn 67 [] [])) [(.t 6), (.t 7)]⟩,
     ⟨some 1, none, .op (.mov (.t 8))⟩]) (.seq (.seq (.region [⟨some 9, none, .op (.mov (.t 1))⟩,
      ⟨some 10, none, .op (.bin .lss (.t 9) (.c (.int .i64 0)))⟩]) (.cond 10 (.seq (.region [⟨some 4, none, .op (.mov (.c (.int .i64 (-1))))⟩]) .ret) .skip)) (.seq (.region [⟨some 11, none, .op (.mov (.t 1))⟩,
     ⟨some 4, none, .op (.mov (.t 11))⟩]) .ret)))
theorem r_w_heldElement : readF Try.prog 26 = some ⟨12, a_w_heldElement, [.slot 4]⟩ := by kernel_rfl

def markB (k : Nat) : List Nat := (List.range 16).map fun j => (k + j) % 256
def markT (k : Nat) : Int × List Nat × Int := (((k : Nat) : Int), markB (k + 1), ((k + 17 : Nat) : Int))
def marks (n k : Nat) : List (Int × List Nat × Int) := (List.range n).map fun i => markT (k + 18 * i)
theorem okD_mark (k : Nat) : okD (markB k) := ⟨by simp [markB], fun x hx => by
  simp only [markB, List.mem_map] at hx
  obtain ⟨j, _, rfl⟩ := hx
  exact Nat.mod_lt _ (by decide)⟩
theorem okT_marks (n k : Nat) : okT (marks n k) := fun t ht => by
  simp only [marks, List.mem_map] at ht
  obtain ⟨j, _, rfl⟩ := ht
  exact okD_mark _
theorem marks_length (n k : Nat) : (marks n k).length = n := by simp [marks]
theorem marks_get {n k i : Nat} (h : i < n) : (marks n k)[i]'(by rw [marks_length]; exact h) = markT (k + 18 * i) := by simp [marks]
theorem markB_get {k j : Nat} (h : j < 16) : (markB k).getD j 0 = (k + j) % 256 := by simp [markB, List.getD_eq_getElem?_getD, h]
theorem wrapU8mod {x : Nat} : wrapK .u8 (x : Int) = ((x % 256 : Nat) : Int) := by
  simp only [wrapK, IntKind.wrap, IntKind.signed, IntKind.bits]
  simp

theorem trms_set {ts : List (Int × List Nat × Int)} {i j : Nat} {v : AV} {t' : Int × List Nat × Int} (h : okT ts) (hi : i < ts.length) (hj : j < 18) (hv : (trm ts[i]).set j v = trm t') : (trms ts).set (i * 18 + j) v = trms (ts.set i t') := by
  induction ts generalizing i with
  | nil => simp at hi
  | cons t ts ih =>
    have h1 := trm_length (h t (by simp))
    cases i with
    | zero =>
      simp only [List.getElem_cons_zero] at hv
      simp only [trms, List.flatMap_cons, Nat.zero_mul, Nat.zero_add, List.set_cons_zero]
      rw [List.set_append_left _ _ (by omega), hv]
    | succ i =>
      simp only [List.getElem_cons_succ] at hv
      have h2 := ih (fun u hu => h u (List.mem_cons_of_mem _ hu)) (by simpa using hi) hv
      simp only [trms, List.flatMap_cons, List.set_cons_succ] at h2 ⊢
      rw [List.set_append_right _ _ (by omega), h1, show (i + 1) * 18 + j - 18 = i * 18 + j from by omega, h2]
theorem trm_set0 {t : Int × List Nat × Int} {x : Int} : (trm t).set 0 (.int .i64 x) = trm (x, t.2) := rfl
theorem trm_setM {t : Int × List Nat × Int} {j x : Nat} (h : okD t.2.1) (hj : j < 16) : (trm t).set (1 + j) (.int .u8 (x : Int)) = trm (t.1, t.2.1.set j x, t.2.2) := by
  simp only [trm]
  rw [List.set_append_left _ _ (by rw [dia_length, h.1]; omega), dia_set]
theorem trm_set17 {t : Int × List Nat × Int} {x : Int} (h : okD t.2.1) : (trm t).set 17 (.int .i64 x) = trm (t.1, t.2.1, x) := by
  simp only [trm]
  rw [List.set_append_right _ _ (by rw [dia_length, h.1]; omega), dia_length, h.1]; rfl

/-- So many bytes are marked. -/
def part (k : Nat) (m : List Nat) (j : Nat) : List Nat := (List.range 16).map fun t => if t < j then (k + t) % 256 else m.getD t 0
theorem part_zero {k : Nat} {m : List Nat} (h : m.length = 16) : part k m 0 = m := by
  refine list16 (by simp [part]) h fun i hi => ?_
  simp [part, List.getD_eq_getElem?_getD, hi]
theorem part_all {k : Nat} {m : List Nat} : part k m 16 = markB k := by
  simp only [part, markB]
  refine List.map_congr_left fun t ht => ?_
  rw [if_pos (List.mem_range.1 ht)]
theorem part_succ {k j : Nat} {m : List Nat} (hj : j < 16) : (part k m j).set j ((k + j) % 256) = part k m (j + 1) := by
  refine list16 (by simp [part]) (by simp [part]) fun i hi => ?_
  rw [getD_set]
  have hl : (part k m j).length = 16 := by simp [part]
  by_cases e : j = i
  · subst e
    rw [if_pos ⟨rfl, by omega⟩]
    simp [part, List.getD_eq_getElem?_getD, hi]
  · rw [if_neg (fun h => e h.1)]
    simp only [part, List.getD_eq_getElem?_getD, List.getElem?_map, List.getElem?_range hi, Option.map_some, Option.getD_some]
    by_cases h1 : i < j
    · rw [if_pos h1, if_pos (by omega)]
    · rw [if_neg h1, if_neg (by omega)]
theorem okD_part {k j : Nat} {m : List Nat} (h : okD m) : okD (part k m j) := ⟨by simp [part], fun x hx => by
  simp only [part, List.mem_map] at hx
  obtain ⟨t, _, rfl⟩ := hx
  split
  · exact Nat.mod_lt _ (by decide)
  · exact h.get t⟩

theorem vec_under {s : Nat} {l : List AV} (h : AV.scals l = true) : ∀ (j : Nat) (o : AO), [AO.vec s l][j]? = some o → o.under [AO.vec s l].length := by
  intro j o e
  cases j with
  | zero => simp only [List.getElem?_cons_zero, Option.some.injEq] at e; subst e; exact unders_scal _ _ h
  | succ j => simp at e

theorem c_w_markTermS (ts : List (Int × List Nat × Int)) (k : Nat) (ht : okT ts) (hk : k ≤ 100000000) (hl : ts.length ≤ 2000000) :
    Am.Fn Try.prog 55 [.slc 0 0 ts.length false 0, .int .i64 k] [.vec 18 (trms ts)] (fun v H' => v = .int .i64 ((k + 18 * ts.length : Nat) : Int) ∧ H' = [.vec 18 (trms (marks ts.length k))]) := by
  refine Am.Fn.ofB B15_ok mixed r_w_markTermS (by simp) (vec_under (scals_trms _)) ?_
  simp (maxSteps := 3000000) only [a_w_markTermS, idX_eq, wbE, ↓symP, symE, listE, AK.isCall, enumE, ev, putE, abin, aun, AV.cells, ↓reduceIte, reduceCtorEq, Nat.reduceAdd, Nat.reduceMul, Nat.reduceSub, Nat.reduceEqDiff, Nat.reduceLT, Nat.reduceLeDiff, implies_true, Back, retv, retV, AV.scal, AV.scals]; try simp only [idX_eq, ite_both, pickP_both, not_not_eq, Bool.not_eq_false, Bool.not_eq_true]
  refine WA.loopB B15_ok (fun s => ∃ i : Nat, ∃ us, s = ⟨[(5, .int .i64 i), (1, .int .i64 ((k + 18 * i : Nat) : Int)), (0, .slc 0 0 ts.length false 0)], [.vec 18 (trms us)]⟩ ∧ i ≤ ts.length ∧ us = marks i k ++ ts.drop i)
    (fun s => match get s.env 5 with | .int _ x => ts.length - x.toNat | _ => 0) ⟨_, Weak.slots [5, 1, 0], 0, ts, rfl, by omega, by simp [marks]⟩ ?_
  rintro s ⟨i, us, rfl, hi, hus⟩
  have hul : us.length = ts.length := by rw [hus, List.length_append, marks_length, List.length_drop]; omega
  have huo : okT us := by
    rw [hus]; intro t h
    rcases List.mem_append.1 h with h | h
    · exact okT_marks _ _ t h
    · exact ht t (List.mem_of_mem_drop h)
  have hutl := trms_length huo
  have hw : wrapK .i64 ((i : Int) + 1) = ((i + 1 : Nat) : Int) := by rw [wrap64 (by omega) (by omega)]; rfl
  have hw1 : wrapK .i64 (((k + 18 * i : Nat) : Int) + 1) = ((k + 18 * i + 1 : Nat) : Int) := by rw [wrap64 (by omega) (by omega)]; rfl
  by_cases hlt : i < ts.length
  · have h0 : (trms us).set (i * 18) (.int .i64 ((k + 18 * i : Nat) : Int)) = trms (us.set i (((k + 18 * i : Nat) : Int), us[i].2)) := by
      have := trms_set (j := 0) huo (by omega) (by decide) (trm_set0 (t := us[i]) (x := ((k + 18 * i : Nat) : Int)))
      exact this
    simp (maxSteps := 3000000) only [a_w_markTermS_l2, hw, hw1, hutl, h0, rd, wrt, wrl, AO.withl, List.getElem?_cons_zero, List.set_cons_zero, idX_eq, wbE, ↓symP, symE, listE, AK.isCall, enumE, ev, putE, abin, aun, AV.cells, ↓reduceIte, reduceCtorEq, Nat.reduceAdd, Nat.reduceMul, Nat.reduceSub, Nat.reduceEqDiff, Nat.reduceLT, Nat.reduceLeDiff, implies_true, Back, retv, retV, AV.scal, AV.scals]; try simp only [idX_eq, ite_both, pickP_both, not_not_eq, Bool.not_eq_false, Bool.not_eq_true]
    refine ⟨fun _ => ⟨⟨⟨by omega, by omega⟩, by omega⟩, ⟨by omega, rfl⟩, ?_⟩, fun h => absurd (by omega) h⟩
    have hlu : i < us.length := by omega
    generalize hm : us[i].2.1 = m at *
    generalize hf : us[i].2.2 = f at *
    have hmo : okD m := by rw [← hm]; exact huo _ (List.getElem_mem hlu)
    have huf : (us.set i (((k + 18 * i : Nat) : Int), us[i].2)) = us.set i (((k + 18 * i : Nat) : Int), m, f) := by rw [← hm, ← hf]
    rw [huf]
    have hV : ∀ x : Int × List Nat × Int, okD x.2.1 → okT (us.set i x) := fun x hx t h => by
      rcases List.mem_or_eq_of_mem_set h with h | h
      · exact huo t h
      · rw [h]; exact hx
    refine WA.loopB B15_ok (fun s => ∃ j : Nat, s = ⟨[(6, .int .i64 j), (5, .int .i64 i), (1, .int .i64 ((k + 18 * i + 1 + j : Nat) : Int)), (0, .slc 0 0 ts.length false 0)], [.vec 18 (trms (us.set i (((k + 18 * i : Nat) : Int), part (k + 18 * i + 1) m j, f)))]⟩ ∧ j ≤ 16)
      (fun s => match get s.env 6 with | .int _ k => (100 - k).toNat | _ => 0) ⟨_, Weak.slots [6, 5, 1, 0], 0, ?_, by omega⟩ ?_
    · simp only [part_zero hmo.1, keptL, keptW, keptE, kepts, slots, ↓reduceIte, reduceCtorEq, Nat.reduceEqDiff, AV.ren, AV.rens, pos, Nat.reduceAdd]
      rfl
    rintro s ⟨j, rfl, hj⟩
    have hwj : wrapK .i64 ((j : Int) + 1) = ((j + 1 : Nat) : Int) := by rw [wrap64 (by omega) (by omega)]; rfl
    have hwq : wrapK .i64 (((k + 18 * i + 1 + j : Nat) : Int) + 1) = ((k + 18 * i + 1 + j + 1 : Nat) : Int) := by rw [wrap64 (by omega) (by omega)]; rfl
    have hVo := hV (((k + 18 * i : Nat) : Int), part (k + 18 * i + 1) m j, f) (okD_part hmo)
    have hVl := trms_length hVo
    rw [List.length_set] at hVl
    by_cases hj16 : j < 16
    · have hst : (trms (us.set i (((k + 18 * i : Nat) : Int), part (k + 18 * i + 1) m j, f))).set (i * 18 + 1 + j) (.int .u8 (((k + 18 * i + 1 + j) % 256 : Nat) : Int)) = trms (us.set i (((k + 18 * i : Nat) : Int), part (k + 18 * i + 1) m (j + 1), f)) := by
        have h1 := trms_set (i := i) (j := 1 + j) (v := .int .u8 (((k + 18 * i + 1 + j) % 256 : Nat) : Int)) (t' := (((k + 18 * i : Nat) : Int), (part (k + 18 * i + 1) m j).set j ((k + 18 * i + 1 + j) % 256), f)) hVo (by rw [List.length_set]; omega) (by omega) (by
          rw [List.getElem_set_self]; exact trm_setM (okD_part hmo) hj16)
        rw [List.set_set, part_succ hj16] at h1
        rw [show i * 18 + 1 + j = i * 18 + (1 + j) from by omega]; exact h1
      simp (maxSteps := 3000000) only [a_w_markTermS_l1, hwj, hwq, hVl, wrapU8mod, hst, rd, wrt, wrl, AO.withl, List.getElem?_cons_zero, List.set_cons_zero, idX_eq, wbE, ↓symP, symE, listE, AK.isCall, enumE, ev, putE, abin, aun, AV.cells, ↓reduceIte, reduceCtorEq, Nat.reduceAdd, Nat.reduceMul, Nat.reduceSub, Nat.reduceEqDiff, Nat.reduceLT, Nat.reduceLeDiff, implies_true, Back, retv, retV, AV.scal, AV.scals]; try simp only [idX_eq, ite_both, pickP_both, not_not_eq, Bool.not_eq_false, Bool.not_eq_true]
      refine ⟨fun _ => ⟨⟨⟨by omega, by omega⟩, by omega⟩, ⟨by omega, by omega⟩, ⟨by omega, rfl⟩, _, Weak.slots [6, 5, 1, 0], ⟨j + 1, ?_, by omega⟩, ?_⟩, fun h => absurd (by omega) h⟩
      · simp only [keptL, keptW, keptE, kepts, slots, ↓reduceIte, reduceCtorEq, Nat.reduceEqDiff, AV.ren, AV.rens, pos, Nat.reduceAdd]
        rfl
      · simp only [keptL, keptW, keptE, kepts, slots, ↓reduceIte, reduceCtorEq, Nat.reduceEqDiff, AV.ren, AV.rens, pos, Nat.reduceAdd]; omega
    · have hj' : j = 16 := by omega
      subst hj'
      have hst : (trms (us.set i (((k + 18 * i : Nat) : Int), part (k + 18 * i + 1) m 16, f))).set (i * 18 + 17) (.int .i64 ((k + 18 * i + 1 + 16 : Nat) : Int)) = trms (us.set i (markT (k + 18 * i))) := by
        have h1 := trms_set (i := i) (j := 17) (v := .int .i64 ((k + 18 * i + 1 + 16 : Nat) : Int)) (t' := (((k + 18 * i : Nat) : Int), part (k + 18 * i + 1) m 16, ((k + 18 * i + 1 + 16 : Nat) : Int))) hVo (by rw [List.length_set]; omega) (by omega) (by
          rw [List.getElem_set_self]; exact trm_set17 (okD_part hmo))
        rw [List.set_set, part_all] at h1
        exact h1
      simp (maxSteps := 3000000) only [a_w_markTermS_l1, a_w_markTermS_k1, a_w_markTermS_k2, hw, hwj, hwq, hVl, hst, rd, wrt, wrl, AO.withl, List.getElem?_cons_zero, List.set_cons_zero, idX_eq, wbE, ↓symP, symE, listE, AK.isCall, enumE, ev, putE, abin, aun, AV.cells, ↓reduceIte, reduceCtorEq, Nat.reduceAdd, Nat.reduceMul, Nat.reduceSub, Nat.reduceEqDiff, Nat.reduceLT, Nat.reduceLeDiff, implies_true, Back, retv, retV, AV.scal, AV.scals]; try simp only [idX_eq, ite_both, pickP_both, not_not_eq, Bool.not_eq_false, Bool.not_eq_true]
      refine ⟨fun h => absurd h (by omega), fun _ => ⟨⟨⟨by omega, by omega⟩, by omega⟩, ⟨by omega, rfl⟩, _, Weak.slots [5, 1, 0], ⟨i + 1, us.set i (markT (k + 18 * i)), ?_, by omega, ?_⟩, ?_⟩⟩
      · simp only [keptL, keptW, keptE, kepts, slots, ↓reduceIte, reduceCtorEq, Nat.reduceEqDiff, AV.ren, AV.rens, pos, Nat.reduceAdd]
        rw [show k + 18 * i + 1 + 16 + 1 = k + 18 * (i + 1) from by omega]
      · rw [hus]
        refine List.ext_getElem (by simp [marks_length]; omega) fun x hx1 hx2 => ?_
        simp only [List.getElem_set]
        by_cases e : i = x
        · subst e
          rw [if_pos rfl, List.getElem_append_left (by rw [marks_length]; omega), marks_get (by omega)]
        · rw [if_neg e]
          by_cases h2 : x < i
          · rw [List.getElem_append_left (by rw [marks_length]; omega), List.getElem_append_left (by rw [marks_length]; omega), marks_get (by omega), marks_get (by omega)]
          · rw [List.getElem_append_right (by rw [marks_length]; omega), List.getElem_append_right (by rw [marks_length]; omega)]
            simp only [marks_length, List.getElem_drop]
            congr 1; omega
      · simp only [Int.toNat_natCast, keptL, keptW, keptE, kepts, slots, ↓reduceIte, reduceCtorEq, Nat.reduceEqDiff, AV.ren, AV.rens, pos, Nat.reduceAdd]; omega
  · have hi' : i = ts.length := by omega
    subst hi'
    simp (maxSteps := 3000000) only [a_w_markTermS_l2, a_w_markTermS_k3, hw, hw1, rd, wrt, wrl, AO.withl, List.getElem?_cons_zero, List.set_cons_zero, idX_eq, wbE, ↓symP, symE, listE, AK.isCall, enumE, ev, putE, abin, aun, AV.cells, ↓reduceIte, reduceCtorEq, Nat.reduceAdd, Nat.reduceMul, Nat.reduceSub, Nat.reduceEqDiff, Nat.reduceLT, Nat.reduceLeDiff, implies_true, Back, retv, retV, AV.scal, AV.scals]; try simp only [idX_eq, ite_both, pickP_both, not_not_eq, Bool.not_eq_false, Bool.not_eq_true]
    refine ⟨fun h => absurd h (by omega), fun _ => ?_⟩
    refine Ret.keep [0] ⟨⟨Nat.le_refl 1, rfl, by decide⟩, ?_⟩ (rs := [.int .i64 ((k + 18 * ts.length : Nat) : Int)]) rfl rfl (by simp [retV]) ?_ ⟨?_, ?_⟩
    · simp only [withins_scal _ _ (scals_trms _), keepW, keepL, AV.within, AV.withins, ↓reduceIte, reduceCtorEq, Nat.reduceEqDiff, Nat.reduceBEq, implies_true, Nat.reduceAdd]
    · intro j l; cases j <;> simp [kepts, AO.ren]
    · simp only [retV]
      simp only [keptL, keptW, keptE, kepts, slots, ↓reduceIte, reduceCtorEq, Nat.reduceEqDiff, AV.ren, AV.rens, pos, Nat.reduceAdd]
    · simp only [rens_scal _ _ (scals_trms _), keptL, keptW, keptE, kepts, slots, ↓reduceIte, reduceCtorEq, Nat.reduceEqDiff, AV.ren, AV.rens, pos, Nat.reduceAdd]
      rw [hus, List.drop_length, List.append_nil]

theorem c_w_heldTermS (n k : Nat) (hk : k ≤ 100000000) (hl : n ≤ 2000000) :
    Am.Fn Try.prog 67 [.slc 0 0 n false 0, .int .i64 k] [.ro (trms (marks n k))] (fun v H' => v = .int .i64 ((k + 18 * n : Nat) : Int) ∧ H' = [.ro (trms (marks n k))]) := by
  refine Am.Fn.sameB (R := fun v => v = _) B15_ok mixed r_w_heldTermS (by simp) (ro_under (scals_trms _)) ?_
  simp (maxSteps := 3000000) only [a_w_heldTermS, idX_eq, wbE, ↓symP, symE, listE, AK.isCall, enumE, ev, putE, abin, aun, AV.cells, ↓reduceIte, reduceCtorEq, Nat.reduceAdd, Nat.reduceMul, Nat.reduceSub, Nat.reduceEqDiff, Nat.reduceLT, Nat.reduceLeDiff, implies_true, Back, retv, retV, AV.scal, AV.scals]; try simp only [idX_eq, ite_both, pickP_both, not_not_eq, Bool.not_eq_false, Bool.not_eq_true]
  refine WA.loopB B15_ok (fun s => ∃ i : Nat, s = ⟨[(5, .int .i64 i), (1, .int .i64 ((k + 18 * i : Nat) : Int)), (0, .slc 0 0 n false 0)], [.ro (trms (marks n k))]⟩ ∧ i ≤ n)
    (fun s => match get s.env 5 with | .int _ x => n - x.toNat | _ => 0) ⟨_, Weak.slots [5, 1, 0], 0, rfl, by omega⟩ ?_
  rintro s ⟨i, rfl, hi⟩
  have hml := trms_length (okT_marks n k)
  rw [marks_length] at hml
  have hw : wrapK .i64 ((i : Int) + 1) = ((i + 1 : Nat) : Int) := by rw [wrap64 (by omega) (by omega)]; rfl
  have hw1 : wrapK .i64 (((k + 18 * i : Nat) : Int) + 1) = ((k + 18 * i + 1 : Nat) : Int) := by rw [wrap64 (by omega) (by omega)]; rfl
  by_cases hlt : i < n
  · have hcell : ∀ j, j < 18 → (trms (marks n k))[i * 18 + j]? = (trm (markT (k + 18 * i)))[j]? := fun j hj => by
      have h1 := trms_get (okT_marks n k) (i := i) (by rw [marks_length]; exact hlt)
      rw [marks_get hlt] at h1
      rw [← h1, List.getElem?_take_of_lt hj, List.getElem?_drop]
    have hc0 : (trms (marks n k))[i * 18]? = some (.int .i64 ((k + 18 * i : Nat) : Int)) := hcell 0 (by decide)
    simp (maxSteps := 3000000) only [a_w_heldTermS_l2, hw, hw1, hml, hc0, rd, List.getElem?_cons_zero, idX_eq, wbE, ↓symP, symE, listE, AK.isCall, enumE, ev, putE, abin, aun, AV.cells, ↓reduceIte, reduceCtorEq, Nat.reduceAdd, Nat.reduceMul, Nat.reduceSub, Nat.reduceEqDiff, Nat.reduceLT, Nat.reduceLeDiff, implies_true, Back, retv, retV, AV.scal, AV.scals]; try simp only [idX_eq, ite_both, pickP_both, not_not_eq, Bool.not_eq_false, Bool.not_eq_true]
    refine ⟨fun _ => ⟨⟨⟨by omega, by omega⟩, by omega⟩, ?_⟩, fun h => absurd (by omega) h⟩
    refine WA.loopB B15_ok (fun s => ∃ j : Nat, s = ⟨[(6, .int .i64 j), (5, .int .i64 i), (1, .int .i64 ((k + 18 * i + 1 + j : Nat) : Int)), (0, .slc 0 0 n false 0)], [.ro (trms (marks n k))]⟩ ∧ j ≤ 16)
      (fun s => match get s.env 6 with | .int _ k => (100 - k).toNat | _ => 0) ⟨_, Weak.slots [6, 5, 1, 0], 0, rfl, by omega⟩ ?_
    rintro s ⟨j, rfl, hj⟩
    have hwj : wrapK .i64 ((j : Int) + 1) = ((j + 1 : Nat) : Int) := by rw [wrap64 (by omega) (by omega)]; rfl
    have hwq : wrapK .i64 (((k + 18 * i + 1 + j : Nat) : Int) + 1) = ((k + 18 * i + 1 + j + 1 : Nat) : Int) := by rw [wrap64 (by omega) (by omega)]; rfl
    by_cases hj16 : j < 16
    · have hcj : (trms (marks n k))[i * 18 + 1 + j]? = some (.int .u8 (((k + 18 * i + 1 + j) % 256 : Nat) : Int)) := by
        have hmk : (markT (k + 18 * i)).2.1.length = 16 := (okD_mark _).1
        rw [show i * 18 + 1 + j = i * 18 + (1 + j) from by omega, hcell _ (by omega), trm, List.getElem?_append_left (by rw [dia_length, hmk]; omega)]
        rw [dia_get (by rw [hmk]; exact hj16)]
        rw [show (markT (k + 18 * i)).2.1 = markB (k + 18 * i + 1) from rfl, markB_get hj16]
      simp (maxSteps := 3000000) only [a_w_heldTermS_l1, hwj, hwq, hml, hcj, wrapU8mod, rd, List.getElem?_cons_zero, idX_eq, wbE, ↓symP, symE, listE, AK.isCall, enumE, ev, putE, abin, aun, AV.cells, ↓reduceIte, reduceCtorEq, Nat.reduceAdd, Nat.reduceMul, Nat.reduceSub, Nat.reduceEqDiff, Nat.reduceLT, Nat.reduceLeDiff, implies_true, Back, retv, retV, AV.scal, AV.scals]; try simp only [idX_eq, ite_both, pickP_both, not_not_eq, Bool.not_eq_false, Bool.not_eq_true]
      refine ⟨fun _ => ⟨⟨⟨by omega, by omega⟩, by omega⟩, ⟨by omega, by omega⟩, _, Weak.slots [6, 5, 1, 0], ⟨j + 1, ?_, by omega⟩, ?_⟩, fun h => absurd (by omega) h⟩
      · simp only [keptL, keptW, keptE, kepts, slots, ↓reduceIte, reduceCtorEq, Nat.reduceEqDiff, AV.ren, AV.rens, pos, Nat.reduceAdd]
        rfl
      · simp only [keptL, keptW, keptE, kepts, slots, ↓reduceIte, reduceCtorEq, Nat.reduceEqDiff, AV.ren, AV.rens, pos, Nat.reduceAdd]; omega
    · have hj' : j = 16 := by omega
      subst hj'
      have hcf : (trms (marks n k))[i * 18 + 17]? = some (.int .i64 ((k + 18 * i + 1 + 16 : Nat) : Int)) := by
        rw [hcell 17 (by decide), trm_factor (okD_mark _)]; rfl
      simp (maxSteps := 3000000) only [a_w_heldTermS_l1, a_w_heldTermS_k1, a_w_heldTermS_k2, hw, hwj, hwq, hml, hcf, rd, List.getElem?_cons_zero, idX_eq, wbE, ↓symP, symE, listE, AK.isCall, enumE, ev, putE, abin, aun, AV.cells, ↓reduceIte, reduceCtorEq, Nat.reduceAdd, Nat.reduceMul, Nat.reduceSub, Nat.reduceEqDiff, Nat.reduceLT, Nat.reduceLeDiff, implies_true, Back, retv, retV, AV.scal, AV.scals]; try simp only [idX_eq, ite_both, pickP_both, not_not_eq, Bool.not_eq_false, Bool.not_eq_true]
      refine ⟨fun h => absurd h (by omega), fun _ => ⟨⟨⟨by omega, by omega⟩, by omega⟩, _, Weak.slots [5, 1, 0], ⟨i + 1, ?_, by omega⟩, ?_⟩⟩
      · simp only [keptL, keptW, keptE, kepts, slots, ↓reduceIte, reduceCtorEq, Nat.reduceEqDiff, AV.ren, AV.rens, pos, Nat.reduceAdd]
        rw [show k + 18 * i + 1 + 16 + 1 = k + 18 * (i + 1) from by omega]
      · simp only [Int.toNat_natCast, keptL, keptW, keptE, kepts, slots, ↓reduceIte, reduceCtorEq, Nat.reduceEqDiff, AV.ren, AV.rens, pos, Nat.reduceAdd]; omega
  · have hi' : i = n := by omega
    subst hi'
    simp (maxSteps := 3000000) only [a_w_heldTermS_l2, a_w_heldTermS_k3, hw, hw1, rd, List.getElem?_cons_zero, idX_eq, wbE, ↓symP, symE, listE, AK.isCall, enumE, ev, putE, abin, aun, AV.cells, ↓reduceIte, reduceCtorEq, Nat.reduceAdd, Nat.reduceMul, Nat.reduceSub, Nat.reduceEqDiff, Nat.reduceLT, Nat.reduceLeDiff, implies_true, Back, retv, retV, AV.scal, AV.scals]; try simp only [idX_eq, ite_both, pickP_both, not_not_eq, Bool.not_eq_false, Bool.not_eq_true]
    exact ⟨fun h => absurd h (by omega), fun _ => ⟨_, rfl⟩⟩
end Go.Proofs.Ytkgoadglalpbfaa

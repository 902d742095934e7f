/- Contracts: products of elements, the reference. -/
import Derived.Test.YtkgoadglalpbfaaL9
import Derived.Test.YtkgoadglalpbfaaH5
namespace Go.Proofs.Ytkgoadglalpbfaa
open Go.Am Go.Dia
set_option linter.unusedSimpArgs false
set_option linter.unusedVariables false
set_option maxRecDepth 4000
set_option maxHeartbeats 1000000

noncomputable def prT (p c n : Int) (t u : Int × List Nat × Int) : Int × List Nat × Int := (n, prodL n.toNat t.2.1 u.2.1, (t.2.2 * u.2.2).emod p * powP p c (lpN n.toNat t.2.1 u.2.1 n.toNat))
noncomputable def mulT (p c n : Int) (a b : List (Int × List Nat × Int)) : List (Int × List Nat × Int) := a.flatMap fun t => b.map (prT p c n t)
def MP (p n : Int) (l : List (Int × List Nat × Int)) : List (Int × List Nat × Int) := chP p n id (fun _ => 1) [] l
theorem MP_snoc {p n : Int} {l : List (Int × List Nat × Int)} {t : Int × List Nat × Int} : MP p n (l ++ [t]) = putT p (MP p n l) n t.2.1 t.2.2 := by
  unfold MP chP; rw [List.foldl_append]; simp
theorem mulT_succ {p c n : Int} {a b : List (Int × List Nat × Int)} {i : Nat} (h : i < a.length) : mulT p c n (a.take (i + 1)) b = mulT p c n (a.take i) b ++ b.map (prT p c n a[i]) := by
  rw [List.take_succ_eq_append_getElem h, mulT, List.flatMap_append]; simp [mulT]
theorem map_succ {p c n : Int} {t : Int × List Nat × Int} {b : List (Int × List Nat × Int)} {j : Nat} (h : j < b.length) : (b.take (j + 1)).map (prT p c n t) = (b.take j).map (prT p c n t) ++ [prT p c n t b[j]] := by
  rw [List.take_succ_eq_append_getElem h, List.map_append]; rfl
/-- Of one product of terms. -/
theorem prT_ok {p c n : Int} (hp : 2 ≤ p ∧ p ≤ 97) (hc : 0 ≤ c ∧ c ≤ p - 1) {t u : Int × List Nat × Int} (h1 : isS n.toNat t.2.1 = true) (h2 : isS n.toNat u.2.1 = true) (f1 : 1 ≤ t.2.2 ∧ t.2.2 ≤ p - 1) (f2 : 1 ≤ u.2.2 ∧ u.2.2 ≤ p - 1) :
    okD (prT p c n t u).2.1 ∧ isS n.toNat (prT p c n t u).2.1 = true ∧ 0 ≤ (prT p c n t u).2.2 ∧ (prT p c n t u).2.2 ≤ 9216 := by
  have h := prod_isS h1 h2
  have hr : 0 ≤ (t.2.2 * u.2.2).emod p ∧ (t.2.2 * u.2.2).emod p ≤ p - 1 := ⟨Int.emod_nonneg _ (by omega), Int.le_sub_one_of_lt (Int.emod_lt_of_pos (t.2.2 * u.2.2) (show 0 < p by omega))⟩
  obtain ⟨_, _, m3, m4⟩ := pow_mul hp (powP_bd (c := c) hp.1 (lpN n.toNat t.2.1 u.2.1 n.toNat)) hr
  exact ⟨h.2, h.1, m3, m4⟩
theorem mul_ok {p c n : Int} (hp : 2 ≤ p ∧ p ≤ 97) (hc : 0 ≤ c ∧ c ≤ p - 1) {a b : List (Int × List Nat × Int)} (ha : GoodT p n a) (hb : GoodT p n b) : okCh n 10000 id (fun _ => 1) (mulT p c n a b) := fun t ht => by
  obtain ⟨x, hx, ht⟩ := List.mem_flatMap.1 ht
  obtain ⟨u, hu, rfl⟩ := List.mem_map.1 ht
  obtain ⟨h1, h2, h3, h4⟩ := prT_ok (c := c) hp hc (ha.dia x hx).2 (hb.dia u hu).2 (ha.fac x hx) (hb.fac u hu)
  exact ⟨h1, h2, by show -10000 ≤ (prT p c n x u).2.2 * 1; omega, by show (prT p c n x u).2.2 * 1 ≤ 10000; omega⟩
theorem mulT_mem {p c n : Int} {a b : List (Int × List Nat × Int)} {i j : Nat} (hi : i < a.length) {t : Int × List Nat × Int} (ht : t ∈ mulT p c n (a.take i) b ++ (b.take j).map (prT p c n a[i])) : t ∈ mulT p c n a b := by
  rcases List.mem_append.1 ht with h | h
  · obtain ⟨x, hx, h⟩ := List.mem_flatMap.1 h
    exact List.mem_flatMap.2 ⟨x, List.mem_of_mem_take hx, h⟩
  · obtain ⟨u, hu, rfl⟩ := List.mem_map.1 h
    exact List.mem_flatMap.2 ⟨_, List.getElem_mem hi, List.mem_map.2 ⟨u, List.mem_of_mem_take hu, rfl⟩⟩
theorem mulT_len {p c n : Int} {a b : List (Int × List Nat × Int)} : (mulT p c n a b).length = a.length * b.length := by
  induction a with
  | nil => simp [mulT]
  | cons x a ih =>
    have : mulT p c n (x :: a) b = b.map (prT p c n x) ++ mulT p c n a b := rfl
    rw [this, List.length_append, List.length_map, ih, List.length_cons, Nat.add_mul]; omega
theorem part_good {p c n : Int} (hp : 2 ≤ p ∧ p ≤ 97) (hc : 0 ≤ c ∧ c ≤ p - 1) {a b : List (Int × List Nat × Int)} (ha : GoodT p n a) (hb : GoodT p n b) (hl : a.length ≤ 300 ∧ b.length ≤ 300) {i j : Nat} (hi : i < a.length) :
    GoodT p n (MP p n (mulT p c n (a.take i) b ++ (b.take j).map (prT p c n a[i]))) ∧ (MP p n (mulT p c n (a.take i) b ++ (b.take j).map (prT p c n a[i]))).length ≤ 100000 := by
  have h0 : GoodT p n [] := ⟨(fun t h => by cases h), (fun t h => by cases h), (fun t h => by cases h), .nil⟩
  have h := chP_good (p := p) (F := 10000) (φ := id) (κ := fun _ => 1) (by omega) h0 (a := mulT p c n (a.take i) b ++ (b.take j).map (prT p c n a[i])) fun t ht => mul_ok (c := c) hp hc ha hb t (mulT_mem hi ht)
  refine ⟨h.1, Nat.le_trans h.2 ?_⟩
  rw [List.length_nil, List.length_append, mulT_len, List.length_map, List.length_take, List.length_take]
  have h1 : (min i a.length) * b.length ≤ 300 * 300 := Nat.mul_le_mul (by omega) hl.2
  omega

theorem B86_s_l01Times_M1 : B86 125 = some (plainE g_times) := rfl
theorem B86_s_l02Empty_M1 : B86 70 = some (g_empty) := rfl
theorem B86_s_l02Power_M1 : B86 83 = some (plainE g_pow) := rfl
theorem B86_s_l02Put_M1 : B86 61 = some (g_put) := rfl
def a_s_l02Times_t1 : AT := (.one ⟨some 28, none, .op (.faddr 3 (.t 2))⟩
              (.one ⟨some 29, none, .op (.load1 (.t 28))⟩
              (.one ⟨some 30, none, .op (.mov (.t 6))⟩
              (.one ⟨some 31, none, .op (.iaddrS 18 (.t 29) (.t 30))⟩
              (.one ⟨some 32, none, .op (.faddr 0 (.t 31))⟩
              (.one ⟨some 33, none, .op (.loadN 17 (.t 32))⟩
              (.one ⟨some 34, none, .op (.faddr 3 (.t 3))⟩
              (.one ⟨some 35, none, .op (.load1 (.t 34))⟩
              (.one ⟨some 36, none, .op (.mov (.t 7))⟩
              (.one ⟨some 37, none, .op (.iaddrS 18 (.t 35) (.t 36))⟩
              (.one ⟨some 38, none, .op (.faddr 0 (.t 37))⟩
              (.one ⟨some 39, none, .op (.loadN 17 (.t 38))⟩
              (.alt ⟨some 40, none, .call (.c (.fn 125 [] [])) [(.t 33), (.t 39)]⟩
              (.one ⟨some 27, none, .op (.mov (.t 40))⟩
               (.one ⟨some 41, none, .op (.ext 0 (.t 27))⟩
               (.one ⟨some 42, none, .op (.ext 1 (.t 27))⟩
               (.one ⟨some 8, none, .op (.alloc [(.int .i64 0), (.int .u8 0), (.int .u8 0), (.int .u8 0), (.int .u8 0), (.int .u8 0), (.int .u8 0), (.int .u8 0), (.int .u8 0), (.int .u8 0), (.int .u8 0), (.int .u8 0), (.int .u8 0), (.int .u8 0), (.int .u8 0), (.int .u8 0), (.int .u8 0)])⟩
               (.one ⟨none, none, .op (.storeN 17 (.t 8) (.t 41))⟩
               (.one ⟨some 9, none, .op (.mov (.t 42))⟩
               (.nil)))))))
              (.alt ⟨some 8, none, .op (.alloc [(.int .i64 0), (.int .u8 0), (.int .u8 0), (.int .u8 0), (.int .u8 0), (.int .u8 0), (.int .u8 0), (.int .u8 0), (.int .u8 0), (.int .u8 0), (.int .u8 0), (.int .u8 0), (.int .u8 0), (.int .u8 0), (.int .u8 0), (.int .u8 0), (.int .u8 0)])⟩
              (.one ⟨some 40, none, .call (.c (.fn 125 [] [])) [(.t 33), (.t 39)]⟩
               (.one ⟨some 27, none, .op (.mov (.t 40))⟩
               (.one ⟨some 41, none, .op (.ext 0 (.t 27))⟩
               (.one ⟨some 42, none, .op (.ext 1 (.t 27))⟩
               (.one ⟨none, none, .op (.storeN 17 (.t 8) (.t 41))⟩
               (.one ⟨some 9, none, .op (.mov (.t 42))⟩
               (.nil)))))))
              (.none)))))))))))))))
def a_s_l02Times_k1 : AC := .seq (.draw true [⟨some 43, none, .op (.faddr 3 (.t 2))⟩,
              ⟨some 44, none, .op (.load1 (.t 43))⟩,
              ⟨some 45, none, .op (.mov (.t 6))⟩,
              ⟨some 46, none, .op (.iaddrS 18 (.t 44) (.t 45))⟩,
              ⟨some 47, none, .op (.faddr 17 (.t 46))⟩,
              ⟨some 48, none, .op (.load1 (.t 47))⟩,
              ⟨some 49, none, .op (.faddr 3 (.t 3))⟩,
              ⟨some 50, none, .op (.load1 (.t 49))⟩,
              ⟨some 51, none, .op (.mov (.t 7))⟩,
              ⟨some 52, none, .op (.iaddrS 18 (.t 50) (.t 51))⟩,
              ⟨some 53, none, .op (.faddr 17 (.t 52))⟩,
              ⟨some 54, none, .op (.load1 (.t 53))⟩,
              ⟨some 55, none, .op (.bin .mul (.t 48) (.t 54))⟩,
              ⟨some 56, none, .op (.faddr 0 (.t 2))⟩,
              ⟨some 57, none, .op (.load1 (.t 56))⟩,
              ⟨some 58, none, .op (.bin .rem (.t 55) (.t 57))⟩,
              ⟨some 59, none, .op (.faddr 0 (.t 2))⟩,
              ⟨some 60, none, .op (.load1 (.t 59))⟩,
              ⟨some 61, none, .op (.faddr 1 (.t 2))⟩,
              ⟨some 62, none, .op (.load1 (.t 61))⟩,
              ⟨some 63, none, .op (.mov (.t 9))⟩,
              ⟨some 64, none, .call (.c (.fn 83 [] [])) [(.t 60), (.t 62), (.t 63)]⟩,
              ⟨some 65, none, .op (.bin .mul (.t 58) (.t 64))⟩,
              ⟨some 10, none, .op (.mov (.t 65))⟩]) (.region [⟨some 66, none, .op (.faddr 0 (.t 2))⟩,
             ⟨some 67, none, .op (.load1 (.t 66))⟩,
             ⟨some 68, none, .op (.faddr 3 (.t 5))⟩,
             ⟨some 69, none, .op (.load1 (.t 68))⟩,
             ⟨some 70, none, .op (.loadN 17 (.t 8))⟩,
             ⟨some 71, none, .op (.mov (.t 10))⟩,
             ⟨some 72, none, .call (.c (.fn 61 [] [])) [(.t 67), (.t 69), (.t 70), (.t 71)]⟩,
             ⟨some 73, none, .op (.faddr 3 (.t 5))⟩,
             ⟨none, none, .op (.store1 (.t 73) (.t 72))⟩])
def a_s_l02Times_k2 : AC := .region [⟨some 25, none, .op (.mov (.t 7))⟩,
           ⟨some 26, none, .op (.bin .add (.t 25) (.c (.int .i64 1)))⟩,
           ⟨some 7, none, .op (.mov (.t 26))⟩]
def a_s_l02Times_l1 : AC := .seq (.seq (.region [⟨some 20, none, .op (.mov (.t 7))⟩,
             ⟨some 21, none, .op (.faddr 3 (.t 3))⟩,
             ⟨some 22, none, .op (.load1 (.t 21))⟩,
             ⟨some 23, none, .op (.len .slc (.t 22))⟩,
             ⟨some 24, none, .op (.bin .lss (.t 20) (.t 23))⟩]) (.cond 24 .skip (.exit 2))) (.seq (.block 3 (.seq (.tree false a_s_l02Times_t1) a_s_l02Times_k1)) a_s_l02Times_k2)
def a_s_l02Times_k3 : AC := .region [⟨some 18, none, .op (.mov (.t 6))⟩,
       ⟨some 19, none, .op (.bin .add (.t 18) (.c (.int .i64 1)))⟩,
       ⟨some 6, none, .op (.mov (.t 19))⟩]
def a_s_l02Times_l2 : AC := .seq (.seq (.region [⟨some 13, none, .op (.mov (.t 6))⟩,
         ⟨some 14, none, .op (.faddr 3 (.t 2))⟩,
         ⟨some 15, none, .op (.load1 (.t 14))⟩,
         ⟨some 16, none, .op (.len .slc (.t 15))⟩,
         ⟨some 17, none, .op (.bin .lss (.t 13) (.t 16))⟩]) (.cond 17 .skip (.exit 0))) (.seq (.block 1 (.seq (.region [⟨some 7, none, .op (.mov (.c (.int .i64 0)))⟩]) (.block 2 (.loop a_s_l02Times_l1)))) a_s_l02Times_k3)
def a_s_l02Times_k4 : AC := .seq (.region [⟨some 74, none, .op (.loadN 4 (.t 5))⟩,
     ⟨none, none, .op (.storeN 4 (.t 4) (.t 74))⟩]) .ret
def a_s_l02Times : AC := .seq (.region [⟨some 2, none, .op (.box (.t 0))⟩,
     ⟨some 3, none, .op (.box (.t 1))⟩,
     ⟨some 4, none, .op (.alloc [(.int .i64 0), (.int .i64 0), (.int .i64 0), (.v (.slice none 0 0))])⟩]) (.seq (.region [⟨some 11, none, .op (.loadN 4 (.t 2))⟩,
     ⟨some 12, none, .call (.c (.fn 70 [] [])) [(.t 11)]⟩,
     ⟨some 5, none, .op (.alloc [(.int .i64 0), (.int .i64 0), (.int .i64 0), (.v (.slice none 0 0))])⟩,
     ⟨none, none, .op (.storeN 4 (.t 5) (.t 12))⟩]) (.seq (.seq (.region [⟨some 6, none, .op (.mov (.c (.int .i64 0)))⟩]) (.block 0 (.loop a_s_l02Times_l2))) a_s_l02Times_k4))
theorem r_s_l02Times : readF Try.prog 88 = some ⟨75, a_s_l02Times, [.cellN 4 4]⟩ := by kernel_rfl
theorem c_s_l02Times (p c n p' c' : Int) (a b : List (Int × List Nat × Int)) (hp : 2 ≤ p ∧ p ≤ 97) (hc : 0 ≤ c ∧ c ≤ p - 1) (hn : 0 ≤ n ∧ n ≤ 8) (ha : GoodT p n a) (hb : GoodT p n b) (hl : a.length ≤ 300 ∧ b.length ≤ 300) :
    Am.Fn Try.prog 88 [elemV p c n 0 a.length, elemV p' c' n 1 b.length] [.ro (trms a), .ro (trms b)] (fun v H' => v = elemV p c n 2 (MP p n (mulT p c n a b)).length ∧ H' = [.ro (trms a), .ro (trms b), .vec 18 (trms (MP p n (mulT p c n a b)))]) := by
  refine Am.Fn.ofB B86_ok mixed r_s_l02Times (by simp [elemV, AV.unders, AV.under]) (ro_under2 (scals_trms _) (scals_trms _)) ?_
  have hal := trms_length ha.ok
  have hbl := trms_length hb.ok
  simp (maxSteps := 3000000) only [over4E, heapL, fillA, rd, wrt, wrl, AO.withl, a_s_l02Times, B86_s_l01Times_M1, B86_s_l02Empty_M1, B86_s_l02Power_M1, B86_s_l02Put_M1, g_empty, g_pow, g_put, g_times, elemV, hal, hbl, Int.reduceEq, Int.reduceNe, Int.reduceBEq, Int.reduceBNe, Int.reduceLT, Int.reduceLE, Int.reduceAdd, Int.reduceSub, Int.reduceMul, idX_eq, wbE, ↓symP, symE, listE, AK.isCall, enumE, ev, putE, abin, aun, AV.cells, ↓reduceIte, reduceCtorEq, Nat.reduceAdd, Nat.reduceMul, Nat.reduceSub, Nat.reduceEqDiff, Nat.reduceLT, Nat.reduceLeDiff, implies_true, Back, retv, retV, AV.scal, AV.scals]; try simp only [idX_eq, ite_both, pickP_both, not_not_eq, Bool.not_eq_false, Bool.not_eq_true]
  refine ⟨rfl, ?_⟩
  refine WA.loopB B86_ok (fun s => ∃ (i : Nat) (acc : List (Int × List Nat × Int)), i ≤ a.length ∧ acc = MP p n (mulT p c n (a.take i) b) ∧
      s = ⟨[(6, .int .i64 i), (5, .ptr 5 0), (4, .ptr 4 0), (3, .ptr 3 0), (2, .ptr 2 0)], [.ro (trms a), .ro (trms b), .cells [.int .i64 p, .int .i64 c, .int .i64 n, .slc 0 0 a.length false 0], .cells [.int .i64 p', .int .i64 c', .int .i64 n, .slc 1 0 b.length false 0], nilE, .cells [.int .i64 p, .int .i64 c, .int .i64 n, .slc 6 0 acc.length false 0], .vec 18 (trms acc)]⟩)
    (fun s => match get s.env 6 with | .int _ x => a.length - x.toNat | _ => 0) ⟨_, Weak.keep [0, 1, 2, 3, 4, 6, 5] [6, 5, 4, 3, 2] ⟨by decide, ?_⟩ ?_, 0, [], by omega, rfl, ?_⟩ ?_
  · simp only [withins_scal _ _ (scals_trms _), keepW, keepL, AV.within, AV.withins, ↓reduceIte, reduceCtorEq, Nat.reduceEqDiff, Nat.reduceBEq, implies_true, Nat.reduceAdd]
  · simp only [withins_scal _ _ (scals_trms _), keepW, keepL, AV.within, AV.withins, ↓reduceIte, reduceCtorEq, Nat.reduceEqDiff, Nat.reduceBEq, implies_true, Nat.reduceAdd]
  · simp only [rens_scal _ _ (scals_trms _), keptL, keptW, keptE, kepts, slots, ↓reduceIte, reduceCtorEq, Nat.reduceEqDiff, AV.ren, AV.rens, pos, Nat.reduceAdd]
    rfl
  rintro s ⟨i, acc, hi, hacc, rfl⟩
  have hwi : wrapK .i64 ((i : Int) + 1) = ((i + 1 : Nat) : Int) := by rw [wrap64 (by omega) (by omega)]; rfl
  by_cases hlt : i < a.length
  · have hli : (i : Int) < a.length := by omega
    have hli' : (0 : Int) ≤ i := by omega
    simp (maxSteps := 3000000) only [over4E, heapL, fillA, rd, wrt, wrl, AO.withl, a_s_l02Times_l2, B86_s_l01Times_M1, B86_s_l02Empty_M1, B86_s_l02Power_M1, B86_s_l02Put_M1, g_empty, g_pow, g_put, g_times, hli, Int.reduceEq, Int.reduceNe, Int.reduceBEq, Int.reduceBNe, Int.reduceLT, Int.reduceLE, Int.reduceAdd, Int.reduceSub, Int.reduceMul, idX_eq, wbE, ↓symP, symE, listE, AK.isCall, enumE, ev, putE, abin, aun, AV.cells, ↓reduceIte, reduceCtorEq, Nat.reduceAdd, Nat.reduceMul, Nat.reduceSub, Nat.reduceEqDiff, Nat.reduceLT, Nat.reduceLeDiff, implies_true, Back, retv, retV, AV.scal, AV.scals]; try simp only [idX_eq, ite_both, pickP_both, not_not_eq, Bool.not_eq_false, Bool.not_eq_true]
    have ea : MP p n (mulT p c n (a.take i) b) = MP p n (mulT p c n (a.take i) b ++ (b.take 0).map (prT p c n a[i])) := by simp
    rw [ea] at hacc
    refine WA.loopB B86_ok (fun s => ∃ (j : Nat) (acc : List (Int × List Nat × Int)), j ≤ b.length ∧ acc = MP p n (mulT p c n (a.take i) b ++ (b.take j).map (prT p c n a[i])) ∧
        s = ⟨[(7, .int .i64 j), (6, .int .i64 i), (5, .ptr 5 0), (4, .ptr 4 0), (3, .ptr 3 0), (2, .ptr 2 0)], [.ro (trms a), .ro (trms b), .cells [.int .i64 p, .int .i64 c, .int .i64 n, .slc 0 0 a.length false 0], .cells [.int .i64 p', .int .i64 c', .int .i64 n, .slc 1 0 b.length false 0], nilE, .cells [.int .i64 p, .int .i64 c, .int .i64 n, .slc 6 0 acc.length false 0], .vec 18 (trms acc)]⟩)
      (fun s => match get s.env 7 with | .int _ x => b.length - x.toNat | _ => 0) ⟨_, Weak.slots [7, 6, 5, 4, 3, 2], 0, acc, by omega, hacc, rfl⟩ ?_
    clear hacc
    rintro s ⟨j, acc, hj, hacc, rfl⟩
    by_cases hltj : j < b.length
    · have hg := part_good hp hc ha hb hl (j := j) hlt
      rw [← hacc] at hg
      have hlj : (j : Int) < b.length := by omega
      have hlj' : (0 : Int) ≤ j := by omega
      have hw : wrapK .i64 ((j : Int) + 1) = ((j + 1 : Nat) : Int) := by rw [wrap64 (by omega) (by omega)]; rfl
      have hd1 := trms_dia17 ha.ok hlt
      have hf1 := trms_fac ha.ok hlt
      have hd2 := trms_dia17 hb.ok hltj
      have hf2 := trms_fac hb.ok hltj
      have ok1 := ha.ok _ (List.getElem_mem hlt)
      have ok2 := hb.ok _ (List.getElem_mem hltj)
      have z1 := ha.dia _ (List.getElem_mem hlt)
      have z2 := hb.dia _ (List.getElem_mem hltj)
      have c1 := ha.fac _ (List.getElem_mem hlt)
      have c2 := hb.fac _ (List.getElem_mem hltj)
      obtain ⟨t1, t2, t3, t4⟩ := prT_ok (c := c) hp hc z1.2 z2.2 c1 c2
      rw [z1.1] at hd1
      rw [z2.1] at hd2
      have hnext : MP p n (mulT p c n (a.take i) b ++ (b.take (j + 1)).map (prT p c n a[i])) = putT p acc n (prT p c n a[i] b[j]).2.1 (prT p c n a[i] b[j]).2.2 := by
        rw [map_succ hltj, ← List.append_assoc, MP_snoc, ← hacc]
      have s1 := z1.2
      have s2 := z2.2
      have hprd : (prT p c n a[i] b[j]).2.1 = prodL n.toNat a[i].2.1 b[j].2.1 := rfl
      have hprf : (prT p c n a[i] b[j]).2.2 = (a[i].2.2 * b[j].2.2).emod p * powP p c (lpN n.toNat a[i].2.1 b[j].2.1 n.toNat) := rfl
      rw [hprd, hprf] at hnext
      rw [hprd] at t1 t2
      rw [hprf] at t3 t4
      have hlpb : (0 : Int) ≤ ((lpN n.toNat a[i].2.1 b[j].2.1 n.toNat : Nat) : Int) ∧ ((lpN n.toNat a[i].2.1 b[j].2.1 n.toNat : Nat) : Int) ≤ 1000000 := by
        have := lpN_le n.toNat a[i].2.1 b[j].2.1 n.toNat; omega
      clear hprd hprf z1 z2
      generalize a[i].2.1 = m1 at hd1 ok1 s1 t1 t2 t3 t4 hlpb hnext
      generalize a[i].2.2 = f1 at hf1 c1 t3 t4 hnext
      generalize b[j].2.1 = m2 at hd2 ok2 s2 t1 t2 t3 t4 hlpb hnext
      generalize b[j].2.2 = f2 at hf2 c2 t3 t4 hnext
      obtain ⟨w1, w2, w3, w4⟩ := pow_mul (p := p) (c := f2) (x := f1) hp (by omega) (by omega)
      have w5 : wrapK .i64 ((f1 * f2).emod p * powP p c (lpN n.toNat m1 m2 n.toNat)) = (f1 * f2).emod p * powP p c (lpN n.toNat m1 m2 n.toNat) := wrap64 (by omega) (by omega)
      have hne : p ≠ 0 := by omega
      have hb1 : i * 18 < a.length * 18 := by omega
      have hb2 : i * 18 + 17 ≤ a.length * 18 := by omega
      have hb3 : i * 18 + 17 < a.length * 18 := by omega
      have hb4 : j * 18 < b.length * 18 := by omega
      have hb5 : j * 18 + 17 ≤ b.length * 18 := by omega
      have hb6 : j * 18 + 17 < b.length * 18 := by omega
      have hfit := hg.1.fit (by omega) (by omega)
      have hacl := trms_length hg.1.ok
      have hpp : 0 < p ∧ p ≤ 1000000 := by omega
      have hn0 : 0 ≤ n := hn.1
      have t0 := t1.1
      simp (maxSteps := 3000000) only [over4E, heapL, fillA, rd, wrt, wrl, AO.withl, a_s_l02Times_l1, B86_s_l01Times_M1, B86_s_l02Empty_M1, B86_s_l02Power_M1, B86_s_l02Put_M1, g_empty, g_pow, g_put, g_times, hlj, hbl, Int.reduceEq, Int.reduceNe, Int.reduceBEq, Int.reduceBNe, Int.reduceLT, Int.reduceLE, Int.reduceAdd, Int.reduceSub, Int.reduceMul, idX_eq, wbE, ↓symP, symE, listE, AK.isCall, enumE, ev, putE, abin, aun, AV.cells, ↓reduceIte, reduceCtorEq, Nat.reduceAdd, Nat.reduceMul, Nat.reduceSub, Nat.reduceEqDiff, Nat.reduceLT, Nat.reduceLeDiff, implies_true, Back, retv, retV, AV.scal, AV.scals]; try simp only [idX_eq, ite_both, pickP_both, not_not_eq, Bool.not_eq_false, Bool.not_eq_true]
      refine WA.treeB B86_ok (fun s => s = ⟨[(9, .int .i64 (lpN n.toNat m1 m2 n.toNat : Nat)), (8, .ptr 7 0), (7, .int .i64 j), (6, .int .i64 i), (5, .ptr 5 0), (4, .ptr 4 0), (3, .ptr 3 0), (2, .ptr 2 0)], [.ro (trms a), .ro (trms b), .cells [.int .i64 p, .int .i64 c, .int .i64 n, .slc 0 0 a.length false 0], .cells [.int .i64 p', .int .i64 c', .int .i64 n, .slc 1 0 b.length false 0], nilE, .cells [.int .i64 p, .int .i64 c, .int .i64 n, .slc 6 0 acc.length false 0], .vec 18 (trms acc), .cells (dia n (prodL n.toNat m1 m2))]⟩) ?_ ?_
      · unfold a_s_l02Times_t1
        simp (maxSteps := 3000000) only [over4E, heapL, fillA, rd, wrt, wrl, AO.withl, wbTT_alt, wbTT_no, B86_s_l01Times_M1, B86_s_l02Empty_M1, B86_s_l02Power_M1, B86_s_l02Put_M1, g_empty, g_pow, g_put, g_times, hli, hli', hlj, hlj', hal, hbl, hb1, hb2, hb3, hb4, hb5, hb6, hd1, hd2, diaOf_dia ok1, diaOf_dia ok2, s1, s2, hn0, dia_zero, dia_zero_len, over_dia0 t0, dia_length, t0, ones_dia, List.length_replicate, Nat.le_refl, and_self, Int.reduceEq, Int.reduceNe, Int.reduceBEq, Int.reduceBNe, Int.reduceLT, Int.reduceLE, Int.reduceAdd, Int.reduceSub, Int.reduceMul, idX_eq, wbE, ↓symP, symE, listE, AK.isCall, enumE, ev, putE, abin, aun, AV.cells, ↓reduceIte, reduceCtorEq, Nat.reduceAdd, Nat.reduceMul, Nat.reduceSub, Nat.reduceEqDiff, Nat.reduceLT, Nat.reduceLeDiff, implies_true, Back, retv, retV, AV.scal, AV.scals]; try simp only [idX_eq, ite_both, pickP_both, not_not_eq, Bool.not_eq_false, Bool.not_eq_true]
        repeat' first | (with_reducible exact ⟨_, rfl⟩) | (exact rfl) | (with_reducible refine And.intro ?_ ?_)
        all_goals exact ⟨_, Weak.slots [9, 8, 7, 6, 5, 4, 3, 2], rfl⟩
      rintro s rfl
      by_cases hz : ((f1 * f2).emod p * powP p c (lpN n.toNat m1 m2 n.toNat)).emod p = 0
      · simp (maxSteps := 3000000) only [over4E, heapL, fillA, rd, wrt, wrl, AO.withl, a_s_l02Times_k1, a_s_l02Times_k2, B86_s_l01Times_M1, B86_s_l02Empty_M1, B86_s_l02Power_M1, B86_s_l02Put_M1, g_empty, g_pow, g_put, g_times, hli, hli', hlj, hlj', hal, hbl, hb1, hb2, hb3, hb4, hb5, hb6, hf1, hf2, w1, w2, w5, hne, hp, hc, hlpb, Int.toNat_natCast, hw, tsOf_trms' hg.1.ok, diaOf_dia t1, hacl, hpp, hn, dia_length, t0, dia_take17 t0, hfit, hz, and_self, Int.reduceEq, Int.reduceNe, Int.reduceBEq, Int.reduceBNe, Int.reduceLT, Int.reduceLE, Int.reduceAdd, Int.reduceSub, Int.reduceMul, idX_eq, wbE, ↓symP, symE, listE, AK.isCall, enumE, ev, putE, abin, aun, AV.cells, ↓reduceIte, reduceCtorEq, Nat.reduceAdd, Nat.reduceMul, Nat.reduceSub, Nat.reduceEqDiff, Nat.reduceLT, Nat.reduceLeDiff, implies_true, Back, retv, retV, AV.scal, AV.scals]; try simp only [idX_eq, ite_both, pickP_both, not_not_eq, Bool.not_eq_false, Bool.not_eq_true]
        refine ⟨⟨_, rfl⟩, rfl, _, Weak.keep [0, 1, 2, 3, 4, 5, 6] [7, 6, 5, 4, 3, 2] ⟨by decide, ?_⟩ ?_, ⟨j + 1, acc, by omega, by rw [hnext, putT_eq, if_pos hz], ?_⟩, ?_⟩
        · simp only [withins_scal _ _ (scals_trms _), keepW, keepL, AV.within, AV.withins, ↓reduceIte, reduceCtorEq, Nat.reduceEqDiff, Nat.reduceBEq, implies_true, Nat.reduceAdd]
        · simp only [withins_scal _ _ (scals_trms _), keepW, keepL, AV.within, AV.withins, ↓reduceIte, reduceCtorEq, Nat.reduceEqDiff, Nat.reduceBEq, implies_true, Nat.reduceAdd]
        · simp only [rens_scal _ _ (scals_trms _), keptL, keptW, keptE, kepts, slots, ↓reduceIte, reduceCtorEq, Nat.reduceEqDiff, AV.ren, AV.rens, pos, Nat.reduceAdd]
        · simp only [keptL, keptW, keptE, kepts, slots, ↓reduceIte, reduceCtorEq, Nat.reduceEqDiff, AV.ren, AV.rens, pos, Nat.reduceAdd]; omega
      · simp (maxSteps := 3000000) only [over4E, heapL, fillA, rd, wrt, wrl, AO.withl, a_s_l02Times_k1, a_s_l02Times_k2, B86_s_l01Times_M1, B86_s_l02Empty_M1, B86_s_l02Power_M1, B86_s_l02Put_M1, g_empty, g_pow, g_put, g_times, hli, hli', hlj, hlj', hal, hbl, hb1, hb2, hb3, hb4, hb5, hb6, hf1, hf2, w1, w2, w5, hne, hp, hc, hlpb, Int.toNat_natCast, hw, tsOf_trms' hg.1.ok, diaOf_dia t1, hacl, hpp, hn, dia_length, t0, dia_take17 t0, hfit, hz, and_self, Int.reduceEq, Int.reduceNe, Int.reduceBEq, Int.reduceBNe, Int.reduceLT, Int.reduceLE, Int.reduceAdd, Int.reduceSub, Int.reduceMul, idX_eq, wbE, ↓symP, symE, listE, AK.isCall, enumE, ev, putE, abin, aun, AV.cells, ↓reduceIte, reduceCtorEq, Nat.reduceAdd, Nat.reduceMul, Nat.reduceSub, Nat.reduceEqDiff, Nat.reduceLT, Nat.reduceLeDiff, implies_true, Back, retv, retV, AV.scal, AV.scals]; try simp only [idX_eq, ite_both, pickP_both, not_not_eq, Bool.not_eq_false, Bool.not_eq_true]
        refine ⟨⟨_, rfl⟩, rfl, _, Weak.keep [0, 1, 2, 3, 4, 5, 8] [7, 6, 5, 4, 3, 2] ⟨by decide, ?_⟩ ?_, ⟨j + 1, putT p acc n (prodL n.toNat m1 m2) ((f1 * f2).emod p * powP p c (lpN n.toNat m1 m2 n.toNat)), by omega, hnext.symm, ?_⟩, ?_⟩
        · simp only [withins_scal _ _ (scals_trms _), keepW, keepL, AV.within, AV.withins, ↓reduceIte, reduceCtorEq, Nat.reduceEqDiff, Nat.reduceBEq, implies_true, Nat.reduceAdd]
        · simp only [withins_scal _ _ (scals_trms _), keepW, keepL, AV.within, AV.withins, ↓reduceIte, reduceCtorEq, Nat.reduceEqDiff, Nat.reduceBEq, implies_true, Nat.reduceAdd]
        · simp only [rens_scal _ _ (scals_trms _), keptL, keptW, keptE, kepts, slots, ↓reduceIte, reduceCtorEq, Nat.reduceEqDiff, AV.ren, AV.rens, pos, Nat.reduceAdd]
        · simp only [keptL, keptW, keptE, kepts, slots, ↓reduceIte, reduceCtorEq, Nat.reduceEqDiff, AV.ren, AV.rens, pos, Nat.reduceAdd]; omega
    · have hlj : ¬ ((j : Int) < b.length) := by omega
      obtain rfl : j = b.length := by omega
      simp (maxSteps := 3000000) only [over4E, heapL, fillA, rd, wrt, wrl, AO.withl, a_s_l02Times_l1, a_s_l02Times_k3, B86_s_l01Times_M1, B86_s_l02Empty_M1, B86_s_l02Power_M1, B86_s_l02Put_M1, g_empty, g_pow, g_put, g_times, hlj, hwi, hbl, Int.lt_irrefl, Int.reduceEq, Int.reduceNe, Int.reduceBEq, Int.reduceBNe, Int.reduceLT, Int.reduceLE, Int.reduceAdd, Int.reduceSub, Int.reduceMul, idX_eq, wbE, ↓symP, symE, listE, AK.isCall, enumE, ev, putE, abin, aun, AV.cells, ↓reduceIte, reduceCtorEq, Nat.reduceAdd, Nat.reduceMul, Nat.reduceSub, Nat.reduceEqDiff, Nat.reduceLT, Nat.reduceLeDiff, implies_true, Back, retv, retV, AV.scal, AV.scals]; try simp only [idX_eq, ite_both, pickP_both, not_not_eq, Bool.not_eq_false, Bool.not_eq_true]
      refine ⟨_, Weak.slots [6, 5, 4, 3, 2], ⟨i + 1, acc, by omega, by rw [hacc, List.take_length, mulT_succ hlt], rfl⟩, ?_⟩
      simp only [keptL, keptW, keptE, kepts, slots, ↓reduceIte, reduceCtorEq, Nat.reduceEqDiff, AV.ren, AV.rens, pos, Nat.reduceAdd]; omega
  · have hli : ¬ ((i : Int) < a.length) := by omega
    obtain rfl : i = a.length := by omega
    rw [List.take_length] at hacc
    subst hacc
    simp (maxSteps := 3000000) only [over4E, heapL, fillA, rd, wrt, wrl, AO.withl, a_s_l02Times_l2, a_s_l02Times_k4, B86_s_l01Times_M1, B86_s_l02Empty_M1, B86_s_l02Power_M1, B86_s_l02Put_M1, g_empty, g_pow, g_put, g_times, hli, Int.lt_irrefl, Int.reduceEq, Int.reduceNe, Int.reduceBEq, Int.reduceBNe, Int.reduceLT, Int.reduceLE, Int.reduceAdd, Int.reduceSub, Int.reduceMul, idX_eq, wbE, ↓symP, symE, listE, AK.isCall, enumE, ev, putE, abin, aun, AV.cells, ↓reduceIte, reduceCtorEq, Nat.reduceAdd, Nat.reduceMul, Nat.reduceSub, Nat.reduceEqDiff, Nat.reduceLT, Nat.reduceLeDiff, implies_true, Back, retv, retV, AV.scal, AV.scals]; try simp only [idX_eq, ite_both, pickP_both, not_not_eq, Bool.not_eq_false, Bool.not_eq_true]
    refine ⟨rfl, ?_⟩
    refine Ret.keep [0, 1, 6] ⟨⟨by simp, rfl, by decide⟩, ?_⟩ (rs := [.agg [.int .i64 p, .int .i64 c, .int .i64 n, .slc 6 0 (MP p n (mulT p c n a b)).length false 0]]) rfl rfl (by simp [retV]) ?_ ⟨?_, ?_⟩
    · simp only [withins_scal _ _ (scals_trms _), keepW, keepL, AV.within, AV.withins, ↓reduceIte, reduceCtorEq, Nat.reduceEqDiff, Nat.reduceBEq, implies_true, Nat.reduceAdd]
    · intro j l; match j with
      | 0 => simp [kepts, AO.ren]
      | 1 => simp [kepts, AO.ren]
      | 2 => simp [kepts, AO.ren]
      | j + 3 => simp [kepts]
    · simp only [retV]
      simp only [keptL, keptW, keptE, kepts, slots, ↓reduceIte, reduceCtorEq, Nat.reduceEqDiff, AV.ren, AV.rens, pos, Nat.reduceAdd]
    · simp only [rens_scal _ _ (scals_trms _), keptL, keptW, keptE, kepts, slots, ↓reduceIte, reduceCtorEq, Nat.reduceEqDiff, AV.ren, AV.rens, pos, Nat.reduceAdd]
noncomputable def g_mul : BE := fun hp xs => match xs with
  | [.agg [.int .i64 p, .int .i64 c, .int .i64 n, .slc b 0 la false 0], .agg [.int .i64 p', .int .i64 c', .int .i64 n', .slc b' 0 lb false 0]] => match rd hp b, rd hp b' with
    | some L, some L' => match tsOf la L, tsOf lb L' with
      | some ta, some tb => chk ((((2 ≤ p ∧ p ≤ 97) ∧ (0 ≤ c ∧ c ≤ p - 1) ∧ (0 ≤ n ∧ n ≤ 8) ∧ n' = n) ∧ goodT p n ta ∧ goodT p n tb) ∧ (ta.length ≤ 300 ∧ tb.length ≤ 300)) (some (elemV p c n hp.length (MP p n (mulT p c n ta tb)).length, hp ++ [.vec 18 (trms (MP p n (mulT p c n ta tb)))]))
      | _, _ => none
    | _, _ => none
  | _ => none
theorem k_mul_of {f : FuncId} (hf : ∀ (p c n p' c' : Int) (a b : List (Int × List Nat × Int)), 2 ≤ p ∧ p ≤ 97 → 0 ≤ c ∧ c ≤ p - 1 → 0 ≤ n ∧ n ≤ 8 → GoodT p n a → GoodT p n b → a.length ≤ 300 ∧ b.length ≤ 300 →
    Am.Fn Try.prog f [elemV p c n 0 a.length, elemV p' c' n 1 b.length] [.ro (trms a), .ro (trms b)] (fun v H' => v = elemV p c n 2 (MP p n (mulT p c n a b)).length ∧ H' = [.ro (trms a), .ro (trms b), .vec 18 (trms (MP p n (mulT p c n a b)))])) : Am.Callee Try.prog f g_mul := Callee.fp fun hp xs v hp' he => by
  unfold g_mul at he
  split at he
  · rename_i p c n b la p' c' n' b' lb
    split at he
    · rename_i L L' hL hL'
      split at he
      · rename_i ta tb h1 h1'
        obtain ⟨⟨⟨⟨a1, a0, a2, a3⟩, a4, a5⟩, a6⟩, he2⟩ := chk_some he
        simp only [Option.some.injEq, Prod.mk.injEq] at he2
        obtain ⟨rfl, rfl⟩ := he2
        obtain ⟨e1, e2, e3, e4⟩ := tsOf_some h1
        obtain ⟨f1, f2, f3, f4⟩ := tsOf_some h1'
        have g1 := trms_length e2
        have g2 := trms_length f2
        subst a3
        refine ⟨[(b, 0), (b', 0)], [elemV p c n' 0 ta.length, elemV p' c' n' 1 tb.length], _, _, _, hf p c n' p' c' ta tb a1 a0 a2 (a4.good e2) (a5.good f2) a6, by simp [elemV, AV.ren, AV.rens, ofL, e1, f1], rfl,
          ⟨⟨L, hL, by omega, by rw [List.drop_zero, rens_scal _ _ (scals_trms _), g1, e1]; exact e3⟩, ⟨L', hL', by omega, by rw [List.drop_zero, rens_scal _ _ (scals_trms _), g2, f1]; exact f3⟩, trivial⟩, rfl,
          ⟨unders_scal _ _ (scals_trms _), unders_scal _ _ (scals_trms _), trivial⟩, ⟨⟨trivial, trivial, trivial, by simp [AV.under], trivial⟩, ⟨trivial, trivial, trivial, by simp [AV.under], trivial⟩, trivial⟩, by simp [elemV, AV.ren, AV.rens, Ren.ext], ?_⟩
        simp [after, upd, AO.wr, AO.ren, rens_scal _ _ (scals_trms _)]
      · cases he
    · cases he
  · cases he
noncomputable def B87 : Book := (B86.put 88 (g_mul))

theorem B87_ok : BookOk Try.prog B87 := (B86_ok.put (k_mul_of c_s_l02Times))

end Go.Proofs.Ytkgoadglalpbfaa

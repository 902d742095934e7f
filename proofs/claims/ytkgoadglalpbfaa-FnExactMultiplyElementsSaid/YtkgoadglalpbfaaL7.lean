/- Contracts: products of diagrams, the implementation. -/
import Derived.Test.YtkgoadglalpbfaaL6
namespace Go.Proofs.Ytkgoadglalpbfaa
open Go.Am Go.Dia
set_option linter.unusedSimpArgs false
set_option linter.unusedVariables false
set_option maxRecDepth 4000
set_option maxHeartbeats 1000000

def H4 (N : Nat) (d e m : List Nat) (k : Nat) : List AO := [.ro (dia N d), .ro (dia N e), .cells (dia N m), .cells [.int .i64 k]]
theorem H4_under {N : Nat} {d e m : List Nat} {k n : Nat} : ∀ (j : Nat) (o : AO), (H4 N d e m k)[j]? = some o → o.under n := fun j o hj => by
  match j, hj with
  | 0, hj => cases hj; exact unders_scal _ _ (scals_dia _ _)
  | 1, hj => cases hj; exact unders_scal _ _ (scals_dia _ _)
  | 2, hj => cases hj; exact unders_scal _ _ (scals_dia _ _)
  | 3, hj => cases hj; exact ⟨trivial, trivial⟩
  | j + 4, hj => simp [H4] at hj
theorem okD_set {m : List Nat} (h : okD m) {i x : Nat} (hx : x < 256) : okD (m.set i x) := by
  refine ⟨by rw [List.length_set]; exact h.1, fun y hy => ?_⟩
  rcases List.mem_or_eq_of_mem_set hy with h1 | rfl
  · exact h.2 y h1
  · exact hx
theorem okD_prodK {n : Nat} {d e : List Nat} (hd : isS n d = true) (he : isS n e = true) : ∀ {k : Nat}, k ≤ n → okD (prodK n d e k)
  | 0, _ => ⟨by simp [prodK], fun y hy => by simp [prodK] at hy; omega⟩
  | k + 1, hk => by
    obtain ⟨hn, _⟩ := isS_mate hd
    have h1 := pr_lt hd he (i := k) (by omega)
    have h2 := pr_lt hd he (i := n + k) (by omega)
    exact okD_set (okD_set (okD_prodK hd he (by omega)) (by omega)) (by omega)
theorem B83_i_Diagram_n_L7 : B83 115 = some (readE 1 g_n) := rfl
theorem B83_i_stack_follow_L7 : B83 155 = some (g_sfollow) := rfl
theorem B83_i_times_2_L7 : B83 146 = some (g_set) := rfl
theorem B83_i_times_3_L7 : B83 147 = some (g_looped) := rfl
def a_i_product_l1 : AC := .seq (.region [⟨some 23, none, .op (.bin .lss (.t 22) (.t 21))⟩]) (.seq (.cond 23 .skip (.exit 0)) (.seq (.block 1 (.seq (.region [⟨some 24, none, .op (.mov (.t 22))⟩,
          ⟨some 12, none, .op (.mov (.t 24))⟩]) (.seq (.region [⟨some 25, none, .op (.mov (.t 3))⟩,
          ⟨some 26, none, .op (.mov (.t 12))⟩,
          ⟨some 27, none, .op (.mov (.t 11))⟩,
          ⟨some 28, none, .op (.mov (.t 12))⟩,
          ⟨some 29, none, .call (.c (.fn 155 [] [])) [(.t 27), (.c (.bool false)), (.t 28), (.c (.int .i64 (-1)))]⟩,
          ⟨some 30, none, .call (.t 25) [(.t 26), (.t 29)]⟩]) (.region [⟨some 31, none, .op (.mov (.t 3))⟩,
         ⟨some 32, none, .op (.mov (.t 10))⟩,
         ⟨some 33, none, .op (.mov (.t 12))⟩,
         ⟨some 34, none, .op (.bin .add (.t 32) (.t 33))⟩,
         ⟨some 35, none, .op (.mov (.t 11))⟩,
         ⟨some 36, none, .op (.mov (.t 10))⟩,
         ⟨some 37, none, .op (.mov (.t 12))⟩,
         ⟨some 38, none, .op (.bin .add (.t 36) (.t 37))⟩,
         ⟨some 39, none, .call (.c (.fn 155 [] [])) [(.t 35), (.c (.bool true)), (.t 38), (.c (.int .i64 (-1)))]⟩,
         ⟨some 40, none, .call (.t 31) [(.t 34), (.t 39)]⟩])))) (.region [⟨some 41, none, .op (.bin .add (.t 22) (.c (.int .i64 1)))⟩,
       ⟨some 22, none, .op (.mov (.t 41))⟩])))
def a_i_product_l2 : AC := .seq (.region [⟨some 44, none, .op (.bin .lss (.t 43) (.t 42))⟩]) (.seq (.cond 44 .skip (.exit 2)) (.seq (.block 3 (.seq (.region [⟨some 45, none, .op (.mov (.t 43))⟩,
         ⟨some 13, none, .op (.mov (.t 45))⟩]) (.seq (.region [⟨some 46, none, .op (.mov (.t 11))⟩,
         ⟨some 47, none, .op (.mov (.t 13))⟩,
         ⟨some 48, none, .op (.nilchk (.t 46))⟩,
         ⟨some 49, none, .op (.faddr 2 (.t 48))⟩,
         ⟨some 50, none, .op (.iaddrA 8 1 (.t 49) (.t 47))⟩,
         ⟨some 51, none, .op (.load1 (.t 50))⟩,
         ⟨some 52, none, .op (.un .not (.t 51))⟩]) (.cond 52 (.seq (.region [⟨some 53, none, .op (.mov (.t 11))⟩,
           ⟨some 54, none, .op (.mov (.t 13))⟩,
           ⟨some 55, none, .op (.mov (.t 13))⟩,
           ⟨some 56, none, .call (.c (.fn 155 [] [])) [(.t 53), (.c (.bool true)), (.t 54), (.t 55)]⟩]) (.region [⟨some 57, none, .op (.mov (.t 4))⟩,
          ⟨some 58, none, .call (.t 57) []⟩])) .skip)))) (.region [⟨some 59, none, .op (.bin .add (.t 43) (.c (.int .i64 1)))⟩,
      ⟨some 43, none, .op (.mov (.t 59))⟩])))
def a_i_product_k1 : AC := .seq (.region [⟨some 42, none, .op (.mov (.t 10))⟩,
     ⟨some 43, none, .op (.mov (.c (.int .i64 0)))⟩]) (.block 2 (.loop a_i_product_l2))
def a_i_product : AC := .seq (.region [⟨some 14, none, .op (.mov (.t 0))⟩,
     ⟨some 15, none, .call (.c (.fn 115 [] [])) [(.t 14)]⟩,
     ⟨some 10, none, .op (.mov (.t 15))⟩]) (.seq (.region [⟨some 16, none, .op (.mov (.t 0))⟩,
     ⟨some 17, none, .op (.mov (.t 1))⟩,
     ⟨some 18, none, .op (.mov (.t 2))⟩,
     ⟨some 19, none, .op (.build [(.v (.pointer none)), (.v (.pointer none)), (.bool false), (.bool false), (.bool false), (.bool false), (.bool false), (.bool false), (.bool false), (.bool false), (.v .nilFunc)] [(0, 1, (.t 16)), (1, 1, (.t 17)), (10, 1, (.t 18))])⟩,
     ⟨some 20, none, .op (.box (.t 19))⟩,
     ⟨some 11, none, .op (.mov (.t 20))⟩]) (.seq (.seq (.region [⟨some 21, none, .op (.mov (.t 10))⟩,
      ⟨some 22, none, .op (.mov (.c (.int .i64 0)))⟩]) (.block 0 (.loop a_i_product_l1))) a_i_product_k1))
theorem r_i_product : readF Try.prog 144 = some ⟨60, a_i_product, []⟩ := by kernel_rfl
theorem c_i_product (N : Nat) (d e : List Nat) (hd : okD d) (he : okD e) (hds : isS N d = true) (hes : isS N e = true) :
    Am.Fn Try.prog 144 [.ptr 0 0, .ptr 1 0, .fn 145 [] [], .fn 146 [] [.ptr 2 0], .fn 147 [] [.ptr 3 0]] (H4 N d e (List.replicate 16 0) 0) (fun v H' => v = .tup [] ∧ H' = H4 N d e (prodL N d e) (lpN N d e N)) := by
  refine Am.Fn.ofB B83_ok mixed r_i_product (by simp [AV.unders, AV.under, H4]) H4_under ?_
  obtain ⟨hN, hpd, _⟩ := isS_mate hds
  obtain ⟨_, hpe, _⟩ := isS_mate hes
  have hdl := hd.1
  have hel := he.1
  have o1 : over [AV.v (.pointer none), .v (.pointer none), .bool false, .bool false, .bool false, .bool false, .bool false, .bool false, .bool false, .bool false, .v .nilFunc] 0 [.ptr 0 0] = [.ptr 0 0, .v (.pointer none), .bool false, .bool false, .bool false, .bool false, .bool false, .bool false, .bool false, .bool false, .v .nilFunc] := rfl
  have o2 : over [AV.ptr 0 0, .v (.pointer none), .bool false, .bool false, .bool false, .bool false, .bool false, .bool false, .bool false, .bool false, .v .nilFunc] 1 [.ptr 1 0] = [.ptr 0 0, .ptr 1 0, .bool false, .bool false, .bool false, .bool false, .bool false, .bool false, .bool false, .bool false, .v .nilFunc] := rfl
  have o3 : over [AV.ptr 0 0, .ptr 1 0, .bool false, .bool false, .bool false, .bool false, .bool false, .bool false, .bool false, .bool false, .v .nilFunc] 10 [.fn 145 [] []] = stk 0 1 (List.replicate 8 false) := rfl
  have l1 : ([AV.ptr 0 0, .v (.pointer none), .bool false, .bool false, .bool false, .bool false, .bool false, .bool false, .bool false, .bool false, .v .nilFunc] : List AV).length = 11 := rfl
  have l2 : ([AV.ptr 0 0, .ptr 1 0, .bool false, .bool false, .bool false, .bool false, .bool false, .bool false, .bool false, .bool false, .v .nilFunc] : List AV).length = 11 := rfl
  unfold H4
  simp (maxSteps := 3000000) only [over4E, heapL, fillA, rd, wrt, wrl, AO.withl, a_i_product, B83_i_Diagram_n_L7, B83_i_stack_follow_L7, B83_i_times_2_L7, B83_i_times_3_L7, g_looped, g_n, g_set, g_sfollow, dia_length, hdl, hel, dia_get0, dia_take1', o1, o2, o3, l1, l2, AV.one, Int.reduceEq, Int.reduceNe, Int.reduceBEq, Int.reduceBNe, Int.reduceLT, Int.reduceLE, Int.reduceAdd, Int.reduceSub, Int.reduceMul, idX_eq, wbE, ↓symP, symE, listE, AK.isCall, enumE, ev, putE, abin, aun, AV.cells, ↓reduceIte, reduceCtorEq, Nat.reduceAdd, Nat.reduceMul, Nat.reduceSub, Nat.reduceEqDiff, Nat.reduceLT, Nat.reduceLeDiff, implies_true, Back, retv, retV, AV.scal, AV.scals]; try simp only [idX_eq, ite_both, pickP_both, not_not_eq, Bool.not_eq_false, Bool.not_eq_true]
  have hdo := diaOf_dia (n := (N : Int)) hd
  have heo := diaOf_dia (n := (N : Int)) he
  have hN0 : (0 : Int) ≤ (N : Int) := by omega
  refine WA.loopB B83_ok (fun s => ∃ k : Nat, k ≤ N ∧ s = ⟨[(22, .int .i64 k), (21, .int .i64 N), (11, .ptr 4 0), (10, .int .i64 N), (4, .fn 147 [] [.ptr 3 0]), (3, .fn 146 [] [.ptr 2 0])], [.ro (dia N d), .ro (dia N e), .cells (dia N (prodK N d e k)), .cells [.int .i64 0], .cells (stk 0 1 (metK N d e k))]⟩)
    (fun s => match get s.env 22 with | .int _ x => N - x.toNat | _ => 0) ⟨_, Weak.slots [22, 21, 11, 10, 4, 3], 0, by omega, rfl⟩ ?_
  rintro s ⟨k, hk, rfl⟩
  have hw : wrapK .i64 ((k : Int) + 1) = ((k + 1 : Nat) : Int) := by rw [wrap64 (by omega) (by omega)]; rfl
  by_cases hlt : k < N
  · have hli : (k : Int) < (N : Int) := by omega
    have hk16 := prodK_length N d e k
    have hmk := (metK_ok hds hes k hk).len
    have hx1 := pr_lt hds hes (i := k) (by omega)
    have hx2 := pr_lt hds hes (i := N + k) (by omega)
    have hadd : wrapK .i64 ((N : Int) + (k : Int)) = ((N + k : Nat) : Int) := by rw [wrap64 (by omega) (by omega)]; rfl
    have k1 : (0 : Int) ≤ (k : Int) ∧ (k : Int) < 2 * (N : Int) := by omega
    have k2 : (0 : Int) ≤ ((N + k : Nat) : Int) ∧ ((N + k : Nat) : Int) < 2 * (N : Int) := by omega
    have q1 : (false = decide ((N : Int) ≤ (k : Int))) = True := by simp; omega
    have q2 : (true = decide ((N : Int) ≤ ((N + k : Nat) : Int))) = True := by simp; omega
    have hf1 : (fol N d e true k (metK N d e k)).length = 8 := by rw [fol_len hds hes (by omega) (by simp [hlt])]; exact hmk
    have s1 := stkOf_stk (a := 0) (b := 1) hmk
    have s2 := stkOf_stk (a := 0) (b := 1) hf1
    have d0 := diaOf_dia (n := (N : Int)) (okD_set (okD_prodK hds hes hk) (i := k) (x := pr N d e k) (by omega))
    have d1 := diaOf_dia (n := (N : Int)) (okD_prodK hds hes hk)
    have p1 : ((0 : Int) ≤ (k : Int) ∧ (k : Int) < 16) ∧ (0 : Int) ≤ ((pr N d e k : Nat) : Int) ∧ ((pr N d e k : Nat) : Int) < 256 := by omega
    have p2 : ((0 : Int) ≤ ((N + k : Nat) : Int) ∧ ((N + k : Nat) : Int) < 16) ∧ (0 : Int) ≤ ((pr N d e (N + k) : Nat) : Int) ∧ ((pr N d e (N + k) : Nat) : Int) < 256 := by omega
    simp (maxSteps := 3000000) only [over4E, heapL, fillA, rd, wrt, wrl, AO.withl, a_i_product_l1, B83_i_Diagram_n_L7, B83_i_stack_follow_L7, B83_i_times_2_L7, B83_i_times_3_L7, g_looped, g_n, g_set, g_sfollow, rdD, hw, hli, dia_length, hdl, hel, dia_take17 hdl, dia_take17 hel, hdo, heo, s1, s2, d0, d1, p1, p2, Int.toNat_natCast, hds, hes, k1, k2, hN0, q1, q2, hadd, AV.one, and_self, true_and, and_true, Bool.not_true, Bool.not_false, Ne, not_false_iff, not_false_eq_true, Nat.reduceEqDiff, reduceCtorEq, Int.reduceEq, Int.reduceNe, Int.reduceBEq, Int.reduceBNe, Int.reduceLT, Int.reduceLE, Int.reduceAdd, Int.reduceSub, Int.reduceMul, idX_eq, wbE, ↓symP, symE, listE, AK.isCall, enumE, ev, putE, abin, aun, AV.cells, ↓reduceIte, reduceCtorEq, Nat.reduceAdd, Nat.reduceMul, Nat.reduceSub, Nat.reduceEqDiff, Nat.reduceLT, Nat.reduceLeDiff, implies_true, Back, retv, retV, AV.scal, AV.scals]; try simp only [idX_eq, ite_both, pickP_both, not_not_eq, Bool.not_eq_false, Bool.not_eq_true]
    refine ⟨_, Weak.slots [22, 21, 11, 10, 4, 3], ⟨k + 1, by omega, rfl⟩, ?_⟩
    simp only [keptL, keptW, keptE, kepts, slots, ↓reduceIte, reduceCtorEq, Nat.reduceEqDiff, AV.ren, AV.rens, pos, Nat.reduceAdd]; omega
  have hli : ¬ (k : Int) < (N : Int) := by omega
  obtain rfl : k = N := by omega
  simp (maxSteps := 3000000) only [over4E, heapL, fillA, rd, wrt, wrl, AO.withl, a_i_product_l1, a_i_product_k1, B83_i_Diagram_n_L7, B83_i_stack_follow_L7, B83_i_times_2_L7, B83_i_times_3_L7, g_looped, g_n, g_set, g_sfollow, hli, Int.lt_irrefl, Int.reduceEq, Int.reduceNe, Int.reduceBEq, Int.reduceBNe, Int.reduceLT, Int.reduceLE, Int.reduceAdd, Int.reduceSub, Int.reduceMul, idX_eq, wbE, ↓symP, symE, listE, AK.isCall, enumE, ev, putE, abin, aun, AV.cells, ↓reduceIte, reduceCtorEq, Nat.reduceAdd, Nat.reduceMul, Nat.reduceSub, Nat.reduceEqDiff, Nat.reduceLT, Nat.reduceLeDiff, implies_true, Back, retv, retV, AV.scal, AV.scals]; try simp only [idX_eq, ite_both, pickP_both, not_not_eq, Bool.not_eq_false, Bool.not_eq_true]
  refine WA.loopB B83_ok (fun s => ∃ (i : Nat) (met : List Bool), i ≤ k ∧ (met.length = 8 ∧ ∀ x, mt met x ↔ Seen k d e i x) ∧ s = ⟨[(43, .int .i64 i), (42, .int .i64 k), (11, .ptr 4 0), (4, .fn 147 [] [.ptr 3 0])], [.ro (dia k d), .ro (dia k e), .cells (dia k (prodL k d e)), .cells [.int .i64 (lpN k d e i : Nat)], .cells (stk 0 1 met)]⟩)
    (fun s => match get s.env 43 with | .int _ x => k - x.toNat | _ => 0) ⟨_, Weak.slots [43, 42, 11, 4], 0, metK k d e k, by omega, ⟨(metK_ok hds hes k (Nat.le_refl _)).len, fun x => ⟨.inl, fun h => h.elim id fun ⟨j, hj, _⟩ => absurd hj (Nat.not_lt_zero _)⟩⟩, rfl⟩ ?_
  clear hlt hli hw
  rintro s ⟨i, met, hi, ⟨hml, hmt⟩, rfl⟩
  have hw : wrapK .i64 ((i : Int) + 1) = ((i + 1 : Nat) : Int) := by rw [wrap64 (by omega) (by omega)]; rfl
  have hle := lpN_le k d e i
  by_cases hlt : i < k
  · have hli : (i : Int) < (k : Int) := by omega
    have g1 := small8 (show i < 8 by omega)
    have g2 : 2 + i < 8 + 3 := by omega
    have g3 := stk_get (a := 0) (b := 1) hml (show i < 8 by omega)
    by_cases hs : Seen k d e i i
    · have hm1 : met.getD i false = true := (hmt i).2 hs
      simp (maxSteps := 3000000) only [over4E, heapL, fillA, rd, wrt, wrl, AO.withl, a_i_product_l2, B83_i_Diagram_n_L7, B83_i_stack_follow_L7, B83_i_times_2_L7, B83_i_times_3_L7, g_looped, g_n, g_set, g_sfollow, hw, hli, g1, g2, g3, hm1, stk_length, hml, Bool.not_true, Int.reduceEq, Int.reduceNe, Int.reduceBEq, Int.reduceBNe, Int.reduceLT, Int.reduceLE, Int.reduceAdd, Int.reduceSub, Int.reduceMul, idX_eq, wbE, ↓symP, symE, listE, AK.isCall, enumE, ev, putE, abin, aun, AV.cells, ↓reduceIte, reduceCtorEq, Nat.reduceAdd, Nat.reduceMul, Nat.reduceSub, Nat.reduceEqDiff, Nat.reduceLT, Nat.reduceLeDiff, implies_true, Back, retv, retV, AV.scal, AV.scals]; try simp only [idX_eq, ite_both, pickP_both, not_not_eq, Bool.not_eq_false, Bool.not_eq_true]
      refine ⟨_, Weak.slots [43, 42, 11, 4], ⟨i + 1, met, by omega, ⟨hml, fun x => by rw [hmt, seen_old hds hes hs]⟩, ?_⟩, ?_⟩
      · simp only [keptL, keptW, keptE, kepts, slots, ↓reduceIte, reduceCtorEq, Nat.reduceEqDiff, AV.ren, AV.rens, pos, Nat.reduceAdd]
        simp only [lpN, if_pos hs]
      · simp only [keptL, keptW, keptE, kepts, slots, ↓reduceIte, reduceCtorEq, Nat.reduceEqDiff, AV.ren, AV.rens, pos, Nat.reduceAdd]; omega
    · have hm1 : met.getD i false = false := by
        cases h : met.getD i false with
        | false => rfl
        | true => exact absurd ((hmt i).1 h) hs
      have s1 := stkOf_stk (a := 0) (b := 1) hml
      have k1 : (0 : Int) ≤ (i : Int) ∧ (i : Int) < (k : Int) := by omega
      have q1 : ((i : Int) = -1) = False := eq_false (by omega)
      have q2 : (∀ x, mt met x ↔ Seen k d e i x) = True := eq_true hmt
      have q3 : Seen k d e i i = False := eq_false hs
      have q4 : (0 : Int) ≤ ((lpN k d e i : Nat) : Int) ∧ ((lpN k d e i : Nat) : Int) ≤ 1000 := by omega
      have q5 : ((lpN k d e i : Nat) : Int) + 1 = ((lpN k d e i + 1 : Nat) : Int) := rfl
      simp (maxSteps := 3000000) only [over4E, heapL, fillA, rd, wrt, wrl, AO.withl, a_i_product_l2, B83_i_Diagram_n_L7, B83_i_stack_follow_L7, B83_i_times_2_L7, B83_i_times_3_L7, g_looped, g_n, g_set, g_sfollow, rdD, hw, hli, g1, g2, g3, hm1, stk_length, hml, Bool.not_false, dia_length, hdl, hel, dia_take17 hdl, dia_take17 hel, hdo, heo, s1, Int.toNat_natCast, hds, hes, k1, hN0, q1, q2, q3, q4, q5, AV.one, and_self, true_and, and_true, Ne, not_false_iff, not_false_eq_true, if_false, Nat.reduceEqDiff, reduceCtorEq, Int.reduceEq, Int.reduceNe, Int.reduceBEq, Int.reduceBNe, Int.reduceLT, Int.reduceLE, Int.reduceAdd, Int.reduceSub, Int.reduceMul, idX_eq, wbE, ↓symP, symE, listE, AK.isCall, enumE, ev, putE, abin, aun, AV.cells, ↓reduceIte, reduceCtorEq, Nat.reduceAdd, Nat.reduceMul, Nat.reduceSub, Nat.reduceEqDiff, Nat.reduceLT, Nat.reduceLeDiff, implies_true, Back, retv, retV, AV.scal, AV.scals]; try simp only [idX_eq, ite_both, pickP_both, not_not_eq, Bool.not_eq_false, Bool.not_eq_true]
      refine ⟨_, Weak.slots [43, 42, 11, 4], ⟨i + 1, loopM k d e i met, by omega, ⟨by simp [loopM], fun x => ?_⟩, ?_⟩, ?_⟩
      · rw [seen_new hlt hs]
        by_cases hx : x < 8
        · rw [loopM_mt hx, hmt]
        · constructor
          · intro h
            simp [mt, loopM, List.getD_eq_getElem?_getD, hx] at h
          · intro h
            have : x < k := by
              rcases h with h | h
              · exact seen_lt hds hes h
              · exact (Ring.mem (dm_inv hds hes) (em_inv hds hes) ⟨hlt, fun h => hs (.inl h)⟩ h).1
            omega
      · simp only [keptL, keptW, keptE, kepts, slots, ↓reduceIte, reduceCtorEq, Nat.reduceEqDiff, AV.ren, AV.rens, pos, Nat.reduceAdd]
        simp only [lpN, if_neg hs]
      · simp only [keptL, keptW, keptE, kepts, slots, ↓reduceIte, reduceCtorEq, Nat.reduceEqDiff, AV.ren, AV.rens, pos, Nat.reduceAdd]; omega
  · have hli : ¬ (i : Int) < (k : Int) := by omega
    obtain rfl : i = k := by omega
    simp (maxSteps := 3000000) only [over4E, heapL, fillA, rd, wrt, wrl, AO.withl, a_i_product_l2, B83_i_Diagram_n_L7, B83_i_stack_follow_L7, B83_i_times_2_L7, B83_i_times_3_L7, g_looped, g_n, g_set, g_sfollow, hli, Int.lt_irrefl, Int.reduceEq, Int.reduceNe, Int.reduceBEq, Int.reduceBNe, Int.reduceLT, Int.reduceLE, Int.reduceAdd, Int.reduceSub, Int.reduceMul, idX_eq, wbE, ↓symP, symE, listE, AK.isCall, enumE, ev, putE, abin, aun, AV.cells, ↓reduceIte, reduceCtorEq, Nat.reduceAdd, Nat.reduceMul, Nat.reduceSub, Nat.reduceEqDiff, Nat.reduceLT, Nat.reduceLeDiff, implies_true, Back, retv, retV, AV.scal, AV.scals]; try simp only [idX_eq, ite_both, pickP_both, not_not_eq, Bool.not_eq_false, Bool.not_eq_true]
    refine Ret.keep [0, 1, 2, 3] ⟨⟨by simp, rfl, by decide⟩, ?_⟩ (rs := []) rfl rfl (by simp [retV]) ?_ ⟨rfl, ?_⟩
    · simp only [withins_scal _ _ (scals_dia _ _), keepW, keepL, AV.within, AV.withins, ↓reduceIte, reduceCtorEq, Nat.reduceEqDiff, Nat.reduceBEq, implies_true, Nat.reduceAdd]
    · intro j l h
      match j, h with
      | 0, _ => exact ⟨_, rfl⟩
      | 1, _ => exact ⟨_, rfl⟩
      | 2, h => simp [kepts, AO.ren] at h
      | 3, h => simp [kepts, AO.ren] at h
      | j + 4, h => simp [kepts] at h
    · simp only [rens_scal _ _ (scals_dia _ _), keptL, keptW, keptE, kepts, slots, ↓reduceIte, reduceCtorEq, Nat.reduceEqDiff, AV.ren, AV.rens, pos, Nat.reduceAdd]
end Go.Proofs.Ytkgoadglalpbfaa

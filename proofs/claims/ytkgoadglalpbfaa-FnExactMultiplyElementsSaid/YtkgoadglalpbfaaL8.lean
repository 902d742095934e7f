/- Contracts: products of diagrams, the implementation, as callees. -/
import Derived.Test.YtkgoadglalpbfaaL7
namespace Go.Proofs.Ytkgoadglalpbfaa
open Go.Am Go.Dia
set_option linter.unusedSimpArgs false
set_option linter.unusedVariables false
set_option maxRecDepth 4000
set_option maxHeartbeats 1000000

noncomputable def g_product : BE := fun hp xs => match xs with
  | [.ptr b1 0, .ptr b2 0, .fn 145 [] [], .fn 146 [] [.ptr b3 0], .fn 147 [] [.ptr b4 0]] => match rdD hp b1, rdD hp b2, hp[b3]?, hp[b4]? with
    | some (n, d), some (n', e), some (.cells l), some (.cells [.int .i64 k]) => match diaOf l with
      | some (n2, m) => chk ((n' = n ∧ n2 = n ∧ 0 ≤ n ∧ k = 0) ∧ (isS n.toNat d = true ∧ isS n.toNat e = true) ∧ m = List.replicate 16 0 ∧ b3 ≠ b1 ∧ b4 ≠ b1 ∧ b3 ≠ b2 ∧ b4 ≠ b2 ∧ b4 ≠ b3)
          (some (.tup [], (hp.set b3 (.cells (dia n (prodL n.toNat d e)))).set b4 (.cells [.int .i64 (lpN n.toNat d e n.toNat : Nat)])))
      | none => none
    | _, _, _, _ => none
  | _ => none
theorem rdD_some {hp : List AO} {b N : Nat} {m : List Nat} (h : rdD hp b = some ((N : Int), m)) : okD m ∧ ∀ ρ, Fits hp ρ b 0 (.ro (dia N m)) := by
  unfold rdD at h
  split at h
  · rename_i L hL
    obtain ⟨e1, hok⟩ := diaOf_some h
    have hlen : (dia (N : Int) m).length = 17 := by rw [dia_length, hok.1]
    have hLl : 17 ≤ L.length := by
      have := congrArg List.length e1
      rw [hlen, List.length_take] at this
      omega
    exact ⟨hok, fun ρ => ⟨L, hL, by rw [hlen]; omega, by rw [List.drop_zero, rens_scal _ _ (scals_dia _ _), hlen]; exact e1⟩⟩
  · cases h
theorem k_product : Am.Callee Try.prog 144 g_product := Callee.fp fun hp xs v hp' he => by
  unfold g_product at he
  split at he
  · rename_i b1 b2 b3 b4
    split at he
    · rename_i n d n' e l k hd1 he1 h3 h4
      split at he
      · rename_i n2 m hm1
        obtain ⟨⟨⟨a1, a2, a3, a4⟩, ⟨a5, a6⟩, a7, a8, a9, a10, a11, a12⟩, he2⟩ := chk_some he
        simp only [Option.some.injEq, Prod.mk.injEq] at he2
        obtain ⟨rfl, rfl⟩ := he2
        obtain ⟨rfl, hm⟩ := diaOf_some hm1
        subst a1; subst a2; subst a4; subst a7
        obtain ⟨N, rfl⟩ : ∃ N : Nat, n2 = N := ⟨n2.toNat, by omega⟩
        simp only [Int.toNat_natCast] at a5 a6 ⊢
        obtain ⟨hd, f1⟩ := rdD_some hd1
        obtain ⟨he', f2⟩ := rdD_some he1
        refine ⟨[(b1, 0), (b2, 0), (b3, 0), (b4, 0)], [.ptr 0 0, .ptr 1 0, .fn 145 [] [], .fn 146 [] [.ptr 2 0], .fn 147 [] [.ptr 3 0]], H4 N d e (List.replicate 16 0) 0, _, _, c_i_product N d e hd he' a5 a6, by simp [AV.ren, AV.rens, ofL], by simp [noTopB],
          ⟨f1 _, f2 _, ⟨rfl, by rw [h3]; simp only [AO.ren, rens_scal _ _ (scals_dia _ _)]⟩, ⟨rfl, by rw [h4]; simp [AO.ren, AV.rens, AV.ren]⟩, trivial⟩, by simp [apartB, H4, AO.wr, a8, a9, a10, a11, a12], ⟨unders_scal _ _ (scals_dia _ _), unders_scal _ _ (scals_dia _ _), unders_scal _ _ (scals_dia _ _), ⟨trivial, trivial⟩, trivial⟩, by simp [AV.unders, AV.under, H4], by simp [AV.ren, AV.rens], ?_⟩
        simp [after, upd, AO.wr, AO.ren, H4, AV.rens, AV.ren, rens_scal _ _ (scals_dia _ _)]
      · cases he
    · cases he
  · cases he
noncomputable def B84 : Book := (B83.put 144 (g_product))

theorem B84_ok : BookOk Try.prog B84 := (B83_ok.put (k_product))

theorem B84_i_times_1_L8 : B84 145 = some (plainE g_each) := rfl
theorem B84_i_times_2_L8 : B84 146 = some (g_set) := rfl
theorem B84_i_times_3_L8 : B84 147 = some (g_looped) := rfl
theorem B84_i_product_L8 : B84 144 = some (g_product) := rfl

def a_i_times_t1 : AT := (.one ⟨some 14, none, .op (.loadN 17 (.t 6))⟩
     (.alt ⟨some 15, none, .op (.load1 (.t 7))⟩
     (.one ⟨none, none, .op (.storeN 17 (.t 4) (.t 14))⟩
      (.one ⟨some 5, none, .op (.mov (.t 15))⟩
      (.nil)))
     (.alt ⟨none, none, .op (.storeN 17 (.t 4) (.t 14))⟩
     (.one ⟨some 15, none, .op (.load1 (.t 7))⟩
      (.one ⟨some 5, none, .op (.mov (.t 15))⟩
      (.nil)))
     (.none))))
def a_i_times : AC := .seq (.region [⟨some 2, none, .op (.box (.t 0))⟩,
     ⟨some 3, none, .op (.box (.t 1))⟩,
     ⟨some 4, none, .op (.alloc [(.int .i64 0), (.int .u8 0), (.int .u8 0), (.int .u8 0), (.int .u8 0), (.int .u8 0), (.int .u8 0), (.int .u8 0), (.int .u8 0), (.int .u8 0), (.int .u8 0), (.int .u8 0), (.int .u8 0), (.int .u8 0), (.int .u8 0), (.int .u8 0), (.int .u8 0)])⟩,
     ⟨some 5, none, .op (.mov (.c (.int .i64 0)))⟩]) (.seq (.region [⟨some 8, none, .op (.faddr 0 (.t 2))⟩,
     ⟨some 9, none, .op (.load1 (.t 8))⟩,
     ⟨some 10, none, .op (.build [(.int .i64 0), (.int .u8 0), (.int .u8 0), (.int .u8 0), (.int .u8 0), (.int .u8 0), (.int .u8 0), (.int .u8 0), (.int .u8 0), (.int .u8 0), (.int .u8 0), (.int .u8 0), (.int .u8 0), (.int .u8 0), (.int .u8 0), (.int .u8 0), (.int .u8 0)] [(0, 1, (.t 9))])⟩,
     ⟨some 6, none, .op (.alloc [(.int .i64 0), (.int .u8 0), (.int .u8 0), (.int .u8 0), (.int .u8 0), (.int .u8 0), (.int .u8 0), (.int .u8 0), (.int .u8 0), (.int .u8 0), (.int .u8 0), (.int .u8 0), (.int .u8 0), (.int .u8 0), (.int .u8 0), (.int .u8 0), (.int .u8 0)])⟩,
     ⟨some 7, none, .op (.alloc [(.int .i64 0)])⟩,
     ⟨none, none, .op (.storeN 17 (.t 6) (.t 10))⟩,
     ⟨none, none, .op (.store1 (.t 7) (.c (.int .i64 0)))⟩]) (.seq (.region [⟨some 11, none, .op (.mkfn 146 [] [(.t 6)])⟩,
     ⟨some 12, none, .op (.mkfn 147 [] [(.t 7)])⟩,
     ⟨some 13, none, .call (.c (.fn 144 [] [])) [(.t 2), (.t 3), (.c (.fn 145 [] [])), (.t 11), (.t 12)]⟩]) (.seq (.tree false a_i_times_t1) .ret)))
theorem r_i_times : readF Try.prog 127 = some ⟨16, a_i_times, [.cellN 4 17, .slot 5]⟩ := by kernel_rfl
theorem c_i_times (N : Nat) (d e : List Nat) (hd : okD d) (he : okD e) (hds : isS N d = true) (hes : isS N e = true) :
    Am.Fn Try.prog 127 [.agg (dia N d), .agg (dia N e)] [] (fun v H' => v = .tup [.agg (dia N (prodL N d e)), .int .i64 (lpN N d e N : Nat)] ∧ H' = []) := by
  refine Am.Fn.sameB (R := fun v => v = _) B84_ok mixed r_i_times (by simp) (by simp) ?_
  obtain ⟨hN, hpd, _⟩ := isS_mate hds
  have hdl := hd.1
  have hel := he.1
  have hdo := diaOf_dia (n := (N : Int)) hd
  have heo := diaOf_dia (n := (N : Int)) he
  have hzo := diaOf_dia (n := (N : Int)) (m := List.replicate 16 0) ⟨by simp, fun y hy => by simp at hy; omega⟩
  have hN0 : (0 : Int) ≤ (N : Int) := by omega
  simp (maxSteps := 3000000) only [over4E, heapL, fillA, rd, wrt, wrl, AO.withl, a_i_times, B84_i_times_1_L8, B84_i_times_2_L8, B84_i_times_3_L8, B84_i_product_L8, g_each, g_looped, g_product, g_set, rdD, dia_zero, dia_zero_len, dia_sized', dia_length, hdl, hel, dia_get0, ones_dia, over_dia okD_zero okD_zero, List.length_replicate, dia_take17 hdl, dia_take17 hel, hdo, heo, hzo, hds, hes, hN0, Int.toNat_natCast, AV.one, and_self, true_and, and_true, Ne, not_false_iff, not_false_eq_true, Nat.reduceEqDiff, reduceCtorEq, List.all_nil, List.all_cons, List.map_nil, List.map_cons, Bool.and_self, Int.reduceEq, Int.reduceNe, Int.reduceBEq, Int.reduceBNe, Int.reduceLT, Int.reduceLE, Int.reduceAdd, Int.reduceSub, Int.reduceMul, idX_eq, wbE, ↓symP, symE, listE, AK.isCall, enumE, ev, putE, abin, aun, AV.cells, ↓reduceIte, reduceCtorEq, Nat.reduceAdd, Nat.reduceMul, Nat.reduceSub, Nat.reduceEqDiff, Nat.reduceLT, Nat.reduceLeDiff, implies_true, Back, retv, retV, AV.scal, AV.scals]; try simp only [idX_eq, ite_both, pickP_both, not_not_eq, Bool.not_eq_false, Bool.not_eq_true]
  have hp16 : (prodL N d e).length = 16 := prodK_length N d e N
  refine WA.treeB B84_ok (fun s => s = ⟨[(5, .int .i64 (lpN N d e N : Nat)), (4, .ptr 2 0)], [.cells (dia N d), .cells (dia N e), .cells (dia N (prodL N d e)), .cells (dia N (prodL N d e)), .cells [.int .i64 (lpN N d e N : Nat)]]⟩) ?_ ?_
  · unfold a_i_times_t1
    simp (maxSteps := 3000000) only [over4E, heapL, fillA, rd, wrt, wrl, AO.withl, wbTT_alt, wbTT_no, dia_length, hp16, dia_take17 hp16, ones_dia, over_dia okD_zero hp16, List.length_replicate, Nat.le_refl, AV.one, Int.reduceEq, Int.reduceNe, Int.reduceBEq, Int.reduceBNe, Int.reduceLT, Int.reduceLE, Int.reduceAdd, Int.reduceSub, Int.reduceMul, idX_eq, wbE, ↓symP, symE, listE, AK.isCall, enumE, ev, putE, abin, aun, AV.cells, ↓reduceIte, reduceCtorEq, Nat.reduceAdd, Nat.reduceMul, Nat.reduceSub, Nat.reduceEqDiff, Nat.reduceLT, Nat.reduceLeDiff, implies_true, Back, retv, retV, AV.scal, AV.scals]; try simp only [idX_eq, ite_both, pickP_both, not_not_eq, Bool.not_eq_false, Bool.not_eq_true]
    repeat' (with_reducible refine And.intro ?_ ?_)
    all_goals exact ⟨_, Weak.slots [5, 4], rfl⟩
  rintro s rfl
  simp (maxSteps := 3000000) only [over4E, heapL, fillA, rd, wrt, wrl, AO.withl, dia_length, hp16, dia_take17 hp16, Int.reduceEq, Int.reduceNe, Int.reduceBEq, Int.reduceBNe, Int.reduceLT, Int.reduceLE, Int.reduceAdd, Int.reduceSub, Int.reduceMul, idX_eq, wbE, ↓symP, symE, listE, AK.isCall, enumE, ev, putE, abin, aun, AV.cells, ↓reduceIte, reduceCtorEq, Nat.reduceAdd, Nat.reduceMul, Nat.reduceSub, Nat.reduceEqDiff, Nat.reduceLT, Nat.reduceLeDiff, implies_true, Back, retv, retV, AV.scal, AV.scals]; try simp only [idX_eq, ite_both, pickP_both, not_not_eq, Bool.not_eq_false, Bool.not_eq_true]
  simp only [scals_dia, Bool.and_self]
noncomputable def B85 : Book := (B84.put 127 (plainE g_times))

theorem B85_ok : BookOk Try.prog B85 := (B84_ok.put (k_times_of c_i_times))

end Go.Proofs.Ytkgoadglalpbfaa

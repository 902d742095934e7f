/- Contracts: elements that a law is handed. -/
import Derived.Test.YtkgoadglalpbfaaF9
namespace Go.Proofs.Ytkgoadglalpbfaa
open Go.Am Go.Dia
set_option linter.unusedSimpArgs false
set_option linter.unusedVariables false
set_option maxRecDepth 4000
set_option maxHeartbeats 1000000

theorem B30_w_toDiagram_G1 : B30 24 = some (plainE g_dia) := rfl

def a_w_toTerm : AC := .seq (.region [⟨some 1, none, .op (.box (.t 0))⟩,
     ⟨some 2, none, .op (.alloc [(.int .i64 0), (.int .u8 0), (.int .u8 0), (.int .u8 0), (.int .u8 0), (.int .u8 0), (.int .u8 0), (.int .u8 0), (.int .u8 0), (.int .u8 0), (.int .u8 0), (.int .u8 0), (.int .u8 0), (.int .u8 0), (.int .u8 0), (.int .u8 0), (.int .u8 0), (.int .i64 0)])⟩]) (.seq (.region [⟨some 3, none, .op (.alloc [(.int .i64 0), (.int .u8 0), (.int .u8 0), (.int .u8 0), (.int .u8 0), (.int .u8 0), (.int .u8 0), (.int .u8 0), (.int .u8 0), (.int .u8 0), (.int .u8 0), (.int .u8 0), (.int .u8 0), (.int .u8 0), (.int .u8 0), (.int .u8 0), (.int .u8 0), (.int .i64 0)])⟩]) (.seq (.region [⟨some 4, none, .op (.faddr 0 (.t 1))⟩,
     ⟨some 5, none, .op (.loadN 17 (.t 4))⟩,
     ⟨some 6, none, .call (.c (.fn 24 [] [])) [(.t 5)]⟩,
     ⟨some 7, none, .op (.faddr 0 (.t 3))⟩,
     ⟨none, none, .op (.storeN 17 (.t 7) (.t 6))⟩]) (.seq (.region [⟨some 8, none, .op (.faddr 17 (.t 1))⟩,
     ⟨some 9, none, .op (.load1 (.t 8))⟩,
     ⟨some 10, none, .op (.faddr 17 (.t 3))⟩,
     ⟨none, none, .op (.store1 (.t 10) (.t 9))⟩]) (.seq (.region [⟨some 11, none, .op (.loadN 18 (.t 3))⟩,
     ⟨none, none, .op (.storeN 18 (.t 2) (.t 11))⟩]) .ret))))
theorem r_w_toTerm : readF Try.prog 98 = some ⟨12, a_w_toTerm, [.cellN 2 18]⟩ := by kernel_rfl
theorem c_toTerm (t : Int × List Nat × Int) (ht : okD t.2.1) : Am.Fn Try.prog 98 [.agg (trm t)] [] (fun v H' => v = .agg (trm t) ∧ H' = []) := by
  refine Am.Fn.sameB (R := fun v => v = _) B30_ok mixed r_w_toTerm (by simp) (by simp) ?_
  obtain ⟨n, m, k⟩ := t
  simp only at ht
  have e1 : List.take 17 (trm (n, m, k)) = dia n m := trm_dia (t := (n, m, k)) ht
  have e3 : (trm (n, m, k))[17]? = some (.int .i64 k) := trm_factor (t := (n, m, k)) ht
  have e2 : (trm (n, m, 0)).set 17 (.int .i64 k) = trm (n, m, k) := trm_set17 (t := (n, m, 0)) ht
  simp (maxSteps := 3000000) only [over4E, heapL, fillA, rd, wrt, wrl, AO.withl, a_w_toTerm, B30_w_toDiagram_G1, g_dia, trm_zero, trm_zero_len, trm_len, ht.1, diaOf_dia ht, e1, e2, e3, over_trm0 ht.1, dia_length, over_trm (t := (0, List.replicate 16 0, 0)) (u := (n, m, k)) (by simp) ht.1, trm_take18 (t := (n, m, k)) ht.1, ones_trm, ones_dia, AV.one, List.length_replicate, Int.reduceEq, Int.reduceNe, Int.reduceBEq, Int.reduceBNe, Int.reduceLT, Int.reduceLE, Int.reduceAdd, Int.reduceSub, Int.reduceMul, idX_eq, wbE, ↓symP, symE, listE, AK.isCall, enumE, ev, putE, abin, aun, AV.cells, ↓reduceIte, reduceCtorEq, Nat.reduceAdd, Nat.reduceMul, Nat.reduceSub, Nat.reduceEqDiff, Nat.reduceLT, Nat.reduceLeDiff, implies_true, Back, retv, retV, AV.scal, AV.scals]; try simp only [idX_eq, ite_both, pickP_both, not_not_eq, Bool.not_eq_false, Bool.not_eq_true]
  exact scals_trm _

def g_toTerm : List AV → Option AV
  | [.agg l] => match trmOf l with
    | some t => some (.agg (trm t))
    | none => none
  | _ => none
theorem k_toTerm : Am.Callee Try.prog 98 (plainE g_toTerm) := Am.Callee.plain fun xs v he => by
  unfold g_toTerm at he
  split at he
  · split at he
    · rename_i l t ht
      cases he
      obtain ⟨rfl, hm⟩ := trmOf_some ht
      exact ⟨by simp only [AV.scals, AV.scal, scals_trm, Bool.and_self], by simp only [AV.scal, scals_trm], c_toTerm t hm⟩
    · cases he
  · cases he
def B30a : Book := (B30.put 98 (plainE g_toTerm))

theorem B30a_ok : BookOk Try.prog B30a := (B30_ok.put (k_toTerm))

/-- What a law is handed as an element's terms. -/
def ArgX (H : List AO) (X : AV) (ts : List (Int × List Nat × Int)) : Prop :=
  okT ts ∧ ((X = .v (.slice none 0 0) ∧ H = [] ∧ ts = []) ∨ (X = .slc 0 0 0 true 0 ∧ H = [.dead] ∧ ts = []) ∨ ∃ all cap, X = .slc 0 0 ts.length true cap ∧ ts.length ≤ cap ∧ H = [.ro (trms all)] ∧ okT all ∧ all.take ts.length = ts ∧ ts.length ≤ all.length)
def argTs (hp : List AO) (X : AV) : Option (List (Int × List Nat × Int)) := match X with
  | .v (.slice none 0 0) => some []
  | .slc b 0 n true cap => match hp[b]? with
    | some .dead => if n = 0 ∧ cap = 0 then some [] else none
    | some (.ro l) => match tsOf (l.length / 18) l with
      | some all => if l.length = all.length * 18 ∧ n ≤ cap ∧ n ≤ all.length then some (all.take n) else none
      | none => none
    | _ => none
  | _ => none

/-- Off what is handed, the footprint of a call. -/
theorem argTs_some {hp : List AO} {X : AV} {ts : List (Int × List Nat × Int)} (h : argTs hp X = some ts) : ∃ (bs : List (Nat × Nat)) (H : List AO) (X' : AV), ArgX H X' ts ∧ X'.ren (ofL bs) = X ∧ noTopB X = true ∧ FitsL hp (ofL bs) bs H ∧
    apartB bs H = true ∧ AO.undersL H.length H ∧ X'.under H.length ∧ (∀ o ∈ H, o.wr = false) ∧ (∀ bs', after ⟨[], hp⟩ (ofL bs) bs H (H ++ bs') = hp ++ bs'.map (AO.ren ((ofL bs).ext H.length hp.length))) := by
  unfold argTs at h
  split at h
  · cases h
    exact ⟨[], [], .v (.slice none 0 0), ⟨fun t ht => (by cases ht), .inl ⟨rfl, rfl, rfl⟩⟩, rfl, rfl, trivial, rfl, trivial, trivial, by simp, fun bs' => by simp [after, upd]⟩
  · rename_i b n cap
    split at h
    · rename_i hb
      split at h
      · rename_i h0
        cases h
        obtain ⟨rfl, rfl⟩ := h0
        refine ⟨[(b, 0)], [.dead], .slc 0 0 0 true 0, ⟨fun t ht => (by cases ht), .inr (.inl ⟨rfl, rfl, rfl⟩)⟩, by simp [AV.ren, ofL], rfl, ⟨(List.getElem?_eq_some_iff.1 hb).1, trivial⟩, rfl, ⟨trivial, trivial⟩, by simp [AV.under], by simp [AO.wr], fun bs' => ?_⟩
        simp [after, upd, AO.wr]
      · cases h
    · rename_i l hb
      split at h
      · rename_i all hall
        split at h
        · rename_i h0
          cases h
          obtain ⟨e1, e2, e3, e4⟩ := tsOf_some hall
          have hl : l = trms all := by rw [← e3, List.take_of_length_le (by omega)]
          subst hl
          have hlen : (all.take n).length = n := by simp; omega
          refine ⟨[(b, 0)], [.ro (trms all)], .slc 0 0 n true cap, ⟨fun t ht => e2 t (List.mem_of_mem_take ht), .inr (.inr ⟨all, cap, by rw [hlen], by rw [hlen]; exact h0.2.1, rfl, e2, by rw [hlen], by rw [hlen]; exact h0.2.2⟩)⟩, by simp [AV.ren, ofL], rfl, ⟨⟨trms all, by simp [rd, hb], by simp, by simp [rens_scal _ _ (scals_trms _)]⟩, trivial⟩, rfl, ⟨unders_scal _ _ (scals_trms _), trivial⟩, by simp [AV.under], by simp [AO.wr], fun bs' => ?_⟩
          simp [after, upd, AO.wr]
        · cases h
      · cases h
    · cases h
  · cases h
theorem argX_under {H : List AO} {X : AV} {ts : List (Int × List Nat × Int)} (h : ArgX H X ts) : ∀ (j : Nat) (o' : AO), H[j]? = some o' → o'.under H.length := by
  intro j o' hj
  rcases h.2 with ⟨_, rfl, _⟩ | ⟨_, rfl, _⟩ | ⟨all, cap, _, _, rfl, _⟩
  · simp at hj
  · cases j with
    | succ j => simp at hj
    | zero => cases hj; trivial
  · cases j with
    | succ j => simp at hj
    | zero => cases hj; exact unders_scal _ _ (scals_trms _)


def a_w_szTermS : AC := .seq (.region [⟨some 4, none, .op (.mov (.c (.int .i64 0)))⟩]) (.seq (.region [⟨some 5, none, .op (.mov (.t 1))⟩,
     ⟨some 6, none, .op (.mov (.t 0))⟩,
     ⟨some 7, none, .op (.len .slc (.t 6))⟩,
     ⟨some 8, none, .op (.bin .sub (.t 5) (.t 7))⟩,
     ⟨some 1, none, .op (.mov (.t 8))⟩]) (.seq (.seq (.region [⟨some 9, none, .op (.mov (.t 1))⟩,
      ⟨some 10, none, .op (.bin .lss (.t 9) (.c (.int .i64 0)))⟩]) (.cond 10 (.seq (.region [⟨some 4, none, .op (.mov (.c (.int .i64 (-1))))⟩]) .ret) .skip)) (.seq (.region [⟨some 11, none, .op (.mov (.t 1))⟩,
     ⟨some 4, none, .op (.mov (.t 11))⟩]) .ret)))
theorem r_w_szTermS : readF Try.prog 45 = some ⟨12, a_w_szTermS, [.slot 4]⟩ := by kernel_rfl
theorem c_szTermS (H : List AO) (X : AV) (ts : List (Int × List Nat × Int)) (k : Int) (h : ArgX H X ts) (hk : 0 ≤ k ∧ k ≤ 1000000000) (hl : ts.length ≤ 9223372036854775807) :
    Am.Fn Try.prog 45 [X, .int .i64 k] H (fun v H' => v = .int .i64 (if k - ts.length < 0 then -1 else k - ts.length) ∧ H' = H) := by
  refine Am.Fn.sameB (R := fun v => v = _) B30a_ok mixed r_w_szTermS (by simp) (argX_under h) ?_
  have hw : wrapK .i64 (k - (ts.length : Int)) = k - ts.length := wrap64 (by omega) (by omega)
  rcases h.2 with ⟨rfl, rfl, rfl⟩ | ⟨rfl, rfl, rfl⟩ | ⟨all, cap, rfl, hc, rfl, _⟩
  · have hw0 : wrapK .i64 k = k := by simpa using hw
    have hk0 : ¬ (k < 0) := by omega
    simp (maxSteps := 3000000) only [over4E, heapL, fillA, rd, wrt, wrl, AO.withl, a_w_szTermS, Int.reduceEq, Int.reduceNe, Int.reduceBEq, Int.reduceBNe, Int.reduceLT, Int.reduceLE, Int.reduceAdd, Int.reduceSub, Int.reduceMul, hw0, hk0, capOk, cast0, List.length_nil, Int.sub_zero, idX_eq, wbE, ↓symP, symE, listE, AK.isCall, enumE, ev, putE, abin, aun, AV.cells, ↓reduceIte, reduceCtorEq, Nat.reduceAdd, Nat.reduceMul, Nat.reduceSub, Nat.reduceEqDiff, Nat.reduceLT, Nat.reduceLeDiff, implies_true, Back, retv, retV, AV.scal, AV.scals]; try simp only [idX_eq, ite_both, pickP_both, not_not_eq, Bool.not_eq_false, Bool.not_eq_true]
  · have hw0 : wrapK .i64 k = k := by simpa using hw
    have hk0 : ¬ (k < 0) := by omega
    simp (maxSteps := 3000000) only [over4E, heapL, fillA, rd, wrt, wrl, AO.withl, a_w_szTermS, Int.reduceEq, Int.reduceNe, Int.reduceBEq, Int.reduceBNe, Int.reduceLT, Int.reduceLE, Int.reduceAdd, Int.reduceSub, Int.reduceMul, hw0, hk0, capOk, cast0, List.length_nil, Int.sub_zero, idX_eq, wbE, ↓symP, symE, listE, AK.isCall, enumE, ev, putE, abin, aun, AV.cells, ↓reduceIte, reduceCtorEq, Nat.reduceAdd, Nat.reduceMul, Nat.reduceSub, Nat.reduceEqDiff, Nat.reduceLT, Nat.reduceLeDiff, implies_true, Back, retv, retV, AV.scal, AV.scals]; try simp only [idX_eq, ite_both, pickP_both, not_not_eq, Bool.not_eq_false, Bool.not_eq_true]
    exact ⟨_, rfl⟩
  · simp (maxSteps := 3000000) only [over4E, heapL, fillA, rd, wrt, wrl, AO.withl, a_w_szTermS, Int.reduceEq, Int.reduceNe, Int.reduceBEq, Int.reduceBNe, Int.reduceLT, Int.reduceLE, Int.reduceAdd, Int.reduceSub, Int.reduceMul, hw, capOk, hc, idX_eq, wbE, ↓symP, symE, listE, AK.isCall, enumE, ev, putE, abin, aun, AV.cells, ↓reduceIte, reduceCtorEq, Nat.reduceAdd, Nat.reduceMul, Nat.reduceSub, Nat.reduceEqDiff, Nat.reduceLT, Nat.reduceLeDiff, implies_true, Back, retv, retV, AV.scal, AV.scals]; try simp only [idX_eq, ite_both, pickP_both, not_not_eq, Bool.not_eq_false, Bool.not_eq_true]
    exact ⟨fun h => ⟨⟨_, rfl⟩, by rw [if_pos h]⟩, fun h => ⟨⟨_, rfl⟩, by rw [if_neg h]⟩⟩
def g_szTermS : BE := fun hp xs => match xs with
  | [X, .int .i64 k] => match argTs hp X with
    | some ts => chk ((0 ≤ k ∧ k ≤ 1000000000) ∧ ts.length ≤ 9223372036854775807) (some (.int .i64 (if k - ts.length < 0 then -1 else k - ts.length), hp))
    | none => none
  | _ => none
theorem k_szTermS : Am.Callee Try.prog 45 g_szTermS := Callee.fp fun hp xs v hp' he => by
  unfold g_szTermS at he
  split at he
  · rename_i X k
    split at he
    · rename_i ts hts
      obtain ⟨⟨h1, h2⟩, he⟩ := chk_some he
      cases he
      obtain ⟨bs, H, X', hX, e1, e2, e3, e4, e5, e6, e7, e8⟩ := argTs_some hts
      refine ⟨bs, [X', .int .i64 k], H, H, _, c_szTermS H X' ts k hX h1 h2, by simp only [AV.rens, AV.ren, e1], (by simp only [List.all_cons, e2, List.all_nil, Bool.true_and, Bool.and_true]; rfl), e3, e4, e5, ⟨e6, trivial, trivial⟩, by simp [AV.ren], ?_⟩
      have := e8 []
      simpa using this
    · cases he
  · cases he
def B30b : Book := (B30a.put 45 (g_szTermS))

theorem B30b_ok : BookOk Try.prog B30b := (B30a_ok.put (k_szTermS))

theorem B30b_w_toDiagram_G1 : B30b 24 = some (plainE g_dia) := rfl
theorem B30b_w_toTerm_G1 : B30b 98 = some (plainE g_toTerm) := rfl
theorem B30b_w_szTermS_G1 : B30b 45 = some (g_szTermS) := rfl



def a_w_szElement : AC := .seq (.region [⟨some 2, none, .op (.box (.t 0))⟩,
     ⟨some 4, none, .op (.mov (.c (.int .i64 0)))⟩]) (.seq (.region [⟨some 5, none, .op (.faddr 3 (.t 2))⟩,
     ⟨some 6, none, .op (.load1 (.t 5))⟩,
     ⟨some 7, none, .op (.mov (.t 1))⟩,
     ⟨some 8, none, .call (.c (.fn 45 [] [])) [(.t 6), (.t 7)]⟩,
     ⟨some 1, none, .op (.mov (.t 8))⟩]) (.seq (.seq (.region [⟨some 9, none, .op (.mov (.t 1))⟩,
      ⟨some 10, none, .op (.bin .lss (.t 9) (.c (.int .i64 0)))⟩]) (.cond 10 (.seq (.region [⟨some 4, none, .op (.mov (.c (.int .i64 (-1))))⟩]) .ret) .skip)) (.seq (.region [⟨some 11, none, .op (.mov (.t 1))⟩,
     ⟨some 4, none, .op (.mov (.t 11))⟩]) .ret)))
theorem r_w_szElement : readF Try.prog 14 = some ⟨12, a_w_szElement, [.slot 4]⟩ := by kernel_rfl
theorem c_szElement (H : List AO) (X : AV) (ts : List (Int × List Nat × Int)) (p c n k : Int) (h : ArgX H X ts) (hX : ∀ rest, argTs (H ++ rest) X = some ts) (hk : 0 ≤ k ∧ k ≤ 1000000000) (hl : ts.length ≤ 9223372036854775807) :
    Am.Fn Try.prog 14 [.agg [.int .i64 p, .int .i64 c, .int .i64 n, X], .int .i64 k] H (fun v H' => v = .int .i64 (if k - ts.length < 0 then -1 else k - ts.length) ∧ H' = H) := by
  refine Am.Fn.sameB (R := fun v => v = _) B30b_ok mixed r_w_szElement (by simp) (argX_under h) ?_
  have hH : H = [] ∨ ∃ o, H = [o] := by
    rcases h.2 with ⟨_, rfl, _⟩ | ⟨_, rfl, _⟩ | ⟨_, _, _, _, rfl, _⟩
    · exact .inl rfl
    · exact .inr ⟨_, rfl⟩
    · exact .inr ⟨_, rfl⟩
  have hsub : -(1 : Int) < 0 := by decide
  by_cases hlt : k - (ts.length : Int) < 0
  · rcases hH with rfl | ⟨o, rfl⟩
    · simp only [List.nil_append] at hX
      simp (maxSteps := 3000000) only [over4E, heapL, fillA, rd, wrt, wrl, AO.withl, a_w_szElement, B30b_w_toDiagram_G1, B30b_w_toTerm_G1, B30b_w_szTermS_G1, g_dia, g_szTermS, g_toTerm, Int.reduceEq, Int.reduceNe, Int.reduceBEq, Int.reduceBNe, Int.reduceLT, Int.reduceLE, Int.reduceAdd, Int.reduceSub, Int.reduceMul, hX, hk, hl, hlt, idX_eq, wbE, ↓symP, symE, listE, AK.isCall, enumE, ev, putE, abin, aun, AV.cells, ↓reduceIte, reduceCtorEq, Nat.reduceAdd, Nat.reduceMul, Nat.reduceSub, Nat.reduceEqDiff, Nat.reduceLT, Nat.reduceLeDiff, implies_true, Back, retv, retV, AV.scal, AV.scals]; try simp only [idX_eq, ite_both, pickP_both, not_not_eq, Bool.not_eq_false, Bool.not_eq_true]
    · simp only [List.cons_append, List.nil_append] at hX
      simp (maxSteps := 3000000) only [over4E, heapL, fillA, rd, wrt, wrl, AO.withl, a_w_szElement, B30b_w_toDiagram_G1, B30b_w_toTerm_G1, B30b_w_szTermS_G1, g_dia, g_szTermS, g_toTerm, Int.reduceEq, Int.reduceNe, Int.reduceBEq, Int.reduceBNe, Int.reduceLT, Int.reduceLE, Int.reduceAdd, Int.reduceSub, Int.reduceMul, hX, hk, hl, hlt, idX_eq, wbE, ↓symP, symE, listE, AK.isCall, enumE, ev, putE, abin, aun, AV.cells, ↓reduceIte, reduceCtorEq, Nat.reduceAdd, Nat.reduceMul, Nat.reduceSub, Nat.reduceEqDiff, Nat.reduceLT, Nat.reduceLeDiff, implies_true, Back, retv, retV, AV.scal, AV.scals]; try simp only [idX_eq, ite_both, pickP_both, not_not_eq, Bool.not_eq_false, Bool.not_eq_true]
      exact ⟨_, rfl⟩
  · rcases hH with rfl | ⟨o, rfl⟩
    · simp only [List.nil_append] at hX
      simp (maxSteps := 3000000) only [over4E, heapL, fillA, rd, wrt, wrl, AO.withl, a_w_szElement, B30b_w_toDiagram_G1, B30b_w_toTerm_G1, B30b_w_szTermS_G1, g_dia, g_szTermS, g_toTerm, Int.reduceEq, Int.reduceNe, Int.reduceBEq, Int.reduceBNe, Int.reduceLT, Int.reduceLE, Int.reduceAdd, Int.reduceSub, Int.reduceMul, hX, hk, hl, hlt, idX_eq, wbE, ↓symP, symE, listE, AK.isCall, enumE, ev, putE, abin, aun, AV.cells, ↓reduceIte, reduceCtorEq, Nat.reduceAdd, Nat.reduceMul, Nat.reduceSub, Nat.reduceEqDiff, Nat.reduceLT, Nat.reduceLeDiff, implies_true, Back, retv, retV, AV.scal, AV.scals]; try simp only [idX_eq, ite_both, pickP_both, not_not_eq, Bool.not_eq_false, Bool.not_eq_true]
    · simp only [List.cons_append, List.nil_append] at hX
      simp (maxSteps := 3000000) only [over4E, heapL, fillA, rd, wrt, wrl, AO.withl, a_w_szElement, B30b_w_toDiagram_G1, B30b_w_toTerm_G1, B30b_w_szTermS_G1, g_dia, g_szTermS, g_toTerm, Int.reduceEq, Int.reduceNe, Int.reduceBEq, Int.reduceBNe, Int.reduceLT, Int.reduceLE, Int.reduceAdd, Int.reduceSub, Int.reduceMul, hX, hk, hl, hlt, idX_eq, wbE, ↓symP, symE, listE, AK.isCall, enumE, ev, putE, abin, aun, AV.cells, ↓reduceIte, reduceCtorEq, Nat.reduceAdd, Nat.reduceMul, Nat.reduceSub, Nat.reduceEqDiff, Nat.reduceLT, Nat.reduceLeDiff, implies_true, Back, retv, retV, AV.scal, AV.scals]; try simp only [idX_eq, ite_both, pickP_both, not_not_eq, Bool.not_eq_false, Bool.not_eq_true]
      exact ⟨_, rfl⟩
theorem argX_arg {H : List AO} {X : AV} {ts : List (Int × List Nat × Int)} (h : ArgX H X ts) (rest : List AO) : argTs (H ++ rest) X = some ts := by
  rcases h.2 with ⟨rfl, rfl, rfl⟩ | ⟨rfl, rfl, rfl⟩ | ⟨all, cap, rfl, hc, rfl, hall, htk, hle⟩
  · rfl
  · rfl
  · have hl := trms_length hall
    have h2 : all.length * 18 / 18 = all.length := by omega
    simp only [argTs, List.cons_append, List.nil_append, List.getElem?_cons_zero, hl, h2, tsOf_trms' hall, true_and, hc, hle, and_self, if_true, htk]
def g_szElement : BE := fun hp xs => match xs with
  | [.agg [.int .i64 p, .int .i64 c, .int .i64 n, X], .int .i64 k] => match argTs hp X with
    | some ts => chk ((0 ≤ k ∧ k ≤ 1000000000) ∧ ts.length ≤ 9223372036854775807) (some (.int .i64 (if k - ts.length < 0 then -1 else k - ts.length), hp))
    | none => none
  | _ => none
theorem k_szElement : Am.Callee Try.prog 14 g_szElement := Callee.fp fun hp xs v hp' he => by
  unfold g_szElement at he
  split at he
  · rename_i p c n X k
    split at he
    · rename_i ts hts
      obtain ⟨⟨h1, h2⟩, he⟩ := chk_some he
      cases he
      obtain ⟨bs, H, X', hX, e1, e2, e3, e4, e5, e6, e7, e8⟩ := argTs_some hts
      refine ⟨bs, [.agg [.int .i64 p, .int .i64 c, .int .i64 n, X'], .int .i64 k], H, H, _, c_szElement H X' ts p c n k hX (argX_arg hX) h1 h2, by simp only [AV.rens, AV.ren, e1], rfl, e3, e4, e5, ⟨⟨trivial, trivial, trivial, e6, trivial⟩, trivial, trivial⟩, by simp [AV.ren], ?_⟩
      have := e8 []
      simpa using this
    · cases he
  · cases he
def B30c : Book := (B30b.put 14 (g_szElement))

theorem B30c_ok : BookOk Try.prog B30c := (B30b_ok.put (k_szElement))

theorem B30c_w_toDiagram_G1 : B30c 24 = some (plainE g_dia) := rfl
theorem B30c_w_toTerm_G1 : B30c 98 = some (plainE g_toTerm) := rfl
theorem B30c_w_szTermS_G1 : B30c 45 = some (g_szTermS) := rfl


theorem rep_zero : ∀ n, rep n (trm (0, List.replicate 16 0, 0)) = trms (List.replicate n (0, List.replicate 16 0, 0))
  | 0 => rfl
  | n + 1 => by rw [rep, rep_zero n, List.replicate_succ]; rfl
theorem over_trms : ∀ {us : List (Int × List Nat × Int)} {i : Nat} {t : Int × List Nat × Int}, okT us → okD t.2.1 → i < us.length → over (trms us) (i * 18) (trm t) = trms (us.set i t)
  | u :: us, 0, t, h, ht, hi => by
    have h1 := trm_length (h u (List.mem_cons_self ..))
    simp only [trms, List.flatMap_cons, List.set_cons_zero, over, Nat.zero_mul, List.take_zero, List.nil_append, Nat.zero_add, trm_length ht]
    rw [List.drop_append_of_le_length (by omega), List.drop_of_length_le (by omega), List.nil_append]
  | u :: us, i + 1, t, h, ht, hi => by
    have h1 := trm_length (h u (List.mem_cons_self ..))
    have ih := over_trms (us := us) (i := i) (t := t) (fun v hv => h v (List.mem_cons_of_mem _ hv)) ht (by simpa using hi)
    simp only [trms, List.flatMap_cons, List.set_cons_succ] at ih ⊢
    rw [← ih]
    simp only [over, trm_length ht]
    rw [show (i + 1) * 18 = 18 + i * 18 by omega, List.take_append, List.take_of_length_le (by omega), h1, show 18 + i * 18 - 18 = i * 18 by omega, List.drop_append, List.drop_of_length_le (by omega), h1, show 18 + i * 18 + 18 - 18 = i * 18 + 18 by omega]
    simp

def a_w_toTermS_l1 : AC := .seq (.seq (.region [⟨some 8, none, .op (.mov (.t 4))⟩,
         ⟨some 9, none, .op (.mov (.t 0))⟩,
         ⟨some 10, none, .op (.len .slc (.t 9))⟩,
         ⟨some 11, none, .op (.bin .lss (.t 8) (.t 10))⟩]) (.cond 11 .skip (.exit 0))) (.seq (.block 1 (.region [⟨some 14, none, .op (.mov (.t 3))⟩,
         ⟨some 15, none, .op (.mov (.t 4))⟩,
         ⟨some 16, none, .op (.mov (.t 0))⟩,
         ⟨some 17, none, .op (.mov (.t 4))⟩,
         ⟨some 18, none, .op (.iaddrS 18 (.t 16) (.t 17))⟩,
         ⟨some 19, none, .op (.loadN 18 (.t 18))⟩,
         ⟨some 20, none, .call (.c (.fn 98 [] [])) [(.t 19)]⟩,
         ⟨some 21, none, .op (.iaddrS 18 (.t 14) (.t 15))⟩,
         ⟨none, none, .op (.storeN 18 (.t 21) (.t 20))⟩])) (.region [⟨some 12, none, .op (.mov (.t 4))⟩,
       ⟨some 13, none, .op (.bin .add (.t 12) (.c (.int .i64 1)))⟩,
       ⟨some 4, none, .op (.mov (.t 13))⟩]))
def a_w_toTermS_k1 : AC := .seq (.region [⟨some 22, none, .op (.mov (.t 3))⟩,
     ⟨some 2, none, .op (.mov (.t 22))⟩]) .ret
def a_w_toTermS : AC := .seq (.region [⟨some 2, none, .op (.mov (.c (.v (.slice none 0 0))))⟩]) (.seq (.region [⟨some 5, none, .op (.mov (.t 0))⟩,
     ⟨some 6, none, .op (.len .slc (.t 5))⟩,
     ⟨some 7, none, .op (.mkslice 18 32 [(.int .i64 0), (.int .u8 0), (.int .u8 0), (.int .u8 0), (.int .u8 0), (.int .u8 0), (.int .u8 0), (.int .u8 0), (.int .u8 0), (.int .u8 0), (.int .u8 0), (.int .u8 0), (.int .u8 0), (.int .u8 0), (.int .u8 0), (.int .u8 0), (.int .u8 0), (.int .i64 0)] (.t 6) (.t 6))⟩,
     ⟨some 3, none, .op (.mov (.t 7))⟩]) (.seq (.seq (.region [⟨some 4, none, .op (.mov (.c (.int .i64 0)))⟩]) (.block 0 (.loop a_w_toTermS_l1))) a_w_toTermS_k1))
theorem r_w_toTermS : readF Try.prog 47 = some ⟨23, a_w_toTermS, [.slot 2]⟩ := by kernel_rfl
theorem c_toTermS (H : List AO) (X : AV) (ts : List (Int × List Nat × Int)) (h : ArgX H X ts) (hl : ts.length ≤ 1100000) :
    Am.Fn Try.prog 47 [X] H (fun v H' => v = .slc H.length 0 ts.length false 0 ∧ H' = H ++ [.vec 18 (trms ts)]) := by
  refine Am.Fn.ofW B30c_ok mixed r_w_toTermS (by simp) (argX_under h) ?_
  rcases h.2 with ⟨rfl, rfl, rfl⟩ | ⟨rfl, rfl, rfl⟩ | ⟨all, cap, rfl, hc, rfl, hall, htk, hle⟩
  · simp (maxSteps := 3000000) only [over4E, heapL, fillA, rd, wrt, wrl, AO.withl, a_w_toTermS, Int.reduceEq, Int.reduceNe, Int.reduceBEq, Int.reduceBNe, Int.reduceLT, Int.reduceLE, Int.reduceAdd, Int.reduceSub, Int.reduceMul, capOk, cast0, List.length_nil, trm_zero, trm_zero_len, Int.toNat_zero, rep, idX_eq, wbE, ↓symP, symE, listE, AK.isCall, enumE, ev, putE, abin, aun, AV.cells, ↓reduceIte, reduceCtorEq, Nat.reduceAdd, Nat.reduceMul, Nat.reduceSub, Nat.reduceEqDiff, Nat.reduceLT, Nat.reduceLeDiff, implies_true, Back, retv, retV, AV.scal, AV.scals]; try simp only [idX_eq, ite_both, pickP_both, not_not_eq, Bool.not_eq_false, Bool.not_eq_true]
    refine ⟨by decide, WA.loopB B30c_ok (fun s => s = ⟨[(4, .int .i64 0), (3, .slc 0 0 0 true 0), (0, .v (.slice none 0 0))], [.cells []]⟩) (fun _ => 0) ⟨_, Weak.slots [4, 3, 0], rfl⟩ ?_⟩
    rintro s rfl
    simp (maxSteps := 3000000) only [over4E, heapL, fillA, rd, wrt, wrl, AO.withl, a_w_toTermS_l1, a_w_toTermS_k1, Int.reduceEq, Int.reduceNe, Int.reduceBEq, Int.reduceBNe, Int.reduceLT, Int.reduceLE, Int.reduceAdd, Int.reduceSub, Int.reduceMul, capOk, cast0, List.length_nil, idX_eq, wbE, ↓symP, symE, listE, AK.isCall, enumE, ev, putE, abin, aun, AV.cells, ↓reduceIte, reduceCtorEq, Nat.reduceAdd, Nat.reduceMul, Nat.reduceSub, Nat.reduceEqDiff, Nat.reduceLT, Nat.reduceLeDiff, implies_true, Back, retv, retV, AV.scal, AV.scals]; try simp only [idX_eq, ite_both, pickP_both, not_not_eq, Bool.not_eq_false, Bool.not_eq_true]
    refine ⟨_, Weak.trans (Weak.slots [2]) (Weak.vec 0 0 18 (by decide) rfl rfl rfl rfl), ?_⟩
    refine Ret.keep [0] ⟨⟨by simp, rfl, by decide⟩, ?_⟩ (rs := [.slc 0 0 0 false 0]) rfl rfl (by simp [retV]) ?_ ⟨?_, ?_⟩
    · simp only [slots, get_put, vecs, List.map_cons, List.map_nil, AV.toVec, AO.toVec, AV.toVecs, toVecs_scal _ _ _ (scals_dia _ _), toVecs_scal _ _ _ (scals_u8s _), toVecs_scal _ _ _ (scals_i64s _), toVecs_scal _ _ _ (scals_n64s _), List.set_cons_zero, List.set_cons_succ, List.getElem?_cons_zero, List.getElem?_cons_succ, reduceIte, and_self, Nat.reduceEqDiff, reduceCtorEq, false_and, and_false, AV.exact, AV.exacts, AO.exact, List.all_cons, List.all_nil, exacts_scal _ _ (scals_dia _ _), exacts_scal _ _ (scals_u8s _), exacts_scal _ _ (scals_i64s _), exacts_scal _ _ (scals_n64s _), Bool.and_self, Bool.and_true, Bool.or_true, Bool.or_false, Nat.reduceBEq, beq_self_eq_true, Bool.not_true, Bool.not_false, List.cons_append, List.nil_append]
      simp only [keepW, keepL, AV.within, AV.withins, ↓reduceIte, reduceCtorEq, Nat.reduceEqDiff, Nat.reduceBEq, implies_true, Nat.reduceAdd]
    · intro j l; match j with
      | 0 => simp [kepts, vecs, AO.toVec, AO.ren]
      | j + 1 => simp [kepts]
    · simp only [retV]
      simp only [keptL, keptW, keptE, kepts, slots, ↓reduceIte, reduceCtorEq, Nat.reduceEqDiff, AV.ren, AV.rens, pos, Nat.reduceAdd]
    · rfl
  · simp (maxSteps := 3000000) only [over4E, heapL, fillA, rd, wrt, wrl, AO.withl, a_w_toTermS, Int.reduceEq, Int.reduceNe, Int.reduceBEq, Int.reduceBNe, Int.reduceLT, Int.reduceLE, Int.reduceAdd, Int.reduceSub, Int.reduceMul, capOk, cast0, List.length_nil, trm_zero, trm_zero_len, Int.toNat_zero, rep, idX_eq, wbE, ↓symP, symE, listE, AK.isCall, enumE, ev, putE, abin, aun, AV.cells, ↓reduceIte, reduceCtorEq, Nat.reduceAdd, Nat.reduceMul, Nat.reduceSub, Nat.reduceEqDiff, Nat.reduceLT, Nat.reduceLeDiff, implies_true, Back, retv, retV, AV.scal, AV.scals]; try simp only [idX_eq, ite_both, pickP_both, not_not_eq, Bool.not_eq_false, Bool.not_eq_true]
    refine ⟨by decide, WA.loopB B30c_ok (fun s => s = ⟨[(4, .int .i64 0), (3, .slc 1 0 0 true 0), (0, .slc 0 0 0 true 0)], [.dead, .cells []]⟩) (fun _ => 0) ⟨_, Weak.slots [4, 3, 0], rfl⟩ ?_⟩
    rintro s rfl
    simp (maxSteps := 3000000) only [over4E, heapL, fillA, rd, wrt, wrl, AO.withl, a_w_toTermS_l1, a_w_toTermS_k1, Int.reduceEq, Int.reduceNe, Int.reduceBEq, Int.reduceBNe, Int.reduceLT, Int.reduceLE, Int.reduceAdd, Int.reduceSub, Int.reduceMul, capOk, cast0, List.length_nil, idX_eq, wbE, ↓symP, symE, listE, AK.isCall, enumE, ev, putE, abin, aun, AV.cells, ↓reduceIte, reduceCtorEq, Nat.reduceAdd, Nat.reduceMul, Nat.reduceSub, Nat.reduceEqDiff, Nat.reduceLT, Nat.reduceLeDiff, implies_true, Back, retv, retV, AV.scal, AV.scals]; try simp only [idX_eq, ite_both, pickP_both, not_not_eq, Bool.not_eq_false, Bool.not_eq_true]
    refine ⟨_, Weak.trans (Weak.slots [2]) (Weak.vec 1 0 18 (by decide) rfl rfl rfl rfl), ?_⟩
    refine Ret.keep [0, 1] ⟨⟨by simp, rfl, by decide⟩, ?_⟩ (rs := [.slc 1 0 0 false 0]) rfl rfl (by simp [retV]) ?_ ⟨?_, ?_⟩
    · simp only [slots, get_put, vecs, List.map_cons, List.map_nil, AV.toVec, AO.toVec, AV.toVecs, toVecs_scal _ _ _ (scals_dia _ _), toVecs_scal _ _ _ (scals_u8s _), toVecs_scal _ _ _ (scals_i64s _), toVecs_scal _ _ _ (scals_n64s _), List.set_cons_zero, List.set_cons_succ, List.getElem?_cons_zero, List.getElem?_cons_succ, reduceIte, and_self, Nat.reduceEqDiff, reduceCtorEq, false_and, and_false, AV.exact, AV.exacts, AO.exact, List.all_cons, List.all_nil, exacts_scal _ _ (scals_dia _ _), exacts_scal _ _ (scals_u8s _), exacts_scal _ _ (scals_i64s _), exacts_scal _ _ (scals_n64s _), Bool.and_self, Bool.and_true, Bool.or_true, Bool.or_false, Nat.reduceBEq, beq_self_eq_true, Bool.not_true, Bool.not_false, List.cons_append, List.nil_append]
      simp only [keepW, keepL, AV.within, AV.withins, ↓reduceIte, reduceCtorEq, Nat.reduceEqDiff, Nat.reduceBEq, implies_true, Nat.reduceAdd]
    · intro j l; match j with
      | 0 => simp [kepts, vecs, AO.toVec, AO.ren]
      | 1 => simp [kepts, vecs, AO.toVec, AO.ren]
      | j + 2 => simp [kepts]
    · simp only [retV]
      simp only [keptL, keptW, keptE, kepts, slots, ↓reduceIte, reduceCtorEq, Nat.reduceEqDiff, AV.ren, AV.rens, pos, Nat.reduceAdd]
    · rfl
  · simp (maxSteps := 3000000) only [over4E, heapL, fillA, rd, wrt, wrl, AO.withl, a_w_toTermS, Int.reduceEq, Int.reduceNe, Int.reduceBEq, Int.reduceBNe, Int.reduceLT, Int.reduceLE, Int.reduceAdd, Int.reduceSub, Int.reduceMul, capOk, hc, List.length_nil, trm_zero, trm_zero_len, rep_zero, idX_eq, wbE, ↓symP, symE, listE, AK.isCall, enumE, ev, putE, abin, aun, AV.cells, ↓reduceIte, reduceCtorEq, Nat.reduceAdd, Nat.reduceMul, Nat.reduceSub, Nat.reduceEqDiff, Nat.reduceLT, Nat.reduceLeDiff, implies_true, Back, retv, retV, AV.scal, AV.scals]; try simp only [idX_eq, ite_both, pickP_both, not_not_eq, Bool.not_eq_false, Bool.not_eq_true]
    refine ⟨⟨by omega, by omega, by omega⟩, WA.loopB B30c_ok (fun s => ∃ (i : Nat) (us : List (Int × List Nat × Int)), i ≤ ts.length ∧ us = ts.take i ++ List.replicate (ts.length - i) (0, List.replicate 16 0, 0) ∧ s = ⟨[(4, .int .i64 i), (3, .slc 1 0 ts.length true ts.length), (0, .slc 0 0 ts.length true cap)], [.ro (trms all), .cells (trms us)]⟩)
      (fun s => match get s.env 4 with | .int _ x => ts.length - x.toNat | _ => 0) ⟨_, Weak.slots [4, 3, 0], 0, _, by omega, by simp, rfl⟩ ?_⟩
    rintro s ⟨i, us, hi, hus, rfl⟩
    have hul : us.length = ts.length := by rw [hus]; simp; omega
    have huo : okT us := by
      rw [hus]; intro t h'
      rcases List.mem_append.1 h' with h' | h'
      · exact h.1 t (List.mem_of_mem_take h')
      · rw [(List.mem_replicate.1 h').2]; exact ⟨by simp, by intro x hx; simp at hx; omega⟩
    have hutl := trms_length huo
    have hal := trms_length hall
    have hw : wrapK .i64 ((i : Int) + 1) = ((i + 1 : Nat) : Int) := by rw [wrap64 (by omega) (by omega)]; rfl
    by_cases hlt : i < ts.length
    · have hai : i < all.length := by omega
      have hget : all[i] = ts[i] := by
        have : ts[i] = (all.take ts.length)[i]'(by simp; omega) := by congr 1; exact htk.symm
        rw [this, List.getElem_take]
      have h0 := trms_get hall hai
      rw [hget] at h0
      have hok : okD ts[i].2.1 := h.1 _ (List.getElem_mem hlt)
      have hov := over_trms huo hok (show i < us.length by omega)
      have hset : us.set i ts[i] = ts.take (i + 1) ++ List.replicate (ts.length - (i + 1)) (0, List.replicate 16 0, 0) := by
        rw [hus, List.set_append_right _ _ (by rw [List.length_take]; omega), List.length_take, Nat.min_eq_left hi, Nat.sub_self, show ts.length - i = (ts.length - (i + 1)) + 1 by omega, List.replicate_succ, List.set_cons_zero, List.take_succ_eq_append_getElem hlt, List.append_assoc]
        rfl
      have hli : ((i : Int) < (ts.length : Int)) := by omega
      have hli' : (0 : Int) ≤ i := by omega
      have hb1 : i * 18 < all.length * 18 := by omega
      have hb2 : i * 18 + 18 ≤ all.length * 18 := by omega
      have hb3 : i * 18 < us.length * 18 := by omega
      have hb4 : i * 18 + 18 ≤ us.length * 18 := by omega
      simp (maxSteps := 3000000) only [over4E, heapL, fillA, rd, wrt, wrl, AO.withl, a_w_toTermS_l1, B30c_w_toDiagram_G1, B30c_w_toTerm_G1, B30c_w_szTermS_G1, g_dia, g_szTermS, g_toTerm, Int.reduceEq, Int.reduceNe, Int.reduceBEq, Int.reduceBNe, Int.reduceLT, Int.reduceLE, Int.reduceAdd, Int.reduceSub, Int.reduceMul, capOk, hc, hw, hal, hutl, h0, hov, trmOf_trm hok, ones_trm, trm_length hok, hli, hli', hb1, hb2, hb3, hb4, and_self, idX_eq, wbE, ↓symP, symE, listE, AK.isCall, enumE, ev, putE, abin, aun, AV.cells, ↓reduceIte, reduceCtorEq, Nat.reduceAdd, Nat.reduceMul, Nat.reduceSub, Nat.reduceEqDiff, Nat.reduceLT, Nat.reduceLeDiff, implies_true, Back, retv, retV, AV.scal, AV.scals]; try simp only [idX_eq, ite_both, pickP_both, not_not_eq, Bool.not_eq_false, Bool.not_eq_true]
      refine ⟨_, Weak.slots [4, 3, 0], ⟨i + 1, us.set i ts[i], by omega, hset, ?_⟩, ?_⟩
      · simp only [keptL, keptW, keptE, kepts, slots, ↓reduceIte, reduceCtorEq, Nat.reduceEqDiff, AV.ren, AV.rens, pos, Nat.reduceAdd]
      · simp only [keptL, keptW, keptE, kepts, slots, ↓reduceIte, reduceCtorEq, Nat.reduceEqDiff, AV.ren, AV.rens, pos, Nat.reduceAdd]; omega
    · have hi' : i = ts.length := by omega
      subst hi'
      have hu : us = ts := by rw [hus]; simp
      subst hu
      simp (maxSteps := 3000000) only [over4E, heapL, fillA, rd, wrt, wrl, AO.withl, a_w_toTermS_l1, a_w_toTermS_k1, Int.reduceEq, Int.reduceNe, Int.reduceBEq, Int.reduceBNe, Int.reduceLT, Int.reduceLE, Int.reduceAdd, Int.reduceSub, Int.reduceMul, capOk, hc, Int.lt_irrefl, idX_eq, wbE, ↓symP, symE, listE, AK.isCall, enumE, ev, putE, abin, aun, AV.cells, ↓reduceIte, reduceCtorEq, Nat.reduceAdd, Nat.reduceMul, Nat.reduceSub, Nat.reduceEqDiff, Nat.reduceLT, Nat.reduceLeDiff, implies_true, Back, retv, retV, AV.scal, AV.scals]; try simp only [idX_eq, ite_both, pickP_both, not_not_eq, Bool.not_eq_false, Bool.not_eq_true]
      refine ⟨_, Weak.trans (Weak.slots [2]) (Weak.vec 1 us.length 18 (by decide) rfl hutl.symm rfl ?_), ?_⟩
      · simp only [exacts_scal _ _ (scals_trms _), vecs, List.map_cons, List.map_nil, AV.toVec, AO.toVec, AV.toVecs, toVecs_scal _ _ _ (scals_dia _ _), toVecs_scal _ _ _ (scals_u8s _), toVecs_scal _ _ _ (scals_i64s _), toVecs_scal _ _ _ (scals_n64s _), List.set_cons_zero, List.set_cons_succ, List.getElem?_cons_zero, List.getElem?_cons_succ, reduceIte, and_self, Nat.reduceEqDiff, reduceCtorEq, false_and, and_false, AV.exact, AV.exacts, AO.exact, List.all_cons, List.all_nil, exacts_scal _ _ (scals_dia _ _), exacts_scal _ _ (scals_u8s _), exacts_scal _ _ (scals_i64s _), exacts_scal _ _ (scals_n64s _), Bool.and_self, Bool.and_true, Bool.or_true, Bool.or_false, Nat.reduceBEq, beq_self_eq_true, Bool.not_true, Bool.not_false, List.cons_append, List.nil_append]
      refine Ret.keep [0, 1] ⟨⟨by simp, rfl, by decide⟩, ?_⟩ (rs := [.slc 1 0 us.length false 0]) ?_ rfl (by simp [retV]) ?_ ⟨?_, ?_⟩
      · simp only [slots, get_put, toVecs_scal _ _ _ (scals_trms _), vecs, List.map_cons, List.map_nil, AV.toVec, AO.toVec, AV.toVecs, toVecs_scal _ _ _ (scals_dia _ _), toVecs_scal _ _ _ (scals_u8s _), toVecs_scal _ _ _ (scals_i64s _), toVecs_scal _ _ _ (scals_n64s _), List.set_cons_zero, List.set_cons_succ, List.getElem?_cons_zero, List.getElem?_cons_succ, reduceIte, and_self, Nat.reduceEqDiff, reduceCtorEq, false_and, and_false, AV.exact, AV.exacts, AO.exact, List.all_cons, List.all_nil, exacts_scal _ _ (scals_dia _ _), exacts_scal _ _ (scals_u8s _), exacts_scal _ _ (scals_i64s _), exacts_scal _ _ (scals_n64s _), Bool.and_self, Bool.and_true, Bool.or_true, Bool.or_false, Nat.reduceBEq, beq_self_eq_true, Bool.not_true, Bool.not_false, List.cons_append, List.nil_append]
        simp only [withins_scal _ _ (scals_trms _), keepW, keepL, AV.within, AV.withins, ↓reduceIte, reduceCtorEq, Nat.reduceEqDiff, Nat.reduceBEq, implies_true, Nat.reduceAdd]
      · simp only [slots, get_put, vecs, List.map_cons, List.map_nil, AV.toVec, AO.toVec, AV.toVecs, toVecs_scal _ _ _ (scals_dia _ _), toVecs_scal _ _ _ (scals_u8s _), toVecs_scal _ _ _ (scals_i64s _), toVecs_scal _ _ _ (scals_n64s _), List.set_cons_zero, List.set_cons_succ, List.getElem?_cons_zero, List.getElem?_cons_succ, reduceIte, and_self, Nat.reduceEqDiff, reduceCtorEq, false_and, and_false, AV.exact, AV.exacts, AO.exact, List.all_cons, List.all_nil, exacts_scal _ _ (scals_dia _ _), exacts_scal _ _ (scals_u8s _), exacts_scal _ _ (scals_i64s _), exacts_scal _ _ (scals_n64s _), Bool.and_self, Bool.and_true, Bool.or_true, Bool.or_false, Nat.reduceBEq, beq_self_eq_true, Bool.not_true, Bool.not_false, List.cons_append, List.nil_append]
        rfl
      · intro j l; match j with
        | 0 => exact fun _ => ⟨_, rfl⟩
        | 1 => simp [kepts, vecs, AO.toVec, AO.ren]
        | j + 2 => simp [kepts]
      · simp only [retV]
        simp only [keptL, keptW, keptE, kepts, slots, ↓reduceIte, reduceCtorEq, Nat.reduceEqDiff, AV.ren, AV.rens, pos, Nat.reduceAdd]
      · simp only [toVecs_scal _ _ _ (scals_trms _), vecs, List.map_cons, List.map_nil, AV.toVec, AO.toVec, AV.toVecs, toVecs_scal _ _ _ (scals_dia _ _), toVecs_scal _ _ _ (scals_u8s _), toVecs_scal _ _ _ (scals_i64s _), toVecs_scal _ _ _ (scals_n64s _), List.set_cons_zero, List.set_cons_succ, List.getElem?_cons_zero, List.getElem?_cons_succ, reduceIte, and_self, Nat.reduceEqDiff, reduceCtorEq, false_and, and_false, AV.exact, AV.exacts, AO.exact, List.all_cons, List.all_nil, exacts_scal _ _ (scals_dia _ _), exacts_scal _ _ (scals_u8s _), exacts_scal _ _ (scals_i64s _), exacts_scal _ _ (scals_n64s _), Bool.and_self, Bool.and_true, Bool.or_true, Bool.or_false, Nat.reduceBEq, beq_self_eq_true, Bool.not_true, Bool.not_false, List.cons_append, List.nil_append]
        simp only [rens_scal _ _ (scals_trms _), keptL, keptW, keptE, kepts, slots, ↓reduceIte, reduceCtorEq, Nat.reduceEqDiff, AV.ren, AV.rens, pos, Nat.reduceAdd]
def g_toTermS : BE := fun hp xs => match xs with
  | [X] => match argTs hp X with
    | some ts => chk (ts.length ≤ 1100000) (some (.slc hp.length 0 ts.length false 0, hp ++ [.vec 18 (trms ts)]))
    | none => none
  | _ => none
theorem k_toTermS : Am.Callee Try.prog 47 g_toTermS := Callee.fp fun hp xs v hp' he => by
  unfold g_toTermS at he
  split at he
  · rename_i X
    split at he
    · rename_i ts hts
      obtain ⟨h1, he⟩ := chk_some he
      simp only [Option.some.injEq, Prod.mk.injEq] at he
      obtain ⟨rfl, rfl⟩ := he
      obtain ⟨bs, H, X', hX, e1, e2, e3, e4, e5, e6, e7, e8⟩ := argTs_some hts
      refine ⟨bs, [X'], H, _, _, c_toTermS H X' ts hX h1, by simp only [AV.rens, e1], (by simp only [List.all_cons, e2, List.all_nil, Bool.true_and, Bool.and_true]), e3, e4, e5, ⟨e6, trivial⟩, ?_, ?_⟩
      · simp [AV.ren, Ren.ext]
      · rw [e8]; simp only [List.map_cons, List.map_nil, rn_vec, rens_scal _ _ (scals_trms _)]
    · cases he
  · cases he
def B30d : Book := (B30c.put 47 (g_toTermS))

theorem B30d_ok : BookOk Try.prog B30d := (B30c_ok.put (k_toTermS))

theorem B30d_w_toDiagram_G1 : B30d 24 = some (plainE g_dia) := rfl
theorem B30d_w_toTerm_G1 : B30d 98 = some (plainE g_toTerm) := rfl
theorem B30d_w_szTermS_G1 : B30d 45 = some (g_szTermS) := rfl
theorem B30d_w_toTermS_G1 : B30d 47 = some (g_toTermS) := rfl



def a_w_toElement : AC := .seq (.region [⟨some 1, none, .op (.box (.t 0))⟩,
     ⟨some 2, none, .op (.alloc [(.int .i64 0), (.int .i64 0), (.int .i64 0), (.v (.slice none 0 0))])⟩]) (.seq (.region [⟨some 3, none, .op (.alloc [(.int .i64 0), (.int .i64 0), (.int .i64 0), (.v (.slice none 0 0))])⟩]) (.seq (.region [⟨some 4, none, .op (.faddr 0 (.t 1))⟩,
     ⟨some 5, none, .op (.load1 (.t 4))⟩,
     ⟨some 6, none, .op (.faddr 0 (.t 3))⟩,
     ⟨none, none, .op (.store1 (.t 6) (.t 5))⟩]) (.seq (.region [⟨some 7, none, .op (.faddr 1 (.t 1))⟩,
     ⟨some 8, none, .op (.load1 (.t 7))⟩,
     ⟨some 9, none, .op (.faddr 1 (.t 3))⟩,
     ⟨none, none, .op (.store1 (.t 9) (.t 8))⟩]) (.seq (.region [⟨some 10, none, .op (.faddr 2 (.t 1))⟩,
     ⟨some 11, none, .op (.load1 (.t 10))⟩,
     ⟨some 12, none, .op (.faddr 2 (.t 3))⟩,
     ⟨none, none, .op (.store1 (.t 12) (.t 11))⟩]) (.seq (.region [⟨some 13, none, .op (.faddr 3 (.t 1))⟩,
     ⟨some 14, none, .op (.load1 (.t 13))⟩,
     ⟨some 15, none, .call (.c (.fn 47 [] [])) [(.t 14)]⟩,
     ⟨some 16, none, .op (.faddr 3 (.t 3))⟩,
     ⟨none, none, .op (.store1 (.t 16) (.t 15))⟩]) (.seq (.region [⟨some 17, none, .op (.loadN 4 (.t 3))⟩,
     ⟨none, none, .op (.storeN 4 (.t 2) (.t 17))⟩]) .ret))))))
theorem r_w_toElement : readF Try.prog 16 = some ⟨18, a_w_toElement, [.cellN 2 4]⟩ := by kernel_rfl
theorem c_toElement (H : List AO) (X : AV) (ts : List (Int × List Nat × Int)) (p c n : Int) (h : ArgX H X ts) (hl : ts.length ≤ 1100000) :
    Am.Fn Try.prog 16 [.agg [.int .i64 p, .int .i64 c, .int .i64 n, X]] H (fun v H' => v = elemV p c n H.length ts.length ∧ H' = H ++ [.vec 18 (trms ts)]) := by
  refine Am.Fn.ofB B30d_ok mixed r_w_toElement (by simp) (argX_under h) ?_
  have hX := argX_arg h
  have hH : H = [] ∨ ∃ o, H = [o] ∧ ((∃ l, o = .ro l ∧ AV.scals l = true) ∨ o = .dead) := by
    rcases h.2 with ⟨_, rfl, _⟩ | ⟨_, rfl, _⟩ | ⟨all, _, _, _, rfl, _⟩
    · exact .inl rfl
    · exact .inr ⟨_, rfl, .inr rfl⟩
    · exact .inr ⟨_, rfl, .inl ⟨_, rfl, scals_trms all⟩⟩
  rcases hH with rfl | ⟨o, rfl, ho⟩
  · simp only [List.nil_append] at hX
    simp (maxSteps := 3000000) only [over4E, heapL, fillA, rd, wrt, wrl, AO.withl, a_w_toElement, B30d_w_toDiagram_G1, B30d_w_toTerm_G1, B30d_w_szTermS_G1, B30d_w_toTermS_G1, g_dia, g_szTermS, g_toTerm, g_toTermS, Int.reduceEq, Int.reduceNe, Int.reduceBEq, Int.reduceBNe, Int.reduceLT, Int.reduceLE, Int.reduceAdd, Int.reduceSub, Int.reduceMul, hX, hl, idX_eq, wbE, ↓symP, symE, listE, AK.isCall, enumE, ev, putE, abin, aun, AV.cells, ↓reduceIte, reduceCtorEq, Nat.reduceAdd, Nat.reduceMul, Nat.reduceSub, Nat.reduceEqDiff, Nat.reduceLT, Nat.reduceLeDiff, implies_true, Back, retv, retV, AV.scal, AV.scals]; try simp only [idX_eq, ite_both, pickP_both, not_not_eq, Bool.not_eq_false, Bool.not_eq_true]
    refine ⟨rfl, rfl, rfl, rfl, rfl, ?_⟩
    refine Ret.keep [3] ⟨⟨by simp, rfl, by decide⟩, ?_⟩ (rs := [.agg [.int .i64 p, .int .i64 c, .int .i64 n, .slc 3 0 ts.length false 0]]) rfl rfl (by simp [retV]) ?_ ⟨?_, ?_⟩
    · simp only [withins_scal _ _ (scals_trms _), keepW, keepL, AV.within, AV.withins, ↓reduceIte, reduceCtorEq, Nat.reduceEqDiff, Nat.reduceBEq, implies_true, Nat.reduceAdd]
    · intro j l; match j with
      | 0 => simp [kepts, AO.ren]
      | j + 1 => simp [kepts]
    · simp only [retV, elemV]
      simp only [keptL, keptW, keptE, kepts, slots, ↓reduceIte, reduceCtorEq, Nat.reduceEqDiff, AV.ren, AV.rens, pos, Nat.reduceAdd]
    · simp only [rens_scal _ _ (scals_trms _), keptL, keptW, keptE, kepts, slots, ↓reduceIte, reduceCtorEq, Nat.reduceEqDiff, AV.ren, AV.rens, pos, Nat.reduceAdd]
  · simp only [List.cons_append, List.nil_append] at hX
    simp (maxSteps := 3000000) only [over4E, heapL, fillA, rd, wrt, wrl, AO.withl, a_w_toElement, B30d_w_toDiagram_G1, B30d_w_toTerm_G1, B30d_w_szTermS_G1, B30d_w_toTermS_G1, g_dia, g_szTermS, g_toTerm, g_toTermS, Int.reduceEq, Int.reduceNe, Int.reduceBEq, Int.reduceBNe, Int.reduceLT, Int.reduceLE, Int.reduceAdd, Int.reduceSub, Int.reduceMul, hX, hl, idX_eq, wbE, ↓symP, symE, listE, AK.isCall, enumE, ev, putE, abin, aun, AV.cells, ↓reduceIte, reduceCtorEq, Nat.reduceAdd, Nat.reduceMul, Nat.reduceSub, Nat.reduceEqDiff, Nat.reduceLT, Nat.reduceLeDiff, implies_true, Back, retv, retV, AV.scal, AV.scals]; try simp only [idX_eq, ite_both, pickP_both, not_not_eq, Bool.not_eq_false, Bool.not_eq_true]
    refine ⟨rfl, rfl, rfl, rfl, rfl, ?_⟩
    have ho1 : o.within [0, 4] = true := by
      rcases ho with ⟨l, rfl, hs⟩ | rfl
      · exact withins_scal _ _ hs
      · rfl
    have ho2 : ∀ ρ, o.ren ρ = o := by
      intro ρ
      rcases ho with ⟨l, rfl, hs⟩ | rfl
      · simp only [AO.ren, rens_scal _ _ hs]
      · rfl
    refine Ret.keep [0, 4] ⟨⟨by simp, rfl, by decide⟩, ?_⟩ (rs := [.agg [.int .i64 p, .int .i64 c, .int .i64 n, .slc 4 0 ts.length false 0]]) rfl rfl (by simp [retV]) ?_ ⟨?_, ?_⟩
    · simp only [withins_scal _ _ (scals_trms _), ho1, keepW, keepL, AV.within, AV.withins, ↓reduceIte, reduceCtorEq, Nat.reduceEqDiff, Nat.reduceBEq, implies_true, Nat.reduceAdd]
    · intro j l; match j with
      | 0 =>
        simp only [kepts, List.map_cons, List.getElem?_cons_zero, ho2]
        exact fun h => ⟨l, h⟩
      | 1 => simp [kepts, AO.ren]
      | j + 2 => simp [kepts]
    · simp only [retV, elemV]
      simp only [keptL, keptW, keptE, kepts, slots, ↓reduceIte, reduceCtorEq, Nat.reduceEqDiff, AV.ren, AV.rens, pos, Nat.reduceAdd]
    · simp only [rens_scal _ _ (scals_trms _), ho2, keptL, keptW, keptE, kepts, slots, ↓reduceIte, reduceCtorEq, Nat.reduceEqDiff, AV.ren, AV.rens, pos, Nat.reduceAdd]
def g_toElement : BE := fun hp xs => match xs with
  | [.agg [.int .i64 p, .int .i64 c, .int .i64 n, X]] => match argTs hp X with
    | some ts => chk (ts.length ≤ 1100000) (some (elemV p c n hp.length ts.length, hp ++ [.vec 18 (trms ts)]))
    | none => none
  | _ => none
theorem k_toElement : Am.Callee Try.prog 16 g_toElement := Callee.fp fun hp xs v hp' he => by
  unfold g_toElement at he
  split at he
  · rename_i p c n X
    split at he
    · rename_i ts hts
      obtain ⟨h1, he⟩ := chk_some he
      simp only [Option.some.injEq, Prod.mk.injEq] at he
      obtain ⟨rfl, rfl⟩ := he
      obtain ⟨bs, H, X', hX, e1, e2, e3, e4, e5, e6, e7, e8⟩ := argTs_some hts
      refine ⟨bs, [.agg [.int .i64 p, .int .i64 c, .int .i64 n, X']], H, _, _, c_toElement H X' ts p c n hX h1, by simp only [AV.rens, AV.ren, e1], rfl, e3, e4, e5, ⟨⟨trivial, trivial, trivial, e6, trivial⟩, trivial⟩, ?_, ?_⟩
      · simp [elemV, AV.ren, AV.rens, Ren.ext]
      · rw [e8]; simp only [List.map_cons, List.map_nil, rn_vec, rens_scal _ _ (scals_trms _)]
    · cases he
  · cases he
def B31 : Book := (B30d.put 16 (g_toElement))

theorem B31_ok : BookOk Try.prog B31 := (B30d_ok.put (k_toElement))

end Go.Proofs.Ytkgoadglalpbfaa

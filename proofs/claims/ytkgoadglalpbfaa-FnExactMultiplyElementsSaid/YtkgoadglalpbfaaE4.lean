/- Contracts: the program's test of a diagram. -/
import Derived.Test.YtkgoadglalpbfaaE3
namespace Go.Proofs.Ytkgoadglalpbfaa
open Go.Am Go.Dia
set_option linter.unusedSimpArgs false
set_option linter.unusedVariables false
set_option maxRecDepth 4000
set_option maxHeartbeats 4000000

theorem B7_i_placeOf_E4 : B7 132 = some (plainE g_place) := rfl
def a_i_partners_l1 : AC := .seq (.region [⟨some 15, none, .op (.bin .lss (.t 14) (.t 13))⟩]) (.seq (.cond 15 .skip (.exit 0)) (.seq (.block 1 (.seq (.region [⟨some 16, none, .op (.mov (.t 14))⟩,
          ⟨some 6, none, .op (.mov (.t 16))⟩]) (.block 2 (.seq (.region [⟨some 37, none, .op (.mov (.t 0))⟩,
           ⟨some 38, none, .op (.mov (.t 6))⟩,
           ⟨some 39, none, .op (.idxS (.t 37) (.t 38))⟩,
           ⟨some 40, none, .op (.bin .eql (.t 39) (.c (.int .u8 40)))⟩,
           ⟨some 36, none, .op (.mov (.t 40))⟩]) (.cond 36 (.region [⟨some 41, none, .op (.mov (.t 5))⟩,
            ⟨some 42, none, .op (.mov (.t 6))⟩,
            ⟨some 43, none, .op (.mkslc 1 [(.int .i64 0)] [(0, 1, (.t 42))])⟩,
            ⟨some 44, none, .op (.append 1 8 (.t 41) (.t 43))⟩,
            ⟨some 5, none, .op (.mov (.t 44))⟩]) (.seq (.region [⟨some 46, none, .op (.mov (.t 0))⟩,
             ⟨some 47, none, .op (.mov (.t 6))⟩,
             ⟨some 48, none, .op (.idxS (.t 46) (.t 47))⟩,
             ⟨some 49, none, .op (.bin .neq (.t 48) (.c (.int .u8 41)))⟩,
             ⟨some 50, none, .op (.mov (.t 49))⟩,
             ⟨some 51, some (50, false), .op (.mov (.t 5))⟩,
             ⟨some 52, some (50, false), .op (.len .slc (.t 51))⟩,
             ⟨some 53, some (50, false), .op (.bin .eql (.t 52) (.c (.int .i64 0)))⟩,
             ⟨some 54, none, .op (.pick (.t 50) (.c (.bool true)) (.t 53))⟩,
             ⟨some 45, none, .op (.mov (.t 54))⟩]) (.cond 45 (.seq (.region [⟨some 2, none, .op (.mov (.c (.v (.slice none 0 0))))⟩,
               ⟨some 3, none, .op (.mov (.c (.bool false)))⟩]) .ret) (.seq (.region [⟨some 17, none, .op (.mov (.t 5))⟩,
               ⟨some 18, none, .op (.mov (.t 5))⟩,
               ⟨some 19, none, .op (.len .slc (.t 18))⟩,
               ⟨some 20, none, .op (.bin .sub (.t 19) (.c (.int .i64 1)))⟩,
               ⟨some 21, none, .op (.iaddrS 1 (.t 17) (.t 20))⟩,
               ⟨some 22, none, .op (.load1 (.t 21))⟩,
               ⟨some 7, none, .op (.mov (.t 22))⟩]) (.seq (.region [⟨some 23, none, .op (.mov (.t 5))⟩,
               ⟨some 24, none, .op (.mov (.t 5))⟩,
               ⟨some 25, none, .op (.len .slc (.t 24))⟩,
               ⟨some 26, none, .op (.bin .sub (.t 25) (.c (.int .i64 1)))⟩,
               ⟨some 27, none, .op (.reslc 1 (.t 23) none (some (.t 26)))⟩,
               ⟨some 5, none, .op (.mov (.t 27))⟩]) (.region [⟨some 28, none, .op (.mov (.t 4))⟩,
              ⟨some 29, none, .op (.mov (.t 7))⟩,
              ⟨some 30, none, .op (.mov (.t 4))⟩,
              ⟨some 31, none, .op (.mov (.t 6))⟩,
              ⟨some 32, none, .op (.mov (.t 6))⟩,
              ⟨some 33, none, .op (.mov (.t 7))⟩,
              ⟨some 34, none, .op (.iaddrS 1 (.t 28) (.t 29))⟩,
              ⟨none, none, .op (.store1 (.t 34) (.t 32))⟩,
              ⟨some 35, none, .op (.iaddrS 1 (.t 30) (.t 31))⟩,
              ⟨none, none, .op (.store1 (.t 35) (.t 33))⟩])))))))))) (.region [⟨some 55, none, .op (.bin .add (.t 14) (.c (.int .i64 1)))⟩,
       ⟨some 14, none, .op (.mov (.t 55))⟩])))
def a_i_partners_k1 : AC := .seq (.region [⟨some 56, none, .op (.mov (.t 4))⟩,
     ⟨some 57, none, .op (.mov (.t 5))⟩,
     ⟨some 58, none, .op (.len .slc (.t 57))⟩,
     ⟨some 59, none, .op (.bin .eql (.t 58) (.c (.int .i64 0)))⟩,
     ⟨some 2, none, .op (.mov (.t 56))⟩,
     ⟨some 3, none, .op (.mov (.t 59))⟩]) .ret
def a_i_partners : AC := .seq (.region [⟨some 2, none, .op (.mov (.c (.v (.slice none 0 0))))⟩,
     ⟨some 3, none, .op (.mov (.c (.bool false)))⟩]) (.seq (.region [⟨some 8, none, .op (.mov (.t 0))⟩,
     ⟨some 9, none, .op (.len .str (.t 8))⟩,
     ⟨some 10, none, .op (.mkslice 1 8 [(.int .i64 0)] (.t 9) (.t 9))⟩,
     ⟨some 11, none, .op (.mkslc 0 [] [])⟩,
     ⟨some 4, none, .op (.mov (.t 10))⟩,
     ⟨some 5, none, .op (.mov (.t 11))⟩]) (.seq (.seq (.region [⟨some 12, none, .op (.mov (.t 0))⟩,
      ⟨some 13, none, .op (.len .str (.t 12))⟩,
      ⟨some 14, none, .op (.mov (.c (.int .i64 0)))⟩]) (.block 0 (.loop a_i_partners_l1))) a_i_partners_k1))
theorem r_i_partners : readF Try.prog 149 = some ⟨60, a_i_partners, [.slot 2, .slot 3]⟩ := by kernel_rfl
def a_i_joined_l1 : AC := .seq (.region [⟨some 13, none, .op (.bin .lss (.t 12) (.t 11))⟩]) (.seq (.cond 13 .skip (.exit 0)) (.seq (.block 1 (.seq (.region [⟨some 14, none, .op (.mov (.t 12))⟩,
          ⟨some 15, none, .op (.iaddrS 1 (.t 10) (.t 12))⟩,
          ⟨some 16, none, .op (.load1 (.t 15))⟩,
          ⟨some 6, none, .op (.mov (.t 14))⟩,
          ⟨some 7, none, .op (.mov (.t 16))⟩]) (.region [⟨some 17, none, .op (.mov (.t 0))⟩,
         ⟨some 18, none, .op (.mov (.t 6))⟩,
         ⟨some 19, none, .call (.c (.fn 132 [] [])) [(.t 17), (.t 18)]⟩,
         ⟨some 20, none, .op (.mov (.t 0))⟩,
         ⟨some 21, none, .op (.mov (.t 7))⟩,
         ⟨some 22, none, .call (.c (.fn 132 [] [])) [(.t 20), (.t 21)]⟩,
         ⟨some 23, none, .op (.conv .u8 (.t 22))⟩,
         ⟨some 24, none, .op (.faddr 1 (.t 5))⟩,
         ⟨some 25, none, .op (.iaddrA 16 1 (.t 24) (.t 19))⟩,
         ⟨none, none, .op (.store1 (.t 25) (.t 23))⟩]))) (.region [⟨some 26, none, .op (.bin .add (.t 12) (.c (.int .i64 1)))⟩,
       ⟨some 12, none, .op (.mov (.t 26))⟩])))
def a_i_joined_k1 : AC := .seq (.region [⟨some 27, none, .op (.loadN 17 (.t 5))⟩,
     ⟨none, none, .op (.storeN 17 (.t 4) (.t 27))⟩]) .ret
def a_i_joined : AC := .seq (.region [⟨some 4, none, .op (.alloc [(.int .i64 0), (.int .u8 0), (.int .u8 0), (.int .u8 0), (.int .u8 0), (.int .u8 0), (.int .u8 0), (.int .u8 0), (.int .u8 0), (.int .u8 0), (.int .u8 0), (.int .u8 0), (.int .u8 0), (.int .u8 0), (.int .u8 0), (.int .u8 0), (.int .u8 0)])⟩]) (.seq (.region [⟨some 8, none, .op (.mov (.t 0))⟩,
     ⟨some 9, none, .op (.build [(.int .i64 0), (.int .u8 0), (.int .u8 0), (.int .u8 0), (.int .u8 0), (.int .u8 0), (.int .u8 0), (.int .u8 0), (.int .u8 0), (.int .u8 0), (.int .u8 0), (.int .u8 0), (.int .u8 0), (.int .u8 0), (.int .u8 0), (.int .u8 0), (.int .u8 0)] [(0, 1, (.t 8))])⟩,
     ⟨some 5, none, .op (.alloc [(.int .i64 0), (.int .u8 0), (.int .u8 0), (.int .u8 0), (.int .u8 0), (.int .u8 0), (.int .u8 0), (.int .u8 0), (.int .u8 0), (.int .u8 0), (.int .u8 0), (.int .u8 0), (.int .u8 0), (.int .u8 0), (.int .u8 0), (.int .u8 0), (.int .u8 0)])⟩,
     ⟨none, none, .op (.storeN 17 (.t 5) (.t 9))⟩]) (.seq (.seq (.region [⟨some 10, none, .op (.mov (.t 1))⟩,
      ⟨some 11, none, .op (.len .slc (.t 10))⟩,
      ⟨some 12, none, .op (.mov (.c (.int .i64 0)))⟩]) (.block 0 (.loop a_i_joined_l1))) a_i_joined_k1))
theorem r_i_joined : readF Try.prog 150 = some ⟨28, a_i_joined, [.cellN 4 17]⟩ := by kernel_rfl

def natsOf : List AV → Option (List Nat)
  | [] => some []
  | .int .i64 x :: r => if 0 ≤ x then (match natsOf r with
    | some l => some (x.toNat :: l)
    | none => none) else none
  | _ => none
theorem natsOf_n64s : ∀ {m : List Nat}, natsOf (n64s m) = some m
  | [] => rfl
  | x :: m => by
    have h1 := natsOf_n64s (m := m)
    simp only [n64s, List.map_cons, natsOf] at h1 ⊢
    rw [if_pos (by omega), h1]
    simp
theorem natsOf_some : ∀ {l : List AV} {m : List Nat}, natsOf l = some m → l = n64s m
  | [], m, h => by cases h; rfl
  | a :: l, m, h => by
    cases a <;> (try (simp only [natsOf, reduceCtorEq] at h; done))
    rename_i k x
    cases k <;> (try (simp only [natsOf, reduceCtorEq] at h; done))
    simp only [natsOf] at h
    split at h
    · split at h
      · rename_i r hr
        cases h
        rw [natsOf_some hr]
        simp only [n64s, List.map_cons, List.cons.injEq, AV.int.injEq, true_and, and_true]
        omega
      · cases h
    · cases h

/-- What 'partners' hands back. -/
def partR (s : List UInt8) : AV × List AO := match parts s s.length with
  | none => (.tup [.v (.slice none 0 0), .bool false], [])
  | some (out, st) => (.tup [.slc 0 0 s.length true s.length, .bool ((st.length : Int) == 0)], [.cells (n64s out)])

theorem byte_eq {x : UInt8} {c : Nat} (hc : c < 256) : ((x.toNat : Int) = c) ↔ x = UInt8.ofNat c := by
  constructor
  · intro h
    apply UInt8.toNat_inj.1
    rw [UInt8.toNat_ofNat']; omega
  · intro h; rw [h, UInt8.toNat_ofNat']; omega

theorem parts_none {s : List UInt8} {k : Nat} (h : parts s k = none) : ∀ j, k ≤ j → parts s j = none
  | 0, hj => by rw [← Nat.le_zero.1 hj]; exact h
  | j + 1, hj => by
    by_cases e : k = j + 1
    · rw [← e]; exact h
    · simp only [parts, parts_none h j (by omega)]

theorem nodup_le : ∀ (k : Nat) (l : List Nat), l.Nodup → (∀ i, i ∈ l → i < k) → l.length ≤ k
  | 0, [], _, _ => Nat.le_refl _
  | 0, a :: l, _, h => absurd (h a (by simp)) (by omega)
  | k + 1, l, hn, h => by
    by_cases hk : k ∈ l
    · have h1 := nodup_le k (l.erase k) (hn.erase k) fun i hi => by
        have h2 := h i (List.mem_of_mem_erase hi)
        have h3 : i ≠ k := by rintro rfl; exact (List.Nodup.not_mem_erase hn) hi
        omega
      rw [List.length_erase_of_mem hk] at h1; omega
    · have h1 := nodup_le k l hn fun i hi => by
        have h2 := h i hi
        have h3 : i ≠ k := by rintro rfl; exact hk hi
        omega
      omega

theorem c_i_partners (s : List UInt8) (hs : s.length ≤ 1000) : Am.Fn Try.prog 149 [.str s] [] (fun v H' => v = (partR s).1 ∧ H' = (partR s).2) := by
  refine Am.Fn.ofB B7_ok mixed r_i_partners (by simp) (by simp) ?_
  simp (maxSteps := 3000000) only [a_i_partners, fillA, rep_n64s, idX_eq, wbE, ↓symP, symE, listE, AK.isCall, enumE, ev, putE, abin, aun, AV.cells, ↓reduceIte, reduceCtorEq, Nat.reduceAdd, Nat.reduceMul, Nat.reduceSub, Nat.reduceEqDiff, Nat.reduceLT, Nat.reduceLeDiff, implies_true, Back, retv, retV, AV.scal, AV.scals]; try simp only [idX_eq, ite_both, pickP_both, not_not_eq, Bool.not_eq_false, Bool.not_eq_true]
  refine ⟨⟨by omega, by omega, by omega⟩, ?_⟩
  refine WA.loopB B7_ok (fun t => ∃ (k : Nat) (out st cl : List Nat), t = ⟨[(14, .int .i64 k), (13, .int .i64 s.length), (5, .slc 1 0 st.length false 0), (4, .slc 0 0 s.length true s.length), (0, .str s)], [.cells (n64s out), .vec 1 (n64s cl)]⟩ ∧
      k ≤ s.length ∧ parts s k = some (out, st) ∧ out.length = s.length ∧ st.length ≤ cl.length ∧ cl.take st.length = st.reverse ∧ (∀ i, i ∈ st → i < k))
    (fun s => match get s.env 14 with | .int _ k => (1000 - k).toNat | _ => 0) ⟨_, Weak.trans (Weak.slots [14, 13, 5, 4, 0]) (Weak.vec 1 0 1 (by decide) rfl rfl ?_ ?_), 0, List.replicate s.length 0, [], [], ?_, by omega, rfl, by simp, by simp, rfl, by simp⟩ ?_
  · simp only [slots, get_put, vecs, List.map_cons, List.map_nil, AV.toVec, AO.toVec, AV.toVecs, toVecs_scal _ _ _ (scals_dia _ _), toVecs_scal _ _ _ (scals_u8s _), toVecs_scal _ _ _ (scals_i64s _), toVecs_scal _ _ _ (scals_n64s _), List.set_cons_zero, List.set_cons_succ, List.getElem?_cons_zero, List.getElem?_cons_succ, reduceIte, and_self, Nat.reduceEqDiff, reduceCtorEq, false_and, and_false, AV.exact, AV.exacts, AO.exact, List.all_cons, List.all_nil, exacts_scal _ _ (scals_dia _ _), exacts_scal _ _ (scals_u8s _), exacts_scal _ _ (scals_i64s _), exacts_scal _ _ (scals_n64s _), Bool.and_self, Bool.and_true, Bool.or_true, Bool.or_false, Nat.reduceBEq, beq_self_eq_true, Bool.not_true, Bool.not_false, List.cons_append, List.nil_append]
  · simp only [vecs, List.map_cons, List.map_nil, AV.toVec, AO.toVec, AV.toVecs, toVecs_scal _ _ _ (scals_dia _ _), toVecs_scal _ _ _ (scals_u8s _), toVecs_scal _ _ _ (scals_i64s _), toVecs_scal _ _ _ (scals_n64s _), List.set_cons_zero, List.set_cons_succ, List.getElem?_cons_zero, List.getElem?_cons_succ, reduceIte, and_self, Nat.reduceEqDiff, reduceCtorEq, false_and, and_false, AV.exact, AV.exacts, AO.exact, List.all_cons, List.all_nil, exacts_scal _ _ (scals_dia _ _), exacts_scal _ _ (scals_u8s _), exacts_scal _ _ (scals_i64s _), exacts_scal _ _ (scals_n64s _), Bool.and_self, Bool.and_true, Bool.or_true, Bool.or_false, Nat.reduceBEq, beq_self_eq_true, Bool.not_true, Bool.not_false, List.cons_append, List.nil_append]
  · simp only [slots, get_put, vecs, List.map_cons, List.map_nil, AV.toVec, AO.toVec, AV.toVecs, toVecs_scal _ _ _ (scals_dia _ _), toVecs_scal _ _ _ (scals_u8s _), toVecs_scal _ _ _ (scals_i64s _), toVecs_scal _ _ _ (scals_n64s _), List.set_cons_zero, List.set_cons_succ, List.getElem?_cons_zero, List.getElem?_cons_succ, reduceIte, and_self, Nat.reduceEqDiff, reduceCtorEq, false_and, and_false, AV.exact, AV.exacts, AO.exact, List.all_cons, List.all_nil, exacts_scal _ _ (scals_dia _ _), exacts_scal _ _ (scals_u8s _), exacts_scal _ _ (scals_i64s _), exacts_scal _ _ (scals_n64s _), Bool.and_self, Bool.and_true, Bool.or_true, Bool.or_false, Nat.reduceBEq, beq_self_eq_true, Bool.not_true, Bool.not_false, List.cons_append, List.nil_append]; rfl
  rintro t ⟨k, out, st, cl, rfl, hk, hp, hl, hcl, htk, hlt⟩
  have hw : wrapK .i64 ((k : Int) + 1) = ((k + 1 : Nat) : Int) := by rw [wrap64 (by omega) (by omega)]; rfl
  simp (maxSteps := 3000000) only [a_i_partners_l1, hw, rd, List.getElem?_cons_zero, List.getElem?_cons_succ, fillA, src, lim, Option.map_some, Option.map_none, capOk, wrt, wrl, AO.withl, List.set_cons_zero, List.set_cons_succ, idX_eq, wbE, ↓symP, symE, listE, AK.isCall, enumE, ev, putE, abin, aun, AV.cells, ↓reduceIte, reduceCtorEq, Nat.reduceAdd, Nat.reduceMul, Nat.reduceSub, Nat.reduceEqDiff, Nat.reduceLT, Nat.reduceLeDiff, implies_true, Back, retv, retV, AV.scal, AV.scals]; try simp only [idX_eq, ite_both, pickP_both, not_not_eq, Bool.not_eq_false, Bool.not_eq_true]
  refine ⟨fun h1 => ⟨⟨by omega, by omega⟩, fun h2 => ?_, fun h2 => ⟨⟨by omega, by omega⟩, fun h3 => ⟨fun h4 => ?_, fun h4 => ?_⟩, fun h3 => ?_⟩⟩, fun h1 => ?_⟩
  · have h2' : s.getD k 0 = 40 := (byte_eq (by decide)).1 h2
    have happ : List.take st.length (n64s cl) ++ [AV.int .i64 (k : Int)] = n64s (k :: st).reverse := by
      rw [n64s_take, htk, List.reverse_cons, ← n64s_append]; rfl
    refine ⟨by simp [over], ⟨by rw [n64s_length]; exact hcl, by simp [over, AV.one], ?_⟩, _, Weak.keep [0, 3] [14, 13, 5, 4, 0] ⟨by decide, ?_⟩ ?_, ⟨k + 1, out, k :: st, (k :: st).reverse, ?_, by omega, ?_, hl, by simp, ?_, ?_⟩, ?_⟩
    · have : st.length ≤ 1000 := by
        have := parts_told k out st hk hp
        have h5 : st.Nodup := this.2.1.imp fun h => by omega
        have h6 := nodup_le k st h5 hlt
        omega
      omega
    · simp only [over, List.take_zero, List.length_cons, List.length_nil, List.drop_succ_cons, List.drop_nil, List.take_succ_cons, List.drop_zero, happ, keepW, keepL, AV.within, AV.withins, ↓reduceIte, reduceCtorEq, Nat.reduceEqDiff, Nat.reduceBEq, implies_true, Nat.reduceAdd]
    · simp only [keepW, keepL, AV.within, AV.withins, ↓reduceIte, reduceCtorEq, Nat.reduceEqDiff, Nat.reduceBEq, implies_true, Nat.reduceAdd]
    · simp only [over, List.take_zero, List.length_cons, List.length_nil, List.drop_succ_cons, List.drop_nil, List.take_succ_cons, List.drop_zero, happ, keptL, keptW, keptE, kepts, slots, ↓reduceIte, reduceCtorEq, Nat.reduceEqDiff, AV.ren, AV.rens, pos, Nat.reduceAdd]
    · simp only [parts, hp, h2', if_true]
    · rw [List.take_of_length_le (by simp)]
    · intro i hi
      rcases List.mem_cons.1 hi with rfl | hi
      · omega
      · have := hlt i hi; omega
    · simp only [keptL, keptW, keptE, kepts, slots, ↓reduceIte, reduceCtorEq, Nat.reduceEqDiff, AV.ren, AV.rens, pos, Nat.reduceAdd]; omega
  · have h2' : ¬ s.getD k 0 = 40 := fun h => h2 ((byte_eq (c := 40) (by decide)).2 h)
    have hst : st = [] := List.length_eq_zero_iff.1 (by omega)
    have hnone : parts s (k + 1) = none := by
      simp only [parts, hp, hst, if_neg h2']
      split <;> rfl
    have hr : partR s = (.tup [.v (.slice none 0 0), .bool false], []) := by
      unfold partR; rw [parts_none hnone s.length (by omega)]
    rw [hr]
    refine Ret.here [] ⟨by decide, by simp⟩ (rs := [.v (.slice none 0 0), .bool false]) (by simp (maxSteps := 3000000) only [idX_eq, wbE, ↓symP, symE, listE, AK.isCall, enumE, ev, putE, abin, aun, AV.cells, ↓reduceIte, reduceCtorEq, Nat.reduceAdd, Nat.reduceMul, Nat.reduceSub, Nat.reduceEqDiff, Nat.reduceLT, Nat.reduceLeDiff, implies_true, Back, retv, retV, AV.scal, AV.scals]; try simp only [idX_eq, ite_both, pickP_both, not_not_eq, Bool.not_eq_false, Bool.not_eq_true]) rfl (by simp [retV]) (by simp [kepts]) ⟨?_, rfl⟩
    simp [retV, AV.ren, AV.rens]
  · have h2' : ¬ s.getD k 0 = 40 := fun h => h2 ((byte_eq (c := 40) (by decide)).2 h)
    have h3' : s.getD k 0 = 41 := (byte_eq (c := 41) (by decide)).1 h3
    cases st with
    | nil => simp at h4
    | cons tp st' =>
    have hlen : wrapK .i64 (((tp :: st').length : Nat) - 1 : Int) = (st'.length : Nat) := by
      have : (tp :: st').length ≤ 1000 := by
        have := parts_told k out _ hk hp
        have h5 : (tp :: st').Nodup := this.2.1.imp fun h => by omega
        have h6 := nodup_le k _ h5 hlt
        omega
      rw [wrap64 (by simp only [List.length_cons] at *; omega) (by simp only [List.length_cons] at *; omega)]
      simp
    have htop : cl.getD st'.length 0 = tp := by
      have h5 : (cl.take (tp :: st').length)[st'.length]? = cl[st'.length]? := List.getElem?_take_of_lt (by simp)
      rw [htk, List.reverse_cons, List.getElem?_append_right (by simp)] at h5
      rw [List.getD_eq_getElem?_getD, ← h5]; simp
    have htpk := hlt tp (by simp)
    simp only [hlen, Int.toNat_natCast, htop, Nat.sub_zero, n64s_set, n64s_length, List.length_set]
    simp only [List.length_cons] at hcl ⊢
    refine ⟨⟨⟨by omega, by omega⟩, by omega⟩, by omega, ⟨by omega, by omega⟩, by omega, ⟨⟨by omega, by omega⟩, by omega⟩, ⟨by omega, rfl⟩, ⟨⟨by omega, by omega⟩, by omega⟩, ⟨by omega, rfl⟩,
      _, Weak.slots [14, 13, 5, 4, 0], ⟨k + 1, (out.set tp k).set k tp, st', cl, ?_, by omega, ?_, by simp [hl], by omega, ?_, ?_⟩, ?_⟩
    · simp only [keptL, keptW, keptE, kepts, slots, ↓reduceIte, reduceCtorEq, Nat.reduceEqDiff, AV.ren, AV.rens, pos, Nat.reduceAdd]
    · simp only [parts, hp, if_neg h2', if_pos h3']
    · have h5 := congrArg (List.take st'.length) htk
      rw [List.take_take, List.reverse_cons, List.take_append_of_le_length (by simp), List.take_of_length_le (l := st'.reverse) (by simp)] at h5
      rw [← h5]; congr 1; simp only [List.length_cons]; omega
    · intro i hi
      have := hlt i (List.mem_cons_of_mem _ hi); omega
    · simp only [keptL, keptW, keptE, kepts, slots, ↓reduceIte, reduceCtorEq, Nat.reduceEqDiff, AV.ren, AV.rens, pos, Nat.reduceAdd]; omega
  · have h2' : ¬ s.getD k 0 = 40 := fun h => h2 ((byte_eq (c := 40) (by decide)).2 h)
    have h3' : ¬ s.getD k 0 = 41 := fun h => by
      have := (byte_eq (x := s.getD k 0) (c := 41) (by decide)).2 h
      simp_all
    have hnone : parts s (k + 1) = none := by
      simp only [parts, hp, if_neg h2', if_neg h3']
    have hr : partR s = (.tup [.v (.slice none 0 0), .bool false], []) := by
      unfold partR; rw [parts_none hnone s.length (by omega)]
    rw [hr]
    refine Ret.here [] ⟨by decide, by simp⟩ (rs := [.v (.slice none 0 0), .bool false]) (by simp (maxSteps := 3000000) only [idX_eq, wbE, ↓symP, symE, listE, AK.isCall, enumE, ev, putE, abin, aun, AV.cells, ↓reduceIte, reduceCtorEq, Nat.reduceAdd, Nat.reduceMul, Nat.reduceSub, Nat.reduceEqDiff, Nat.reduceLT, Nat.reduceLeDiff, implies_true, Back, retv, retV, AV.scal, AV.scals]; try simp only [idX_eq, ite_both, pickP_both, not_not_eq, Bool.not_eq_false, Bool.not_eq_true]) rfl (by simp [retV]) (by simp [kepts]) ⟨?_, rfl⟩
    simp [retV, AV.ren, AV.rens]
  · have hkl : k = s.length := by omega
    subst hkl
    simp (maxSteps := 3000000) only [a_i_partners_k1, idX_eq, wbE, ↓symP, symE, listE, AK.isCall, enumE, ev, putE, abin, aun, AV.cells, ↓reduceIte, reduceCtorEq, Nat.reduceAdd, Nat.reduceMul, Nat.reduceSub, Nat.reduceEqDiff, Nat.reduceLT, Nat.reduceLeDiff, implies_true, Back, retv, retV, AV.scal, AV.scals]; try simp only [idX_eq, ite_both, pickP_both, not_not_eq, Bool.not_eq_false, Bool.not_eq_true]
    have hr : partR s = (.tup [.slc 0 0 s.length true s.length, .bool ((st.length : Int) == 0)], [.cells (n64s out)]) := by
      unfold partR; rw [hp]
    rw [hr]
    refine Ret.here [0] ⟨by decide, ?_⟩ (rs := [.slc 0 0 s.length true s.length, .bool ((st.length : Int) == 0)]) (by simp (maxSteps := 3000000) only [idX_eq, wbE, ↓symP, symE, listE, AK.isCall, enumE, ev, putE, abin, aun, AV.cells, ↓reduceIte, reduceCtorEq, Nat.reduceAdd, Nat.reduceMul, Nat.reduceSub, Nat.reduceEqDiff, Nat.reduceLT, Nat.reduceLeDiff, implies_true, Back, retv, retV, AV.scal, AV.scals]; try simp only [idX_eq, ite_both, pickP_both, not_not_eq, Bool.not_eq_false, Bool.not_eq_true]) rfl (by simp [retV]) ?_ ⟨?_, ?_⟩
    · simp only [keepW, keepL, AV.within, AV.withins, ↓reduceIte, reduceCtorEq, Nat.reduceEqDiff, Nat.reduceBEq, implies_true, Nat.reduceAdd]
    · intro j l; cases j <;> simp [kepts, AO.ren]
    · simp only [retV]
      simp only [keptL, keptW, keptE, kepts, slots, ↓reduceIte, reduceCtorEq, Nat.reduceEqDiff, AV.ren, AV.rens, pos, Nat.reduceAdd]
    · simp only [keptL, keptW, keptE, kepts, slots, ↓reduceIte, reduceCtorEq, Nat.reduceEqDiff, AV.ren, AV.rens, pos, Nat.reduceAdd]

def g_partners : List AV → Option (AV × List AO)
  | [.str s] => chk (s.length ≤ 1000) (some (partR s))
  | _ => none
theorem k_i_partners : Am.Callee Try.prog 149 (newE g_partners) :=
  Am.Callee.new fun xs v H he => by
    unfold g_partners at he
    split at he
    · rename_i s
      obtain ⟨h1, he⟩ := chk_some he
      have e1 : v = (partR s).1 := by rw [Option.some.inj he]
      have e2 : H = (partR s).2 := by rw [Option.some.inj he]
      rw [e1, e2]
      exact ⟨rfl, c_i_partners s h1⟩
    · cases he

theorem c_i_joined (n : Nat) (out : List Nat) (hn : n ≤ 8) (hl : out.length = 2 * n) (ho : ∀ k, k < 2 * n → out.getD k 0 < 2 * n) :
    Am.Fn Try.prog 150 [.int .i64 n, .slc 0 0 (2 * n) true (2 * n)] [.ro (n64s out)] (fun v H' => v = .agg (dia n (joinedTo n out (2 * n))) ∧ H' = [.ro (n64s out)]) := by
  refine Am.Fn.sameB (R := fun v => v = _) B7_ok mixed r_i_joined (by simp) (ro_under (scals_n64s _)) ?_
  simp (maxSteps := 3000000) only [a_i_joined, fillA, rd, wrt, wrl, AO.withl, List.getElem?_cons_zero, List.getElem?_cons_succ, List.set_cons_zero, List.set_cons_succ, dia_zero, dia_sized', over_dia okD_zero okD_zero, dia_length, List.length_replicate, ones_dia, idX_eq, wbE, ↓symP, symE, listE, AK.isCall, enumE, ev, putE, abin, aun, AV.cells, ↓reduceIte, reduceCtorEq, Nat.reduceAdd, Nat.reduceMul, Nat.reduceSub, Nat.reduceEqDiff, Nat.reduceLT, Nat.reduceLeDiff, implies_true, Back, retv, retV, AV.scal, AV.scals]; try simp only [idX_eq, ite_both, pickP_both, not_not_eq, Bool.not_eq_false, Bool.not_eq_true]
  refine WA.loopB B7_ok (fun t => ∃ k : Nat, t = ⟨[(12, .int .i64 k), (11, .int .i64 (2 * n : Nat)), (10, .slc 0 0 (2 * n) true (2 * n)), (5, .ptr 2 0), (4, .ptr 1 0), (0, .int .i64 n)], [.ro (n64s out), .cells (dia 0 (List.replicate 16 0)), .cells (dia n (joinedTo n out k))]⟩ ∧ k ≤ 2 * n)
    (fun s => match get s.env 12 with | .int _ k => (1000 - k).toNat | _ => 0) ⟨_, Weak.slots [12, 11, 10, 5, 4, 0], 0, rfl, by omega⟩ ?_
  rintro t ⟨k, rfl, hk⟩
  have hw : wrapK .i64 ((k : Int) + 1) = ((k + 1 : Nat) : Int) := by rw [wrap64 (by omega) (by omega)]; rfl
  have hj := joinedTo_length n out k
  simp (maxSteps := 3000000) only [a_i_joined_l1, B7_i_placeOf_E4, g_place, hw, rd, List.getElem?_cons_zero, List.getElem?_cons_succ, n64s_length, hl, wrt, wrl, AO.withl, List.set_cons_zero, List.set_cons_succ, idX_eq, wbE, ↓symP, symE, listE, AK.isCall, enumE, ev, putE, abin, aun, AV.cells, ↓reduceIte, reduceCtorEq, Nat.reduceAdd, Nat.reduceMul, Nat.reduceSub, Nat.reduceEqDiff, Nat.reduceLT, Nat.reduceLeDiff, implies_true, Back, retv, retV, AV.scal, AV.scals]; try simp only [idX_eq, ite_both, pickP_both, not_not_eq, Bool.not_eq_false, Bool.not_eq_true]
  refine ⟨fun h => ?_, fun h => ?_⟩
  · have hk' : k < 2 * n := by omega
    have h1 := ho k hk'
    have h2 := place_lt h1
    have h3 := place_lt hk'
    simp only [placeZ_nat hk', placeZ_nat h1, Int.toNat_natCast, wrapU8 (show place n (out.getD k 0) < 256 from by omega), dia_set, dia_length, hj]
    refine ⟨⟨⟨by omega, by omega⟩, by omega⟩, by omega, ⟨small_nat (by omega), small_nat (by omega)⟩, ⟨small_nat (by omega), small_nat (by omega)⟩, ⟨by omega, by omega⟩, ⟨by omega, rfl⟩, _, Weak.slots [12, 11, 10, 5, 4, 0], ⟨k + 1, ?_, by omega⟩, ?_⟩
    · simp only [keptL, keptW, keptE, kepts, slots, ↓reduceIte, reduceCtorEq, Nat.reduceEqDiff, AV.ren, AV.rens, pos, Nat.reduceAdd]; rfl
    · simp only [keptL, keptW, keptE, kepts, slots, ↓reduceIte, reduceCtorEq, Nat.reduceEqDiff, AV.ren, AV.rens, pos, Nat.reduceAdd]; omega
  · have hkn : k = 2 * n := by omega
    subst hkn
    simp (maxSteps := 3000000) only [a_i_joined_k1, rd, wrt, wrl, AO.withl, List.getElem?_cons_zero, List.getElem?_cons_succ, List.set_cons_zero, List.set_cons_succ, dia_length, hj, dia_all hj, over_dia okD_zero hj, ones_dia, List.length_replicate, scals_dia, idX_eq, wbE, ↓symP, symE, listE, AK.isCall, enumE, ev, putE, abin, aun, AV.cells, ↓reduceIte, reduceCtorEq, Nat.reduceAdd, Nat.reduceMul, Nat.reduceSub, Nat.reduceEqDiff, Nat.reduceLT, Nat.reduceLeDiff, implies_true, Back, retv, retV, AV.scal, AV.scals]; try simp only [idX_eq, ite_both, pickP_both, not_not_eq, Bool.not_eq_false, Bool.not_eq_true]
    exact ⟨_, rfl⟩

def g_joined : List AV → List AV → Option AV := fun l xs => match natsOf l, xs with
  | some out, [.int .i64 n, .slc 0 0 k true c] => chk ((0 ≤ n ∧ n ≤ 8) ∧ k = 2 * n.toNat ∧ c = k ∧ out.length = k ∧ (List.range k).all (fun i => decide (out.getD i 0 < k)) = true) (some (.agg (dia n (joinedTo n.toNat out k))))
  | _, _ => none
theorem k_i_joined : Am.Callee Try.prog 150 (readS 1 1 g_joined) :=
  Am.Callee.readS fun l pre post len ex c v hp hl he => by
    unfold g_joined at he
    split at he
    · rename_i out n k c' hd hx
      obtain ⟨⟨h1, h2, h3, h4, h5⟩, he⟩ := chk_some he
      cases he
      obtain ⟨a, rfl⟩ : ∃ a, pre = [a] := List.length_eq_one_iff.1 hp
      simp only [List.cons_append, List.nil_append, List.cons.injEq, AV.slc.injEq, true_and] at hx
      obtain ⟨rfl, ⟨rfl, rfl, rfl⟩, rfl⟩ := hx
      have := natsOf_some hd
      subst this
      obtain ⟨j, rfl⟩ : ∃ j : Nat, n = j := ⟨n.toNat, by omega⟩
      simp only [Int.toNat_natCast] at h2 ⊢
      subst h3; subst h2
      refine ⟨scals_n64s _, rfl, rfl, by simp only [AV.scal, scals_dia], c_i_joined j out (by omega) h4 fun k hk => ?_⟩
      have := List.all_eq_true.1 h5 k (List.mem_range.2 hk)
      exact of_decide_eq_true this
    · cases he
end Go.Proofs.Ytkgoadglalpbfaa

/- Contracts: the program's test of a diagram, and of lists of them. -/
import Derived.Test.YtkgoadglalpbfaaE4
namespace Go.Proofs.Ytkgoadglalpbfaa
open Go.Am Go.Dia
set_option linter.unusedSimpArgs false
set_option linter.unusedVariables false
set_option maxRecDepth 4000
set_option maxHeartbeats 1000000


def a_i_read : AC := .seq (.region [⟨some 2, none, .op (.alloc [(.int .i64 0), (.int .u8 0), (.int .u8 0), (.int .u8 0), (.int .u8 0), (.int .u8 0), (.int .u8 0), (.int .u8 0), (.int .u8 0), (.int .u8 0), (.int .u8 0), (.int .u8 0), (.int .u8 0), (.int .u8 0), (.int .u8 0), (.int .u8 0), (.int .u8 0)])⟩,
     ⟨some 3, none, .op (.mov (.c (.bool false)))⟩]) (.seq (.seq (.region [⟨some 6, none, .op (.mov (.t 0))⟩,
      ⟨some 7, none, .op (.len .str (.t 6))⟩,
      ⟨some 8, none, .op (.bin .rem (.t 7) (.c (.int .i64 2)))⟩,
      ⟨some 9, none, .op (.bin .neq (.t 8) (.c (.int .i64 0)))⟩,
      ⟨some 10, none, .op (.mov (.t 9))⟩,
      ⟨some 11, some (10, false), .op (.mov (.t 0))⟩,
      ⟨some 12, some (10, false), .op (.len .str (.t 11))⟩,
      ⟨some 13, some (10, false), .call (.c (.fn 93 [] [])) [(.t 12), (.c (.int .i64 2)), (.c (.int .i64 16))]⟩,
      ⟨some 14, some (10, false), .op (.un .not (.t 13))⟩,
      ⟨some 15, none, .op (.pick (.t 10) (.c (.bool true)) (.t 14))⟩]) (.cond 15 (.seq (.region [⟨some 16, none, .op (.build [(.int .i64 0), (.int .u8 0), (.int .u8 0), (.int .u8 0), (.int .u8 0), (.int .u8 0), (.int .u8 0), (.int .u8 0), (.int .u8 0), (.int .u8 0), (.int .u8 0), (.int .u8 0), (.int .u8 0), (.int .u8 0), (.int .u8 0), (.int .u8 0), (.int .u8 0)] [])⟩,
        ⟨none, none, .op (.storeN 17 (.t 2) (.t 16))⟩,
        ⟨some 3, none, .op (.mov (.c (.bool false)))⟩]) .ret) .skip)) (.seq (.region [⟨some 18, none, .op (.mov (.t 0))⟩,
     ⟨some 19, none, .call (.c (.fn 149 [] [])) [(.t 18)]⟩,
     ⟨some 17, none, .op (.mov (.t 19))⟩,
     ⟨some 20, none, .op (.ext 0 (.t 17))⟩,
     ⟨some 21, none, .op (.ext 1 (.t 17))⟩,
     ⟨some 4, none, .op (.mov (.t 20))⟩,
     ⟨some 5, none, .op (.mov (.t 21))⟩]) (.seq (.seq (.region [⟨some 22, none, .op (.mov (.t 5))⟩,
      ⟨some 23, none, .op (.un .not (.t 22))⟩]) (.cond 23 (.seq (.region [⟨some 24, none, .op (.build [(.int .i64 0), (.int .u8 0), (.int .u8 0), (.int .u8 0), (.int .u8 0), (.int .u8 0), (.int .u8 0), (.int .u8 0), (.int .u8 0), (.int .u8 0), (.int .u8 0), (.int .u8 0), (.int .u8 0), (.int .u8 0), (.int .u8 0), (.int .u8 0), (.int .u8 0)] [])⟩,
        ⟨none, none, .op (.storeN 17 (.t 2) (.t 24))⟩,
        ⟨some 3, none, .op (.mov (.c (.bool false)))⟩]) .ret) .skip)) (.seq (.region [⟨some 25, none, .op (.mov (.t 0))⟩,
     ⟨some 26, none, .op (.len .str (.t 25))⟩,
     ⟨some 27, none, .op (.bin .quo (.t 26) (.c (.int .i64 2)))⟩,
     ⟨some 28, none, .op (.mov (.t 4))⟩,
     ⟨some 29, none, .call (.c (.fn 150 [] [])) [(.t 27), (.t 28)]⟩,
     ⟨none, none, .op (.storeN 17 (.t 2) (.t 29))⟩,
     ⟨some 3, none, .op (.mov (.c (.bool true)))⟩]) .ret))))
theorem r_i_read : readF Try.prog 131 = some ⟨30, a_i_read, [.cellN 2 17, .slot 3]⟩ := by kernel_rfl
def a_i_IsDiagram_l1 : AC := .seq (.region [⟨some 14, none, .op (.bin .lss (.t 13) (.c (.int .i64 16)))⟩]) (.seq (.cond 14 .skip (.exit 0)) (.seq (.block 1 (.seq (.region [⟨some 15, none, .op (.mov (.t 13))⟩,
          ⟨some 16, none, .op (.idxA 16 1 false (.t 12) (.t 13))⟩,
          ⟨some 3, none, .op (.mov (.t 15))⟩,
          ⟨some 4, none, .op (.mov (.t 16))⟩]) (.seq (.region [⟨some 17, none, .op (.mov (.t 3))⟩,
          ⟨some 18, none, .call (.c (.fn 115 [] [])) [(.t 1)]⟩,
          ⟨some 19, none, .op (.bin .mul (.c (.int .i64 2)) (.t 18))⟩,
          ⟨some 20, none, .op (.bin .geq (.t 17) (.t 19))⟩,
          ⟨some 21, none, .op (.mov (.t 20))⟩,
          ⟨some 22, some (21, true), .op (.mov (.t 4))⟩,
          ⟨some 23, some (21, true), .op (.bin .neq (.t 22) (.c (.int .u8 0)))⟩,
          ⟨some 24, none, .op (.pick (.t 21) (.t 23) (.c (.bool false)))⟩,
          ⟨some 25, none, .op (.mov (.t 24))⟩,
          ⟨some 26, some (25, false), .op (.mov (.t 3))⟩,
          ⟨some 27, some (25, false), .call (.c (.fn 115 [] [])) [(.t 1)]⟩,
          ⟨some 28, some (25, false), .op (.bin .mul (.c (.int .i64 2)) (.t 27))⟩,
          ⟨some 29, some (25, false), .op (.bin .lss (.t 26) (.t 28))⟩,
          ⟨some 30, some (25, false), .op (.mov (.t 29))⟩,
          ⟨some 31, some (30, true), .op (.mov (.t 4))⟩,
          ⟨some 32, some (30, true), .op (.conv .i64 (.t 31))⟩,
          ⟨some 33, some (30, true), .call (.c (.fn 115 [] [])) [(.t 1)]⟩,
          ⟨some 34, some (30, true), .op (.bin .mul (.c (.int .i64 2)) (.t 33))⟩,
          ⟨some 35, some (30, true), .op (.bin .geq (.t 32) (.t 34))⟩,
          ⟨some 36, some (25, false), .op (.pick (.t 30) (.t 35) (.c (.bool false)))⟩,
          ⟨some 37, none, .op (.pick (.t 25) (.c (.bool true)) (.t 36))⟩]) (.cond 37 (.seq (.region [⟨some 2, none, .op (.mov (.c (.bool false)))⟩]) .ret) .skip)))) (.region [⟨some 38, none, .op (.bin .add (.t 13) (.c (.int .i64 1)))⟩,
       ⟨some 13, none, .op (.mov (.t 38))⟩])))
def a_i_IsDiagram_k1 : AC := .seq (.region [⟨some 40, none, .call (.c (.fn 100 [] [])) [(.t 1)]⟩,
     ⟨some 41, none, .call (.c (.fn 131 [] [])) [(.t 40)]⟩,
     ⟨some 39, none, .op (.mov (.t 41))⟩,
     ⟨some 42, none, .op (.ext 0 (.t 39))⟩,
     ⟨some 43, none, .op (.ext 1 (.t 39))⟩,
     ⟨some 5, none, .op (.alloc [(.int .i64 0), (.int .u8 0), (.int .u8 0), (.int .u8 0), (.int .u8 0), (.int .u8 0), (.int .u8 0), (.int .u8 0), (.int .u8 0), (.int .u8 0), (.int .u8 0), (.int .u8 0), (.int .u8 0), (.int .u8 0), (.int .u8 0), (.int .u8 0), (.int .u8 0)])⟩,
     ⟨none, none, .op (.storeN 17 (.t 5) (.t 42))⟩,
     ⟨some 6, none, .op (.mov (.t 43))⟩]) (.seq (.region [⟨some 44, none, .op (.mov (.t 6))⟩,
     ⟨some 45, none, .op (.mov (.t 44))⟩,
     ⟨some 46, some (45, true), .op (.loadN 17 (.t 5))⟩,
     ⟨some 47, some (45, true), .op (.loadN 17 (.t 1))⟩,
     ⟨some 48, some (45, true), .op (.eqs false [.int, .int, .int, .int, .int, .int, .int, .int, .int, .int, .int, .int, .int, .int, .int, .int, .int] (.t 46) (.t 47))⟩,
     ⟨some 49, none, .op (.pick (.t 45) (.t 48) (.c (.bool false)))⟩,
     ⟨some 2, none, .op (.mov (.t 49))⟩]) .ret)
def a_i_IsDiagram : AC := .seq (.region [⟨some 1, none, .op (.box (.t 0))⟩,
     ⟨some 2, none, .op (.mov (.c (.bool false)))⟩]) (.seq (.seq (.region [⟨some 7, none, .op (.faddr 0 (.t 1))⟩,
      ⟨some 8, none, .op (.load1 (.t 7))⟩,
      ⟨some 9, none, .call (.c (.fn 93 [] [])) [(.t 8), (.c (.int .i64 1)), (.c (.int .i64 8))]⟩,
      ⟨some 10, none, .op (.un .not (.t 9))⟩]) (.cond 10 (.seq (.region [⟨some 2, none, .op (.mov (.c (.bool false)))⟩]) .ret) .skip)) (.seq (.seq (.region [⟨some 11, none, .op (.faddr 1 (.t 1))⟩,
      ⟨some 12, none, .op (.loadN 16 (.t 11))⟩,
      ⟨some 13, none, .op (.mov (.c (.int .i64 0)))⟩]) (.block 0 (.loop a_i_IsDiagram_l1))) a_i_IsDiagram_k1))
theorem r_i_IsDiagram : readF Try.prog 99 = some ⟨50, a_i_IsDiagram, [.slot 2]⟩ := by kernel_rfl

def B8 : Book := ((B7.put 149 (newE g_partners)).put 150 (readS 1 1 g_joined))

theorem B8_ok : BookOk Try.prog B8 := ((B7_ok.put (k_i_partners)).put (k_i_joined))

theorem B8_i_Diagram_n_E5 : B8 115 = some (readE 1 g_n) := rfl
theorem B8_i_Diagram_text_E5 : B8 100 = some (readE 17 g_text) := rfl
theorem B8_i_in_E5 : B8 93 = some (plainE g_in) := rfl
theorem B8_i_partners_E5 : B8 149 = some (newE g_partners) := rfl
theorem B8_i_joined_E5 : B8 150 = some (readS 1 1 g_joined) := rfl


/-- What 'read' hands back. -/
def readR (s : List UInt8) : AV := match readText s with
  | some (n, m) => .tup [.agg (dia n m), .bool true]
  | none => .tup [.agg (dia 0 (List.replicate 16 0)), .bool false]

theorem dia_take17 {n : Int} {m : List Nat} (h : m.length = 16) : List.take 17 (dia n m) = dia n m := by
  rw [List.take_of_length_le]; rw [dia_length, h]; exact Nat.le_refl _
theorem ren_pS (b n c m : Nat) (x : Bool) : AV.ren (shiftR m) (.tup [.slc b 0 n true c, .bool x]) = .tup [.slc (m + b) 0 n true c, .bool x] := rfl
theorem ren_pN (m : Nat) (x : Bool) : AV.ren (shiftR m) (.tup [.v (.slice none 0 0), .bool x]) = .tup [.v (.slice none 0 0), .bool x] := rfl
theorem c_i_read (s : List UInt8) (hs : s.length ≤ 1000000) : Am.Fn Try.prog 131 [.str s] [] (fun v H' => v = readR s ∧ H' = []) := by
  refine Am.Fn.sameB (R := fun v => v = _) B8_ok mixed r_i_read (by simp) (by simp) ?_
  have htm : (s.length : Int).tmod 2 = ((s.length % 2 : Nat) : Int) := (Int.ofNat_tmod s.length 2).symm
  by_cases hc : s.length % 2 = 0 ∧ 2 ≤ s.length ∧ s.length ≤ 16
  case neg =>
    have hr : readR s = .tup [.agg (dia 0 (List.replicate 16 0)), .bool false] := by
      unfold readR readText; rw [if_neg hc]
    have hb : ((2 : Int) = 0) = False := eq_false (by decide)
    by_cases hpar : s.length % 2 = 0
    · have hx : ((s.length : Int).tmod 2 = 0) = True := eq_true (by omega)
      have hy : (2 ≤ (s.length : Int) ∧ (s.length : Int) ≤ 16) = False := eq_false (by omega)
      simp (maxSteps := 3000000) only [a_i_read, B8_i_Diagram_n_E5, B8_i_Diagram_text_E5, B8_i_in_E5, B8_i_partners_E5, B8_i_joined_E5, g_in, g_joined, g_n, g_partners, g_text, hr, hb, hx, hy, fillA, rd, wrt, wrl, AO.withl, List.getElem?_cons_zero, List.getElem?_cons_succ, List.set_cons_zero, List.set_cons_succ, dia_zero, over_dia okD_zero okD_zero, dia_length, List.length_replicate, ones_dia, dia_all okD_zero, dia_take17 okD_zero, scals_dia, Nat.le_refl, idX_eq, wbE, ↓symP, symE, listE, AK.isCall, enumE, ev, putE, abin, aun, AV.cells, ↓reduceIte, reduceCtorEq, Nat.reduceAdd, Nat.reduceMul, Nat.reduceSub, Nat.reduceEqDiff, Nat.reduceLT, Nat.reduceLeDiff, implies_true, Back, retv, retV, AV.scal, AV.scals]; try simp only [idX_eq, ite_both, pickP_both, not_not_eq, Bool.not_eq_false, Bool.not_eq_true]
    · have hx : ((s.length : Int).tmod 2 = 0) = False := eq_false (by omega)
      simp (maxSteps := 3000000) only [a_i_read, B8_i_Diagram_n_E5, B8_i_Diagram_text_E5, B8_i_in_E5, B8_i_partners_E5, B8_i_joined_E5, g_in, g_joined, g_n, g_partners, g_text, hr, hb, hx, fillA, rd, wrt, wrl, AO.withl, List.getElem?_cons_zero, List.getElem?_cons_succ, List.set_cons_zero, List.set_cons_succ, dia_zero, over_dia okD_zero okD_zero, dia_length, List.length_replicate, ones_dia, dia_all okD_zero, dia_take17 okD_zero, scals_dia, Nat.le_refl, idX_eq, wbE, ↓symP, symE, listE, AK.isCall, enumE, ev, putE, abin, aun, AV.cells, ↓reduceIte, reduceCtorEq, Nat.reduceAdd, Nat.reduceMul, Nat.reduceSub, Nat.reduceEqDiff, Nat.reduceLT, Nat.reduceLeDiff, implies_true, Back, retv, retV, AV.scal, AV.scals]; try simp only [idX_eq, ite_both, pickP_both, not_not_eq, Bool.not_eq_false, Bool.not_eq_true]
  case pos =>
    have h4 : wrapK .i64 ((s.length : Int).tdiv 2) = ((s.length / 2 : Nat) : Int) := by
      rw [show (s.length : Int).tdiv 2 = ((s.length / 2 : Nat) : Int) from (Int.ofNat_tdiv s.length 2).symm]; exact wrap64N (by omega)
    have hb : ((2 : Int) = 0) = False := eq_false (by decide)
    have hcs : parts s s.length = none ∨ ∃ out st, parts s s.length = some (out, st) := by
      cases parts s s.length with
      | none => exact .inl rfl
      | some r => exact .inr ⟨r.1, r.2, rfl⟩
    rcases hcs with hp | ⟨out, st, hp⟩
    · skip
      have hr : readR s = .tup [.agg (dia 0 (List.replicate 16 0)), .bool false] := by
        unfold readR readText; rw [if_pos hc, hp]
      have hpr : partR s = (.tup [.v (.slice none 0 0), .bool false], []) := by unfold partR; rw [hp]
      simp (maxSteps := 3000000) only [a_i_read, B8_i_Diagram_n_E5, B8_i_Diagram_text_E5, B8_i_in_E5, B8_i_partners_E5, B8_i_joined_E5, g_in, g_joined, g_n, g_partners, g_text, fillA, rd, wrt, wrl, AO.withl, List.getElem?_cons_zero, List.getElem?_cons_succ, List.set_cons_zero, List.set_cons_succ, List.take_zero, List.take_succ_cons, List.drop_succ_cons, List.drop_zero, dia_zero, over_dia okD_zero okD_zero, dia_length, List.length_replicate, ones_dia, dia_all okD_zero, dia_take17 okD_zero, scals_dia, Nat.le_refl, hr, hpr, ren_pN, fillA, rd, wrt, wrl, AO.withl, List.getElem?_cons_zero, List.getElem?_cons_succ, List.set_cons_zero, List.set_cons_succ, List.take_zero, List.take_succ_cons, List.drop_succ_cons, List.drop_zero, dia_zero, over_dia okD_zero okD_zero, dia_length, List.length_replicate, ones_dia, dia_all okD_zero, dia_take17 okD_zero, scals_dia, Nat.le_refl, idX_eq, wbE, ↓symP, symE, listE, AK.isCall, enumE, ev, putE, abin, aun, AV.cells, ↓reduceIte, reduceCtorEq, Nat.reduceAdd, Nat.reduceMul, Nat.reduceSub, Nat.reduceEqDiff, Nat.reduceLT, Nat.reduceLeDiff, implies_true, Back, retv, retV, AV.scal, AV.scals]; try simp only [idX_eq, ite_both, pickP_both, not_not_eq, Bool.not_eq_false, Bool.not_eq_true]
      refine ⟨by decide, fun _ => ⟨fun _ => trivial, fun _ => by omega⟩, fun _ => trivial⟩
    · cases st with
      | cons a st =>
        have hr : readR s = .tup [.agg (dia 0 (List.replicate 16 0)), .bool false] := by
          unfold readR readText; rw [if_pos hc, hp]
        have h5 : ((((a :: st).length : Nat) : Int) == 0) = false := by
          rw [beq_eq_false_iff_ne, List.length_cons]; omega
        have hpr : partR s = (.tup [.slc 0 0 s.length true s.length, .bool false], [.cells (n64s out)]) := by unfold partR; rw [hp]; simp only [h5]
        simp (maxSteps := 3000000) only [a_i_read, B8_i_Diagram_n_E5, B8_i_Diagram_text_E5, B8_i_in_E5, B8_i_partners_E5, B8_i_joined_E5, g_in, g_joined, g_n, g_partners, g_text, fillA, rd, wrt, wrl, AO.withl, List.getElem?_cons_zero, List.getElem?_cons_succ, List.set_cons_zero, List.set_cons_succ, List.take_zero, List.take_succ_cons, List.drop_succ_cons, List.drop_zero, dia_zero, over_dia okD_zero okD_zero, dia_length, List.length_replicate, ones_dia, dia_all okD_zero, dia_take17 okD_zero, scals_dia, Nat.le_refl, hr, hpr, ren_pS, rn_cells, rens_scal _ _ (scals_n64s _), fillA, rd, wrt, wrl, AO.withl, List.getElem?_cons_zero, List.getElem?_cons_succ, List.set_cons_zero, List.set_cons_succ, List.take_zero, List.take_succ_cons, List.drop_succ_cons, List.drop_zero, dia_zero, over_dia okD_zero okD_zero, dia_length, List.length_replicate, ones_dia, dia_all okD_zero, dia_take17 okD_zero, scals_dia, Nat.le_refl, idX_eq, wbE, ↓symP, symE, listE, AK.isCall, enumE, ev, putE, abin, aun, AV.cells, ↓reduceIte, reduceCtorEq, Nat.reduceAdd, Nat.reduceMul, Nat.reduceSub, Nat.reduceEqDiff, Nat.reduceLT, Nat.reduceLeDiff, implies_true, Back, retv, retV, AV.scal, AV.scals]; try simp only [idX_eq, ite_both, pickP_both, not_not_eq, Bool.not_eq_false, Bool.not_eq_true]
        refine ⟨by decide, fun _ => ⟨fun _ => trivial, fun _ => by omega⟩, fun _ => trivial⟩
      | nil =>
        have hr : readR s = .tup [.agg (dia (s.length / 2 : Nat) (joinedTo (s.length / 2) out s.length)), .bool true] := by
          unfold readR readText; rw [if_pos hc, hp]
        have hn : s.length = 2 * (s.length / 2) := by omega
        obtain ⟨a1, a2, a3, a4, a5, a6, a7⟩ := parts_told s.length out [] (Nat.le_refl _) hp
        have h6 : (List.range s.length).all (fun i => decide (out.getD i 0 < s.length)) = true := List.all_eq_true.2 fun i hi => decide_eq_true (a4 i (List.mem_range.1 hi) (by simp)).1
        have hj := joinedTo_length (s.length / 2) out s.length
        have hpr : partR s = (.tup [.slc 0 0 s.length true s.length, .bool true], [.cells (n64s out)]) := by unfold partR; rw [hp]; rfl
        have htk : List.take s.length (n64s out) = n64s out := by rw [List.take_of_length_le]; rw [n64s_length, a1]; exact Nat.le_refl _
        simp (maxSteps := 3000000) only [a_i_read, B8_i_Diagram_n_E5, B8_i_Diagram_text_E5, B8_i_in_E5, B8_i_partners_E5, B8_i_joined_E5, g_in, g_joined, g_n, g_partners, g_text, fillA, rd, wrt, wrl, AO.withl, List.getElem?_cons_zero, List.getElem?_cons_succ, List.set_cons_zero, List.set_cons_succ, List.take_zero, List.take_succ_cons, List.drop_succ_cons, List.drop_zero, dia_zero, over_dia okD_zero okD_zero, dia_length, List.length_replicate, ones_dia, dia_all okD_zero, dia_take17 okD_zero, scals_dia, Nat.le_refl, hr, hpr, h4, h6, hb, htk, natsOf_n64s, ren_pS, rn_cells, rens_scal _ _ (scals_n64s _), n64s_length, a1, hj, over_dia okD_zero hj, dia_all hj, dia_take17 hj, fillA, rd, wrt, wrl, AO.withl, List.getElem?_cons_zero, List.getElem?_cons_succ, List.set_cons_zero, List.set_cons_succ, List.take_zero, List.take_succ_cons, List.drop_succ_cons, List.drop_zero, dia_zero, over_dia okD_zero okD_zero, dia_length, List.length_replicate, ones_dia, dia_all okD_zero, dia_take17 okD_zero, scals_dia, Nat.le_refl, idX_eq, wbE, ↓symP, symE, listE, AK.isCall, enumE, ev, putE, abin, aun, AV.cells, ↓reduceIte, reduceCtorEq, Nat.reduceAdd, Nat.reduceMul, Nat.reduceSub, Nat.reduceEqDiff, Nat.reduceLT, Nat.reduceLeDiff, implies_true, Back, retv, retV, AV.scal, AV.scals]; try simp only [idX_eq, ite_both, pickP_both, not_not_eq, Bool.not_eq_false, Bool.not_eq_true]
        refine ⟨fun _ => ⟨fun h => absurd ⟨by omega, by omega⟩ h, fun _ => ⟨by omega, ⟨by omega, by omega⟩, by omega⟩⟩, fun h => absurd (by omega) h⟩

def g_read : List AV → Option AV
  | [.str s] => chk (s.length ≤ 1000000) (some (readR s))
  | _ => none
theorem readR_scal (s : List UInt8) : (readR s).scal = true := by
  unfold readR; split <;> simp only [AV.scal, AV.scals, scals_dia, Bool.and_self]
theorem k_i_read : Am.Callee Try.prog 131 (plainE g_read) :=
  Am.Callee.plain fun xs v he => by
    unfold g_read at he
    split at he
    · obtain ⟨h1, he⟩ := chk_some he
      cases he; exact ⟨rfl, readR_scal _, c_i_read _ h1⟩
    · cases he
def B9 : Book := (B8.put 131 (plainE g_read))

theorem B9_ok : BookOk Try.prog B9 := (B8_ok.put (k_i_read))

theorem B9_i_Diagram_n_E5 : B9 115 = some (readE 1 g_n) := rfl
theorem B9_i_Diagram_text_E5 : B9 100 = some (readE 17 g_text) := rfl
theorem B9_i_in_E5 : B9 93 = some (plainE g_in) := rfl
theorem B9_i_partners_E5 : B9 149 = some (newE g_partners) := rfl
theorem B9_i_joined_E5 : B9 150 = some (readS 1 1 g_joined) := rfl
theorem B9_i_read_E5 : B9 131 = some (plainE g_read) := rfl


theorem undefA_eq : undefA = .v (.tuple #[]) := rfl
theorem undef_size : (#[] : Array Value).size = 0 := rfl
theorem isI_out {n : Int} {m : List Nat} (h : ¬(1 ≤ n ∧ n ≤ 8)) : isI n.toNat m = false := by
  unfold isI; rw [decide_eq_false (by omega)]; rfl
def rng (n : Nat) (m : List Nat) (i : Nat) : Bool := if 2 * n ≤ i then m.getD i 0 == 0 else decide (m.getD i 0 < 2 * n)
theorem isI_no {n : Nat} {m : List Nat} {i : Nat} (hi : i < 16) (h : rng n m i = false) : isI n m = false := by
  unfold isI
  rw [Bool.and_eq_false_iff]; right
  rw [Bool.and_eq_false_iff]; left
  unfold rangeOk
  rw [List.all_eq_false]
  exact ⟨i, List.mem_range.2 hi, by unfold rng at h; rw [h]; simp⟩
theorem isI_yes {n : Nat} {m : List Nat} (hn : 1 ≤ n ∧ n ≤ 8) (h1 : ∀ i, i < 16 → rng n m i = true) : isI n m = (readText (textOf n m) == some (n, m)) := by
  unfold isI
  have : rangeOk n m = true := List.all_eq_true.2 fun i hi => h1 i (List.mem_range.1 hi)
  rw [decide_eq_true hn, this, Bool.true_and, Bool.true_and]

theorem readText_len {s : List UInt8} {n : Nat} {m : List Nat} (h : readText s = some (n, m)) : m.length = 16 := by
  unfold readText at h
  split at h
  · split at h
    · cases h; exact joinedTo_length _ _ _
    · cases h
  · cases h
theorem c_i_IsDiagram (n : Int) (m : List Nat) (hm : okD m) : Am.Fn Try.prog 99 [.agg (dia n m)] [] (fun v H' => v = .bool (isI n.toNat m) ∧ H' = []) := by
  refine Am.Fn.sameB (R := fun v => v = _) B9_ok mixed r_i_IsDiagram (by simp) (by simp) ?_
  have hml := hm.1
  simp (maxSteps := 3000000) only [a_i_IsDiagram, B9_i_Diagram_n_E5, B9_i_Diagram_text_E5, B9_i_in_E5, B9_i_partners_E5, B9_i_joined_E5, B9_i_read_E5, g_in, g_joined, g_n, g_partners, g_read, g_text, hml, dia_mates hml, dia_length, rd, List.getElem?_cons_zero, List.getElem?_cons_succ, idX_eq, wbE, ↓symP, symE, listE, AK.isCall, enumE, ev, putE, abin, aun, AV.cells, ↓reduceIte, reduceCtorEq, Nat.reduceAdd, Nat.reduceMul, Nat.reduceSub, Nat.reduceEqDiff, Nat.reduceLT, Nat.reduceLeDiff, implies_true, Back, retv, retV, AV.scal, AV.scals]; try simp only [idX_eq, ite_both, pickP_both, not_not_eq, Bool.not_eq_false, Bool.not_eq_true]
  refine ⟨fun h => (isI_out h).symm, fun h => ?_⟩
  obtain ⟨n, rfl⟩ : ∃ k : Nat, n = k := ⟨n.toNat, by omega⟩
  simp only [Int.toNat_natCast]
  have hn : 1 ≤ n ∧ n ≤ 8 := by omega
  have h2n : wrapK .i64 (2 * (n : Int)) = ((2 * n : Nat) : Int) := by rw [wrap64 (by omega) (by omega)]; simp
  refine WA.loopB B9_ok (fun s => ∃ k : Nat, s = ⟨[(13, .int .i64 k), (12, .agg (u8s m)), (1, .ptr 0 0)], [.cells (dia n m)]⟩ ∧ k ≤ 16 ∧ ∀ i, i < k → rng n m i = true)
    (fun s => match get s.env 13 with | .int _ k => (100 - k).toNat | _ => 0) ⟨_, Weak.slots [13, 12, 1], 0, rfl, by omega, by intros; omega⟩ ?_
  rintro s ⟨k, rfl, hk, hc⟩
  have hw : wrapK .i64 ((k : Int) + 1) = ((k + 1 : Nat) : Int) := by rw [wrap64 (by omega) (by omega)]; rfl
  have hg := hm.get k
  have h1 : wrapK .i64 ((m.getD k 0 : Nat) : Int) = (m.getD k 0 : Nat) := wrap64N (by omega)
  simp (maxSteps := 3000000) only [a_i_IsDiagram_l1, undefA_eq, undef_size, B9_i_Diagram_n_E5, B9_i_Diagram_text_E5, B9_i_in_E5, B9_i_partners_E5, B9_i_joined_E5, B9_i_read_E5, g_in, g_joined, g_n, g_partners, g_read, g_text, hw, h2n, h1, hml, dia_take1, dia_length, rd, List.getElem?_cons_zero, List.getElem?_cons_succ, idX_eq, wbE, ↓symP, symE, listE, AK.isCall, enumE, ev, putE, abin, aun, AV.cells, ↓reduceIte, reduceCtorEq, Nat.reduceAdd, Nat.reduceMul, Nat.reduceSub, Nat.reduceEqDiff, Nat.reduceLT, Nat.reduceLeDiff, implies_true, Back, retv, retV, AV.scal, AV.scals]; try simp only [idX_eq, ite_both, pickP_both, not_not_eq, Bool.not_eq_false, Bool.not_eq_true]
  have hnext : rng n m k = true → ∀ i, i < k + 1 → rng n m i = true := fun hk1 i hi => by
    by_cases e : i = k
    · subst e; exact hk1
    · exact hc i (by omega)
  have hhi : 2 * n ≤ k → rng n m k = (m.getD k 0 == 0) := fun h => if_pos h
  have hlo : ¬2 * n ≤ k → rng n m k = decide (m.getD k 0 < 2 * n) := fun h => if_neg h
  refine ⟨fun h3 => ⟨⟨by omega, by omega⟩, by omega, fun h4 => ⟨fun h5 => ⟨fun h6 => absurd h6 (by omega), fun h6 => ⟨_, Weak.slots [13, 12, 1], ⟨k + 1, rfl, by omega, hnext ?_⟩, ?_⟩⟩, fun h5 => ?_⟩,
    fun h4 => ⟨fun h5 => ⟨fun h6 => ?_, fun h6 => ⟨_, Weak.slots [13, 12, 1], ⟨k + 1, rfl, by omega, hnext ?_⟩, ?_⟩⟩, fun h5 => absurd (by omega) h5⟩⟩, fun h3 => ?_⟩
  · rw [hhi (by omega)]; exact beq_iff_eq.2 (by omega)
  · simp only [keptL, keptW, keptE, kepts, slots, ↓reduceIte, reduceCtorEq, Nat.reduceEqDiff, AV.ren, AV.rens, pos, Nat.reduceAdd]; omega
  · exact (isI_no (i := k) (by omega) (by rw [hhi (by omega)]; exact beq_eq_false_iff_ne.2 (by omega))).symm
  · exact (isI_no (i := k) (by omega) (by rw [hlo (by omega)]; exact decide_eq_false (by omega))).symm
  · rw [hlo (by omega)]; exact decide_eq_true (by omega)
  · simp only [keptL, keptW, keptE, kepts, slots, ↓reduceIte, reduceCtorEq, Nat.reduceEqDiff, AV.ren, AV.rens, pos, Nat.reduceAdd]; omega
  have hyes := isI_yes (m := m) hn fun i hi => hc i (by omega)
  simp (maxSteps := 3000000) only [a_i_IsDiagram_k1, undefA_eq, undef_size, B9_i_Diagram_n_E5, B9_i_Diagram_text_E5, B9_i_in_E5, B9_i_partners_E5, B9_i_joined_E5, B9_i_read_E5, g_in, g_joined, g_n, g_partners, g_read, g_text, hml, diaOf_dia hm, dia_length, dia_all hml, dia_take17 hml, Int.toNat_natCast, rd, List.getElem?_cons_zero, List.getElem?_cons_succ, textOf_length, idX_eq, wbE, ↓symP, symE, listE, AK.isCall, enumE, ev, putE, abin, aun, AV.cells, ↓reduceIte, reduceCtorEq, Nat.reduceAdd, Nat.reduceMul, Nat.reduceSub, Nat.reduceEqDiff, Nat.reduceLT, Nat.reduceLeDiff, implies_true, Back, retv, retV, AV.scal, AV.scals]; try simp only [idX_eq, ite_both, pickP_both, not_not_eq, Bool.not_eq_false, Bool.not_eq_true]
  refine ⟨⟨by omega, by omega⟩, by omega, ?_⟩
  have hcs : readText (textOf n m) = none ∨ ∃ n' m', readText (textOf n m) = some (n', m') := by
    cases readText (textOf n m) with
    | none => exact .inl rfl
    | some r => exact .inr ⟨r.1, r.2, rfl⟩
  rcases hcs with hrd | ⟨n', m', hrd⟩
  · skip
    have hr : readR (textOf n m) = .tup [.agg (dia 0 (List.replicate 16 0)), .bool false] := by unfold readR; rw [hrd]
    have hi : isI n m = false := by rw [hyes, hrd]; rfl
    simp (maxSteps := 3000000) only [hr, hi, over_dia okD_zero okD_zero, undefA_eq, undef_size, List.getElem?_cons_zero, List.getElem?_cons_succ, rd, wrt, wrl, AO.withl, List.set_cons_zero, List.set_cons_succ, dia_zero, dia_length, hml, okD_zero, List.length_replicate, ones_dia, dia_all hml, dia_all okD_zero, idX_eq, wbE, ↓symP, symE, listE, AK.isCall, enumE, ev, putE, abin, aun, AV.cells, ↓reduceIte, reduceCtorEq, Nat.reduceAdd, Nat.reduceMul, Nat.reduceSub, Nat.reduceEqDiff, Nat.reduceLT, Nat.reduceLeDiff, implies_true, Back, retv, retV, AV.scal, AV.scals]; try simp only [idX_eq, ite_both, pickP_both, not_not_eq, Bool.not_eq_false, Bool.not_eq_true]
  · skip
    have hml' := readText_len hrd
    have hr : readR (textOf n m) = .tup [.agg (dia n' m'), .bool true] := by unfold readR; rw [hrd]
    have hi : isI n m = decide ((n' : Int) = n ∧ m' = m) := by
      rw [hyes, hrd, Bool.eq_iff_iff, beq_iff_eq, decide_eq_true_eq, Option.some.injEq, Prod.mk.injEq]; exact and_congr (by omega) Iff.rfl
    simp (maxSteps := 3000000) only [hr, hi, hml', over_dia okD_zero hml', dia_all hml', leqs_dia hml' hml, undefA_eq, undef_size, List.getElem?_cons_zero, List.getElem?_cons_succ, rd, wrt, wrl, AO.withl, List.set_cons_zero, List.set_cons_succ, dia_zero, dia_length, hml, okD_zero, List.length_replicate, ones_dia, dia_all hml, dia_all okD_zero, idX_eq, wbE, ↓symP, symE, listE, AK.isCall, enumE, ev, putE, abin, aun, AV.cells, ↓reduceIte, reduceCtorEq, Nat.reduceAdd, Nat.reduceMul, Nat.reduceSub, Nat.reduceEqDiff, Nat.reduceLT, Nat.reduceLeDiff, implies_true, Back, retv, retV, AV.scal, AV.scals]; try simp only [idX_eq, ite_both, pickP_both, not_not_eq, Bool.not_eq_false, Bool.not_eq_true]
end Go.Proofs.Ytkgoadglalpbfaa

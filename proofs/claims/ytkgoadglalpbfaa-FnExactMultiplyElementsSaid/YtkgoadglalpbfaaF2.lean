/- Contracts: the reference's element of a diagram. -/
import Derived.Test.YtkgoadglalpbfaaF1
namespace Go.Proofs.Ytkgoadglalpbfaa
open Go.Am Go.Dia
set_option linter.unusedSimpArgs false
set_option linter.unusedVariables false
set_option maxRecDepth 4000
set_option maxHeartbeats 1000000

theorem B22_s_l01Mod_F2 : B22 108 = some (plainE g_mod) := rfl
theorem B22_s_l01Text_F2 : B22 109 = some (plainE g_textS) := rfl
def a_s_l02Put_l1 : AC := .seq (.seq (.region [⟨some 25, none, .op (.mov (.t 9))⟩,
         ⟨some 26, none, .op (.mov (.t 10))⟩,
         ⟨some 27, none, .op (.bin .lss (.t 25) (.t 26))⟩]) (.cond 27 .skip (.exit 0))) (.block 1 (.seq (.region [⟨some 28, none, .op (.mov (.t 9))⟩,
         ⟨some 29, none, .op (.mov (.t 10))⟩,
         ⟨some 30, none, .op (.bin .add (.t 28) (.t 29))⟩,
         ⟨some 31, none, .op (.bin .quo (.t 30) (.c (.int .i64 2)))⟩,
         ⟨some 12, none, .op (.mov (.t 31))⟩]) (.seq (.region [⟨some 32, none, .op (.mov (.t 1))⟩,
         ⟨some 33, none, .op (.mov (.t 12))⟩,
         ⟨some 34, none, .op (.iaddrS 18 (.t 32) (.t 33))⟩,
         ⟨some 35, none, .op (.faddr 0 (.t 34))⟩,
         ⟨some 36, none, .op (.loadN 17 (.t 35))⟩,
         ⟨some 37, none, .call (.c (.fn 109 [] [])) [(.t 36)]⟩,
         ⟨some 38, none, .op (.mov (.t 11))⟩,
         ⟨some 39, none, .op (.bin .lss (.t 37) (.t 38))⟩]) (.cond 39 (.region [⟨some 40, none, .op (.mov (.t 12))⟩,
          ⟨some 41, none, .op (.bin .add (.t 40) (.c (.int .i64 1)))⟩,
          ⟨some 9, none, .op (.mov (.t 41))⟩]) (.region [⟨some 42, none, .op (.mov (.t 12))⟩,
          ⟨some 10, none, .op (.mov (.t 42))⟩])))))
def a_s_l02Put_c1 : AC := .seq (.seq (.region [⟨some 61, none, .op (.mov (.t 0))⟩,
         ⟨some 62, none, .op (.mov (.t 1))⟩,
         ⟨some 63, none, .op (.mov (.t 9))⟩,
         ⟨some 64, none, .op (.iaddrS 18 (.t 62) (.t 63))⟩,
         ⟨some 65, none, .op (.faddr 17 (.t 64))⟩,
         ⟨some 66, none, .op (.load1 (.t 65))⟩,
         ⟨some 67, none, .op (.mov (.t 3))⟩,
         ⟨some 68, none, .op (.bin .add (.t 66) (.t 67))⟩,
         ⟨some 69, none, .call (.c (.fn 108 [] [])) [(.t 61), (.t 68)]⟩,
         ⟨some 14, none, .op (.mov (.t 69))⟩]) (.seq (.region [⟨some 70, none, .op (.mov (.t 14))⟩,
         ⟨some 71, none, .op (.bin .neq (.t 70) (.c (.int .i64 0)))⟩]) (.cond 71 (.region [⟨some 72, none, .op (.mov (.t 13))⟩,
          ⟨some 73, none, .op (.loadN 17 (.t 6))⟩,
          ⟨some 74, none, .op (.mov (.t 14))⟩,
          ⟨some 75, none, .op (.build [(.int .i64 0), (.int .u8 0), (.int .u8 0), (.int .u8 0), (.int .u8 0), (.int .u8 0), (.int .u8 0), (.int .u8 0), (.int .u8 0), (.int .u8 0), (.int .u8 0), (.int .u8 0), (.int .u8 0), (.int .u8 0), (.int .u8 0), (.int .u8 0), (.int .u8 0), (.int .i64 0)] [(0, 17, (.t 73)), (17, 1, (.t 74))])⟩,
          ⟨some 76, none, .op (.mkslc 1 [(.int .i64 0), (.int .u8 0), (.int .u8 0), (.int .u8 0), (.int .u8 0), (.int .u8 0), (.int .u8 0), (.int .u8 0), (.int .u8 0), (.int .u8 0), (.int .u8 0), (.int .u8 0), (.int .u8 0), (.int .u8 0), (.int .u8 0), (.int .u8 0), (.int .u8 0), (.int .i64 0)] [(0, 18, (.t 75))])⟩,
          ⟨some 77, none, .op (.append 18 32 (.t 72) (.t 76))⟩,
          ⟨some 13, none, .op (.mov (.t 77))⟩]) .skip))) (.seq (.region [⟨some 78, none, .op (.mov (.t 13))⟩,
        ⟨some 79, none, .op (.mov (.t 1))⟩,
        ⟨some 80, none, .op (.mov (.t 9))⟩,
        ⟨some 81, none, .op (.bin .add (.t 80) (.c (.int .i64 1)))⟩,
        ⟨some 82, none, .op (.reslc 18 (.t 79) (some (.t 81)) none)⟩,
        ⟨some 83, none, .op (.append 18 32 (.t 78) (.t 82))⟩,
        ⟨some 8, none, .op (.mov (.t 83))⟩]) .ret)
def a_s_l02Put_k1 : AC := .cond 60 a_s_l02Put_c1 .skip
def a_s_l02Put_k2 : AC := .seq (.region [⟨some 84, none, .op (.mov (.t 13))⟩,
     ⟨some 85, none, .op (.loadN 17 (.t 6))⟩,
     ⟨some 86, none, .op (.mov (.t 3))⟩,
     ⟨some 87, none, .op (.build [(.int .i64 0), (.int .u8 0), (.int .u8 0), (.int .u8 0), (.int .u8 0), (.int .u8 0), (.int .u8 0), (.int .u8 0), (.int .u8 0), (.int .u8 0), (.int .u8 0), (.int .u8 0), (.int .u8 0), (.int .u8 0), (.int .u8 0), (.int .u8 0), (.int .u8 0), (.int .i64 0)] [(0, 17, (.t 85)), (17, 1, (.t 86))])⟩,
     ⟨some 88, none, .op (.mkslc 1 [(.int .i64 0), (.int .u8 0), (.int .u8 0), (.int .u8 0), (.int .u8 0), (.int .u8 0), (.int .u8 0), (.int .u8 0), (.int .u8 0), (.int .u8 0), (.int .u8 0), (.int .u8 0), (.int .u8 0), (.int .u8 0), (.int .u8 0), (.int .u8 0), (.int .u8 0), (.int .i64 0)] [(0, 18, (.t 87))])⟩,
     ⟨some 89, none, .op (.append 18 32 (.t 84) (.t 88))⟩,
     ⟨some 13, none, .op (.mov (.t 89))⟩]) (.seq (.region [⟨some 90, none, .op (.mov (.t 13))⟩,
     ⟨some 91, none, .op (.mov (.t 1))⟩,
     ⟨some 92, none, .op (.mov (.t 9))⟩,
     ⟨some 93, none, .op (.reslc 18 (.t 91) (some (.t 92)) none)⟩,
     ⟨some 94, none, .op (.append 18 32 (.t 90) (.t 93))⟩,
     ⟨some 8, none, .op (.mov (.t 94))⟩]) .ret)
def a_s_l02Put_k3 : AC := .seq (.region [⟨some 43, none, .op (.mkslc 0 [] [])⟩,
     ⟨some 44, none, .op (.mov (.t 1))⟩,
     ⟨some 45, none, .op (.mov (.t 9))⟩,
     ⟨some 46, none, .op (.reslc 18 (.t 44) none (some (.t 45)))⟩,
     ⟨some 47, none, .op (.append 18 32 (.t 43) (.t 46))⟩,
     ⟨some 13, none, .op (.mov (.t 47))⟩]) (.seq (.seq (.draw false [⟨some 48, none, .op (.mov (.t 9))⟩,
      ⟨some 49, none, .op (.mov (.t 1))⟩,
      ⟨some 50, none, .op (.len .slc (.t 49))⟩,
      ⟨some 51, none, .op (.bin .lss (.t 48) (.t 50))⟩,
      ⟨some 52, none, .op (.mov (.t 51))⟩,
      ⟨some 53, some (52, true), .op (.mov (.t 1))⟩,
      ⟨some 54, some (52, true), .op (.mov (.t 9))⟩,
      ⟨some 55, some (52, true), .op (.iaddrS 18 (.t 53) (.t 54))⟩,
      ⟨some 56, some (52, true), .op (.faddr 0 (.t 55))⟩,
      ⟨some 57, some (52, true), .op (.loadN 17 (.t 56))⟩,
      ⟨some 58, some (52, true), .op (.loadN 17 (.t 6))⟩,
      ⟨some 59, some (52, true), .op (.eqs false [.int, .int, .int, .int, .int, .int, .int, .int, .int, .int, .int, .int, .int, .int, .int, .int, .int] (.t 57) (.t 58))⟩,
      ⟨some 60, none, .op (.pick (.t 52) (.t 59) (.c (.bool false)))⟩]) a_s_l02Put_k1) a_s_l02Put_k2)
def a_s_l02Put : AC := .seq (.region [⟨some 6, none, .op (.box (.t 2))⟩,
     ⟨some 8, none, .op (.mov (.c (.v (.slice none 0 0))))⟩]) (.seq (.region [⟨some 15, none, .op (.mov (.t 0))⟩,
     ⟨some 16, none, .op (.mov (.t 3))⟩,
     ⟨some 17, none, .call (.c (.fn 108 [] [])) [(.t 15), (.t 16)]⟩,
     ⟨some 3, none, .op (.mov (.t 17))⟩]) (.seq (.seq (.region [⟨some 18, none, .op (.mov (.t 3))⟩,
      ⟨some 19, none, .op (.bin .eql (.t 18) (.c (.int .i64 0)))⟩]) (.cond 19 (.seq (.region [⟨some 20, none, .op (.mov (.t 1))⟩,
        ⟨some 8, none, .op (.mov (.t 20))⟩]) .ret) .skip)) (.seq (.region [⟨some 21, none, .op (.mov (.t 1))⟩,
     ⟨some 22, none, .op (.len .slc (.t 21))⟩,
     ⟨some 23, none, .op (.loadN 17 (.t 6))⟩,
     ⟨some 24, none, .call (.c (.fn 109 [] [])) [(.t 23)]⟩,
     ⟨some 9, none, .op (.mov (.c (.int .i64 0)))⟩,
     ⟨some 10, none, .op (.mov (.t 22))⟩,
     ⟨some 11, none, .op (.mov (.t 24))⟩]) (.seq (.block 0 (.loop a_s_l02Put_l1)) a_s_l02Put_k3))))
theorem r_s_l02Put : readF Try.prog 61 = some ⟨95, a_s_l02Put, [.slot 8]⟩ := by kernel_rfl

theorem trm_zero : [AV.int .i64 0, .int .u8 0, .int .u8 0, .int .u8 0, .int .u8 0, .int .u8 0, .int .u8 0, .int .u8 0, .int .u8 0, .int .u8 0, .int .u8 0, .int .u8 0, .int .u8 0, .int .u8 0, .int .u8 0, .int .u8 0, .int .u8 0, .int .i64 0] = trm (0, List.replicate 16 0, 0) := rfl
theorem trm_len (t : Int × List Nat × Int) : (trm t).length = t.2.1.length + 2 := by simp [trm, dia_length]
theorem over_trm_dia {t : Int × List Nat × Int} {n : Int} {m : List Nat} (h : t.2.1.length = 16) (h' : m.length = 16) : over (trm t) 0 (dia n m) = trm (n, m, t.2.2) := by
  simp only [over, trm, List.take_zero, List.nil_append, Nat.zero_add, dia_length, h']
  rw [List.drop_append, List.drop_of_length_le (by rw [dia_length, h]; exact Nat.le_refl _), dia_length, h]; rfl
theorem over_trm_f {t : Int × List Nat × Int} {f : Int} (h : t.2.1.length = 16) : over (trm t) 17 [.int .i64 f] = trm (t.1, t.2.1, f) := by
  simp only [over, trm]
  rw [List.take_append_of_le_length (by rw [dia_length, h]; exact Nat.le_refl _), List.take_of_length_le (by rw [dia_length, h]; exact Nat.le_refl _), List.drop_of_length_le (by simp [dia_length, h]), List.append_nil]
theorem over_trm {t u : Int × List Nat × Int} (h : t.2.1.length = 16) (h' : u.2.1.length = 16) : over (trm t) 0 (trm u) = trm u := over_all (by rw [trm_len, trm_len, h, h'])
theorem trm_take18 {t : Int × List Nat × Int} (h : t.2.1.length = 16) : List.take 18 (trm t) = trm t := by rw [List.take_of_length_le]; rw [trm_len, h]; exact Nat.le_refl _
theorem ones_trm (t : Int × List Nat × Int) : (trm t).all AV.one = true := by simp [trm, ones_dia, AV.one]
theorem cast0 : ((0 : Nat) : Int) = 0 := rfl
theorem cast1 : ((1 : Nat) : Int) = 1 := rfl
/-- A term put to none. -/
def PutR (p : Int) (n : Nat) (m : List Nat) (k : Int) (v : AV) (H' : List AO) : Prop := if k.emod p = 0 then v = .slc 0 0 0 true 0 ∧ H' = [.ro []] else v = .slc 1 0 1 false 0 ∧ H' = [.ro [], .vec 18 (trms [((n : Int), m, k.emod p)])]
theorem c_s_l02Put0 (p : Int) (n : Nat) (m : List Nat) (k : Int) (hp : 0 < p ∧ p ≤ 1000000) (hn : n ≤ 8) (hm : okD m) :
    Am.Fn Try.prog 61 [.int .i64 p, .slc 0 0 0 true 0, .agg (dia n m), .int .i64 k] [.ro []] (PutR p n m k) := by
  refine Am.Fn.ofB B22_ok mixed r_s_l02Put (by simp) (ro_under rfl) ?_
  have hml := hm.1
  simp (maxSteps := 3000000) only [a_s_l02Put, B22_s_l01Mod_F2, B22_s_l01Text_F2, g_mod, g_textS, dia_all hml, hml, dia_length, diaOf_dia hm, rd, List.getElem?_cons_zero, List.getElem?_cons_succ, idX_eq, wbE, ↓symP, symE, listE, AK.isCall, enumE, ev, putE, abin, aun, AV.cells, ↓reduceIte, reduceCtorEq, Nat.reduceAdd, Nat.reduceMul, Nat.reduceSub, Nat.reduceEqDiff, Nat.reduceLT, Nat.reduceLeDiff, implies_true, Back, retv, retV, AV.scal, AV.scals]; try simp only [idX_eq, ite_both, pickP_both, not_not_eq, Bool.not_eq_false, Bool.not_eq_true]
  refine ⟨hp, fun h => ?_, fun h => ⟨⟨by omega, by omega⟩, ?_⟩⟩
  · refine Ret.keep [0] ⟨⟨Nat.le_refl 1, rfl, by decide⟩, ?_⟩ (rs := [.slc 0 0 0 true 0]) rfl (by rfl) (by simp [retV]) ?_ ?_
    · simp only [keepW, keepL, AV.within, AV.withins, ↓reduceIte, reduceCtorEq, Nat.reduceEqDiff, Nat.reduceBEq, implies_true, Nat.reduceAdd]
    · intro j l; cases j <;> simp [kepts, AO.ren]
    · unfold PutR
      rw [if_pos h]
      simp only [retV]
      simp only [keptL, keptW, keptE, kepts, slots, ↓reduceIte, reduceCtorEq, Nat.reduceEqDiff, AV.ren, AV.rens, pos, Nat.reduceAdd]
      exact ⟨trivial, trivial⟩
  · refine WA.loopB B22_ok (fun s => s = ⟨[(11, .str (textOf n m)), (10, .int .i64 0), (9, .int .i64 0), (6, .ptr 1 0), (0, .int .i64 p), (1, .slc 0 0 0 true 0), (3, .int .i64 (k.emod p))], [.ro [], .cells (dia n m)]⟩) (fun _ => 0) ⟨_, Weak.slots [11, 10, 9, 6, 0, 1, 3], rfl⟩ ?_
    rintro s rfl
    have hdl : (dia (n : Int) m).length = 17 := by rw [dia_length, hml]
    have hz : (List.replicate 16 0 : List Nat).length = 16 := rfl
    have e1 : over (trm (0, List.replicate 16 0, 0)) 0 (dia (n : Int) m) = trm ((n : Int), m, 0) := over_trm_dia (t := (0, List.replicate 16 0, 0)) hz hml
    have e2 : ∀ f : Int, over (trm ((n : Int), m, 0)) 17 [.int .i64 f] = trm ((n : Int), m, f) := fun f => over_trm_f (t := ((n : Int), m, 0)) hml
    have e3 : ∀ f : Int, over (trm (0, List.replicate 16 0, 0)) 0 (trm ((n : Int), m, f)) = trm ((n : Int), m, f) := fun f => over_trm (t := (0, List.replicate 16 0, 0)) hz hml
    have e4 : ∀ f : Int, List.take 18 (trm ((n : Int), m, f)) = trm ((n : Int), m, f) := fun f => trm_take18 (t := ((n : Int), m, f)) hml
    simp (maxSteps := 3000000) only [a_s_l02Put_l1, a_s_l02Put_k3, fillA, src, lim, capOk, Option.map_some, Option.map_none, rd, List.getElem?_cons_zero, List.getElem?_cons_succ, List.set_cons_zero, List.set_cons_succ, cast0, cast1, Int.lt_irrefl, Int.le_refl, Nat.zero_mul, Int.toNat_zero, List.take_zero, List.drop_zero, List.all_nil, idX_eq, wbE, ↓symP, symE, listE, AK.isCall, enumE, ev, putE, abin, aun, AV.cells, ↓reduceIte, reduceCtorEq, Nat.reduceAdd, Nat.reduceMul, Nat.reduceSub, Nat.reduceEqDiff, Nat.reduceLT, Nat.reduceLeDiff, implies_true, Back, retv, retV, AV.scal, AV.scals]; try simp only [idX_eq, ite_both, pickP_both, not_not_eq, Bool.not_eq_false, Bool.not_eq_true]
    simp (maxSteps := 3000000) only [a_s_l02Put_k1, a_s_l02Put_k2, trm_zero, trm_len, e1, e2, e3, e4, ones_trm, hml, hz, dia_take17 hml, dia_length, fillA, src, lim, capOk, Option.map_some, Option.map_none, rd, List.getElem?_cons_zero, List.getElem?_cons_succ, List.set_cons_zero, List.set_cons_succ, cast0, cast1, Int.lt_irrefl, Int.le_refl, Nat.zero_mul, Int.toNat_zero, List.take_zero, List.drop_zero, List.all_nil, idX_eq, wbE, ↓symP, symE, listE, AK.isCall, enumE, ev, putE, abin, aun, AV.cells, ↓reduceIte, reduceCtorEq, Nat.reduceAdd, Nat.reduceMul, Nat.reduceSub, Nat.reduceEqDiff, Nat.reduceLT, Nat.reduceLeDiff, implies_true, Back, retv, retV, AV.scal, AV.scals]; try simp only [idX_eq, ite_both, pickP_both, not_not_eq, Bool.not_eq_false, Bool.not_eq_true]
    refine Ret.keep [0, 6] ⟨⟨by simp, rfl, by decide⟩, ?_⟩ (rs := [.slc 6 0 1 false 0]) rfl (by rfl) (by simp [retV]) ?_ ?_
    · simp only [withins_scal _ _ (scals_trm _), keepW, keepL, AV.within, AV.withins, ↓reduceIte, reduceCtorEq, Nat.reduceEqDiff, Nat.reduceBEq, implies_true, Nat.reduceAdd]
    · intro j l; match j with
      | 0 => intro _; exact ⟨[], rfl⟩
      | 1 => simp [kepts, AO.ren]
      | j + 2 => simp [kepts]
    · unfold PutR
      rw [if_neg h]
      simp only [retV]
      simp only [rens_scal _ _ (scals_trm _), keptL, keptW, keptE, kepts, slots, ↓reduceIte, reduceCtorEq, Nat.reduceEqDiff, AV.ren, AV.rens, pos, Nat.reduceAdd]
      exact ⟨trivial, by simp only [trms, List.flatMap_cons, List.flatMap_nil, List.append_nil]⟩

def g_put0 : BE := fun hp xs => match xs with
  | [.int .i64 p, .slc b 0 0 true 0, .agg l, .int .i64 k] => match rd hp b, diaOf l with
    | some _, some (n, m) => chk ((0 < p ∧ p ≤ 1000000) ∧ 0 ≤ n ∧ n ≤ 8) (if k.emod p = 0 then some (.slc b 0 0 true 0, hp) else some (.slc hp.length 0 1 false 0, hp ++ [.vec 18 (trms [(n, m, k.emod p)])]))
    | _, _ => none
  | _ => none
theorem k_put0 : Am.Callee Try.prog 61 g_put0 := by
  intro hp xs v hp' he
  unfold g_put0 at he
  split at he
  · rename_i p b l k
    split at he
    · rename_i L n m hL hd
      obtain ⟨h0, he⟩ := chk_some he
      obtain ⟨rfl, hm⟩ := diaOf_some hd
      obtain ⟨n, rfl⟩ : ∃ j : Nat, n = j := ⟨n.toNat, by omega⟩
      refine ⟨[.ro []], [.int .i64 p, .slc 0 0 0 true 0, .agg (dia n m), .int .i64 k], PutR p n m k, one b, [(b, 0)], c_s_l02Put0 p n m k h0.1 (by omega) hm, ?_, rfl, ⟨fun j hj => ?_, rfl, fun j o c hj hb => ?_, fun j k bj bk oj ok hj hk hoj hok hw => ?_⟩, ?_, ⟨trivial, by simp [AV.under], unders_scal _ _ (scals_dia _ _), trivial, trivial⟩, ?_⟩
      · simp only [AV.rens, AV.ren, one, if_true, Nat.zero_add, rens_scal _ _ (scals_dia _ _)]
      · match j, hj with
        | 0, _ => rfl
      · match j, hj, hb with
        | 0, hj, hb =>
          cases hj; cases hb
          exact ⟨L, hL, by simp, by simp [AV.rens]⟩
        | j + 1, hj, hb => simp at hj
      · match j, hoj with
        | 0, hoj => cases hoj; cases hw
        | j + 1, hoj => simp at hoj
      · intro j o hj
        match j, hj with
        | 0, hj => cases hj; trivial
        | j + 1, hj => simp at hj
      · intro v' H' hr
        unfold PutR at hr
        split at he
        · rename_i hk
          rw [if_pos hk] at hr
          obtain ⟨rfl, rfl⟩ := hr
          simp only [Option.some.injEq, Prod.mk.injEq] at he
          obtain ⟨rfl, rfl⟩ := he
          exact ⟨by simp [AV.ren, Ren.ext, one], by simp [after, upd, AO.wr]⟩
        · rename_i hk
          rw [if_neg hk] at hr
          obtain ⟨rfl, rfl⟩ := hr
          simp only [Option.some.injEq, Prod.mk.injEq] at he
          obtain ⟨rfl, rfl⟩ := he
          exact ⟨by simp [AV.ren, Ren.ext], by simp [after, upd, AO.wr, AO.ren, rens_scal _ _ (scals_trms _)]⟩
    · cases he
  · cases he
def B23 : Book := (B22.put 61 (g_put0))

theorem B23_ok : BookOk Try.prog B23 := (B22_ok.put (k_put0))

end Go.Proofs.Ytkgoadglalpbfaa

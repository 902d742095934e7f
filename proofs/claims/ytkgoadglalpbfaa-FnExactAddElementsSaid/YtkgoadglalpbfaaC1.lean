/- Contracts: elements whose diagrams become others, whatever they become. -/
import Derived.Test.YtkgoadglalpbfaaH5
import Derived.Test.YtkgoadglalpbfaaH1
import Derived.Test.YtkgoadglalpbfaaG9
namespace Go.Proofs.Ytkgoadglalpbfaa
open Go.Am Go.Dia
set_option linter.unusedSimpArgs false
set_option linter.unusedVariables false
set_option maxRecDepth 4000
set_option maxHeartbeats 1000000

theorem tmodN (a b : Nat) : Int.tmod (a : Int) (b : Int) = ((a % b : Nat) : Int) := rfl
theorem isS_byte {N : Nat} {m : List Nat} (h : isS N m = true) {i : Nat} (hi : i < 2 * N) : m.getD i 0 < 2 * N := ((isS_mate h).2.1 i hi).1
theorem dia_take1' {n : Int} {m : List Nat} : List.take 1 (dia n m) = [.int .i64 n] := rfl
theorem small16 {x : Nat} (h : x < 16) : ((0 : Int) ≤ (x : Int) ∧ (x : Int) < ((16 : Nat) : Int)) ∧ 1 + x < 17 := by omega
theorem tdivN (a b : Nat) : Int.tdiv (a : Int) (b : Int) = ((a / b : Nat) : Int) := rfl
abbrev elC (p c n : Int) (k : Nat) : List AV := [.int .i64 p, .int .i64 c, .int .i64 n, .slc 0 0 k false 0]
def a_i_Element_changed_t1 : AT := (.one ⟨some 30, none, .op (.mov (.t 7))⟩
         (.one ⟨some 31, none, .op (.loadN 17 (.t 10))⟩
         (.one ⟨some 33, none, .op (.faddr 17 (.t 9))⟩
         (.one ⟨some 34, none, .op (.load1 (.t 33))⟩
         (.one ⟨some 35, none, .op (.mov (.t 11))⟩
         (.one ⟨some 36, none, .op (.bin .mul (.t 34) (.t 35))⟩
         (.alt ⟨some 32, none, .op (.lookup [.int, .int, .int, .int, .int, .int, .int, .int, .int, .int, .int, .int, .int, .int, .int, .int, .int] true (.int .i64 0) false (.t 30) (.t 31))⟩
         (.one ⟨some 37, none, .op (.bin .add (.t 32) (.t 36))⟩
          (.one ⟨some 38, none, .op (.mapent [.int, .int, .int, .int, .int, .int, .int, .int, .int, .int, .int, .int, .int, .int, .int, .int, .int] true (.int .i64 0) (.t 30) (.t 31))⟩
          (.one ⟨some 39, none, .op (.ext 1 (.t 38))⟩
          (.one ⟨none, none, .op (.entst (.t 30) (.t 39) (.t 37))⟩
          (.nil)))))
         (.alt ⟨some 38, none, .op (.mapent [.int, .int, .int, .int, .int, .int, .int, .int, .int, .int, .int, .int, .int, .int, .int, .int, .int] true (.int .i64 0) (.t 30) (.t 31))⟩
         (.one ⟨some 32, none, .op (.lookup [.int, .int, .int, .int, .int, .int, .int, .int, .int, .int, .int, .int, .int, .int, .int, .int, .int] true (.int .i64 0) false (.t 30) (.t 31))⟩
          (.one ⟨some 37, none, .op (.bin .add (.t 32) (.t 36))⟩
          (.one ⟨some 39, none, .op (.ext 1 (.t 38))⟩
          (.one ⟨none, none, .op (.entst (.t 30) (.t 39) (.t 37))⟩
          (.nil)))))
         (.none)))))))))
def a_i_Element_changed_k1 : AC := .region [⟨some 40, none, .op (.bin .add (.t 19) (.c (.int .i64 1)))⟩,
       ⟨some 19, none, .op (.mov (.t 40))⟩]
def a_i_Element_changed_l1 : AC := .seq (.region [⟨some 20, none, .op (.bin .lss (.t 19) (.t 18))⟩]) (.seq (.cond 20 .skip (.exit 0)) (.seq (.block 1 (.seq (.region [⟨some 21, none, .op (.iaddrS 18 (.t 17) (.t 19))⟩,
          ⟨some 22, none, .op (.loadN 18 (.t 21))⟩,
          ⟨some 9, none, .op (.alloc [(.int .i64 0), (.int .u8 0), (.int .u8 0), (.int .u8 0), (.int .u8 0), (.int .u8 0), (.int .u8 0), (.int .u8 0), (.int .u8 0), (.int .u8 0), (.int .u8 0), (.int .u8 0), (.int .u8 0), (.int .u8 0), (.int .u8 0), (.int .u8 0), (.int .u8 0), (.int .i64 0)])⟩,
          ⟨none, none, .op (.storeN 18 (.t 9) (.t 22))⟩]) (.seq (.region [⟨some 24, none, .op (.mov (.t 2))⟩,
          ⟨some 25, none, .op (.faddr 0 (.t 9))⟩,
          ⟨some 26, none, .op (.loadN 17 (.t 25))⟩,
          ⟨some 27, none, .call (.t 24) [(.t 26)]⟩,
          ⟨some 23, none, .op (.mov (.t 27))⟩,
          ⟨some 28, none, .op (.ext 0 (.t 23))⟩,
          ⟨some 29, none, .op (.ext 1 (.t 23))⟩,
          ⟨some 10, none, .op (.alloc [(.int .i64 0), (.int .u8 0), (.int .u8 0), (.int .u8 0), (.int .u8 0), (.int .u8 0), (.int .u8 0), (.int .u8 0), (.int .u8 0), (.int .u8 0), (.int .u8 0), (.int .u8 0), (.int .u8 0), (.int .u8 0), (.int .u8 0), (.int .u8 0), (.int .u8 0)])⟩,
          ⟨none, none, .op (.storeN 17 (.t 10) (.t 28))⟩,
          ⟨some 11, none, .op (.mov (.t 29))⟩]) (.tree false a_i_Element_changed_t1)))) a_i_Element_changed_k1))
def a_i_Element_changed_k2 : AC := .seq (.region [⟨some 41, none, .op (.mov (.t 0))⟩,
     ⟨some 42, none, .op (.mov (.t 7))⟩,
     ⟨some 43, none, .call (.c (.fn 113 [] [])) [(.t 41), (.t 42)]⟩,
     ⟨some 12, none, .op (.alloc [(.int .i64 0), (.int .i64 0), (.int .i64 0), (.v (.slice none 0 0))])⟩,
     ⟨none, none, .op (.storeN 4 (.t 12) (.t 43))⟩]) (.seq (.region [⟨some 44, none, .op (.mov (.t 1))⟩,
     ⟨some 45, none, .op (.faddr 2 (.t 12))⟩,
     ⟨none, none, .op (.store1 (.t 45) (.t 44))⟩]) (.seq (.region [⟨some 46, none, .op (.loadN 4 (.t 12))⟩,
     ⟨none, none, .op (.storeN 4 (.t 6) (.t 46))⟩]) .ret))
def a_i_Element_changed : AC := .seq (.region [⟨some 6, none, .op (.alloc [(.int .i64 0), (.int .i64 0), (.int .i64 0), (.v (.slice none 0 0))])⟩]) (.seq (.region [⟨some 13, none, .op (.mkmap)⟩,
     ⟨some 7, none, .op (.mov (.t 13))⟩]) (.seq (.seq (.region [⟨some 14, none, .op (.mov (.t 0))⟩,
      ⟨some 15, none, .op (.nilchk (.t 14))⟩,
      ⟨some 16, none, .op (.faddr 3 (.t 15))⟩,
      ⟨some 17, none, .op (.load1 (.t 16))⟩,
      ⟨some 18, none, .op (.len .slc (.t 17))⟩,
      ⟨some 19, none, .op (.mov (.c (.int .i64 0)))⟩]) (.block 0 (.loop a_i_Element_changed_l1))) a_i_Element_changed_k2))
theorem r_i_Element_changed : readF Try.prog 73 = some ⟨47, a_i_Element_changed, [.cellN 6 4]⟩ := by kernel_rfl
theorem c_changed {B : Book} (hB : BookOk Try.prog B) (hwith : B 113 = some g_with) {fid : Nat} {g : BE} (hf : B fid = some g) {caps : List AV} (hc1 : AV.unders 2 caps) (hc2 : AV.withins [0, 1, 2, 3] caps = true) (hc3 : AV.rens (backR [0, 1, 2, 3]) caps = caps)
    (p c n n' : Int) (a : List (Int × List Nat × Int)) (φ : List Nat → List Nat) (κ : List Nat → Int) (hp : 2 ≤ p ∧ p ≤ 97) (hn : 0 ≤ n' ∧ n' ≤ 8) (ha : okT a) (has : ∀ t ∈ a, t.1 = n) (hl : a.length ≤ 100000) (hch : okCh n' 10000 φ κ a)
    (hg : ∀ t ∈ a, ∀ rest, g (.ro (trms a) :: .ro (elC p c n a.length) :: rest) (.agg (dia n t.2.1) :: caps) = some (.tup [.agg (dia n' (φ t.2.1)), .int .i64 (κ t.2.1)], .ro (trms a) :: .ro (elC p c n a.length) :: rest)) :
    Am.Fn Try.prog 73 [.ptr 1 0, .int .i64 n', .fn fid [] caps] [.ro (trms a), .ro (elC p c n a.length)] (fun v H' => v = elemV p c n' 2 (restT p (chL n' φ κ [] a)).length ∧ H' = [.ro (trms a), .ro (elC p c n a.length), .vec 18 (trms (sortT (restT p (chL n' φ κ [] a))))]) := by
  refine Am.Fn.ofB hB mixed r_i_Element_changed (by simp [AV.unders, AV.under]) ?_ ?_
  · intro j o hj
    match j, hj with
    | 0, hj => cases hj; exact unders_scal _ _ (scals_trms _)
    | 1, hj => cases hj; exact ⟨trivial, trivial, trivial, by simp [AV.under], trivial⟩
    | j + 2, hj => simp at hj
  have hal := trms_length ha
  simp (maxSteps := 3000000) only [over4E, heapL, fillA, rd, wrt, wrl, AO.withl, a_i_Element_changed, elC, elemV, hal, Nat.le_refl, Int.reduceEq, Int.reduceNe, Int.reduceBEq, Int.reduceBNe, Int.reduceLT, Int.reduceLE, Int.reduceAdd, Int.reduceSub, Int.reduceMul, idX_eq, wbE, ↓symP, symE, listE, AK.isCall, enumE, ev, putE, abin, aun, AV.cells, ↓reduceIte, reduceCtorEq, Nat.reduceAdd, Nat.reduceMul, Nat.reduceSub, Nat.reduceEqDiff, Nat.reduceLT, Nat.reduceLeDiff, implies_true, Back, retv, retV, AV.scal, AV.scals]; try simp only [idX_eq, ite_both, pickP_both, not_not_eq, Bool.not_eq_false, Bool.not_eq_true]
  have hsum1 : ∀ i : Nat, i ≤ a.length → SumT n' (10000 * i) (chL n' φ κ [] (a.take i)) ∧ (chL n' φ κ [] (a.take i)).length ≤ i := fun i hi => by
    have h1 := chL_sum (n := n') (F := 10000) (φ := φ) (κ := κ) (by omega) (a := a.take i) (acc := []) (M := 0) (by omega) sum_nil (hch.take i)
    have h2 := chL_len (n := n') (φ := φ) (κ := κ) (acc := []) (a := a.take i)
    rw [List.length_take, Nat.min_eq_left hi] at h1 h2
    exact ⟨by simpa using h1, by simpa using h2⟩
  refine WA.loopB hB (fun s => ∃ (i : Nat), i ≤ a.length ∧ s = ⟨[(19, .int .i64 i), (18, .int .i64 a.length), (17, .slc 0 0 a.length false 0), (7, .map 3), (6, .ptr 2 0), (2, .fn fid [] caps), (1, .int .i64 n'), (0, .ptr 1 0)], [.ro (trms a), .ro (elC p c n a.length), .cells [.int .i64 0, .int .i64 0, .int .i64 0, .v (.slice none 0 0)], mapT (chL n' φ κ [] (a.take i))]⟩)
    (fun s => match get s.env 19 with | .int _ x => a.length - x.toNat | _ => 0) ⟨_, Weak.slots [19, 18, 17, 7, 6, 2, 1, 0], 0, by omega, rfl⟩ ?_
  rintro s ⟨i, hi, rfl⟩
  obtain ⟨hS, hSl⟩ := hsum1 i hi
  by_cases hlt : i < a.length
  · have hli : (i : Int) < a.length := by omega
    have hli' : (0 : Int) ≤ i := by omega
    have hw : wrapK .i64 ((i : Int) + 1) = ((i + 1 : Nat) : Int) := by rw [wrap64 (by omega) (by omega)]; rfl
    have hg0 := trms_get ha hlt
    have hok := ha _ (List.getElem_mem hlt)
    have hsz := has _ (List.getElem_mem hlt)
    have hgt := hg _ (List.getElem_mem hlt)
    obtain ⟨hokφ, hsφ, hk1, hk2⟩ := hch _ (List.getElem_mem hlt)
    have hb1 : i * 18 < a.length * 18 := by omega
    have hb2 : i * 18 + 18 ≤ a.length * 18 := by omega
    have hn1 := chL_succ (n := n') (φ := φ) (κ := κ) (acc := []) hlt
    obtain ⟨t, ht⟩ : ∃ t, t = a[i] := ⟨_, rfl⟩
    rw [← ht] at hg0 hok hsz hgt hokφ hsφ hk1 hk2 hn1
    clear ht
    obtain ⟨tn, m, f⟩ := t
    simp only at hg0 hok hsz hgt hokφ hsφ hk1 hk2 hn1
    have hsz1 := hsz.symm
    subst hsz1
    have hov := over_trm (t := (0, List.replicate 16 0, 0)) (u := (n, m, f)) (by simp) hok.1
    have htl := trm_length (t := (n, m, f)) hok
    have htd := trm_dia' (t := (n, m, f)) hok
    have htf := trm_factor (t := (n, m, f)) hok
    obtain ⟨kf, hkfe⟩ : ∃ kf, kf = f * κ m := ⟨_, rfl⟩
    have hwk : wrapK .i64 (f * κ m) = kf := by rw [hkfe]; exact wrap64 (by omega) (by omega)
    rw [← hkfe] at hk1 hk2 hn1
    have hφl := hokφ.1
    generalize φ m = m' at hgt hokφ hsφ hn1 hφl
    simp (maxSteps := 3000000) only [over4E, heapL, fillA, rd, wrt, wrl, AO.withl, a_i_Element_changed_l1, hf, hgt, elC, hli, hli', hal, hb1, hb2, hw, hg0, ones_trm, htl, htd, htf, trm_zero, trm_zero_len, hov, dia_zero, dia_zero_len, over_dia0 hφl, dia_length, hφl, ones_dia, List.length_replicate, Nat.le_refl, Int.reduceEq, Int.reduceNe, Int.reduceBEq, Int.reduceBNe, Int.reduceLT, Int.reduceLE, Int.reduceAdd, Int.reduceSub, Int.reduceMul, idX_eq, wbE, ↓symP, symE, listE, AK.isCall, enumE, ev, putE, abin, aun, AV.cells, ↓reduceIte, reduceCtorEq, Nat.reduceAdd, Nat.reduceMul, Nat.reduceSub, Nat.reduceEqDiff, Nat.reduceLT, Nat.reduceLeDiff, implies_true, Back, retv, retV, AV.scal, AV.scals]; try simp only [idX_eq, ite_both, pickP_both, not_not_eq, Bool.not_eq_false, Bool.not_eq_true]
    refine WA.treeB hB (fun s => s = ⟨[(19, .int .i64 i), (18, .int .i64 a.length), (17, .slc 0 0 a.length false 0), (7, .map 3), (6, .ptr 2 0), (2, .fn fid [] caps), (1, .int .i64 n'), (0, .ptr 1 0)], [.ro (trms a), .ro (elC p c n a.length), .cells [.int .i64 0, .int .i64 0, .int .i64 0, .v (.slice none 0 0)], mapT (chL n' φ κ [] (a.take (i + 1)))]⟩) ?_ ?_
    · rw [hn1]
      generalize chL n' φ κ [] (a.take i) = S at hS hSl
      have hmT : mapT S = .map (esT 0 S) S.length := rfl
      have hkok : kok KD true (.agg (dia n' m')) = true := kok_dia hφl
      have hall := dia_take17 (n := n') hφl
      cases hix : idxT n' m' S with
      | none =>
        obtain ⟨f1, f2, f3, f4, f5⟩ := mapF_none hokφ hS.ok hix
        have hw0 : wrapK .i64 (0 + kf) = kf := by rw [wrap64 (by omega) (by omega)]; omega
        unfold a_i_Element_changed_t1
        simp (maxSteps := 3000000) only [over4E, heapL, fillA, rd, wrt, wrl, AO.withl, wbTT_alt, wbTT_no, hmT, hkok, f1, f2, f3, f4, htl, htd, htf, hw0, hwk, dia_length, hφl, hall, noTopB, Int.reduceEq, Int.reduceNe, Int.reduceBEq, Int.reduceBNe, Int.reduceLT, Int.reduceLE, Int.reduceAdd, Int.reduceSub, Int.reduceMul, idX_eq, wbE, ↓symP, symE, listE, AK.isCall, enumE, ev, putE, abin, aun, AV.cells, ↓reduceIte, reduceCtorEq, Nat.reduceAdd, Nat.reduceMul, Nat.reduceSub, Nat.reduceEqDiff, Nat.reduceLT, Nat.reduceLeDiff, implies_true, Back, retv, retV, AV.scal, AV.scals]; try simp only [idX_eq, ite_both, pickP_both, not_not_eq, Bool.not_eq_false, Bool.not_eq_true]
        refine ⟨⟨_, Weak.keep [0, 1, 2, 3] [19, 18, 17, 7, 6, 2, 1, 0] ⟨by decide, ?_⟩ ?_, ?_⟩, _, Weak.keep [0, 1, 2, 3] [19, 18, 17, 7, 6, 2, 1, 0] ⟨by decide, ?_⟩ ?_, ?_⟩
        · simp only [withins_scal _ _ (scals_trms _), ↓esT_within, elC, keepW, keepL, AV.within, AV.withins, ↓reduceIte, reduceCtorEq, Nat.reduceEqDiff, Nat.reduceBEq, implies_true, Nat.reduceAdd]
        · simp only [withins_scal _ _ (scals_trms _), ↓esT_within, hc2, keepW, keepL, AV.within, AV.withins, ↓reduceIte, reduceCtorEq, Nat.reduceEqDiff, Nat.reduceBEq, implies_true, Nat.reduceAdd]
        · simp only [rens_scal _ _ (scals_trms _), ↓esT_ren, hc3, elC, keptL, keptW, keptE, kepts, slots, ↓reduceIte, reduceCtorEq, Nat.reduceEqDiff, AV.ren, AV.rens, pos, Nat.reduceAdd]
          rw [mapT, f5]
        · simp only [withins_scal _ _ (scals_trms _), ↓esT_within, elC, keepW, keepL, AV.within, AV.withins, ↓reduceIte, reduceCtorEq, Nat.reduceEqDiff, Nat.reduceBEq, implies_true, Nat.reduceAdd]
        · simp only [withins_scal _ _ (scals_trms _), ↓esT_within, hc2, keepW, keepL, AV.within, AV.withins, ↓reduceIte, reduceCtorEq, Nat.reduceEqDiff, Nat.reduceBEq, implies_true, Nat.reduceAdd]
        · simp only [rens_scal _ _ (scals_trms _), ↓esT_ren, hc3, elC, keptL, keptW, keptE, kepts, slots, ↓reduceIte, reduceCtorEq, Nat.reduceEqDiff, AV.ren, AV.rens, pos, Nat.reduceAdd]
          rw [mapT, f5]
      | some j =>
        obtain ⟨f1, f2, f3, f4, f5⟩ := mapF_some hφl hS.ok hix
        have hj := idxT_lt hix
        have hfj := hS.fac _ (show S.getD j zT ∈ S by rw [getD_at hj.1]; exact List.getElem_mem _)
        have hw0 : wrapK .i64 ((S.getD j zT).2.2 + kf) = (S.getD j zT).2.2 + kf := wrap64 (by omega) (by omega)
        unfold a_i_Element_changed_t1
        simp (maxSteps := 3000000) only [over4E, heapL, fillA, rd, wrt, wrl, AO.withl, wbTT_alt, wbTT_no, hmT, hkok, f1, f2, f3, f4, htl, htd, htf, hw0, hwk, dia_length, hφl, hall, noTopB, Int.reduceEq, Int.reduceNe, Int.reduceBEq, Int.reduceBNe, Int.reduceLT, Int.reduceLE, Int.reduceAdd, Int.reduceSub, Int.reduceMul, idX_eq, wbE, ↓symP, symE, listE, AK.isCall, enumE, ev, putE, abin, aun, AV.cells, ↓reduceIte, reduceCtorEq, Nat.reduceAdd, Nat.reduceMul, Nat.reduceSub, Nat.reduceEqDiff, Nat.reduceLT, Nat.reduceLeDiff, implies_true, Back, retv, retV, AV.scal, AV.scals]; try simp only [idX_eq, ite_both, pickP_both, not_not_eq, Bool.not_eq_false, Bool.not_eq_true]
        refine ⟨⟨_, Weak.keep [0, 1, 2, 3] [19, 18, 17, 7, 6, 2, 1, 0] ⟨by decide, ?_⟩ ?_, ?_⟩, _, Weak.keep [0, 1, 2, 3] [19, 18, 17, 7, 6, 2, 1, 0] ⟨by decide, ?_⟩ ?_, ?_⟩
        · simp only [withins_scal _ _ (scals_trms _), ↓esT_within, elC, keepW, keepL, AV.within, AV.withins, ↓reduceIte, reduceCtorEq, Nat.reduceEqDiff, Nat.reduceBEq, implies_true, Nat.reduceAdd]
        · simp only [withins_scal _ _ (scals_trms _), ↓esT_within, hc2, keepW, keepL, AV.within, AV.withins, ↓reduceIte, reduceCtorEq, Nat.reduceEqDiff, Nat.reduceBEq, implies_true, Nat.reduceAdd]
        · simp only [rens_scal _ _ (scals_trms _), ↓esT_ren, hc3, elC, keptL, keptW, keptE, kepts, slots, ↓reduceIte, reduceCtorEq, Nat.reduceEqDiff, AV.ren, AV.rens, pos, Nat.reduceAdd]
          rw [mapT, f5]
        · simp only [withins_scal _ _ (scals_trms _), ↓esT_within, elC, keepW, keepL, AV.within, AV.withins, ↓reduceIte, reduceCtorEq, Nat.reduceEqDiff, Nat.reduceBEq, implies_true, Nat.reduceAdd]
        · simp only [withins_scal _ _ (scals_trms _), ↓esT_within, hc2, keepW, keepL, AV.within, AV.withins, ↓reduceIte, reduceCtorEq, Nat.reduceEqDiff, Nat.reduceBEq, implies_true, Nat.reduceAdd]
        · simp only [rens_scal _ _ (scals_trms _), ↓esT_ren, hc3, elC, keptL, keptW, keptE, kepts, slots, ↓reduceIte, reduceCtorEq, Nat.reduceEqDiff, AV.ren, AV.rens, pos, Nat.reduceAdd]
          rw [mapT, f5]
    · rintro s rfl
      simp (maxSteps := 3000000) only [over4E, heapL, fillA, rd, wrt, wrl, AO.withl, a_i_Element_changed_k1, hw, Int.reduceEq, Int.reduceNe, Int.reduceBEq, Int.reduceBNe, Int.reduceLT, Int.reduceLE, Int.reduceAdd, Int.reduceSub, Int.reduceMul, idX_eq, wbE, ↓symP, symE, listE, AK.isCall, enumE, ev, putE, abin, aun, AV.cells, ↓reduceIte, reduceCtorEq, Nat.reduceAdd, Nat.reduceMul, Nat.reduceSub, Nat.reduceEqDiff, Nat.reduceLT, Nat.reduceLeDiff, implies_true, Back, retv, retV, AV.scal, AV.scals]; try simp only [idX_eq, ite_both, pickP_both, not_not_eq, Bool.not_eq_false, Bool.not_eq_true]
      refine ⟨_, Weak.slots [19, 18, 17, 7, 6, 2, 1, 0], ⟨i + 1, by omega, rfl⟩, ?_⟩
      simp only [keptL, keptW, keptE, kepts, slots, ↓reduceIte, reduceCtorEq, Nat.reduceEqDiff, AV.ren, AV.rens, pos, Nat.reduceAdd]; omega
  have hli : ¬ ((i : Int) < a.length) := by omega
  obtain rfl : i = a.length := by omega
  have htk : a.take a.length = a := List.take_length
  rw [htk] at hS hSl ⊢
  have hap := sum_apart hS
  obtain ⟨hz1, hz2, hz3⟩ := sum_sz (p := p) hn hS
  have hSo := hS.ok
  generalize chL n' φ κ [] a = S at *
  have hmT : mapT S = .map (esT 0 S) S.length := rfl
  have hts := tsE_esT (ts := S) (k := 0) hSo
  have hSl' : S.length ≤ 1000000 := by omega
  have hpp : 0 < p ∧ p ≤ 1000000 := by omega
  simp (maxSteps := 3000000) only [over4E, heapL, fillA, rd, wrt, wrl, AO.withl, a_i_Element_changed_l1, a_i_Element_changed_k2, hwith, g_with, hli, hmT, Int.lt_irrefl, hts, hpp, hSl', hz1, hz2, hap, and_self, elC, elemV, Int.reduceEq, Int.reduceNe, Int.reduceBEq, Int.reduceBNe, Int.reduceLT, Int.reduceLE, Int.reduceAdd, Int.reduceSub, Int.reduceMul, idX_eq, wbE, ↓symP, symE, listE, AK.isCall, enumE, ev, putE, abin, aun, AV.cells, ↓reduceIte, reduceCtorEq, Nat.reduceAdd, Nat.reduceMul, Nat.reduceSub, Nat.reduceEqDiff, Nat.reduceLT, Nat.reduceLeDiff, implies_true, Back, retv, retV, AV.scal, AV.scals]; try simp only [idX_eq, ite_both, pickP_both, not_not_eq, Bool.not_eq_false, Bool.not_eq_true]
  refine ⟨hz2, rfl, rfl, rfl, ?_⟩
  refine Ret.keep [0, 1, 4] ⟨⟨by simp, rfl, by decide⟩, ?_⟩ (rs := [.agg [.int .i64 p, .int .i64 c, .int .i64 n', .slc 4 0 (restT p S).length false 0]]) rfl rfl (by simp [retV]) ?_ ⟨?_, ?_⟩
  · simp only [withins_scal _ _ (scals_trms _), ↓esT_within, keepW, keepL, AV.within, AV.withins, ↓reduceIte, reduceCtorEq, Nat.reduceEqDiff, Nat.reduceBEq, implies_true, Nat.reduceAdd]
  · intro j l; match j with
    | 0 => exact fun _ => ⟨_, rfl⟩
    | 1 => exact fun _ => ⟨_, rfl⟩
    | 2 => simp [kepts, AO.ren]
    | j + 3 => simp [kepts]
  · simp only [retV]
    simp only [keptL, keptW, keptE, kepts, slots, ↓reduceIte, reduceCtorEq, Nat.reduceEqDiff, AV.ren, AV.rens, pos, Nat.reduceAdd]
  · simp only [rens_scal _ _ (scals_trms _), keptL, keptW, keptE, kepts, slots, ↓reduceIte, reduceCtorEq, Nat.reduceEqDiff, AV.ren, AV.rens, pos, Nat.reduceAdd]

def g_ch0 (fid : Nat) (nn : Int → Int) (φ : Nat → List Nat → List Nat) (lo hi : Int) : BE := fun hp xs => match xs with
  | [.ptr b 0, .int .i64 n', .fn f [] []] => match rd hp b with
    | some (.int .i64 p :: .int .i64 c :: .int .i64 n :: .slc ba 0 la false 0 :: _) => match rd hp ba with
      | some L => match tsOf la L with
        | some a => chk ((f = fid ∧ n' = nn n) ∧ ((2 ≤ p ∧ p ≤ 97) ∧ (lo ≤ n ∧ n ≤ hi)) ∧ goodT p n a ∧ la ≤ 100000) (some (elemV p c n' hp.length (chP p n' (φ n.toNat) (fun _ => 1) [] a).length, hp ++ [.vec 18 (trms (chP p n' (φ n.toNat) (fun _ => 1) [] a))]))
        | none => none
      | none => none
    | _ => none
  | _ => none
theorem k_ch0 {B : Book} (hB : BookOk Try.prog B) (hwith : B 113 = some g_with) {fid : Nat} {gf : List AV → Option AV} (hf : B fid = some (plainE gf)) {nn : Int → Int} {φ : Nat → List Nat → List Nat} {lo hi : Int}
    (hφ : ∀ n m, lo ≤ n ∧ n ≤ hi → isS n.toNat m = true → okD (φ n.toNat m) ∧ isS (nn n).toNat (φ n.toNat m) = true) (hnn : ∀ n, lo ≤ n ∧ n ≤ hi → 0 ≤ nn n ∧ nn n ≤ 8)
    (hgf : ∀ n m, lo ≤ n ∧ n ≤ hi → okD m → isS n.toNat m = true → gf [.agg (dia n m)] = some (.tup [.agg (dia (nn n) (φ n.toNat m)), .int .i64 1])) : Am.Callee Try.prog 73 (g_ch0 fid nn φ lo hi) := Callee.fp fun hp xs v hp' he => by
  unfold g_ch0 at he
  split at he
  · rename_i b n' f
    split at he
    · rename_i p c n ba la L0 hL0
      split at he
      · rename_i L hL
        split at he
        · rename_i a h1
          obtain ⟨⟨⟨a1, a2⟩, ⟨a3, a4⟩, a5, a6⟩, he2⟩ := chk_some he
          simp only [Option.some.injEq, Prod.mk.injEq] at he2
          obtain ⟨rfl, rfl⟩ := he2
          subst a1; subst a2
          obtain ⟨e1, e2, e3, e4⟩ := tsOf_some h1
          have g1 := trms_length e2
          have hgg := a5.good e2
          have hch : okCh (nn n) 10000 (φ n.toNat) (fun _ => 1) a := fun t ht => by
            have h2 := hφ n t.2.1 a4 (hgg.dia t ht).2
            have h3 := hgg.fac t ht
            exact ⟨h2.1, h2.2, by show -10000 ≤ t.2.2 * 1; omega, by show t.2.2 * 1 ≤ 10000; omega⟩
          have hfn := c_changed hB hwith hf (caps := []) trivial rfl rfl p c n (nn n) a (φ n.toNat) (fun _ => 1) a3 (hnn n a4) e2 (fun t ht => (hgg.dia t ht).1) (by omega) hch fun t ht rest => by
            simp only [plainE, hgf n t.2.1 a4 (e2 t ht) (hgg.dia t ht).2]
          have hlaw := ch_law (p := p) (by omega) (by omega) hch
          have hlen : (restT p (chL (nn n) (φ n.toNat) (fun _ => 1) [] a)).length = (chP p (nn n) (φ n.toNat) (fun _ => 1) [] a).length := by rw [← hlaw]; exact (sortT_perm _).length_eq.symm
          rw [hlaw, hlen] at hfn
          refine ⟨[(ba, 0), (b, 0)], [.ptr 1 0, .int .i64 (nn n), .fn f [] []], _, _, _, hfn, by simp [AV.ren, AV.rens, ofL], rfl,
            ⟨⟨L, hL, by omega, by rw [List.drop_zero, rens_scal _ _ (scals_trms _), g1, e1]; exact e3⟩, ⟨_, hL0, by simp, by simp [AV.rens, AV.ren, ofL, e1]⟩, trivial⟩, rfl,
            ⟨unders_scal _ _ (scals_trms _), ⟨trivial, trivial, trivial, by simp [AV.under], trivial⟩, trivial⟩, ⟨by simp [AV.under], trivial, ⟨trivial, trivial⟩, trivial⟩, by simp [elemV, AV.ren, AV.rens, Ren.ext], ?_⟩
          simp [after, upd, AO.wr, AO.ren, rens_scal _ _ (scals_trms _)]
        · cases he
      · cases he
    · cases he
  · cases he
end Go.Proofs.Ytkgoadglalpbfaa

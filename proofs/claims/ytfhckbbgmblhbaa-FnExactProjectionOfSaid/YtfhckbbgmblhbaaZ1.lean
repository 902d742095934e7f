/- Contracts of functions of the program, and plain laws, part 1: each text of this part is proved without further condition. -/
import Derived.Test.YtfhckbbgmblhbaaAmC
import Derived.Test.YtfhckbbgmblhbaaProg
import Derived.KernelRfl
namespace Go.Proofs.Ytfhckbbgmblhbaa
open Go.Am
open Nat renaming reduceAdd → nA, reduceMul → nM, reduceSub → nS, reduceEqDiff → nE, reduceLT → nL, reduceLeDiff → nD, reduceBEq → nB
open Int renaming reduceEq → iE, reduceNe → iN, reduceBEq → iB, reduceBNe → iC, reduceLT → iL, reduceLE → iD, reduceAdd → iA, reduceSub → iS, reduceMul → iM
set_option linter.unusedSimpArgs false
set_option linter.unusedVariables false
set_option maxRecDepth 4000
theorem mixed : Try.prog.follows .mixedOrders = true := by kernel_rfl
def Jf (n i : Int) : Int := if i < n then i else 3 * n - 1 - i
def uo (x : Int) : Prop := -1000000 ≤ x ∧ x ≤ 1000000
instance (x : Int) : Decidable (uo x) := by unfold uo; infer_instance
def z6 (p : Int) : Bool := decide (2 ≤ p ∧ p ≤ 97) && (List.range 100).all fun k => !(decide (2 ≤ k) && decide ((k : Int) < p) && decide (p.tmod k = 0))
def q18 : AC := .seq (.region [oB 6 false]) (.seq (.region [oM 7 0,oM 8 1,oP 9 .geq 7 8,oM 10 9,oG 11 10 true (.mov (.t 0)),oG 12 10 true (.mov (.t 2)),oG 13 10 true (.bin .leq (.t 11) (.t 12)),o0 14 (.pick (.t 10) (.t 13) (.c (.bool false))),oM 6 14]) .ret)
theorem q53 : zj Try.prog 71 = some ⟨15, q18, [.slot 6]⟩ := by kernel_rfl
def ql6 : AC := .seq (.region [oB 6 false]) (.seq (.region [oM 7 0,oM 8 1,oP 9 .geq 7 8,oM 10 9,oG 11 10 true (.mov (.t 0)),oG 12 10 true (.mov (.t 2)),oG 13 10 true (.bin .leq (.t 11) (.t 12)),o0 14 (.pick (.t 10) (.t 13) (.c (.bool false))),oM 6 14]) .ret)
theorem qxx : zj Try.prog 66 = some ⟨15, ql6, [.slot 6]⟩ := by kernel_rfl
def qfq : AC := .seq (.region [oI 4 0]) (.seq (.seq (.region [oM 5 1,oM 6 0,oP 7 .lss 5 6]) (.cond 7 (.seq (.region [oM 8 1,oM 4 8]) .ret) .skip)) (.seq (.region [oM 9 0,o0 10 (.bin .mul (.c (.int .i64 3)) (.t 9)),oK 11 .sub 10 1,oM 12 1,oP 13 .sub 11 12,oM 4 13]) .ret))
theorem qqn : zj Try.prog 169 = some ⟨14, qfq, [.slot 4]⟩ := by kernel_rfl
def qc6 : AC := .seq (.region [oI 4 0]) (.seq (.seq (.region [oM 5 1,oM 6 0,oP 7 .lss 5 6]) (.cond 7 (.seq (.region [oM 8 1,oM 4 8]) .ret) .skip)) (.seq (.region [oM 9 0,o0 10 (.bin .mul (.c (.int .i64 3)) (.t 9)),oK 11 .sub 10 1,oM 12 1,oP 13 .sub 11 12,oM 4 13]) .ret))
theorem qna : zj Try.prog 165 = some ⟨14, qc6, [.slot 4]⟩ := by kernel_rfl
def qoy : AC := .seq (.region [oI 4 0]) (.seq (.region [oM 5 0,oM 6 1,oP 7 .rem 5 6,oM 8 1,oP 9 .add 7 8,oM 10 1,oP 11 .rem 9 10,oM 4 11]) .ret)
theorem q0d : zj Try.prog 76 = some ⟨12, qoy, [.slot 4]⟩ := by kernel_rfl
def qic : AC := .seq (.region [oI 4 0]) (.seq (.region [oM 5 1,oM 6 0,oP 7 .rem 5 6,oM 8 0,oP 9 .add 7 8,oM 10 0,oP 11 .rem 9 10,oM 4 11]) .ret)
theorem qtf : zj Try.prog 70 = some ⟨12, qic, [.slot 4]⟩ := by kernel_rfl
def Bn : AC := .seq (.seq (.region [oM 4 3,oM 5 0,oP 6 .lss 4 5,oM 7 6,oG 8 7 true (.mov (.t 3)),oG 9 7 true (.bin .lss (.t 8) (.c (.int .i64 100))),o0 10 (.pick (.t 7) (.t 9) (.c (.bool false)))]) (.cond 10 .skip (.exit 0))) (.seq (.block 1 (.seq (.region [oM 13 0,oM 14 3,oP 15 .rem 13 14,oK 16 .eql 15 0]) (.cond 16 (.seq (.region [oB 2 false]) .ret) .skip))) (.region [oM 11 3,oK 12 .add 11 1,oM 3 12]))
def Bv : AC := .seq (.region [oM 17 0,oC 18 66 [.t 17,(.c (.int .i64 2)),(.c (.int .i64 97))],oM 2 18]) .ret
def qdh : AC := .seq (.region [oB 2 false]) (.seq (.seq (.region [oI 3 2]) (.block 0 (.loop Bn))) Bv)
theorem qmw : zj Try.prog 137 = some ⟨19, qdh, [.slot 2]⟩ := by kernel_rfl
def Gp : AC := .seq (.seq (.region [oM 7 3,oM 8 3,oP 9 .mul 7 8,oM 10 0,oP 11 .leq 9 10]) (.cond 11 .skip (.exit 0))) (.seq (.block 1 (.seq (.region [oM 14 0,oM 15 3,oP 16 .rem 14 15,oK 17 .eql 16 0]) (.cond 17 (.seq (.region [oB 2 false]) .ret) .skip))) (.region [oM 12 3,oK 13 .add 12 1,oM 3 13]))
def Ko : AC := .seq (.region [oB 2 true]) .ret
def qfi : AC := .seq (.region [oB 2 false]) (.seq (.seq (.region [oM 4 0,oC 5 71 [.t 4,(.c (.int .i64 2)),(.c (.int .i64 97))],o0 6 (.un .not (.t 5))]) (.cond 6 (.seq (.region [oB 2 false]) .ret) .skip)) (.seq (.seq (.region [oI 3 2]) (.block 0 (.loop Gp))) Ko))
theorem qpe : zj Try.prog 120 = some ⟨18, qfi, [.slot 2]⟩ := by kernel_rfl
def qfe : AC := .seq (.region [oB 4 false]) (.seq (.region [oM 5 0,oC 6 120 [.t 5],oM 7 6,oG 8 7 true (.mov (.t 1)),oG 9 7 true (.mov (.t 0)),oG 10 7 true (.bin .sub (.t 9) (.c (.int .i64 1))),⟨some 11,some (7,true),.call (.c (.fn 71 [] [])) [.t 8,(.c (.int .i64 0)),.t 10]⟩,o0 12 (.pick (.t 7) (.t 11) (.c (.bool false))),oM 4 12]) .ret)
theorem qql : zj Try.prog 94 = some ⟨13, qfe, [.slot 4]⟩ := by kernel_rfl
def uc : List AV → Option AV
  | [.int .i64 a, .int .i64 b, .int .i64 c] => some (.bool (decide (b ≤ a ∧ a ≤ c)))
  | _ => none
def ve : List AV → Option AV
  | [.int .i64 n, .int .i64 i] => chk (uo n ∧ uo i) (some (.int .i64 (Jf n i)))
  | _ => none
def X7 : List AV → Option AV
  | [.int .i64 n, .int .i64 p] => chk (0 < p ∧ p ≤ 1000000) (some (.int .i64 (n.emod p)))
  | _ => none
def Jm : List AV → Option AV
  | [.int .i64 p, .int .i64 n] => chk (0 < p ∧ p ≤ 1000000) (some (.int .i64 (n.emod p)))
  | _ => none
def wi : List AV → Option AV
  | [.int .i64 p] => some (.bool (z6 p))
  | _ => none
def Qn : List AV → Option AV
  | [.int .i64 p, .int .i64 c] => some (.bool (z6 p && decide (0 ≤ c ∧ c ≤ p - 1)))
  | _ => none
theorem qph {a b c : Int} : (b ≤ a → decide (a ≤ c) = decide (b ≤ a ∧ a ≤ c)) ∧ (¬b ≤ a → false = decide (b ≤ a ∧ a ≤ c)) :=
  ⟨fun h => by simp [h], fun h => by simp [h]⟩
theorem q60 (a b c : Int) : Am.Fn Try.prog 71 [.int .i64 a, .int .i64 b, .int .i64 c] [] (fun v H' => v = .bool (decide (b ≤ a ∧ a ≤ c)) ∧ H' = []) := by
  refine Am.Fn.xm (R := fun v => v = _) qo.none mixed q53 (by simp) (by simp) ?_
  simp (maxSteps := 3000000) only [q18, qa, zZ, ↓qp, ↓reduceIte, reduceCtorEq, nA, nM, nS, nE, nL, nD]; try simp only [qa, zY]
  exact qph
theorem qv8 (a b c : Int) : Am.Fn Try.prog 66 [.int .i64 a, .int .i64 b, .int .i64 c] [] (fun v H' => v = .bool (decide (b ≤ a ∧ a ≤ c)) ∧ H' = []) := by
  refine Am.Fn.xm (R := fun v => v = _) qo.none mixed qxx (by simp) (by simp) ?_
  simp (maxSteps := 3000000) only [ql6, qa, zZ, ↓qp, ↓reduceIte, reduceCtorEq, nA, nM, nS, nE, nL, nD]; try simp only [qa, zY]
  exact qph
theorem qe9 {n i : Int} (hn : uo n) (hi : uo i) : (i < n → AV.int .i64 i = AV.int .i64 (Jf n i)) ∧
    (¬i < n → AV.int .i64 (qn .i64 (qn .i64 (qn .i64 (3 * n) - 1) - i)) = AV.int .i64 (Jf n i)) := by
  unfold uo at hn hi
  refine ⟨fun h => by simp [Jf, h], fun h => ?_⟩
  rw [wrap64 (n := 3 * n) (by omega) (by omega), wrap64 (n := 3 * n - 1) (by omega) (by omega), wrap64 (by omega) (by omega)]
  simp [Jf, h]
theorem qp1 (n i : Int) (hn : uo n) (hi : uo i) : Am.Fn Try.prog 169 [.int .i64 n, .int .i64 i] [] (fun v H' => v = .int .i64 (Jf n i) ∧ H' = []) := by
  refine Am.Fn.xm (R := fun v => v = _) qo.none mixed qqn (by simp) (by simp) ?_
  simp (maxSteps := 3000000) only [qfq, qa, zZ, ↓qp, ↓reduceIte, reduceCtorEq, nA, nM, nS, nE, nL, nD]; try simp only [qa, zY]
  exact qe9 hn hi
theorem qmk (n i : Int) (hn : uo n) (hi : uo i) : Am.Fn Try.prog 165 [.int .i64 n, .int .i64 i] [] (fun v H' => v = .int .i64 (Jf n i) ∧ H' = []) := by
  refine Am.Fn.xm (R := fun v => v = _) qo.none mixed qna (by simp) (by simp) ?_
  simp (maxSteps := 3000000) only [qc6, qa, zZ, ↓qp, ↓reduceIte, reduceCtorEq, nA, nM, nS, nE, nL, nD]; try simp only [qa, zY]
  exact qe9 hn hi
theorem qhq {n p : Int} (h : 0 < p ∧ p ≤ 1000000) : ¬p = 0 ∧ ¬p = 0 ∧ AV.int .i64 ((qn .i64 (n.tmod p + p)).tmod p) = AV.int .i64 (n.emod p) := by
  refine ⟨by omega, by omega, ?_⟩
  have h1 : n.tmod p < p := Int.tmod_lt_of_pos n h.1
  have h2 : -p < n.tmod p := by
    have := Int.lt_tmod_of_pos n h.1
    omega
  rw [wrap64 (by omega) (by omega), Int.tmod_eq_emod_of_nonneg (by omega), Int.add_emod_right]
  congr 1
  rw [Int.tmod_eq_emod]
  split
  · rw [show ((0 : Nat) : Int) = 0 from rfl, Int.sub_zero]; exact Int.emod_emod_of_dvd n (Int.dvd_refl p)
  · rw [show (p.natAbs : Int) = p from by omega, Int.sub_emod_right]
    exact Int.emod_emod_of_dvd n (Int.dvd_refl p)
theorem qyc (n p : Int) (h : 0 < p ∧ p ≤ 1000000) : Am.Fn Try.prog 76 [.int .i64 n, .int .i64 p] [] (fun v H' => v = .int .i64 (n.emod p) ∧ H' = []) := by
  refine Am.Fn.xm (R := fun v => v = _) qo.none mixed q0d (by simp) (by simp) ?_
  simp (maxSteps := 3000000) only [qoy, qa, zZ, ↓qp, ↓reduceIte, reduceCtorEq, nA, nM, nS, nE, nL, nD]; try simp only [qa, zY]
  exact qhq h
theorem qtw (n p : Int) (h : 0 < p ∧ p ≤ 1000000) : Am.Fn Try.prog 70 [.int .i64 p, .int .i64 n] [] (fun v H' => v = .int .i64 (n.emod p) ∧ H' = []) := by
  refine Am.Fn.xm (R := fun v => v = _) qo.none mixed qtf (by simp) (by simp) ?_
  simp (maxSteps := 3000000) only [qic, qa, zZ, ↓qp, ↓reduceIte, reduceCtorEq, nA, nM, nS, nE, nL, nD]; try simp only [qa, zY]
  exact qhq h
theorem qua {f : FuncId} (h : ∀ a b c, Am.Fn Try.prog f [.int .i64 a, .int .i64 b, .int .i64 c] [] (fun v H' => v = .bool (decide (b ≤ a ∧ a ≤ c)) ∧ H' = [])) : Am.Callee Try.prog f (qk uc) :=
  Am.Callee.plain fun xs v he => by
    unfold uc at he
    split at he
    · cases he; exact ⟨rfl, rfl, h _ _ _⟩
    · cases he
theorem qhz {f : FuncId} (h : ∀ n i, uo n → uo i → Am.Fn Try.prog f [.int .i64 n, .int .i64 i] [] (fun v H' => v = .int .i64 (Jf n i) ∧ H' = [])) : Am.Callee Try.prog f (qk ve) :=
  Am.Callee.plain fun xs v he => by
    unfold ve at he
    split at he
    · obtain ⟨h1, he⟩ := ql he
      cases he; exact ⟨rfl, rfl, h _ _ h1.1 h1.2⟩
    · cases he
def B1 : za := ((((za.none.put 71 (qk uc)).put 66 (qk uc)).put 169 (qk ve)).put 165 (qk ve))
theorem qou : qo Try.prog B1 := ((((qo.none.put (qua q60)).put (qua qv8)).put (qhz qp1)).put (qhz qmk))
theorem qiu : B1 71 = some (qk uc) := rfl
theorem qa6 : B1 66 = some (qk uc) := rfl
theorem qf1 {p : Int} {k : Nat} (h1 : 2 ≤ k) (hk : k < 100) (h2 : (k : Int) < p) (h3 : p.tmod k = 0) : z6 p = false := by
  unfold z6
  rw [Bool.and_eq_false_iff]
  right
  rw [List.all_eq_false]
  exact ⟨k, List.mem_range.2 hk, by simp [h1, h2, h3]⟩
theorem qij {p : Int} (h : 2 ≤ p ∧ p ≤ 97) (h3 : ∀ j : Nat, 2 ≤ j → (j : Int) < p → p.tmod j ≠ 0) : z6 p = true := by
  unfold z6
  rw [Bool.and_eq_true]
  refine ⟨decide_eq_true h, List.all_eq_true.2 fun j hj => ?_⟩
  by_cases h5 : 2 ≤ j
  · by_cases h6 : (j : Int) < p
    · have := h3 j h5 h6; simp [h5, h6, this]
    · simp [h6]
  · simp [h5]
theorem qds {p : Int} (h : ¬(2 ≤ p ∧ p ≤ 97)) : z6 p = false := by
  unfold z6; rw [decide_eq_false h, Bool.false_and]
theorem qne (p : Int) : Am.Fn Try.prog 137 [.int .i64 p] [] (fun v H' => v = .bool (z6 p) ∧ H' = []) := by
  refine Am.Fn.xm (R := fun v => v = _) qou mixed qmw (by simp) (by simp) ?_
  simp (maxSteps := 3000000) only [qdh, qa, zZ, ↓qp, ↓reduceIte, reduceCtorEq, nA, nM, nS, nE, nL, nD]; try simp only [qa, zY]
  refine WA.xo qou (fun s => ∃ k : Nat, s = ⟨[(3, .int .i64 k), (0, .int .i64 p)], []⟩ ∧ 2 ≤ k ∧ k ≤ 100 ∧ ∀ j : Nat, 2 ≤ j → j < k → (j : Int) < p → p.tmod j ≠ 0) (fun s => match get s.env 3 with | .int _ k => (100 - k).toNat | _ => 0) ⟨_, qt.qv [3, 0], 2, rfl, by omega, by omega, by intros; omega⟩ ?_
  rintro s ⟨k, rfl, h1, h2, h3⟩
  simp (maxSteps := 3000000) only [Bn, Bv, qiu, qa6, uc, qa, zZ, ↓qp, ↓reduceIte, reduceCtorEq, nA, nM, nS, nE, nL, nD]; try simp only [qa, zY]
  refine ⟨fun h4 => ⟨fun h5 => ⟨by omega, fun h6 => ?_, fun h6 => ⟨_, qt.qv [3, 0], ⟨k + 1, ?_, by omega, by omega, ?_⟩, ?_⟩⟩, fun h5 => ?_⟩, fun h4 => ?_⟩
  · exact (qf1 h1 (by omega) h4 h6).symm
  · simp only [qv, zp, reduceIte, reduceCtorEq, Nat.reduceEqDiff]
    have : qn .i64 ((k : Int) + 1) = ((k + 1 : Nat) : Int) := by rw [wrap64 (by omega) (by omega)]; rfl
    rw [this]
  · intro j h7 h8 h9
    by_cases h10 : j = k
    · subst h10; exact h6
    · exact h3 j h7 (by omega) h9
  · simp only [qv, zp, reduceIte, reduceCtorEq, Nat.reduceEqDiff]
    have : qn .i64 ((k : Int) + 1) = ((k + 1 : Nat) : Int) := by rw [wrap64 (by omega) (by omega)]; rfl
    rw [this]; omega
  · rw [qds (by omega)]; simp; omega
  · by_cases h : 2 ≤ p ∧ p ≤ 97
    · rw [qij h fun j a b => h3 j a (by omega) b]; simp [h]
    · rw [qds h]; simp [h]
theorem qpy : ((List.range 98).all fun p => (List.range 11).all fun k => !decide (p < k * k ∧ 2 ≤ p) || !((List.range k).all fun j => !decide (2 ≤ j) || p % j != 0) || (List.range p).all fun j => !decide (2 ≤ j) || p % j != 0) = true := by decide +kernel
theorem qrx {p : Int} {k : Nat} (h : 2 ≤ p ∧ p ≤ 97) (hk : k ≤ 10) (hkp : p < (k : Int) * k) (h3 : ∀ j : Nat, 2 ≤ j → j < k → p.tmod j ≠ 0) : z6 p = true := by
  obtain ⟨q, rfl⟩ : ∃ q : Nat, p = q := ⟨p.toNat, by omega⟩
  have e : ∀ j : Nat, ((q : Int).tmod j = 0) ↔ q % j = 0 := fun j => by
    rw [← Int.ofNat_tmod]; omega
  have h4 := List.all_eq_true.1 (List.all_eq_true.1 qpy q (List.mem_range.2 (by omega))) k (List.mem_range.2 (by omega))
  have h5 : q < k * k := by
    have : ((k * k : Nat) : Int) = (k : Int) * k := by simp
    omega
  simp only [Bool.or_eq_true, Bool.not_eq_true', decide_eq_false_iff_not] at h4
  rcases h4 with (h4 | h4) | h4
  · exact absurd ⟨h5, by omega⟩ h4
  · exfalso
    rw [List.all_eq_false] at h4
    obtain ⟨j, hj, h6⟩ := h4
    have hj := List.mem_range.1 hj
    apply h6
    by_cases h7 : 2 ≤ j
    · have := h3 j h7 hj
      rw [Ne, e] at this
      simp [this]
    · simp [h7]
  · refine qij h fun j h6 h7 => ?_
    rw [Ne, e]
    have := List.all_eq_true.1 h4 j (List.mem_range.2 (by omega))
    simpa [h6] using this
theorem qo4 (p : Int) : Am.Fn Try.prog 120 [.int .i64 p] [] (fun v H' => v = .bool (z6 p) ∧ H' = []) := by
  refine Am.Fn.xm (R := fun v => v = _) qou mixed qpe (by simp) (by simp) ?_
  simp (maxSteps := 3000000) only [qfi, qiu, qa6, uc, qa, zZ, ↓qp, ↓reduceIte, reduceCtorEq, nA, nM, nS, nE, nL, nD]; try simp only [qa, zY]
  refine ⟨fun h => (qds h).symm, fun h => ?_⟩
  refine WA.xo qou (fun s => ∃ k : Nat, s = ⟨[(3, .int .i64 k), (0, .int .i64 p)], []⟩ ∧ 2 ≤ k ∧ k ≤ 10 ∧ ∀ j : Nat, 2 ≤ j → j < k → p.tmod j ≠ 0) (fun s => match get s.env 3 with | .int _ k => (100 - k).toNat | _ => 0) ⟨_, qt.qv [3, 0], 2, rfl, by omega, by omega, by intros; omega⟩ ?_
  rintro s ⟨k, rfl, h1, h2, h3⟩
  have hw : qn .i64 ((k : Int) + 1) = ((k + 1 : Nat) : Int) := by rw [wrap64 (by omega) (by omega)]; rfl
  have hm : qn .i64 ((k : Int) * k) = ((k * k : Nat) : Int) := by
    have : k * k ≤ 10 * 10 := Nat.mul_le_mul h2 h2
    rw [← Int.natCast_mul]; exact jr (by omega)
  simp (maxSteps := 3000000) only [Gp, Ko, hm, hw, qv, qa, zZ, ↓qp, ↓reduceIte, reduceCtorEq, nA, nM, nS, nE, nL, nD]; try simp only [qa, zY]
  have hkk : k < 10 ∨ k = 10 := by omega
  refine ⟨fun h4 => ⟨by omega, fun h6 => ?_, fun h6 => ⟨_, qt.qv [3, 0], ⟨k + 1, rfl, by omega, ?_, ?_⟩, ?_⟩⟩, fun h4 => ?_⟩
  · have : k * 2 ≤ k * k := Nat.mul_le_mul_left k h1
    exact (qf1 h1 (by omega) (by omega) h6).symm
  · rcases hkk with e | e
    · omega
    · subst e; omega
  · intro j h7 h8
    by_cases h10 : j = k
    · subst h10; exact h6
    · exact h3 j h7 (by omega)
  · simp only [qv, zp, reduceIte, reduceCtorEq, Nat.reduceEqDiff]
    omega
  · rw [qrx h h2 (by rw [← Int.natCast_mul]; omega) h3]
theorem qh3 {f : FuncId} (h : ∀ p, Am.Fn Try.prog f [.int .i64 p] [] (fun v H' => v = .bool (z6 p) ∧ H' = [])) : Am.Callee Try.prog f (qk wi) :=
  Am.Callee.plain fun xs v he => by
    unfold wi at he
    split at he
    · cases he; exact ⟨rfl, rfl, h _⟩
    · cases he
theorem qyw : Am.Callee Try.prog 76 (qk X7) :=
  Am.Callee.plain fun xs v he => by
    unfold X7 at he
    split at he
    · obtain ⟨h1, he⟩ := ql he
      cases he; exact ⟨rfl, rfl, qyc _ _ h1⟩
    · cases he
theorem qr4 : Am.Callee Try.prog 70 (qk Jm) :=
  Am.Callee.plain fun xs v he => by
    unfold Jm at he
    split at he
    · obtain ⟨h1, he⟩ := ql he
      cases he; exact ⟨rfl, rfl, qtw _ _ h1⟩
    · cases he
def B2 : za := ((((B1.put 120 (qk wi)).put 137 (qk wi)).put 76 (qk X7)).put 70 (qk Jm))
theorem q5i : qo Try.prog B2 := ((((qou.put (qh3 qo4)).put (qh3 qne)).put (qyw)).put (qr4))
theorem qr0 : B2 71 = some (qk uc) := rfl
theorem qkg : B2 66 = some (qk uc) := rfl
theorem qf6 : B2 120 = some (qk wi) := rfl
theorem ui {p : Int} (h : z6 p = true) : 2 ≤ p ∧ p ≤ 97 := by
  unfold z6 at h
  rw [Bool.and_eq_true] at h
  exact of_decide_eq_true h.1
theorem qp2 (p c : Int) : Am.Fn Try.prog 94 [.int .i64 p, .int .i64 c] [] (fun v H' => v = .bool (z6 p && decide (0 ≤ c ∧ c ≤ p - 1)) ∧ H' = []) := by
  refine Am.Fn.xm (R := fun v => v = _) q5i mixed qql (by simp) (by simp) ?_
  simp (maxSteps := 3000000) only [qfe, qr0, qkg, qf6, uc, wi, qa, zZ, ↓qp, ↓reduceIte, reduceCtorEq, nA, nM, nS, nE, nL, nD]; try simp only [qa, zY]
  refine ⟨fun h => ?_, fun h => ?_⟩
  · have := ui h
    rw [h, wrap64 (by omega) (by omega)]; rfl
  · rw [h]; rfl
theorem qrr : Am.Callee Try.prog 94 (qk Qn) :=
  Am.Callee.plain fun xs v he => by
    unfold Qn at he
    split at he
    · cases he; exact ⟨rfl, rfl, qp2 _ _⟩
    · cases he
def B3 : za := (B2.put 94 (qk Qn))
theorem q5j : qo Try.prog B3 := (q5i.put (qrr))
end Go.Proofs.Ytfhckbbgmblhbaa
namespace Go.Proofs.Ytfhckbbgmblhbaa
open Go.Am Go.Dia
open Nat renaming reduceAdd → nA, reduceMul → nM, reduceSub → nS, reduceEqDiff → nE, reduceLT → nL, reduceLeDiff → nD, reduceBEq → nB
open Int renaming reduceEq → iE, reduceNe → iN, reduceBEq → iB, reduceBNe → iC, reduceLT → iL, reduceLE → iD, reduceAdd → iA, reduceSub → iS, reduceMul → iM
set_option linter.unusedSimpArgs false
set_option linter.unusedVariables false
set_option maxRecDepth 4000
def qba : AC := .seq (.region [oI 2 0]) (.seq (.region [oM 3 0,o0 4 (.jy (.t 3)),oF 5 0 4,oL 6 5,oM 2 6]) .ret)
theorem qj9 : zj Try.prog 168 = some ⟨7, qba, [.slot 2]⟩ := by kernel_rfl
def Jj : AC := .seq (.region [oP 12 .lss 11 10]) (.seq (.cond 12 .skip (.exit 0)) (.seq (.block 1 (.seq (.region [oM 13 11,oM 5 13]) (.seq (.draw false [oM 14 3,oM 15 0,oM 16 3,oM 17 5,o0 19 (.jy (.t 15)),oF 20 1 19,oM 25 5,oC 18 169 [.t 16,.t 17],o0 21 (.zz 16 1 (.t 20) (.t 18)),oL 22 21,o0 23 (.conv .i64 (.t 22)),oC 24 169 [.t 14,.t 23],oP 26 .gtr 24 25]) (.cond 26 (.region [oM 27 4,o0 28 (.u6 1 [.int .u8 0] [(0,1,(.c (.int .u8 40)))]),o0 29 (.append 1 1 (.t 27) (.t 28)),oM 4 29]) (.region [oM 30 4,o0 31 (.u6 1 [.int .u8 0] [(0,1,(.c (.int .u8 41)))]),o0 32 (.append 1 1 (.t 30) (.t 31)),oM 4 32]))))) (.region [oK 33 .add 11 1,oM 11 33])))
def Jk : AC := .seq (.region [oM 34 4,o0 35 (.b2s (.t 34)),oM 2 35]) .ret
def Ye : AC := .seq (.region [o0 2 (.mov (.c (.str [])))]) (.seq (.region [oM 6 0,oC 7 168 [.t 6],o0 8 (.u6 0 [] []),oM 3 7,oM 4 8]) (.seq (.seq (.region [oM 9 3,o0 10 (.bin .mul (.c (.int .i64 2)) (.t 9)),oI 11 0]) (.block 0 (.loop Jj))) Jk))
theorem qek : zj Try.prog 142 = some ⟨36, Ye, [.slot 2]⟩ := by kernel_rfl
def G6 : AC := .seq (.seq (.region [oM 7 4,oF 8 0 1,oL 9 8,o0 10 (.bin .mul (.c (.int .i64 2)) (.t 9)),oP 11 .lss 7 10]) (.cond 11 .skip (.exit 0))) (.seq (.block 1 (.seq (.region [oF 14 0 1,oL 15 14,oM 16 4,oC 17 165 [.t 15,.t 16],oM 5 17]) (.seq (.draw false [oF 18 0 1,oL 19 18,oM 20 5,oF 21 1 1,o0 22 (.zz 16 1 (.t 21) (.t 20)),oL 23 22,o0 24 (.conv .i64 (.t 23)),oM 26 4,oC 25 165 [.t 19,.t 24],oP 27 .gtr 25 26]) (.cond 27 (.region [oM 28 3,o0 29 (.u6 1 [.int .u8 0] [(0,1,(.c (.int .u8 40)))]),o0 30 (.append 1 1 (.t 28) (.t 29)),oM 3 30]) (.region [oM 31 3,o0 32 (.u6 1 [.int .u8 0] [(0,1,(.c (.int .u8 41)))]),o0 33 (.append 1 1 (.t 31) (.t 32)),oM 3 33]))))) (.region [oM 12 4,oK 13 .add 12 1,oM 4 13]))
def Gs : AC := .seq (.region [oM 34 3,o0 35 (.b2s (.t 34)),oM 2 35]) .ret
def qfk : AC := .seq (.region [o0 1 (.box (.t 0)),o0 2 (.mov (.c (.str [])))]) (.seq (.region [o0 6 (.u6 0 [] []),oM 3 6]) (.seq (.seq (.region [oI 4 0]) (.block 0 (.loop G6))) Gs))
theorem qo1 : zj Try.prog 150 = some ⟨36, qfk, [.slot 2]⟩ := by kernel_rfl
def okD (m : List Nat) : Prop := m.length = 16 ∧ ∀ x, x ∈ m → x < 256
theorem okD.get {m : List Nat} (h : okD m) (i : Nat) : m.getD i 0 < 256 := by
  rw [List.getD_eq_getElem?_getD]
  cases e : m[i]? with
  | none => simp
  | some x => exact h.2 x (List.mem_of_getElem? e)
def bytesOf : List AV → Option (List Nat)
  | [] => some []
  | .int .u8 x :: r => if 0 ≤ x ∧ x < 256 then (match bytesOf r with
    | some l => some (x.toNat :: l)
    | none => none) else none
  | _ => none
theorem V8 : ∀ {m : List Nat}, (∀ x, x ∈ m → x < 256) → bytesOf (u8s m) = some m
  | [], _ => rfl
  | x :: m, h => by
    have h1 := V8 (m := m) fun y hy => h y (List.mem_cons_of_mem _ hy)
    have h2 := h x (by simp)
    simp only [u8s, List.map_cons, bytesOf] at h1 ⊢
    rw [if_pos (by omega), h1]
    simp
theorem Zh : ∀ {l : List AV} {m : List Nat}, bytesOf l = some m → l = u8s m ∧ ∀ x, x ∈ m → x < 256
  | [], m, h => by cases h; exact ⟨rfl, by simp⟩
  | a :: l, m, h => by
    cases a <;> (try (simp only [bytesOf, reduceCtorEq] at h; done))
    rename_i k x
    cases k <;> (try (simp only [bytesOf, reduceCtorEq] at h; done))
    simp only [bytesOf] at h
    split at h
    · rename_i hx
      split at h
      · rename_i r hr
        cases h
        obtain ⟨h1, h2⟩ := Zh hr
        refine ⟨?_, fun y hy => ?_⟩
        · simp only [u8s, List.map_cons, List.cons.injEq, AV.int.injEq, true_and]
          exact ⟨by omega, h1⟩
        · rcases List.mem_cons.1 hy with rfl | hy
          · omega
          · exact h2 y hy
      · cases h
    · cases h
def vn : List AV → Option (Int × List Nat)
  | .int .i64 n :: r => match bytesOf r with
    | some m => if m.length = 16 then some (n, m) else none
    | none => none
  | _ => none
theorem qy {n : Int} {m : List Nat} (h : okD m) : vn (dia n m) = some (n, m) := by
  simp only [dia, vn, V8 h.2, h.1, if_true]
theorem zm {l : List AV} {n : Int} {m : List Nat} (h : vn l = some (n, m)) : l = dia n m ∧ okD m := by
  unfold vn at h
  split at h
  · split at h
    · rename_i hm
      obtain ⟨h1, h2⟩ := Zh hm
      split at h
      · rename_i h3; cases h; exact ⟨by rw [h1]; rfl, h3, h2⟩
      · cases h
    · cases h
  · cases h
theorem q9a (n : Int) : Am.Fn Try.prog 168 [.ptr 0 0] [.ro [.int .i64 n]] (fun v H' => v = .int .i64 n ∧ H' = [.ro [.int .i64 n]]) := by
  refine Am.Fn.xm (R := fun v => v = _) q5j mixed qj9 (by simp) (by intro j o h; cases j <;> simp at h; subst h; exact ⟨trivial, trivial⟩) ?_
  simp (maxSteps := 3000000) only [qba, rd, List.getElem?_cons_zero, qa, zZ, ↓qp, ↓reduceIte, reduceCtorEq, nA, nM, nS, nE, nL, nD]; try simp only [qa, zY]
  exact ⟨_, rfl⟩
def g_n : List AV → List AV → Option AV
  | [.int .i64 n], [] => some (.int .i64 n)
  | _, _ => none
theorem q8p : Am.Callee Try.prog 168 (Wp 1 g_n) :=
  Am.Callee.read fun l xs v hl he => by
    unfold g_n at he
    split at he
    · cases he; exact ⟨rfl, rfl, rfl, q9a _⟩
    · cases he
theorem qv5 {n : Int} {m : List Nat} : List.take 1 (List.drop 0 (dia n m)) = [.int .i64 n] := rfl
def B4 : za := (B3.put 168 (Wp 1 g_n))
theorem qpp : qo Try.prog B4 := (q5j.put (q8p))
theorem Jc : B4 169 = some (qk ve) := rfl
theorem Z1 : B4 165 = some (qk ve) := rfl
theorem Qv : B4 168 = some (Wp 1 g_n) := rfl
theorem Xd {n k : Nat} (h : k < 2 * n) : Jf n k = (place n k : Nat) := by
  unfold Jf place; split <;> split <;> omega
theorem Uq {n x k : Nat} : ((k : Int) < Jf n x) ↔ (k < place n x) := by
  unfold Jf place; split <;> split <;> omega
theorem jz {x : Nat} (h : x < 1000) : uo (x : Int) := by unfold uo; omega
theorem Yf {l : List AV} (h : AV.ze l = true) : ∀ (j : Nat) (o : AO), [AO.ro l][j]? = some o → o.under [AO.ro l].length := by
  intro j o e
  cases j with
  | zero => simp only [List.getElem?_cons_zero, Option.some.injEq] at e; subst e; exact qj _ _ h
  | succ j => simp at e
def Ui (n : Nat) (m : List Nat) : List Nat := (List.range (2 * n)).map fun k => if k < place n (m.getD (place n k) 0) then 40 else 41
theorem qpx (n : Nat) (m : List Nat) : (Ui n m).map (fun x => UInt8.ofNat x) = j5 n m := by
  simp only [Ui, j5, List.map_map]
  refine List.map_congr_left fun k _ => ?_
  simp only [Function.comp]
  split <;> rfl
theorem bq (n : Nat) (m : List Nat) : (Ui n m).length = 2 * n := by simp [Ui]
theorem qog {n : Nat} {m : List Nat} {k : Nat} (h : k < 2 * n) : (Ui n m).take (k + 1) = (Ui n m).take k ++ [if k < place n (m.getD (place n k) 0) then 40 else 41] := by
  rw [List.take_add_one]
  congr 1
  simp [Ui, h]
theorem qn8 {l : List AV} {k : Nat} (h : l.length ≤ k) : List.take k (List.drop 0 l) = l := by rw [List.drop_zero, List.take_of_length_le h]
theorem q07 (n : Nat) (m : List Nat) (hn : n ≤ 8) (hm : okD m) : Am.Fn Try.prog 142 [.ptr 0 0] [.ro (dia n m)] (fun v H' => v = .str (j5 n m) ∧ H' = [.ro (dia n m)]) := by
  refine Am.Fn.xm (R := fun v => v = _) qpp mixed qek (by simp) (Yf (qg _ _)) ?_
  have h2n : qn .i64 (2 * (n : Int)) = ((2 * n : Nat) : Int) := by rw [wrap64 (by omega) (by omega)]; simp
  simp (maxSteps := 3000000) only [Ye, Jc, Z1, Qv, g_n, ve, rd, List.getElem?_cons_zero, qv5, qe, hm.1, h2n, gi, qa, zZ, ↓qp, ↓reduceIte, reduceCtorEq, nA, nM, nS, nE, nL, nD]; try simp only [qa, zY]
  refine WA.xo qpp (fun s => ∃ k : Nat, s = ⟨[(11, .int .i64 k), (10, .int .i64 ((2 * n : Nat) : Int)), (4, .slc 1 0 k false 0), (3, .int .i64 n), (0, .ptr 0 0)], [.ro (dia n m), .vec 1 (u8s ((Ui n m).take k))]⟩ ∧ k ≤ 2 * n)
    (fun s => match get s.env 11 with | .int _ k => (100 - k).toNat | _ => 0) ⟨_, qt.trans (qt.qv [11, 10, 4, 3, 0]) (qt.vec 1 0 1 (by decide) rfl rfl ?_ ?_), 0, ?_, by omega⟩ ?_
  · simp only [qv, zp, zV, ↓reduceIte, nE, reduceCtorEq, nB]
  · simp only [zV, ↓reduceIte, nE, reduceCtorEq, nB]
  · simp only [qv, zp, List.take_zero, zV, ↓reduceIte, nE, reduceCtorEq, nB]; rfl
  rintro s ⟨k, rfl, hk⟩
  have hw : qn .i64 ((k : Int) + 1) = ((k + 1 : Nat) : Int) := by rw [wrap64 (by omega) (by omega)]; rfl
  simp (maxSteps := 3000000) only [Jj, Jk, hw, Jc, Z1, Qv, g_n, ve, rd, List.getElem?_cons_zero, List.getElem?_cons_succ, gi, src, qa, zZ, ↓qp, ↓reduceIte, reduceCtorEq, nA, nM, nS, nE, nL, nD]; try simp only [qa, zY]
  refine ⟨fun h => ?_, fun h => ?_⟩
  · have hk' : k < 2 * n := by omega
    have hp := q7 hk'
    have hg := hm.get (place n k)
    have h1 : qn .i64 ((m.getD (place n k) 0 : Nat) : Int) = (m.getD (place n k) 0 : Nat) := jr (by omega)
    have hlt : (List.take k (Ui n m)).length = k := by rw [List.length_take, bq]; omega
    have hap : ∀ c : Nat, c = (if k < place n (m.getD (place n k) 0) then 40 else 41) → List.take k (u8s (List.take k (Ui n m))) ++ [AV.int .u8 (c : Int)] = u8s (List.take (k + 1) (Ui n m)) := by
      intro c hc
      rw [List.take_of_length_le (by rw [xx, hlt]; exact Nat.le_refl _), qog hk', ← hc, ← qi9]; rfl
    simp (maxSteps := 3000000) only [Xd hk', h1, qa, zZ, ↓qp, ↓reduceIte, reduceCtorEq, nA, nM, nS, nE, nL, nD]; try simp only [qa, zY]
    refine ⟨⟨jz (by omega), jz (by omega)⟩, ⟨by omega, by omega⟩, by rw [hm.1]; omega, ⟨jz (by omega), jz (by omega)⟩, fun h2 => ?_, fun h2 => ?_⟩
    · have e := hap 40 (by rw [if_pos (Uq.1 h2)])
      simp only [Int.cast_ofNat_Int] at e
      refine ⟨by decide, ⟨by rw [xx, hlt]; exact Nat.le_refl _, by decide, by omega⟩, _, qt.xv [0, 3] [11, 10, 4, 3, 0] ⟨by decide, ?_⟩ ?_, ⟨k + 1, ?_, by omega⟩, ?_⟩
      · simp only [over, List.take_zero, List.length_cons, List.length_nil, List.drop_succ_cons, List.drop_nil, List.take_succ_cons, List.drop_zero, e, zK, ↓reduceIte, reduceCtorEq, nE, nB, nA]
      · simp only [zK, ↓reduceIte, reduceCtorEq, nE, nB, nA]
      · simp only [over, List.take_zero, List.length_cons, List.length_nil, List.drop_succ_cons, List.drop_nil, List.take_succ_cons, List.drop_zero, e, zL, ↓reduceIte, reduceCtorEq, nE, nA]
      · simp only [zL, ↓reduceIte, reduceCtorEq, nE, nA]
        omega
    · have e := hap 41 (by rw [if_neg fun h => h2 (Uq.2 h)])
      simp only [Int.cast_ofNat_Int] at e
      refine ⟨by decide, ⟨by rw [xx, hlt]; exact Nat.le_refl _, by decide, by omega⟩, _, qt.xv [0, 3] [11, 10, 4, 3, 0] ⟨by decide, ?_⟩ ?_, ⟨k + 1, ?_, by omega⟩, ?_⟩
      · simp only [over, List.take_zero, List.length_cons, List.length_nil, List.drop_succ_cons, List.drop_nil, List.take_succ_cons, List.drop_zero, e, zK, ↓reduceIte, reduceCtorEq, nE, nB, nA]
      · simp only [zK, ↓reduceIte, reduceCtorEq, nE, nB, nA]
      · simp only [over, List.take_zero, List.length_cons, List.length_nil, List.drop_succ_cons, List.drop_nil, List.take_succ_cons, List.drop_zero, e, zL, ↓reduceIte, reduceCtorEq, nE, nA]
      · simp only [zL, ↓reduceIte, reduceCtorEq, nE, nA]
        omega
  · have hkn : k = 2 * n := by omega
    have hall : List.take k (Ui n m) = Ui n m := by rw [List.take_of_length_le]; rw [bq]; omega
    rw [hall, qn8 (by rw [xx, bq]; omega), Gv, zg, qpx]
    simp (maxSteps := 3000000) only [List.set_cons_zero, List.set_cons_succ, qa, zZ, ↓qp, ↓reduceIte, reduceCtorEq, nA, nM, nS, nE, nL, nD]; try simp only [qa, zY]
    exact ⟨by rw [xx, bq]; omega, _, rfl⟩
theorem qpm (n : Nat) (m : List Nat) (hn : n ≤ 8) (hm : okD m) : Am.Fn Try.prog 150 [.agg (dia n m)] [] (fun v H' => v = .str (j5 n m) ∧ H' = []) := by
  refine Am.Fn.xm (R := fun v => v = _) qpp mixed qo1 (by simp) (by simp) ?_
  have h2n : qn .i64 (2 * (n : Int)) = ((2 * n : Nat) : Int) := by rw [wrap64 (by omega) (by omega)]; simp
  simp (maxSteps := 3000000) only [qfk, gi, qa, zZ, ↓qp, ↓reduceIte, reduceCtorEq, nA, nM, nS, nE, nL, nD]; try simp only [qa, zY]
  refine WA.xo qpp (fun s => ∃ k : Nat, s = ⟨[(4, .int .i64 k), (3, .slc 1 0 k false 0), (1, .ptr 0 0)], [.cells (dia n m), .vec 1 (u8s ((Ui n m).take k))]⟩ ∧ k ≤ 2 * n)
    (fun s => match get s.env 4 with | .int _ k => (100 - k).toNat | _ => 0) ⟨_, qt.trans (qt.qv [4, 3, 1]) (qt.vec 1 0 1 (by decide) rfl rfl ?_ ?_), 0, ?_, by omega⟩ ?_
  · simp only [qv, zp, zV, ↓reduceIte, nE, reduceCtorEq, nB]
  · simp only [zV, ↓reduceIte, nE, reduceCtorEq, nB]
  · simp only [qv, zp, List.take_zero, zV, ↓reduceIte, nE, reduceCtorEq, nB]; rfl
  rintro s ⟨k, rfl, hk⟩
  have hw : qn .i64 ((k : Int) + 1) = ((k + 1 : Nat) : Int) := by rw [wrap64 (by omega) (by omega)]; rfl
  simp (maxSteps := 3000000) only [G6, Gs, hw, h2n, w9, Jc, Z1, Qv, g_n, ve, rd, List.getElem?_cons_zero, List.getElem?_cons_succ, gi, src, qa, zZ, ↓qp, ↓reduceIte, reduceCtorEq, nA, nM, nS, nE, nL, nD]; try simp only [qa, zY]
  refine ⟨fun h => ?_, fun h => ?_⟩
  · have hk' : k < 2 * n := by omega
    have hp := q7 hk'
    have hg := hm.get (place n k)
    have h1 : qn .i64 ((m.getD (place n k) 0 : Nat) : Int) = (m.getD (place n k) 0 : Nat) := jr (by omega)
    have hlt : (List.take k (Ui n m)).length = k := by rw [List.length_take, bq]; omega
    have hap : ∀ c : Nat, c = (if k < place n (m.getD (place n k) 0) then 40 else 41) → List.take k (u8s (List.take k (Ui n m))) ++ [AV.int .u8 (c : Int)] = u8s (List.take (k + 1) (Ui n m)) := by
      intro c hc
      rw [List.take_of_length_le (by rw [xx, hlt]; exact Nat.le_refl _), qog hk', ← hc, ← qi9]; rfl
    simp (maxSteps := 3000000) only [Xd hk', h1, qa, zZ, ↓qp, ↓reduceIte, reduceCtorEq, nA, nM, nS, nE, nL, nD]; try simp only [qa, zY]
    refine ⟨⟨jz (by omega), jz (by omega)⟩, ⟨by omega, by omega⟩, by rw [hm.1]; omega, ⟨jz (by omega), jz (by omega)⟩, fun h2 => ?_, fun h2 => ?_⟩
    · have e := hap 40 (by rw [if_pos (Uq.1 h2)])
      simp only [Int.cast_ofNat_Int] at e
      refine ⟨by decide, ⟨by rw [xx, hlt]; exact Nat.le_refl _, by decide, by omega⟩, _, qt.xv [0, 3] [4, 3, 1] ⟨by decide, ?_⟩ ?_, ⟨k + 1, ?_, by omega⟩, ?_⟩
      · simp only [over, List.take_zero, List.length_cons, List.length_nil, List.drop_succ_cons, List.drop_nil, List.take_succ_cons, List.drop_zero, e, zK, ↓reduceIte, reduceCtorEq, nE, nB, nA]
      · simp only [zK, ↓reduceIte, reduceCtorEq, nE, nB, nA]
      · simp only [over, List.take_zero, List.length_cons, List.length_nil, List.drop_succ_cons, List.drop_nil, List.take_succ_cons, List.drop_zero, e, zL, ↓reduceIte, reduceCtorEq, nE, nA]
      · simp only [zL, ↓reduceIte, reduceCtorEq, nE, nA]
        omega
    · have e := hap 41 (by rw [if_neg fun h => h2 (Uq.2 h)])
      simp only [Int.cast_ofNat_Int] at e
      refine ⟨by decide, ⟨by rw [xx, hlt]; exact Nat.le_refl _, by decide, by omega⟩, _, qt.xv [0, 3] [4, 3, 1] ⟨by decide, ?_⟩ ?_, ⟨k + 1, ?_, by omega⟩, ?_⟩
      · simp only [over, List.take_zero, List.length_cons, List.length_nil, List.drop_succ_cons, List.drop_nil, List.take_succ_cons, List.drop_zero, e, zK, ↓reduceIte, reduceCtorEq, nE, nB, nA]
      · simp only [zK, ↓reduceIte, reduceCtorEq, nE, nB, nA]
      · simp only [over, List.take_zero, List.length_cons, List.length_nil, List.drop_succ_cons, List.drop_nil, List.take_succ_cons, List.drop_zero, e, zL, ↓reduceIte, reduceCtorEq, nE, nA]
      · simp only [zL, ↓reduceIte, reduceCtorEq, nE, nA]
        omega
  · have hkn : k = 2 * n := by omega
    have hall : List.take k (Ui n m) = Ui n m := by rw [List.take_of_length_le]; rw [bq]; omega
    rw [hall, qn8 (by rw [xx, bq]; omega), Gv, zg, qpx]
    simp (maxSteps := 3000000) only [List.set_cons_zero, List.set_cons_succ, qa, zZ, ↓qp, ↓reduceIte, reduceCtorEq, nA, nM, nS, nE, nL, nD]; try simp only [qa, zY]
    rw [xx, bq]; omega
end Go.Proofs.Ytfhckbbgmblhbaa
namespace Go.Proofs.Ytfhckbbgmblhbaa
open Go.Am Go.Dia
open Nat renaming reduceAdd → nA, reduceMul → nM, reduceSub → nS, reduceEqDiff → nE, reduceLT → nL, reduceLeDiff → nD, reduceBEq → nB
open Int renaming reduceEq → iE, reduceNe → iN, reduceBEq → iB, reduceBNe → iC, reduceLT → iL, reduceLE → iD, reduceAdd → iA, reduceSub → iS, reduceMul → iM
set_option linter.unusedSimpArgs false
set_option linter.unusedVariables false
set_option maxRecDepth 4000
set_option maxHeartbeats 4000000
def qft : AC := .seq (.region [o0 2 (.box (.t 0)),oI 4 0,oI 5 0]) (.seq (.draw true [oF 8 0 2,oL 9 8,oM 10 1,oF 12 0 2,oL 13 12,oM 14 1,oF 15 1 2,o0 16 (.zz 16 1 (.t 15) (.t 14)),oL 17 16,o0 18 (.conv .i64 (.t 17)),oC 11 165 [.t 9,.t 10],oC 19 165 [.t 13,.t 18],oM 6 11,oM 7 19]) (.seq (.region [oM 20 6,oM 21 7,o0 22 (.Je true (.t 20) (.t 21)),oM 23 6,oM 24 7,o0 25 (.Je false (.t 23) (.t 24)),oM 4 22,oM 5 25]) .ret))
theorem qpb : zj Try.prog 145 = some ⟨26, qft, [.slot 4, .slot 5]⟩ := by kernel_rfl
def qco : AC := .seq (.seq (.region [oM 17 4,oK 18 .lss 17 16]) (.cond 18 .skip (.exit 0))) (.seq (.block 1 (.seq (.region [oM 21 4,oF 22 1 1,o0 23 (.zz 16 1 (.t 22) (.t 21)),oL 24 23,o0 25 (.conv .i64 (.t 24)),oM 5 25]) (.seq (.seq (.region [oM 26 4,oM 27 3,o0 28 (.bin .mul (.c (.int .i64 2)) (.t 27)),oP 29 .geq 26 28]) (.cond 29 (.seq (.seq (.region [oM 30 5,oK 31 .neq 30 0]) (.cond 31 (.seq (.region [oB 2 false]) .ret) .skip)) (.exit 1)) .skip)) (.seq (.region [oM 32 5,oM 33 3,o0 34 (.bin .mul (.c (.int .i64 2)) (.t 33)),oP 35 .geq 32 34,oM 36 35,oG 37 36 false (.mov (.t 5)),oG 38 36 false (.mov (.t 4)),oG 39 36 false (.bin .eql (.t 37) (.t 38)),o0 40 (.pick (.t 36) (.c (.bool true)) (.t 39)),oM 41 40,oG 42 41 false (.mov (.t 5)),oG 43 41 false (.qaz 1 (.t 1)),oG 44 41 false (.zz 16 1 (.t 43) (.t 42)),oG 45 41 false (.Wg (.t 44)),oG 46 41 false (.conv .i64 (.t 45)),oG 47 41 false (.mov (.t 4)),oG 48 41 false (.bin .neq (.t 46) (.t 47)),o0 49 (.pick (.t 41) (.c (.bool true)) (.t 48))]) (.cond 49 (.seq (.region [oB 2 false]) .ret) .skip))))) (.region [oM 19 4,oK 20 .add 19 1,oM 4 20]))
def qcg : AC := .seq (.seq (.region [oM 62 9,oM 63 3,o0 64 (.bin .mul (.c (.int .i64 2)) (.t 63)),oP 65 .lss 62 64]) (.cond 65 .skip (.exit 4))) (.seq (.block 5 (.seq (.region [oN 69 17 1,oM 70 9,oC 71 145 [.t 69,.t 70],oM 68 71,oE 72 0 68,oE 73 1 68,oM 10 72,oM 11 73]) (.seq (.region [oM 74 7,oM 75 10,oP 76 .lss 74 75,oM 77 76,oG 78 77 true (.mov (.t 10)),oG 79 77 true (.mov (.t 8)),oG 80 77 true (.bin .lss (.t 78) (.t 79)),o0 81 (.pick (.t 77) (.t 80) (.c (.bool false))),oM 82 81,oG 83 82 true (.mov (.t 8)),oG 84 82 true (.mov (.t 11)),oG 85 82 true (.bin .lss (.t 83) (.t 84)),o0 86 (.pick (.t 82) (.t 85) (.c (.bool false)))]) (.cond 86 (.seq (.region [oB 2 false]) .ret) .skip)))) (.region [oM 66 9,oK 67 .add 66 1,oM 9 67]))
def qcb : AC := .region [oM 54 6,oK 55 .add 54 1,oM 6 55]
def qc3 : AC := .seq (.seq (.region [oM 50 6,oM 51 3,o0 52 (.bin .mul (.c (.int .i64 2)) (.t 51)),oP 53 .lss 50 52]) (.cond 53 .skip (.exit 2))) (.seq (.block 3 (.seq (.region [oN 57 17 1,oM 58 6,oC 59 145 [.t 57,.t 58],oM 56 59,oE 60 0 56,oE 61 1 56,oM 7 60,oM 8 61]) (.seq (.region [oI 9 0]) (.block 4 (.loop qcg))))) qcb)
def qct : AC := .seq (.region [oB 2 true]) .ret
def qck : AC := .seq (.seq (.region [oI 6 0]) (.block 2 (.loop qc3))) qct
def qkw : AC := .seq (.region [o0 1 (.box (.t 0)),oB 2 false]) (.seq (.region [oF 12 0 1,oL 13 12,oM 3 13]) (.seq (.seq (.region [oM 14 3,oC 15 66 [.t 14,(.c (.int .i64 1)),(.c (.int .i64 8))],o0 16 (.un .not (.t 15))]) (.cond 16 (.seq (.region [oB 2 false]) .ret) .skip)) (.seq (.seq (.region [oI 4 0]) (.block 0 (.loop qco))) qck)))
theorem qw2 : zj Try.prog 91 = some ⟨87, qkw, [.slot 2]⟩ := by kernel_rfl
def qh2 : List AV → List AV → Option AV := fun l xs => match vn l, xs with
  | some (n, m), [] => chk (0 ≤ n ∧ n ≤ 8) (some (.str (j5 n.toNat m)))
  | _, _ => none
theorem q2c : Am.Callee Try.prog 142 (Wp 17 qh2) :=
  Am.Callee.read fun l xs v hl he => by
    unfold qh2 at he
    split at he
    · rename_i n m hd
      obtain ⟨h1, he⟩ := ql he
      cases he
      obtain ⟨rfl, hm⟩ := zm hd
      obtain ⟨k, rfl⟩ : ∃ k : Nat, n = k := ⟨n.toNat, by omega⟩
      exact ⟨qg _ _, rfl, rfl, by rw [Int.toNat_natCast]; exact q07 k m (by omega) hm⟩
    · cases he
def qcq : List AV → Option AV
  | [.agg l] => match vn l with
    | some (n, m) => chk (0 ≤ n ∧ n ≤ 8) (some (.str (j5 n.toNat m)))
    | none => none
  | _ => none
theorem qoa : Am.Callee Try.prog 150 (qk qcq) :=
  Am.Callee.plain fun xs v he => by
    unfold qcq at he
    split at he
    · split at he
      · rename_i n m hd
        obtain ⟨h1, he⟩ := ql he
        cases he
        obtain ⟨rfl, hm⟩ := zm hd
        obtain ⟨k, rfl⟩ : ∃ k : Nat, n = k := ⟨n.toNat, by omega⟩
        exact ⟨by simp only [AV.ze, AV.zo, qg, Bool.and_self], rfl, by rw [Int.toNat_natCast]; exact qpm k m (by omega) hm⟩
      · cases he
    · cases he
def B5 : za := ((B4.put 142 (Wp 17 qh2)).put 150 (qk qcq))
theorem q5x : qo Try.prog B5 := ((qpp.put (q2c)).put (qoa))
theorem qkt : B5 66 = some (qk uc) := rfl
theorem qdr : B5 165 = some (qk ve) := rfl
theorem qo8 (n i : Nat) (m : List Nat) (hn : n ≤ 8) (hm : okD m) (hi : i < 2 * n) (ht : m.getD i 0 < 2 * n) :
    Am.Fn Try.prog 145 [.agg (dia n m), .int .i64 i] [] (fun v H' => v = .tup [.int .i64 (Wv n m i : Nat), .int .i64 (Wo n m i : Nat)] ∧ H' = []) := by
  refine Am.Fn.xm (R := fun v => v = _) q5x mixed qpb (by simp) (by simp) ?_
  have hg := hm.get i
  have h1 : qn .i64 ((m.getD i 0 : Nat) : Int) = (m.getD i 0 : Nat) := jr (by omega)
  have hl : i < m.length := by rw [hm.1]; omega
  simp (maxSteps := 3000000) only [qft, qkt, qdr, uc, ve, rd, List.getElem?_cons_zero, List.getElem?_cons_succ, w9, Xi hl, Int.toNat_natCast, Nat.mul_one, h1, Xd hi, Xd ht, and_self, List.append_cancel_left_eq, List.self_eq_append_right, exists_eq, AV.tup.injEq, List.cons.injEq, AV.int.injEq, qa, zZ, ↓qp, ↓reduceIte, reduceCtorEq, nA, nM, nS, nE, nL, nD]; try simp only [qa, zY]
  refine ⟨⟨by omega, by omega⟩, hl, ⟨jz (by omega), jz (by omega)⟩, ⟨jz (by omega), jz (by omega)⟩, ?_, ?_⟩
  · unfold Wv; split <;> omega
  · unfold Wo; split <;> omega
def qb3 : List AV → Option AV
  | [.agg l, .int .i64 i] => match vn l with
    | some (n, m) => chk ((0 ≤ n ∧ n ≤ 8) ∧ (0 ≤ i ∧ i < 2 * n) ∧ m.getD i.toNat 0 < 2 * n.toNat) (some (.tup [.int .i64 (Wv n.toNat m i.toNat : Nat), .int .i64 (Wo n.toNat m i.toNat : Nat)]))
    | none => none
  | _ => none
theorem qqj : Am.Callee Try.prog 145 (qk qb3) :=
  Am.Callee.plain fun xs v he => by
    unfold qb3 at he
    split at he
    · split at he
      · rename_i i _ n m hd
        obtain ⟨h1, he⟩ := ql he
        cases he
        obtain ⟨rfl, hm⟩ := zm hd
        obtain ⟨k, rfl⟩ : ∃ k : Nat, n = k := ⟨n.toNat, by omega⟩
        obtain ⟨j, rfl⟩ : ∃ j : Nat, i = j := ⟨i.toNat, by omega⟩
        simp only [Int.toNat_natCast] at h1 ⊢
        exact ⟨by simp only [AV.ze, AV.zo, qg, Bool.and_self], rfl, qo8 k j m (by omega) hm (by omega) h1.2.2⟩
      · cases he
    · cases he
def B6 : za := (B5.put 145 (qk qb3))
theorem qqh : qo Try.prog B6 := (q5x.put (qqj))
theorem W6 : B6 66 = some (qk uc) := rfl
theorem Z4 : B6 165 = some (qk ve) := rfl
theorem X8 : B6 145 = some (qk qb3) := rfl
theorem q4i {n : Int} {m : List Nat} (h : ¬(1 ≤ n ∧ n ≤ 8)) : isS n.toNat m = false := by
  unfold isS; rw [decide_eq_false (by omega)]; rfl
def qau (n : Nat) (m : List Nat) (i : Nat) : Bool := if 2 * n ≤ i then m.getD i 0 == 0 else decide (m.getD i 0 < 2 * n ∧ m.getD i 0 ≠ i ∧ m.getD (m.getD i 0) 0 = i)
theorem qox {n i : Nat} {m : List Nat} (h : 2 * n ≤ i) : qau n m i = (m.getD i 0 == 0) := if_pos h
theorem qcw {n i : Nat} {m : List Nat} (h : ¬2 * n ≤ i) : qau n m i = decide (m.getD i 0 < 2 * n ∧ m.getD i 0 ≠ i ∧ m.getD (m.getD i 0) 0 = i) := if_neg h
def jj (n : Nat) (m : List Nat) (i k : Nat) : Bool := decide (Wv n m i < Wv n m k ∧ Wv n m k < Wo n m i ∧ Wo n m i < Wo n m k)
theorem qgl {n : Nat} {m : List Nat} {i : Nat} (hi : i < 16) (h : qau n m i = false) : isS n m = false := by
  unfold isS
  rw [Bool.and_eq_false_iff]; right
  rw [Bool.and_eq_false_iff]; left
  unfold qx2
  rw [List.all_eq_false]
  exact ⟨i, List.mem_range.2 hi, by unfold qau at h; rw [h]; simp⟩
theorem q24 {n : Nat} {m : List Nat} {i k : Nat} (hi : i < 2 * n) (hk : k < 2 * n) (h : jj n m i k = true) : isS n m = false := by
  unfold isS
  rw [Bool.and_eq_false_iff]; right
  rw [Bool.and_eq_false_iff]; right
  unfold qvh
  rw [List.all_eq_false]
  refine ⟨i, List.mem_range.2 hi, ?_⟩
  rw [Bool.not_eq_true, List.all_eq_false]
  exact ⟨k, List.mem_range.2 hk, by unfold jj at h; rw [h]; simp⟩
theorem q4d {n : Nat} {m : List Nat} (hn : 1 ≤ n ∧ n ≤ 8) (h1 : ∀ i, i < 16 → qau n m i = true) (h2 : ∀ i, i < 2 * n → ∀ k, k < 2 * n → jj n m i k = false) : isS n m = true := by
  unfold isS
  rw [decide_eq_true hn, Bool.true_and, Bool.and_eq_true]
  refine ⟨List.all_eq_true.2 fun i hi => ?_, List.all_eq_true.2 fun i hi => List.all_eq_true.2 fun k hk => ?_⟩
  · exact h1 i (List.mem_range.1 hi)
  · have := h2 i (List.mem_range.1 hi) k (List.mem_range.1 hk)
    unfold jj at this; rw [this]; rfl
theorem qw9 (n : Int) (m : List Nat) (hm : okD m) : Am.Fn Try.prog 91 [.agg (dia n m)] [] (fun v H' => v = .bool (isS n.toNat m) ∧ H' = []) := by
  refine Am.Fn.xm (R := fun v => v = _) qqh mixed qw2 (by simp) (by simp) ?_
  simp (maxSteps := 3000000) only [qkw, W6, Z4, X8, qb3, uc, ve, rd, List.getElem?_cons_zero, List.getElem?_cons_succ, w9, qa, zZ, ↓qp, ↓reduceIte, reduceCtorEq, nA, nM, nS, nE, nL, nD]; try simp only [qa, zY]
  refine ⟨fun h => (q4i h).symm, fun h => ?_⟩
  obtain ⟨n, rfl⟩ : ∃ k : Nat, n = k := ⟨n.toNat, by omega⟩
  simp only [Int.toNat_natCast]
  have hn : 1 ≤ n ∧ n ≤ 8 := by omega
  have h2n : qn .i64 (2 * (n : Int)) = ((2 * n : Nat) : Int) := by rw [wrap64 (by omega) (by omega)]; simp
  refine WA.xo qqh (fun s => ∃ k : Nat, s = ⟨[(4, .int .i64 k), (3, .int .i64 n), (1, .ptr 0 0)], [.cells (dia n m)]⟩ ∧ k ≤ 16 ∧ ∀ i, i < k → qau n m i = true)
    (fun s => match get s.env 4 with | .int _ k => (100 - k).toNat | _ => 0) ⟨_, qt.qv [4, 3, 1], 0, rfl, by omega, by intros; omega⟩ ?_
  rintro s ⟨k, rfl, hk, hc⟩
  have hw : qn .i64 ((k : Int) + 1) = ((k + 1 : Nat) : Int) := by rw [wrap64 (by omega) (by omega)]; rfl
  have hg := hm.get k
  have h1 : qn .i64 ((m.getD k 0 : Nat) : Int) = (m.getD k 0 : Nat) := jr (by omega)
  have hml := hm.1
  simp (maxSteps := 3000000) only [qco, hw, h2n, h1, hml, rd, List.getElem?_cons_zero, List.getElem?_cons_succ, qa, zZ, ↓qp, ↓reduceIte, reduceCtorEq, nA, nM, nS, nE, nL, nD]; try simp only [qa, zY]
  have hnext : qau n m k = true → ∀ i, i < k + 1 → qau n m i = true := fun hk1 i hi => by
    by_cases e : i = k
    · subst e; exact hk1
    · exact hc i (by omega)
  have htt := hm.get (m.getD k 0)
  refine ⟨fun h3 => ⟨⟨by omega, by omega⟩, by omega, fun h4 => ⟨fun h5 => ?_, fun h5 => ⟨_, qt.qv [4, 3, 1], ⟨k + 1, rfl, by omega, hnext ?_⟩, ?_⟩⟩,
    fun h4 => ⟨fun h5 => ⟨fun h6 => ⟨⟨by omega, by omega⟩, by omega, fun h7 => ?_, fun h7 => ⟨_, qt.qv [4, 3, 1], ⟨k + 1, rfl, by omega, hnext ?_⟩, ?_⟩⟩, fun h6 => ?_⟩, fun h5 => ?_⟩⟩, fun h3 => ?_⟩
  · refine (qgl (i := k) (by omega) ?_).symm
    rw [qox (by omega)]; exact beq_eq_false_iff_ne.2 (by omega)
  · rw [qox (by omega)]; exact beq_iff_eq.2 (by omega)
  · simp only [zL, ↓reduceIte, reduceCtorEq, nE, nA]; omega
  · refine (qgl (i := k) (by omega) ?_).symm
    rw [jr (by omega)] at h7
    rw [qcw (by omega)]; exact decide_eq_false (by omega)
  · rw [jr (by omega)] at h7
    rw [qcw (by omega)]; exact decide_eq_true (by omega)
  · simp only [zL, ↓reduceIte, reduceCtorEq, nE, nA]; omega
  · refine (qgl (i := k) (by omega) ?_).symm
    rw [qcw (by omega)]; exact decide_eq_false (by omega)
  · refine (qgl (i := k) (by omega) ?_).symm
    rw [qcw (by omega)]; exact decide_eq_false (by omega)
  have hc' : ∀ i, i < 16 → qau n m i = true := fun i hi => hc i (by omega)
  have hto : ∀ i, i < 2 * n → m.getD i 0 < 2 * n := fun i hi => by
    have := hc' i (by omega)
    unfold qau at this; rw [if_neg (by omega)] at this
    exact (of_decide_eq_true this).1
  clear hc hnext hw
  simp (maxSteps := 3000000) only [qck, qa, zZ, ↓qp, ↓reduceIte, reduceCtorEq, nA, nM, nS, nE, nL, nD]; try simp only [qa, zY]
  refine WA.xo qqh (fun s => ∃ i : Nat, s = ⟨[(6, .int .i64 i), (3, .int .i64 n), (1, .ptr 0 0)], [.cells (dia n m)]⟩ ∧ i ≤ 2 * n ∧ ∀ i', i' < i → ∀ k, k < 2 * n → jj n m i' k = false)
    (fun s => match get s.env 6 with | .int _ k => (100 - k).toNat | _ => 0) ⟨_, qt.qv [6, 3, 1], 0, rfl, by omega, by intros; omega⟩ ?_
  rintro s ⟨i, rfl, hi, hx⟩
  have hw : qn .i64 ((i : Int) + 1) = ((i + 1 : Nat) : Int) := by rw [wrap64 (by omega) (by omega)]; rfl
  simp (maxSteps := 3000000) only [qc3, W6, Z4, X8, qb3, uc, ve, hw, h2n, qy hm, qt6 hml, qe, hml, rd, List.getElem?_cons_zero, List.getElem?_cons_succ, qa, zZ, ↓qp, ↓reduceIte, reduceCtorEq, nA, nM, nS, nE, nL, nD]; try simp only [qa, zY]
  refine ⟨fun h3 => ⟨⟨⟨by omega, by omega⟩, ⟨by omega, by omega⟩, hto i (by omega)⟩, ?_⟩, fun h3 => ?_⟩
  · have hi2 : i < 2 * n := by omega
    refine WA.xo qqh (fun s => ∃ j : Nat, s = ⟨[(9, .int .i64 j), (8, .int .i64 (Wo n m i : Nat)), (7, .int .i64 (Wv n m i : Nat)), (6, .int .i64 i), (3, .int .i64 n), (1, .ptr 0 0)], [.cells (dia n m)]⟩ ∧ j ≤ 2 * n ∧ ∀ j', j' < j → jj n m i j' = false)
      (fun s => match get s.env 9 with | .int _ k => (100 - k).toNat | _ => 0) ⟨_, qt.qv [9, 8, 7, 6, 3, 1], 0, rfl, by omega, by intros; omega⟩ ?_
    rintro s ⟨j, rfl, hj, hy⟩
    have hw' : qn .i64 ((j : Int) + 1) = ((j + 1 : Nat) : Int) := by rw [wrap64 (by omega) (by omega)]; rfl
    simp (maxSteps := 3000000) only [qcg, qcb, W6, Z4, X8, qb3, uc, ve, hw, hw', h2n, qy hm, qt6 hml, qe, hml, rd, List.getElem?_cons_zero, List.getElem?_cons_succ, qa, zZ, ↓qp, ↓reduceIte, reduceCtorEq, nA, nM, nS, nE, nL, nD]; try simp only [qa, zY]
    have hny : jj n m i j = false → ∀ j', j' < j + 1 → jj n m i j' = false := fun hk1 j' hi => by
      by_cases e : j' = j
      · subst e; exact hk1
      · exact hy j' (by omega)
    refine ⟨fun h4 => ⟨⟨⟨by omega, by omega⟩, ⟨by omega, by omega⟩, hto j (by omega)⟩, fun h5 => ⟨fun h6 => ⟨fun h7 => (q24 hi2 (by omega : j < 2 * n) (decide_eq_true (by omega))).symm, fun h7 => ?_⟩, fun h6 => ?_⟩, fun h5 => ?_⟩, fun h4 => ⟨_, qt.qv [6, 3, 1], ⟨i + 1, rfl, by omega, ?_⟩, ?_⟩⟩
    · refine ⟨_, qt.qv [9, 8, 7, 6, 3, 1], ⟨j + 1, rfl, by omega, hny (decide_eq_false (by omega))⟩, ?_⟩
      simp only [zL, ↓reduceIte, reduceCtorEq, nE, nA]; omega
    · refine ⟨_, qt.qv [9, 8, 7, 6, 3, 1], ⟨j + 1, rfl, by omega, hny (decide_eq_false (by omega))⟩, ?_⟩
      simp only [zL, ↓reduceIte, reduceCtorEq, nE, nA]; omega
    · refine ⟨_, qt.qv [9, 8, 7, 6, 3, 1], ⟨j + 1, rfl, by omega, hny (decide_eq_false (by omega))⟩, ?_⟩
      simp only [zL, ↓reduceIte, reduceCtorEq, nE, nA]; omega
    · intro i' hi' k hk
      by_cases e : i' = i
      · subst e; exact hy k (by omega)
      · exact hx i' (by omega) k hk
    · simp only [zL, ↓reduceIte, reduceCtorEq, nE, nA]; omega
  · simp (maxSteps := 3000000) only [qct, qa, zZ, ↓qp, ↓reduceIte, reduceCtorEq, nA, nM, nS, nE, nL, nD]; try simp only [qa, zY]
    exact (q4d hn hc' fun i' hi' => hx i' (by omega)).symm
def Gz : List AV → Option AV
  | [.agg l] => match vn l with
    | some (n, m) => some (.bool (isS n.toNat m))
    | none => none
  | _ => none
theorem qvs : Am.Callee Try.prog 91 (qk Gz) :=
  Am.Callee.plain fun xs v he => by
    unfold Gz at he
    split at he
    · split at he
      · rename_i n m hd
        cases he
        obtain ⟨rfl, hm⟩ := zm hd
        exact ⟨by simp only [AV.ze, AV.zo, qg, Bool.and_self], rfl, qw9 n m hm⟩
      · cases he
    · cases he
def B7 : za := (B6.put 91 (qk Gz))
theorem q8v : qo Try.prog B7 := (qqh.put (qvs))
theorem qis : ∀ (k : Nat) (l : List Nat), l.Nodup → (∀ i, i ∈ l → i < k) → l.length ≤ k
  | 0, [], _, _ => Nat.le_refl _
  | 0, a :: l, _, h => absurd (h a (by simp)) (by omega)
  | k + 1, l, hn, h => by
    by_cases hk : k ∈ l
    · have h1 := qis k (l.erase k) (hn.erase k) fun i hi => by
        have h2 := h i (List.mem_of_mem_erase hi)
        have h3 : i ≠ k := by rintro rfl; exact (List.Nodup.not_mem_erase hn) hi
        omega
      rw [List.length_erase_of_mem hk] at h1; omega
    · have h1 := qis k l hn fun i hi => by
        have h2 := h i hi
        have h3 : i ≠ k := by rintro rfl; exact hk hi
        omega
      omega
end Go.Proofs.Ytfhckbbgmblhbaa
namespace Go.Proofs.Ytfhckbbgmblhbaa
open Go.Am Go.Dia
open Nat renaming reduceAdd → nA, reduceMul → nM, reduceSub → nS, reduceEqDiff → nE, reduceLT → nL, reduceLeDiff → nD, reduceBEq → nB
open Int renaming reduceEq → iE, reduceNe → iN, reduceBEq → iB, reduceBNe → iC, reduceLT → iL, reduceLE → iD, reduceAdd → iA, reduceSub → iS, reduceMul → iM
set_option linter.unusedSimpArgs false
set_option linter.unusedVariables false
set_option maxRecDepth 4000
set_option maxHeartbeats 1000000
def B8 : za := B7
theorem q81 : qo Try.prog B8 := q8v
theorem qw {n : Int} {m : List Nat} (h : m.length = 16) : List.take 17 (dia n m) = dia n m := by
  rw [List.take_of_length_le]; rw [qe, h]; exact Nat.le_refl _
def B9 : za := B8
theorem q0s : qo Try.prog B9 := q81
def Yp : AC := .seq (.seq (.region [oM 5 4,oK 6 .lss 5 16]) (.cond 6 .skip (.exit 0))) (.seq (.block 1 (.region [oM 9 4,oM 10 4,o0 11 (.zz 16 1 (.t 1) (.t 10)),oL 12 11,o0 13 (.zz 16 1 (.t 3) (.t 9)),oT 13 12])) (.region [oM 7 4,oK 8 .add 7 1,oM 4 8]))
def Y0 : AC := .seq (.region [oN 14 16 3,oS 16 2 14]) .ret
def qao : AC := .seq (.region [o0 1 (.box (.t 0)),o0 2 (.alloc [.int .u8 0,.int .u8 0,.int .u8 0,.int .u8 0,.int .u8 0,.int .u8 0,.int .u8 0,.int .u8 0,.int .u8 0,.int .u8 0,.int .u8 0,.int .u8 0,.int .u8 0,.int .u8 0,.int .u8 0,.int .u8 0])]) (.seq (.region [o0 3 (.alloc [.int .u8 0,.int .u8 0,.int .u8 0,.int .u8 0,.int .u8 0,.int .u8 0,.int .u8 0,.int .u8 0,.int .u8 0,.int .u8 0,.int .u8 0,.int .u8 0,.int .u8 0,.int .u8 0,.int .u8 0,.int .u8 0])]) (.seq (.seq (.region [oI 4 0]) (.block 0 (.loop Yp))) Y0))
theorem qkd : zj Try.prog 92 = some ⟨15, qao, [.wu 2 16]⟩ := by kernel_rfl
def Yg : AC := .seq (.seq (.region [oM 6 5,oK 7 .lss 6 16]) (.cond 7 .skip (.exit 0))) (.seq (.block 1 (.seq (.draw false [oM 10 5,o0 11 (.zz 16 1 (.t 2) (.t 10)),oL 12 11,oM 13 5,o0 14 (.zz 16 1 (.t 3) (.t 13)),oL 15 14,oP 16 .neq 12 15]) (.cond 16 (.seq (.region [oB 4 false]) .ret) .skip))) (.region [oM 8 5,oK 9 .add 8 1,oM 5 9]))
def Ue : AC := .seq (.region [oB 4 true]) .ret
def qa5 : AC := .seq (.region [o0 2 (.box (.t 0)),o0 3 (.box (.t 1)),oB 4 false]) (.seq (.seq (.region [oI 5 0]) (.block 0 (.loop Yg))) Ue)
theorem qkb : zj Try.prog 186 = some ⟨17, qa5, [.slot 4]⟩ := by kernel_rfl
def qan : AC := .seq (.region [o0 2 (.box (.t 0)),o0 3 (.box (.t 1)),oB 4 false]) (.seq (.seq (.region [oF 5 0 2,oL 6 5,oF 7 0 3,oL 8 7,oP 9 .neq 6 8]) (.cond 9 (.seq (.region [oB 4 false]) .ret) .skip)) (.seq (.seq (.region [oF 10 1 2,oN 11 16 10,oF 12 1 3,oN 13 16 12,oC 14 186 [.t 11,.t 13],o0 15 (.un .not (.t 14))]) (.cond 15 (.seq (.region [oB 4 false]) .ret) .skip)) (.seq (.region [oB 4 true]) .ret)))
theorem qki : zj Try.prog 160 = some ⟨16, qan, [.slot 4]⟩ := by kernel_rfl
def qio : AC := .seq (.region [o0 2 (.box (.t 0)),o0 3 (.box (.t 1)),oB 4 false]) (.seq (.seq (.region [oF 5 0 2,oN 6 17 5,oF 7 0 3,oN 8 17 7,oC 9 160 [.t 6,.t 8],o0 10 (.un .not (.t 9))]) (.cond 10 (.seq (.region [oB 4 false]) .ret) .skip)) (.seq (.seq (.region [oF 11 17 2,oL 12 11,oF 13 17 3,oL 14 13,oP 15 .neq 12 14]) (.cond 15 (.seq (.region [oB 4 false]) .ret) .skip)) (.seq (.region [oB 4 true]) .ret)))
theorem qsy : zj Try.prog 116 = some ⟨16, qio, [.slot 4]⟩ := by kernel_rfl
theorem q3r : [AV.int .u8 0, .int .u8 0, .int .u8 0, .int .u8 0, .int .u8 0, .int .u8 0, .int .u8 0, .int .u8 0, .int .u8 0, .int .u8 0, .int .u8 0, .int .u8 0, .int .u8 0, .int .u8 0, .int .u8 0, .int .u8 0] = u8s (List.replicate 16 0) := rfl
theorem qz3 {m m' : List Nat} (h : m.length = 16) (h' : m'.length = 16) : over (u8s m) 0 (u8s m') = u8s m' := qci (by rw [xx, xx, h, h'])
theorem q2w {m : List Nat} (h : m.length = 16) : List.take 16 (List.drop 0 (u8s m)) = u8s m := by
  rw [List.drop_zero, List.take_of_length_le]; rw [xx, h]; exact Nat.le_refl _
theorem take_set {m : List Nat} {k : Nat} (hm : m.length = 16) (hk : k < 16) : (m.take k ++ List.replicate (16 - k) 0).set k (m.getD k 0) = m.take (k + 1) ++ List.replicate (16 - (k + 1)) 0 := by
  rw [List.set_append_right _ _ (by simp; omega)]
  have h1 : k - (m.take k).length = 0 := by simp; omega
  have h2 : 16 - k = (16 - (k + 1)) + 1 := by omega
  rw [h1, h2, List.replicate_succ, List.set_cons_zero, List.take_add_one, List.append_assoc]
  congr 1
  have h3 : m[k]? = some (m.getD k 0) := by rw [List.getD_eq_getElem?_getD, List.getElem?_eq_getElem (by omega)]; rfl
  rw [h3]; rfl
theorem qj8 (m : List Nat) (hm : okD m) : Am.Fn Try.prog 92 [.agg (u8s m)] [] (fun v H' => v = .agg (u8s m) ∧ H' = []) := by
  refine Am.Fn.xm (R := fun v => v = _) q0s mixed qkd (by simp) (by simp) ?_
  have hml := hm.1
  simp (maxSteps := 3000000) only [qao, q3r, qa, zZ, ↓qp, ↓reduceIte, reduceCtorEq, nA, nM, nS, nE, nL, nD]; try simp only [qa, zY]
  refine WA.xo q0s (fun s => ∃ k : Nat, s = ⟨[(4, .int .i64 k), (3, .ptr 2 0), (2, .ptr 1 0), (1, .ptr 0 0)], [.cells (u8s m), .cells (u8s (List.replicate 16 0)), .cells (u8s (m.take k ++ List.replicate (16 - k) 0))]⟩ ∧ k ≤ 16)
    (fun s => match get s.env 4 with | .int _ k => (100 - k).toNat | _ => 0) ⟨_, qt.qv [4, 3, 2, 1], 0, rfl, by omega⟩ ?_
  rintro s ⟨k, rfl, hk⟩
  have hw : qn .i64 ((k : Int) + 1) = ((k + 1 : Nat) : Int) := by rw [wrap64 (by omega) (by omega)]; rfl
  have hl : (m.take k ++ List.replicate (16 - k) 0).length = 16 := by simp; omega
  simp (maxSteps := 3000000) only [Yp, Y0, hw, hml, hl, rd, wrt, wrl, AO.Ya, List.getElem?_cons_zero, List.getElem?_cons_succ, List.set_cons_zero, List.set_cons_succ, q28, xx, q2w hl, qz3 xa hl, List.length_replicate, q12, yf, qa, zZ, ↓qp, ↓reduceIte, reduceCtorEq, nA, nM, nS, nE, nL, nD]; try simp only [qa, zY]
  refine ⟨fun h => ⟨⟨by omega, by omega⟩, by omega, ⟨by omega, by omega⟩, ⟨by omega, rfl⟩, _, qt.qv [4, 3, 2, 1], ⟨k + 1, ?_, by omega⟩, ?_⟩, fun h => ?_⟩
  · simp only [take_set hml (show k < 16 from by omega), zL, ↓reduceIte, reduceCtorEq, nE, nA]
  · simp only [zL, ↓reduceIte, reduceCtorEq, nE, nA]; omega
  · have hk16 : k = 16 := by omega
    subst hk16
    have e : List.take 16 m ++ List.replicate (16 - 16) 0 = m := by rw [List.take_of_length_le (by omega)]; simp
    rw [e]
def Uk : List AV → Option AV
  | [.agg l] => match bytesOf l with
    | some m => chk (m.length = 16) (some (.agg l))
    | none => none
  | _ => none
theorem qks : Am.Callee Try.prog 92 (qk Uk) :=
  Am.Callee.plain fun xs v he => by
    unfold Uk at he
    split at he
    · split at he
      · rename_i l m hd
        obtain ⟨h1, he⟩ := ql he
        cases he
        obtain ⟨rfl, h2⟩ := Zh hd
        exact ⟨by simp only [AV.ze, AV.zo, yf, Bool.and_self], by simp only [AV.zo, yf], qj8 m ⟨h1, h2⟩⟩
      · cases he
    · cases he
def B10 : za := (B9.put 92 (qk Uk))
theorem qtr : qo Try.prog B10 := (q0s.put (qks))
theorem qju (m m' : List Nat) (hm : okD m) (hm' : okD m') : Am.Fn Try.prog 186 [.agg (u8s m), .agg (u8s m')] [] (fun v H' => v = .bool (decide (m = m')) ∧ H' = []) := by
  refine Am.Fn.xm (R := fun v => v = _) qtr mixed qkb (by simp) (by simp) ?_
  have hml := hm.1
  have hml' := hm'.1
  simp (maxSteps := 3000000) only [qa5, qa, zZ, ↓qp, ↓reduceIte, reduceCtorEq, nA, nM, nS, nE, nL, nD]; try simp only [qa, zY]
  refine WA.xo qtr (fun s => ∃ k : Nat, s = ⟨[(5, .int .i64 k), (3, .ptr 1 0), (2, .ptr 0 0)], [.cells (u8s m), .cells (u8s m')]⟩ ∧ k ≤ 16 ∧ ∀ i, i < k → m.getD i 0 = m'.getD i 0)
    (fun s => match get s.env 5 with | .int _ k => (100 - k).toNat | _ => 0) ⟨_, qt.qv [5, 3, 2], 0, rfl, by omega, by intros; omega⟩ ?_
  rintro s ⟨k, rfl, hk, hc⟩
  have hw : qn .i64 ((k : Int) + 1) = ((k + 1 : Nat) : Int) := by rw [wrap64 (by omega) (by omega)]; rfl
  simp (maxSteps := 3000000) only [Yg, Ue, hw, hml, hml', rd, List.getElem?_cons_zero, List.getElem?_cons_succ, qa, zZ, ↓qp, ↓reduceIte, reduceCtorEq, nA, nM, nS, nE, nL, nD]; try simp only [qa, zY]
  refine ⟨fun h => ⟨⟨by omega, by omega⟩, by omega, ⟨by omega, by omega⟩, by omega, fun h2 => ?_, fun h2 => ⟨_, qt.qv [5, 3, 2], ⟨k + 1, rfl, by omega, fun i hi => ?_⟩, ?_⟩⟩, fun h => ?_⟩
  · symm; rw [decide_eq_false_iff_not]; rintro rfl; exact h2 rfl
  · by_cases e : i = k
    · subst e; omega
    · exact hc i (by omega)
  · simp only [zL, ↓reduceIte, reduceCtorEq, nE, nA]; omega
  · symm; rw [decide_eq_true_eq]
    exact qma hml hml' fun i hi => hc i (by omega)
def Zw : List AV → Option AV
  | [.agg l, .agg l'] => match bytesOf l, bytesOf l' with
    | some m, some m' => chk (m.length = 16 ∧ m'.length = 16) (some (.bool (decide (m = m'))))
    | _, _ => none
  | _ => none
theorem qkh : Am.Callee Try.prog 186 (qk Zw) :=
  Am.Callee.plain fun xs v he => by
    unfold Zw at he
    split at he
    · split at he
      · rename_i m m' hd hd'
        obtain ⟨h1, he⟩ := ql he
        cases he
        obtain ⟨rfl, h2⟩ := Zh hd
        obtain ⟨rfl, h2'⟩ := Zh hd'
        exact ⟨by simp only [AV.ze, AV.zo, yf, Bool.and_self], rfl, qju m m' ⟨h1.1, h2⟩ ⟨h1.2, h2'⟩⟩
      · cases he
    · cases he
def B11 : za := (B10.put 186 (qk Zw))
theorem qyh : qo Try.prog B11 := (qtr.put (qkh))
theorem qbj : B11 92 = some (qk Uk) := rfl
theorem qbr : B11 186 = some (qk Zw) := rfl
theorem qj4 (n n' : Int) (m m' : List Nat) (hm : okD m) (hm' : okD m') : Am.Fn Try.prog 160 [.agg (dia n m), .agg (dia n' m')] [] (fun v H' => v = .bool (decide (n = n' ∧ m = m')) ∧ H' = []) := by
  refine Am.Fn.xm (R := fun v => v = _) qyh mixed qki (by simp) (by simp) ?_
  have hml := hm.1
  have hml' := hm'.1
  simp (maxSteps := 3000000) only [qan, qbj, qbr, Uk, Zw, qk1 hml, qk1 hml', V8 hm.2, V8 hm'.2, hml, hml', qe, rd, List.getElem?_cons_zero, List.getElem?_cons_succ, qa, zZ, ↓qp, ↓reduceIte, reduceCtorEq, nA, nM, nS, nE, nL, nD]; try simp only [qa, zY]
  refine ⟨fun h => ?_, fun h => ⟨fun h2 => ?_, fun h2 => ?_⟩⟩
  · symm; rw [decide_eq_false_iff_not]; exact fun e => h e.1
  · symm; rw [decide_eq_false_iff_not]; exact fun e => h2 e.2
  · symm; rw [decide_eq_true_eq]; exact ⟨h, h2⟩
def trm (t : Int × List Nat × Int) : List AV := dia t.1 t.2.1 ++ [.int .i64 t.2.2]
def zc (ts : List (Int × List Nat × Int)) : List AV := ts.flatMap trm
def okT (ts : List (Int × List Nat × Int)) : Prop := ∀ t, t ∈ ts → okD t.2.1
theorem K2 : ∀ (a b : List AV), AV.ze a = true → AV.ze b = true → AV.ze (a ++ b) = true
  | [], b, _, h => h
  | x :: a, b, h, h' => by
    simp only [AV.ze, Bool.and_eq_true, List.cons_append] at h ⊢
    exact ⟨h.1, K2 a b h.2 h'⟩
theorem gb (t : Int × List Nat × Int) : AV.ze (trm t) = true := K2 _ _ (qg _ _) rfl
theorem qc : ∀ (ts : List (Int × List Nat × Int)), AV.ze (zc ts) = true
  | [] => rfl
  | t :: ts => by simp only [zc, List.flatMap_cons]; exact K2 _ _ (gb t) (qc ts)
theorem xk {t : Int × List Nat × Int} (h : okD t.2.1) : (trm t).length = 18 := by simp [trm, qe, h.1]
theorem zf : ∀ {ts : List (Int × List Nat × Int)}, okT ts → (zc ts).length = ts.length * 18
  | [], _ => rfl
  | t :: ts, h => by
    simp only [zc, List.flatMap_cons, List.length_append, xk (h t (by simp)), List.length_cons]
    have := zf (ts := ts) fun u hu => h u (List.mem_cons_of_mem _ hu)
    unfold zc at this
    rw [this]; omega
theorem bd : ∀ {ts : List (Int × List Nat × Int)} {i : Nat}, okT ts → (h : i < ts.length) → List.take 18 (List.drop (i * 18) (zc ts)) = trm ts[i]
  | t :: ts, 0, h, hi => by
    simp only [zc, List.flatMap_cons, Nat.zero_mul, List.drop_zero, List.getElem_cons_zero]
    rw [List.take_append_of_le_length (by rw [xk (h t (by simp))]; exact Nat.le_refl _), List.take_of_length_le (by rw [xk (h t (by simp))]; exact Nat.le_refl _)]
  | t :: ts, i + 1, h, hi => by
    have h1 := bd (ts := ts) (i := i) (fun u hu => h u (List.mem_cons_of_mem _ hu)) (by simpa using hi)
    simp only [zc, List.flatMap_cons, List.getElem_cons_succ] at h1 ⊢
    rw [List.drop_append, List.drop_of_length_le (by rw [xk (h t (by simp))]; omega), List.nil_append, xk (h t (by simp)), ← h1]
    congr 2; omega
theorem Ul {t : Int × List Nat × Int} (h : okD t.2.1) : List.take 17 (List.drop 0 (trm t)) = dia t.1 t.2.1 := by
  rw [List.drop_zero, trm, List.take_append_of_le_length (by rw [qe, h.1]; exact Nat.le_refl _), qw h.1]
theorem yz {t : Int × List Nat × Int} (h : okD t.2.1) : (trm t)[17]? = some (.int .i64 t.2.2) := by
  rw [trm, List.getElem?_append_right (by rw [qe, h.1]; exact Nat.le_refl _), qe, h.1]; rfl
def Xx : List AV → Option AV
  | [.agg l, .agg l'] => match vn l, vn l' with
    | some (n, m), some (n', m') => some (.bool (decide (n = n' ∧ m = m')))
    | _, _ => none
  | _ => none
theorem qj2 : Am.Callee Try.prog 160 (qk Xx) :=
  Am.Callee.plain fun xs v he => by
    unfold Xx at he
    split at he
    · split at he
      · rename_i n m n' m' hd hd'
        cases he
        obtain ⟨rfl, h2⟩ := zm hd
        obtain ⟨rfl, h2'⟩ := zm hd'
        exact ⟨by simp only [AV.ze, AV.zo, qg, Bool.and_self], rfl, qj4 n n' m m' h2 h2'⟩
      · cases he
    · cases he
def B12 : za := (B11.put 160 (qk Xx))
theorem q0g : qo Try.prog B12 := (qyh.put (qj2))
theorem qbu : B12 92 = some (qk Uk) := rfl
theorem qbe : B12 186 = some (qk Zw) := rfl
theorem qbi : B12 160 = some (qk Xx) := rfl
theorem qrt (t u : Int × List Nat × Int) (ht : okD t.2.1) (hu : okD u.2.1) : Am.Fn Try.prog 116 [.agg (trm t), .agg (trm u)] [] (fun v H' => v = .bool (decide (t = u)) ∧ H' = []) := by
  refine Am.Fn.xm (R := fun v => v = _) q0g mixed qsy (by simp) (by simp) ?_
  have h1 := xk ht
  have h2 := xk hu
  simp (maxSteps := 3000000) only [qio, qbu, qbe, qbi, Uk, Zw, Xx, Ul ht, Ul hu, yz ht, yz hu, h1, h2, qy ht, qy hu, rd, List.getElem?_cons_zero, List.getElem?_cons_succ, qa, zZ, ↓qp, ↓reduceIte, reduceCtorEq, nA, nM, nS, nE, nL, nD]; try simp only [qa, zY]
  have he : t = u ↔ (t.1 = u.1 ∧ t.2.1 = u.2.1) ∧ t.2.2 = u.2.2 := by
    obtain ⟨a, b, c⟩ := t
    obtain ⟨a', b', c'⟩ := u
    simp only [Prod.mk.injEq, and_assoc]
  refine ⟨fun h => ?_, fun h => ⟨fun h2 => ?_, fun h2 => ?_⟩⟩
  · symm; rw [decide_eq_false_iff_not, he]; exact fun e => h e.1
  · symm; rw [decide_eq_false_iff_not, he]; exact fun e => h2 e.2
  · symm; rw [decide_eq_true_eq, he]; exact ⟨h, h2⟩
def qir (l : List AV) : Option (Int × List Nat × Int) := match vn (l.take 17), l.drop 17 with
  | some (n, m), [.int .i64 f] => some (n, m, f)
  | _, _ => none
theorem qen {t : Int × List Nat × Int} (h : okD t.2.1) : qir (trm t) = some t := by
  have h1 := Ul h
  rw [List.drop_zero] at h1
  have h2 : (trm t).drop 17 = [.int .i64 t.2.2] := by
    rw [trm, List.drop_append, List.drop_of_length_le (by rw [qe, h.1]; exact Nat.le_refl _), qe, h.1]; rfl
  unfold qir
  rw [h1, h2, qy h]
theorem qbq {l : List AV} {t : Int × List Nat × Int} (h : qir l = some t) : l = trm t ∧ okD t.2.1 := by
  unfold qir at h
  split at h
  · rename_i n m f h1 h2
    cases h
    obtain ⟨h3, h4⟩ := zm h1
    refine ⟨?_, h4⟩
    rw [← List.take_append_drop 17 l, h3, h2]; rfl
  · cases h
def V2 : List AV → Option AV
  | [.agg l, .agg l'] => match qir l, qir l' with
    | some t, some u => some (.bool (decide (t = u)))
    | _, _ => none
  | _ => none
theorem qsn : Am.Callee Try.prog 116 (qk V2) :=
  Am.Callee.plain fun xs v he => by
    unfold V2 at he
    split at he
    · split at he
      · rename_i t u hd hd'
        cases he
        obtain ⟨rfl, h2⟩ := qbq hd
        obtain ⟨rfl, h2'⟩ := qbq hd'
        exact ⟨by simp only [AV.ze, AV.zo, gb, Bool.and_self], rfl, qrt t u h2 h2'⟩
      · cases he
    · cases he
def B13 : za := (B12.put 116 (qk V2))
theorem qsa : qo Try.prog B13 := (q0g.put (qsn))
theorem qge : B13 116 = some (qk V2) := rfl
def Vm : AC := .seq (.seq (.region [oM 11 5,oM 12 0,o0 13 (.len .slc (.t 12)),oP 14 .lss 11 13]) (.cond 14 .skip (.exit 0))) (.seq (.block 1 (.seq (.draw false [oM 17 0,oM 18 5,oX 19 18 17 18,oN 20 18 19,oM 21 1,oM 22 5,oX 23 18 21 22,oN 24 18 23,oC 25 116 [.t 20,.t 24],o0 26 (.un .not (.t 25))]) (.cond 26 (.seq (.region [oB 4 false]) .ret) .skip))) (.region [oM 15 5,oK 16 .add 15 1,oM 5 16]))
def Gj : AC := .seq (.region [oB 4 true]) .ret
def qe3 : AC := .seq (.region [oB 4 false]) (.seq (.seq (.region [oM 6 0,o0 7 (.len .slc (.t 6)),oM 8 1,o0 9 (.len .slc (.t 8)),oP 10 .neq 7 9]) (.cond 10 (.seq (.region [oB 4 false]) .ret) .skip)) (.seq (.seq (.region [oI 5 0]) (.block 0 (.loop Vm))) Gj))
theorem qpd : zj Try.prog 51 = some ⟨27, qe3, [.slot 4]⟩ := by kernel_rfl
def qa8 : AC := .seq (.region [o0 2 (.box (.t 0)),o0 3 (.box (.t 1)),oB 4 false]) (.seq (.seq (.region [oF 5 0 2,oL 6 5,oF 7 0 3,oL 8 7,oP 9 .neq 6 8]) (.cond 9 (.seq (.region [oB 4 false]) .ret) .skip)) (.seq (.seq (.region [oF 10 1 2,oL 11 10,oF 12 1 3,oL 13 12,oP 14 .neq 11 13]) (.cond 14 (.seq (.region [oB 4 false]) .ret) .skip)) (.seq (.seq (.region [oF 15 2 2,oL 16 15,oF 17 2 3,oL 18 17,oP 19 .neq 16 18]) (.cond 19 (.seq (.region [oB 4 false]) .ret) .skip)) (.seq (.seq (.region [oF 20 3 2,oL 21 20,oF 22 3 3,oL 23 22,oC 24 51 [.t 21,.t 23],o0 25 (.un .not (.t 24))]) (.cond 25 (.seq (.region [oB 4 false]) .ret) .skip)) (.seq (.region [oB 4 true]) .ret)))))
theorem qko : zj Try.prog 18 = some ⟨26, qa8, [.slot 4]⟩ := by kernel_rfl
def Ji : Nat → List AV → Option (List (Int × List Nat × Int))
  | 0, _ => some []
  | k + 1, l => match qir (l.take 18), Ji k (l.drop 18) with
    | some t, some ts => some (t :: ts)
    | _, _ => none
theorem qk9 : ∀ {ts : List (Int × List Nat × Int)} {x : List AV}, okT ts → Ji ts.length (zc ts ++ x) = some ts
  | [], _, _ => rfl
  | t :: ts, x, h => by
    have h1 := qk9 (ts := ts) (x := x) fun u hu => h u (List.mem_cons_of_mem _ hu)
    have h2 := xk (h t (by simp))
    simp only [zc, List.flatMap_cons, List.length_cons, Ji, List.append_assoc] at h1 ⊢
    rw [List.take_append_of_le_length (by omega), List.take_of_length_le (by omega), qen (h t (by simp)), List.drop_append, List.drop_of_length_le (by omega), h2, List.nil_append]
    simp only [Nat.sub_self, List.drop_zero, h1]
theorem jx {ts : List (Int × List Nat × Int)} (h : okT ts) : Ji ts.length (zc ts) = some ts := by
  have := qk9 (x := []) h
  rwa [List.append_nil] at this
theorem jn : ∀ {k : Nat} {l : List AV} {ts : List (Int × List Nat × Int)}, Ji k l = some ts → ts.length = k ∧ okT ts ∧ l.take (k * 18) = zc ts ∧ k * 18 ≤ l.length
  | 0, l, ts, h => by cases h; exact ⟨rfl, by simp [okT], by simp [zc], by omega⟩
  | k + 1, l, ts, h => by
    simp only [Ji] at h
    split at h
    · rename_i t us ht hus
      cases h
      obtain ⟨h1, h2, h3, h4⟩ := jn hus
      obtain ⟨h5, h6⟩ := qbq ht
      have h7 := xk h6
      have h8 : 18 ≤ l.length := by
        have := congrArg List.length h5
        rw [h7, List.length_take] at this; omega
      rw [List.length_drop] at h4
      refine ⟨by simp [h1], fun u hu => ?_, ?_, by omega⟩
      · rcases List.mem_cons.1 hu with rfl | hu
        · exact h6
        · exact h2 u hu
      · rw [show (k + 1) * 18 = 18 + k * 18 from by omega, List.take_add, h5, h3]; rfl
    · cases h
def two (b b' : Nat) : Ren := fun j => if j = 0 then some (b, 0) else if j = 1 then some (b', 0) else none
theorem Callee.ro2 {f : FuncId} {g : BE} (h : ∀ hp xs v hp', g hp xs = some (v, hp') → ∃ (l l' : List AV) (b b' : Nat) (ys : List AV), hp' = hp ∧ (∃ L, rd hp b = some L ∧ l.length ≤ L.length ∧ L.take l.length = l) ∧ (∃ L, rd hp b' = some L ∧ l'.length ≤ L.length ∧ L.take l'.length = l') ∧
    AV.ze l = true ∧ AV.ze l' = true ∧ xs = AV.zk (two b b') ys ∧ xs.all jc = true ∧ AV.qu 2 ys ∧ v.zo = true ∧ Am.Fn Try.prog f ys [.ro l, .ro l'] fun v' H' => v' = v ∧ H' = [.ro l, .ro l']) : Am.Callee Try.prog f g := by
  intro hp xs v hp' he
  obtain ⟨l, l', b, b', ys, rfl, ⟨L, hL, h1, h2⟩, ⟨L', hL', h1', h2'⟩, h3, h3', h4, h5, h6, h7, h8⟩ := h hp xs v hp' he
  refine ⟨[.ro l, .ro l'], ys, _, two b b', [(b, 0), (b', 0)], h8, h4, h5, ⟨fun j hj => ?_, rfl, fun j o c hj hb => ?_, fun j k bj bk oj ok hj hk hoj hok hw => ?_⟩, ?_, h6, ?_⟩
  · match j, hj with
    | 0, _ => rfl
    | 1, _ => rfl
  · match j, hj, hb with
    | 0, hj, hb =>
      cases hj; cases hb
      exact ⟨L, hL, by omega, by rw [List.drop_zero, qb _ _ h3]; exact h2⟩
    | 1, hj, hb =>
      cases hj; cases hb
      exact ⟨L', hL', by omega, by rw [List.drop_zero, qb _ _ h3']; exact h2'⟩
    | j + 2, hj, hb => simp at hj
  · match j, hoj with
    | 0, hoj => cases hoj; cases hw
    | 1, hoj => cases hoj; cases hw
    | j + 2, hoj => simp at hoj
  · intro j o hj
    match j, hj with
    | 0, hj => cases hj; exact qj _ _ h3
    | 1, hj => cases hj; exact qj _ _ h3'
    | j + 2, hj => simp at hj
  · rintro v' H' ⟨rfl, rfl⟩
    exact ⟨Xn _ _ h7, by simp [after, upd, AO.wr]⟩
theorem J2 {l l' : List AV} (h : AV.ze l = true) (h' : AV.ze l' = true) : ∀ (j : Nat) (o : AO), [AO.ro l, AO.ro l'][j]? = some o → o.under [AO.ro l, AO.ro l'].length := by
  intro j o e
  match j, e with
  | 0, e => cases e; exact qj _ _ h
  | 1, e => cases e; exact qj _ _ h'
  | j + 2, e => simp at e
theorem qqi (a b : List (Int × List Nat × Int)) (ha : okT a) (hb : okT b) (hal : a.length ≤ 2000000) :
    Am.Fn Try.prog 51 [.slc 0 0 a.length false 0, .slc 1 0 b.length false 0] [.ro (zc a), .ro (zc b)] (fun v H' => v = .bool (decide (a = b)) ∧ H' = [.ro (zc a), .ro (zc b)]) := by
  refine Am.Fn.xm (R := fun v => v = _) qsa mixed qpd (by simp) (J2 (qc _) (qc _)) ?_
  simp (maxSteps := 3000000) only [qe3, qa, zZ, ↓qp, ↓reduceIte, reduceCtorEq, nA, nM, nS, nE, nL, nD]; try simp only [qa, zY]
  refine ⟨fun h => ⟨⟨_, rfl⟩, ?_⟩, fun h => ?_⟩
  · symm; rw [decide_eq_false_iff_not]; rintro rfl; exact h rfl
  have hlen : a.length = b.length := by omega
  refine WA.xo qsa (fun s => ∃ k : Nat, s = ⟨[(5, .int .i64 k), (0, .slc 0 0 a.length false 0), (1, .slc 1 0 b.length false 0)], [.ro (zc a), .ro (zc b)]⟩ ∧ k ≤ a.length ∧ ∀ i, i < k → a[i]? = b[i]?)
    (fun s => match get s.env 5 with | .int _ k => (2000000 - k).toNat | _ => 0) ⟨_, qt.qv [5, 0, 1], 0, rfl, by omega, by intros; omega⟩ ?_
  rintro s ⟨k, rfl, hk, hc⟩
  have hw : qn .i64 ((k : Int) + 1) = ((k + 1 : Nat) : Int) := by rw [wrap64 (by omega) (by omega)]; rfl
  have hla := zf ha
  have hlb := zf hb
  by_cases hlt : k < a.length
  · have hga := bd ha hlt
    have hgb := bd hb (i := k) (by omega)
    have hoa := ha a[k] (List.getElem_mem hlt)
    have hob := hb b[k] (List.getElem_mem (by omega))
    simp (maxSteps := 3000000) only [Vm, hw, qge, V2, hla, hlb, hga, hgb, qen hoa, qen hob, rd, List.getElem?_cons_zero, List.getElem?_cons_succ, qa, zZ, ↓qp, ↓reduceIte, reduceCtorEq, nA, nM, nS, nE, nL, nD]; try simp only [qa, zY]
    refine ⟨fun _ => ⟨⟨⟨by omega, by omega⟩, by omega⟩, by omega, ⟨⟨by omega, by omega⟩, by omega⟩, by omega, fun h2 => ⟨⟨_, rfl⟩, ?_⟩, fun h2 => ⟨_, qt.qv [5, 0, 1], ⟨k + 1, rfl, by omega, fun i hi => ?_⟩, ?_⟩⟩, fun h => absurd (by omega) h⟩
    · symm; rw [decide_eq_false_iff_not]; rintro rfl; exact h2 rfl
    · by_cases e : i = k
      · subst e; rw [List.getElem?_eq_getElem hlt, List.getElem?_eq_getElem (by omega), h2]
      · exact hc i (by omega)
    · simp only [zL, ↓reduceIte, reduceCtorEq, nE, nA]; omega
  · simp (maxSteps := 3000000) only [Vm, Gj, hw, qa, zZ, ↓qp, ↓reduceIte, reduceCtorEq, nA, nM, nS, nE, nL, nD]; try simp only [qa, zY]
    refine ⟨fun h => absurd h (by omega), fun _ => ⟨⟨_, rfl⟩, ?_⟩⟩
    symm; rw [decide_eq_true_eq]
    refine List.ext_getElem? fun i => ?_
    by_cases e : i < a.length
    · exact hc i (by omega)
    · rw [List.getElem?_eq_none (by omega), List.getElem?_eq_none (by omega)]
def Yc : BE := fun hp xs => match xs with
  | [.slc b 0 k false 0, .slc b' 0 k' false 0] => match rd hp b, rd hp b' with
    | some L, some L' => match Ji k L, Ji k' L' with
      | some ts, some ts' => chk (k ≤ 2000000) (some (.bool (decide (ts = ts')), hp))
      | _, _ => none
    | _, _ => none
  | _ => none
theorem qrc : Am.Callee Try.prog 51 Yc := Callee.ro2 fun hp xs v hp' he => by
  unfold Yc at he
  split at he
  · rename_i b k b' k'
    split at he
    · rename_i L L' hL hL'
      split at he
      · rename_i ts ts' h1 h1'
        obtain ⟨h0, he⟩ := ql he
        simp only [Option.some.injEq, Prod.mk.injEq] at he
        obtain ⟨rfl, rfl⟩ := he
        obtain ⟨e1, e2, e3, e4⟩ := jn h1
        obtain ⟨f1, f2, f3, f4⟩ := jn h1'
        have g1 := zf e2
        have g2 := zf f2
        refine ⟨zc ts, zc ts', b, b', [.slc 0 0 ts.length false 0, .slc 1 0 ts'.length false 0], rfl, ⟨L, hL, by omega, by rw [g1, e1]; exact e3⟩, ⟨L', hL', by omega, by rw [g2, f1]; exact f3⟩, qc _, qc _, ?_, rfl, ?_, rfl, qqi ts ts' e2 f2 (by omega)⟩
        · simp only [AV.zk, AV.ren, two, if_true, e1, f1, Nat.zero_add]
          rfl
        · exact ⟨by simp [AV.under], by simp [AV.under], trivial⟩
      · cases he
    · cases he
  · cases he
def B14 : za := (B13.put 51 (Yc))
theorem qz7 : qo Try.prog B14 := (qsa.put (qrc))
theorem qgk : B14 116 = some (qk V2) := rfl
theorem qej : B14 51 = some (Yc) := rfl
def elemV (p c n : Int) (b k : Nat) : AV := .agg [.int .i64 p, .int .i64 c, .int .i64 n, .slc b 0 k false 0]
theorem qke (p c n p' c' n' : Int) (a b : List (Int × List Nat × Int)) (ha : okT a) (hb : okT b) (hal : a.length ≤ 2000000) :
    Am.Fn Try.prog 18 [elemV p c n 0 a.length, elemV p' c' n' 1 b.length] [.ro (zc a), .ro (zc b)] (fun v H' => v = .bool (decide ((p = p' ∧ c = c' ∧ n = n') ∧ a = b)) ∧ H' = [.ro (zc a), .ro (zc b)]) := by
  refine Am.Fn.xm (R := fun v => v = _) qz7 mixed qko (by simp) (J2 (qc _) (qc _)) ?_
  simp (maxSteps := 3000000) only [qa8, elemV, qgk, qej, V2, Yc, jx ha, jx hb, rd, List.getElem?_cons_zero, List.getElem?_cons_succ, qa, zZ, ↓qp, ↓reduceIte, reduceCtorEq, nA, nM, nS, nE, nL, nD]; try simp only [qa, zY]
  have hf : ¬((p = p' ∧ c = c' ∧ n = n') ∧ a = b) → false = decide ((p = p' ∧ c = c' ∧ n = n') ∧ a = b) := fun h => by
    symm; rw [decide_eq_false_iff_not]; exact h
  refine ⟨fun h => ⟨⟨_, rfl⟩, hf fun e => h e.1.1⟩, fun h => ⟨fun h2 => ⟨⟨_, rfl⟩, hf fun e => h2 e.1.2.1⟩, fun h2 => ⟨fun h3 => ⟨⟨_, rfl⟩, hf fun e => h3 e.1.2.2⟩, fun h3 => ⟨hal, fun h4 => ⟨⟨_, rfl⟩, hf fun e => h4 e.2⟩, fun h4 => ⟨⟨_, rfl⟩, ?_⟩⟩⟩⟩⟩
  symm; rw [decide_eq_true_eq]; exact ⟨⟨h, h2, h3⟩, h4⟩
def Xq : BE := fun hp xs => match xs with
  | [.agg [.int .i64 p, .int .i64 c, .int .i64 n, .slc b 0 k false 0], .agg [.int .i64 p', .int .i64 c', .int .i64 n', .slc b' 0 k' false 0]] => match rd hp b, rd hp b' with
    | some L, some L' => match Ji k L, Ji k' L' with
      | some ts, some ts' => chk (k ≤ 2000000) (some (.bool (decide ((p = p' ∧ c = c' ∧ n = n') ∧ ts = ts')), hp))
      | _, _ => none
    | _, _ => none
  | _ => none
theorem qjr : Am.Callee Try.prog 18 Xq := Callee.ro2 fun hp xs v hp' he => by
  unfold Xq at he
  split at he
  · rename_i p c n b k p' c' n' b' k'
    split at he
    · rename_i L L' hL hL'
      split at he
      · rename_i ts ts' h1 h1'
        obtain ⟨h0, he⟩ := ql he
        simp only [Option.some.injEq, Prod.mk.injEq] at he
        obtain ⟨rfl, rfl⟩ := he
        obtain ⟨e1, e2, e3, e4⟩ := jn h1
        obtain ⟨f1, f2, f3, f4⟩ := jn h1'
        have g1 := zf e2
        have g2 := zf f2
        refine ⟨zc ts, zc ts', b, b', [elemV p c n 0 ts.length, elemV p' c' n' 1 ts'.length], rfl, ⟨L, hL, by omega, by rw [g1, e1]; exact e3⟩, ⟨L', hL', by omega, by rw [g2, f1]; exact f3⟩, qc _, qc _, ?_, rfl, ?_, rfl, qke p c n p' c' n' ts ts' e2 f2 (by omega)⟩
        · simp only [elemV, AV.zk, AV.ren, two, if_true, e1, f1, Nat.zero_add]
          rfl
        · exact ⟨⟨trivial, trivial, trivial, by simp [AV.under], trivial⟩, ⟨trivial, trivial, trivial, by simp [AV.under], trivial⟩, trivial⟩
      · cases he
    · cases he
  · cases he
def B15 : za := (B14.put 18 (Xq))
theorem qbz : qo Try.prog B15 := (qz7.put (qjr))
def Xb : AC := .seq (.seq (.region [oM 21 6,oK 22 .lss 21 16]) (.cond 22 .skip (.exit 2))) (.seq (.block 3 (.seq (.region [oM 25 0,oM 26 5,oM 27 6,oM 28 1,o0 29 (.conv .u8 (.t 28)),oX 30 18 25 26,oF 31 0 30,oF 32 1 31,o0 33 (.zz 16 1 (.t 32) (.t 27)),oT 33 29]) (.region [oM 34 1,oK 35 .add 34 1,oM 1 35]))) (.region [oM 23 6,oK 24 .add 23 1,oM 6 24]))
def Ub : AC := .seq (.region [oM 36 0,oM 37 5,oM 38 1,oX 39 18 36 37,oF 40 17 39,oT 40 38]) (.region [oM 41 1,oK 42 .add 41 1,oM 1 42])
def Ua : AC := .region [oM 11 5,oK 12 .add 11 1,oM 5 12]
def Zz : AC := .seq (.seq (.region [oM 7 5,oM 8 0,o0 9 (.len .slc (.t 8)),oP 10 .lss 7 9]) (.cond 10 .skip (.exit 0))) (.seq (.block 1 (.seq (.region [oM 13 0,oM 14 5,oM 15 1,oX 16 18 13 14,oF 17 0 16,oF 18 0 17,oT 18 15]) (.seq (.region [oM 19 1,oK 20 .add 19 1,oM 1 20]) (.seq (.seq (.region [oI 6 0]) (.block 2 (.loop Xb))) Ub)))) Ua)
def Y2 : AC := .seq (.region [oM 43 1,oM 4 43]) .ret
def qa1 : AC := .seq (.region [oI 4 0]) (.seq (.seq (.region [oI 5 0]) (.block 0 (.loop Zz))) Y2)
theorem qjs : zj Try.prog 64 = some ⟨44, qa1, [.slot 4]⟩ := by kernel_rfl
def Bw : AC := .seq (.region [o0 2 (.box (.t 0)),oI 4 0]) (.seq (.region [oF 5 3 2,oL 6 5,oM 7 1,oC 8 64 [.t 6,.t 7],oM 1 8]) (.seq (.region [oM 9 1,oM 4 9]) .ret))
theorem qgi : zj Try.prog 30 = some ⟨10, Bw, [.slot 4]⟩ := by kernel_rfl
def Z2 : AC := .seq (.seq (.region [oM 23 6,oK 24 .lss 23 16]) (.cond 24 .skip (.exit 2))) (.seq (.block 3 (.seq (.seq (.region [oM 27 0,oM 28 5,oM 29 6,oX 30 18 27 28,oF 31 0 30,oF 32 1 31,o0 33 (.zz 16 1 (.t 32) (.t 29)),oL 34 33,oM 35 1,o0 36 (.conv .u8 (.t 35)),oP 37 .neq 34 36]) (.cond 37 (.seq (.region [oI 4 (-1)]) .ret) .skip)) (.region [oM 38 1,oK 39 .add 38 1,oM 1 39]))) (.region [oM 25 6,oK 26 .add 25 1,oM 6 26]))
def Yo : AC := .seq (.seq (.region [oM 40 0,oM 41 5,oX 42 18 40 41,oF 43 17 42,oL 44 43,oM 45 1,oP 46 .neq 44 45]) (.cond 46 (.seq (.region [oI 4 (-1)]) .ret) .skip)) (.region [oM 47 1,oK 48 .add 47 1,oM 1 48])
def Yq : AC := .region [oM 11 5,oK 12 .add 11 1,oM 5 12]
def Xc : AC := .seq (.seq (.region [oM 7 5,oM 8 0,o0 9 (.len .slc (.t 8)),oP 10 .lss 7 9]) (.cond 10 .skip (.exit 0))) (.seq (.block 1 (.seq (.seq (.region [oM 13 0,oM 14 5,oX 15 18 13 14,oF 16 0 15,oF 17 0 16,oL 18 17,oM 19 1,oP 20 .neq 18 19]) (.cond 20 (.seq (.region [oI 4 (-1)]) .ret) .skip)) (.seq (.region [oM 21 1,oK 22 .add 21 1,oM 1 22]) (.seq (.seq (.region [oI 6 0]) (.block 2 (.loop Z2))) Yo)))) Yq)
def Ym : AC := .seq (.region [oM 49 1,oM 4 49]) .ret
def qav : AC := .seq (.region [oI 4 0]) (.seq (.seq (.region [oI 5 0]) (.block 0 (.loop Xc))) Ym)
theorem qkf : zj Try.prog 65 = some ⟨50, qav, [.slot 4]⟩ := by kernel_rfl
def B0 : AC := .seq (.region [o0 2 (.box (.t 0)),oI 4 0]) (.seq (.region [oF 5 3 2,oL 6 5,oM 7 1,oC 8 65 [.t 6,.t 7],oM 1 8]) (.seq (.seq (.region [oM 9 1,oK 10 .lss 9 0]) (.cond 10 (.seq (.region [oI 4 (-1)]) .ret) .skip)) (.seq (.region [oM 11 1,oM 4 11]) .ret)))
theorem qf7 : zj Try.prog 31 = some ⟨12, B0, [.slot 4]⟩ := by kernel_rfl
def qc1 (k : Nat) : List Nat := (List.range 16).map fun j => (k + j) % 256
def qhf (k : Nat) : Int × List Nat × Int := (((k : Nat) : Int), qc1 (k + 1), ((k + 17 : Nat) : Int))
def marks (n k : Nat) : List (Int × List Nat × Int) := (List.range n).map fun i => qhf (k + 18 * i)
theorem qh7 (k : Nat) : okD (qc1 k) := ⟨by simp [qc1], fun x hx => by
  simp only [qc1, List.mem_map] at hx
  obtain ⟨j, _, rfl⟩ := hx
  exact Nat.mod_lt _ (by decide)⟩
theorem Yz (n k : Nat) : okT (marks n k) := fun t ht => by
  simp only [marks, List.mem_map] at ht
  obtain ⟨j, _, rfl⟩ := ht
  exact qh7 _
theorem z7 (n k : Nat) : (marks n k).length = n := by simp [marks]
theorem K7 {n k i : Nat} (h : i < n) : (marks n k)[i]'(by rw [z7]; exact h) = qhf (k + 18 * i) := by simp [marks]
theorem qv3 {k j : Nat} (h : j < 16) : (qc1 k).getD j 0 = (k + j) % 256 := by simp [qc1, List.getD_eq_getElem?_getD, h]
theorem ql1 {x : Nat} : qn .u8 (x : Int) = ((x % 256 : Nat) : Int) := by
  simp only [qn, IntKind.wrap, IntKind.signed, IntKind.bits]
  simp
theorem qhi {ts : List (Int × List Nat × Int)} {i j : Nat} {v : AV} {t' : Int × List Nat × Int} (h : okT ts) (hi : i < ts.length) (hj : j < 18) (hv : (trm ts[i]).set j v = trm t') : (zc ts).set (i * 18 + j) v = zc (ts.set i t') := by
  induction ts generalizing i with
  | nil => simp at hi
  | cons t ts ih =>
    have h1 := xk (h t (by simp))
    cases i with
    | zero =>
      simp only [List.getElem_cons_zero] at hv
      simp only [zc, List.flatMap_cons, Nat.zero_mul, Nat.zero_add, List.set_cons_zero]
      rw [List.set_append_left _ _ (by omega), hv]
    | succ i =>
      simp only [List.getElem_cons_succ] at hv
      have h2 := ih (fun u hu => h u (List.mem_cons_of_mem _ hu)) (by simpa using hi) hv
      simp only [zc, List.flatMap_cons, List.set_cons_succ] at h2 ⊢
      rw [List.set_append_right _ _ (by omega), h1, show (i + 1) * 18 + j - 18 = i * 18 + j from by omega, h2]
theorem qym {t : Int × List Nat × Int} {x : Int} : (trm t).set 0 (.int .i64 x) = trm (x, t.2) := rfl
theorem qzw {t : Int × List Nat × Int} {j x : Nat} (h : okD t.2.1) (hj : j < 16) : (trm t).set (1 + j) (.int .u8 (x : Int)) = trm (t.1, t.2.1.set j x, t.2.2) := by
  simp only [trm]
  rw [List.set_append_left _ _ (by rw [qe, h.1]; omega), U3]
theorem qxo {t : Int × List Nat × Int} {x : Int} (h : okD t.2.1) : (trm t).set 17 (.int .i64 x) = trm (t.1, t.2.1, x) := by
  simp only [trm]
  rw [List.set_append_right _ _ (by rw [qe, h.1]; omega), qe, h.1]; rfl
def part (k : Nat) (m : List Nat) (j : Nat) : List Nat := (List.range 16).map fun t => if t < j then (k + t) % 256 else m.getD t 0
theorem qxr {k : Nat} {m : List Nat} (h : m.length = 16) : part k m 0 = m := by
  refine qma (by simp [part]) h fun i hi => ?_
  simp [part, List.getD_eq_getElem?_getD, hi]
theorem q0f {k : Nat} {m : List Nat} : part k m 16 = qc1 k := by
  simp only [part, qc1]
  refine List.map_congr_left fun t ht => ?_
  rw [if_pos (List.mem_range.1 ht)]
theorem qw0 {k j : Nat} {m : List Nat} (hj : j < 16) : (part k m j).set j ((k + j) % 256) = part k m (j + 1) := by
  refine qma (by simp [part]) (by simp [part]) fun i hi => ?_
  rw [ji]
  have hl : (part k m j).length = 16 := by simp [part]
  by_cases e : j = i
  · subst e
    rw [if_pos ⟨rfl, by omega⟩]
    simp [part, List.getD_eq_getElem?_getD, hi]
  · rw [if_neg (fun h => e h.1)]
    simp only [part, List.getD_eq_getElem?_getD, List.getElem?_map, List.getElem?_range hi, Option.map_some, Option.getD_some]
    by_cases h1 : i < j
    · rw [if_pos h1, if_pos (by omega)]
    · rw [if_neg h1, if_neg (by omega)]
theorem qid {k j : Nat} {m : List Nat} (h : okD m) : okD (part k m j) := ⟨by simp [part], fun x hx => by
  simp only [part, List.mem_map] at hx
  obtain ⟨t, _, rfl⟩ := hx
  split
  · exact Nat.mod_lt _ (by decide)
  · exact h.get t⟩
theorem qlf {s : Nat} {l : List AV} (h : AV.ze l = true) : ∀ (j : Nat) (o : AO), [AO.vec s l][j]? = some o → o.under [AO.vec s l].length := by
  intro j o e
  cases j with
  | zero => simp only [List.getElem?_cons_zero, Option.some.injEq] at e; subst e; exact qj _ _ h
  | succ j => simp at e
theorem qjy (ts : List (Int × List Nat × Int)) (k : Nat) (ht : okT ts) (hk : k ≤ 100000000) (hl : ts.length ≤ 2000000) :
    Am.Fn Try.prog 64 [.slc 0 0 ts.length false 0, .int .i64 k] [.vec 18 (zc ts)] (fun v H' => v = .int .i64 ((k + 18 * ts.length : Nat) : Int) ∧ H' = [.vec 18 (zc (marks ts.length k))]) := by
  refine Am.Fn.ofB qbz mixed qjs (by simp) (qlf (qc _)) ?_
  simp (maxSteps := 3000000) only [qa1, qa, zZ, ↓qp, ↓reduceIte, reduceCtorEq, nA, nM, nS, nE, nL, nD]; try simp only [qa, zY]
  refine WA.xo qbz (fun s => ∃ i : Nat, ∃ us, s = ⟨[(5, .int .i64 i), (1, .int .i64 ((k + 18 * i : Nat) : Int)), (0, .slc 0 0 ts.length false 0)], [.vec 18 (zc us)]⟩ ∧ i ≤ ts.length ∧ us = marks i k ++ ts.drop i)
    (fun s => match get s.env 5 with | .int _ x => ts.length - x.toNat | _ => 0) ⟨_, qt.qv [5, 1, 0], 0, ts, rfl, by omega, by simp [marks]⟩ ?_
  rintro s ⟨i, us, rfl, hi, hus⟩
  have hul : us.length = ts.length := by rw [hus, List.length_append, z7, List.length_drop]; omega
  have huo : okT us := by
    rw [hus]; intro t h
    rcases List.mem_append.1 h with h | h
    · exact Yz _ _ t h
    · exact ht t (List.mem_of_mem_drop h)
  have hutl := zf huo
  have hw : qn .i64 ((i : Int) + 1) = ((i + 1 : Nat) : Int) := by rw [wrap64 (by omega) (by omega)]; rfl
  have hw1 : qn .i64 (((k + 18 * i : Nat) : Int) + 1) = ((k + 18 * i + 1 : Nat) : Int) := by rw [wrap64 (by omega) (by omega)]; rfl
  by_cases hlt : i < ts.length
  · have h0 : (zc us).set (i * 18) (.int .i64 ((k + 18 * i : Nat) : Int)) = zc (us.set i (((k + 18 * i : Nat) : Int), us[i].2)) := by
      have := qhi (j := 0) huo (by omega) (by decide) (qym (t := us[i]) (x := ((k + 18 * i : Nat) : Int)))
      exact this
    simp (maxSteps := 3000000) only [Zz, hw, hw1, hutl, h0, rd, wrt, wrl, AO.Ya, List.getElem?_cons_zero, List.set_cons_zero, qa, zZ, ↓qp, ↓reduceIte, reduceCtorEq, nA, nM, nS, nE, nL, nD]; try simp only [qa, zY]
    refine ⟨fun _ => ⟨⟨⟨by omega, by omega⟩, by omega⟩, ⟨by omega, rfl⟩, ?_⟩, fun h => absurd (by omega) h⟩
    have hlu : i < us.length := by omega
    generalize hm : us[i].2.1 = m at *
    generalize hf : us[i].2.2 = f at *
    have hmo : okD m := by rw [← hm]; exact huo _ (List.getElem_mem hlu)
    have huf : (us.set i (((k + 18 * i : Nat) : Int), us[i].2)) = us.set i (((k + 18 * i : Nat) : Int), m, f) := by rw [← hm, ← hf]
    rw [huf]
    have hV : ∀ x : Int × List Nat × Int, okD x.2.1 → okT (us.set i x) := fun x hx t h => by
      rcases List.mem_or_eq_of_mem_set h with h | h
      · exact huo t h
      · rw [h]; exact hx
    refine WA.xo qbz (fun s => ∃ j : Nat, s = ⟨[(6, .int .i64 j), (5, .int .i64 i), (1, .int .i64 ((k + 18 * i + 1 + j : Nat) : Int)), (0, .slc 0 0 ts.length false 0)], [.vec 18 (zc (us.set i (((k + 18 * i : Nat) : Int), part (k + 18 * i + 1) m j, f)))]⟩ ∧ j ≤ 16)
      (fun s => match get s.env 6 with | .int _ k => (100 - k).toNat | _ => 0) ⟨_, qt.qv [6, 5, 1, 0], 0, ?_, by omega⟩ ?_
    · simp only [qxr hmo.1, zL, ↓reduceIte, reduceCtorEq, nE, nA]
      rfl
    rintro s ⟨j, rfl, hj⟩
    have hwj : qn .i64 ((j : Int) + 1) = ((j + 1 : Nat) : Int) := by rw [wrap64 (by omega) (by omega)]; rfl
    have hwq : qn .i64 (((k + 18 * i + 1 + j : Nat) : Int) + 1) = ((k + 18 * i + 1 + j + 1 : Nat) : Int) := by rw [wrap64 (by omega) (by omega)]; rfl
    have hVo := hV (((k + 18 * i : Nat) : Int), part (k + 18 * i + 1) m j, f) (qid hmo)
    have hVl := zf hVo
    rw [List.length_set] at hVl
    by_cases hj16 : j < 16
    · have hst : (zc (us.set i (((k + 18 * i : Nat) : Int), part (k + 18 * i + 1) m j, f))).set (i * 18 + 1 + j) (.int .u8 (((k + 18 * i + 1 + j) % 256 : Nat) : Int)) = zc (us.set i (((k + 18 * i : Nat) : Int), part (k + 18 * i + 1) m (j + 1), f)) := by
        have h1 := qhi (i := i) (j := 1 + j) (v := .int .u8 (((k + 18 * i + 1 + j) % 256 : Nat) : Int)) (t' := (((k + 18 * i : Nat) : Int), (part (k + 18 * i + 1) m j).set j ((k + 18 * i + 1 + j) % 256), f)) hVo (by rw [List.length_set]; omega) (by omega) (by
          rw [List.getElem_set_self]; exact qzw (qid hmo) hj16)
        rw [List.set_set, qw0 hj16] at h1
        rw [show i * 18 + 1 + j = i * 18 + (1 + j) from by omega]; exact h1
      simp (maxSteps := 3000000) only [Xb, hwj, hwq, hVl, ql1, hst, rd, wrt, wrl, AO.Ya, List.getElem?_cons_zero, List.set_cons_zero, qa, zZ, ↓qp, ↓reduceIte, reduceCtorEq, nA, nM, nS, nE, nL, nD]; try simp only [qa, zY]
      refine ⟨fun _ => ⟨⟨⟨by omega, by omega⟩, by omega⟩, ⟨by omega, by omega⟩, ⟨by omega, rfl⟩, _, qt.qv [6, 5, 1, 0], ⟨j + 1, ?_, by omega⟩, ?_⟩, fun h => absurd (by omega) h⟩
      · simp only [zL, ↓reduceIte, reduceCtorEq, nE, nA]
        rfl
      · simp only [zL, ↓reduceIte, reduceCtorEq, nE, nA]; omega
    · have hj' : j = 16 := by omega
      subst hj'
      have hst : (zc (us.set i (((k + 18 * i : Nat) : Int), part (k + 18 * i + 1) m 16, f))).set (i * 18 + 17) (.int .i64 ((k + 18 * i + 1 + 16 : Nat) : Int)) = zc (us.set i (qhf (k + 18 * i))) := by
        have h1 := qhi (i := i) (j := 17) (v := .int .i64 ((k + 18 * i + 1 + 16 : Nat) : Int)) (t' := (((k + 18 * i : Nat) : Int), part (k + 18 * i + 1) m 16, ((k + 18 * i + 1 + 16 : Nat) : Int))) hVo (by rw [List.length_set]; omega) (by omega) (by
          rw [List.getElem_set_self]; exact qxo (qid hmo))
        rw [List.set_set, q0f] at h1
        exact h1
      simp (maxSteps := 3000000) only [Xb, Ub, Ua, hw, hwj, hwq, hVl, hst, rd, wrt, wrl, AO.Ya, List.getElem?_cons_zero, List.set_cons_zero, qa, zZ, ↓qp, ↓reduceIte, reduceCtorEq, nA, nM, nS, nE, nL, nD]; try simp only [qa, zY]
      refine ⟨fun h => absurd h (by omega), fun _ => ⟨⟨⟨by omega, by omega⟩, by omega⟩, ⟨by omega, rfl⟩, _, qt.qv [5, 1, 0], ⟨i + 1, us.set i (qhf (k + 18 * i)), ?_, by omega, ?_⟩, ?_⟩⟩
      · simp only [zL, ↓reduceIte, reduceCtorEq, nE, nA]
        rw [show k + 18 * i + 1 + 16 + 1 = k + 18 * (i + 1) from by omega]
      · rw [hus]
        refine List.ext_getElem (by simp [z7]; omega) fun x hx1 hx2 => ?_
        simp only [List.getElem_set]
        by_cases e : i = x
        · subst e
          rw [if_pos rfl, List.getElem_append_left (by rw [z7]; omega), K7 (by omega)]
        · rw [if_neg e]
          by_cases h2 : x < i
          · rw [List.getElem_append_left (by rw [z7]; omega), List.getElem_append_left (by rw [z7]; omega), K7 (by omega), K7 (by omega)]
          · rw [List.getElem_append_right (by rw [z7]; omega), List.getElem_append_right (by rw [z7]; omega)]
            simp only [z7, List.getElem_drop]
            congr 1; omega
      · simp only [Int.toNat_natCast, zL, ↓reduceIte, reduceCtorEq, nE, nA]; omega
  · have hi' : i = ts.length := by omega
    subst hi'
    simp (maxSteps := 3000000) only [Zz, Y2, hw, hw1, rd, wrt, wrl, AO.Ya, List.getElem?_cons_zero, List.set_cons_zero, qa, zZ, ↓qp, ↓reduceIte, reduceCtorEq, nA, nM, nS, nE, nL, nD]; try simp only [qa, zY]
    refine ⟨fun h => absurd h (by omega), fun _ => ?_⟩
    refine Ret.xv [0] ⟨⟨Nat.le_refl 1, rfl, by decide⟩, ?_⟩ (rs := [.int .i64 ((k + 18 * ts.length : Nat) : Int)]) rfl rfl (by simp [xl]) ?_ ⟨?_, ?_⟩
    · simp only [qd _ _ (qc _), zK, ↓reduceIte, reduceCtorEq, nE, nB, nA]
    · intro j l; cases j <;> simp [zn, AO.ren]
    · simp only [xl]
      simp only [zL, ↓reduceIte, reduceCtorEq, nE, nA]
    · simp only [qb _ _ (qc _), zL, ↓reduceIte, reduceCtorEq, nE, nA]
      rw [hus, List.drop_length, List.append_nil]
theorem qkn (n k : Nat) (hk : k ≤ 100000000) (hl : n ≤ 2000000) :
    Am.Fn Try.prog 65 [.slc 0 0 n false 0, .int .i64 k] [.ro (zc (marks n k))] (fun v H' => v = .int .i64 ((k + 18 * n : Nat) : Int) ∧ H' = [.ro (zc (marks n k))]) := by
  refine Am.Fn.xm (R := fun v => v = _) qbz mixed qkf (by simp) (Yf (qc _)) ?_
  simp (maxSteps := 3000000) only [qav, qa, zZ, ↓qp, ↓reduceIte, reduceCtorEq, nA, nM, nS, nE, nL, nD]; try simp only [qa, zY]
  refine WA.xo qbz (fun s => ∃ i : Nat, s = ⟨[(5, .int .i64 i), (1, .int .i64 ((k + 18 * i : Nat) : Int)), (0, .slc 0 0 n false 0)], [.ro (zc (marks n k))]⟩ ∧ i ≤ n)
    (fun s => match get s.env 5 with | .int _ x => n - x.toNat | _ => 0) ⟨_, qt.qv [5, 1, 0], 0, rfl, by omega⟩ ?_
  rintro s ⟨i, rfl, hi⟩
  have hml := zf (Yz n k)
  rw [z7] at hml
  have hw : qn .i64 ((i : Int) + 1) = ((i + 1 : Nat) : Int) := by rw [wrap64 (by omega) (by omega)]; rfl
  have hw1 : qn .i64 (((k + 18 * i : Nat) : Int) + 1) = ((k + 18 * i + 1 : Nat) : Int) := by rw [wrap64 (by omega) (by omega)]; rfl
  by_cases hlt : i < n
  · have hcell : ∀ j, j < 18 → (zc (marks n k))[i * 18 + j]? = (trm (qhf (k + 18 * i)))[j]? := fun j hj => by
      have h1 := bd (Yz n k) (i := i) (by rw [z7]; exact hlt)
      rw [K7 hlt] at h1
      rw [← h1, List.getElem?_take_of_lt hj, List.getElem?_drop]
    have hc0 : (zc (marks n k))[i * 18]? = some (.int .i64 ((k + 18 * i : Nat) : Int)) := hcell 0 (by decide)
    simp (maxSteps := 3000000) only [Xc, hw, hw1, hml, hc0, rd, List.getElem?_cons_zero, qa, zZ, ↓qp, ↓reduceIte, reduceCtorEq, nA, nM, nS, nE, nL, nD]; try simp only [qa, zY]
    refine ⟨fun _ => ⟨⟨⟨by omega, by omega⟩, by omega⟩, ?_⟩, fun h => absurd (by omega) h⟩
    refine WA.xo qbz (fun s => ∃ j : Nat, s = ⟨[(6, .int .i64 j), (5, .int .i64 i), (1, .int .i64 ((k + 18 * i + 1 + j : Nat) : Int)), (0, .slc 0 0 n false 0)], [.ro (zc (marks n k))]⟩ ∧ j ≤ 16)
      (fun s => match get s.env 6 with | .int _ k => (100 - k).toNat | _ => 0) ⟨_, qt.qv [6, 5, 1, 0], 0, rfl, by omega⟩ ?_
    rintro s ⟨j, rfl, hj⟩
    have hwj : qn .i64 ((j : Int) + 1) = ((j + 1 : Nat) : Int) := by rw [wrap64 (by omega) (by omega)]; rfl
    have hwq : qn .i64 (((k + 18 * i + 1 + j : Nat) : Int) + 1) = ((k + 18 * i + 1 + j + 1 : Nat) : Int) := by rw [wrap64 (by omega) (by omega)]; rfl
    by_cases hj16 : j < 16
    · have hcj : (zc (marks n k))[i * 18 + 1 + j]? = some (.int .u8 (((k + 18 * i + 1 + j) % 256 : Nat) : Int)) := by
        have hmk : (qhf (k + 18 * i)).2.1.length = 16 := (qh7 _).1
        rw [show i * 18 + 1 + j = i * 18 + (1 + j) from by omega, hcell _ (by omega), trm, List.getElem?_append_left (by rw [qe, hmk]; omega)]
        rw [Xi (by rw [hmk]; exact hj16)]
        rw [show (qhf (k + 18 * i)).2.1 = qc1 (k + 18 * i + 1) from rfl, qv3 hj16]
      simp (maxSteps := 3000000) only [Z2, hwj, hwq, hml, hcj, ql1, rd, List.getElem?_cons_zero, qa, zZ, ↓qp, ↓reduceIte, reduceCtorEq, nA, nM, nS, nE, nL, nD]; try simp only [qa, zY]
      refine ⟨fun _ => ⟨⟨⟨by omega, by omega⟩, by omega⟩, ⟨by omega, by omega⟩, _, qt.qv [6, 5, 1, 0], ⟨j + 1, ?_, by omega⟩, ?_⟩, fun h => absurd (by omega) h⟩
      · simp only [zL, ↓reduceIte, reduceCtorEq, nE, nA]
        rfl
      · simp only [zL, ↓reduceIte, reduceCtorEq, nE, nA]; omega
    · have hj' : j = 16 := by omega
      subst hj'
      have hcf : (zc (marks n k))[i * 18 + 17]? = some (.int .i64 ((k + 18 * i + 1 + 16 : Nat) : Int)) := by
        rw [hcell 17 (by decide), yz (qh7 _)]; rfl
      simp (maxSteps := 3000000) only [Z2, Yo, Yq, hw, hwj, hwq, hml, hcf, rd, List.getElem?_cons_zero, qa, zZ, ↓qp, ↓reduceIte, reduceCtorEq, nA, nM, nS, nE, nL, nD]; try simp only [qa, zY]
      refine ⟨fun h => absurd h (by omega), fun _ => ⟨⟨⟨by omega, by omega⟩, by omega⟩, _, qt.qv [5, 1, 0], ⟨i + 1, ?_, by omega⟩, ?_⟩⟩
      · simp only [zL, ↓reduceIte, reduceCtorEq, nE, nA]
        rw [show k + 18 * i + 1 + 16 + 1 = k + 18 * (i + 1) from by omega]
      · simp only [Int.toNat_natCast, zL, ↓reduceIte, reduceCtorEq, nE, nA]; omega
  · have hi' : i = n := by omega
    subst hi'
    simp (maxSteps := 3000000) only [Xc, Ym, hw, hw1, rd, List.getElem?_cons_zero, qa, zZ, ↓qp, ↓reduceIte, reduceCtorEq, nA, nM, nS, nE, nL, nD]; try simp only [qa, zY]
    exact ⟨fun h => absurd h (by omega), fun _ => ⟨_, rfl⟩⟩
end Go.Proofs.Ytfhckbbgmblhbaa

/- Contracts of functions of the program, and plain laws, part 1: each text of this part is proved without further condition. -/
import Derived.Test.YtfhckbbgmblhbaaAmC
import Derived.Test.YtfhckbbgmblhbaaProg
import Derived.KernelRfl
namespace Go.Proofs.Ytfhckbbgmblhbaa
open Go.Am
open Nat renaming reduceAdd → nA, reduceMul → nM, reduceSub → nS, reduceEqDiff → nE, reduceLT → nL, reduceLeDiff → nD, reduceBEq → nB
open Int renaming reduceEq → iE, reduceNe → iN, reduceBEq → iB, reduceBNe → iC, reduceLT → iL, reduceLE → iD, reduceAdd → iA, reduceSub → iS, reduceMul → iM
set_option linter.unusedSimpArgs false
set_option linter.unusedVariables false
set_option maxRecDepth 4000
theorem mixed : Try.prog.follows .mixedOrders = true := by kernel_rfl
def Xv (n i : Int) : Int := if i < n then i else 3 * n - 1 - i
def br (x : Int) : Prop := -1000000 ≤ x ∧ x ≤ 1000000
instance (x : Int) : Decidable (br x) := by unfold br; infer_instance
def w9 (p : Int) : Bool := decide (2 ≤ p ∧ p ≤ 97) && (List.range 100).all fun k => !(decide (2 ≤ k) && decide ((k : Int) < p) && decide (p.tmod k = 0))
def qv7 : AC := .seq (.region [oB 6 false]) (.seq (.region [oM 7 0,oM 8 1,oP 9 .geq 7 8,oM 10 9,oG 11 10 true (.mov (.t 0)),oG 12 10 true (.mov (.t 2)),oG 13 10 true (.bin .leq (.t 11) (.t 12)),o0 14 (.pick (.t 10) (.t 13) (.c (.bool false))),oM 6 14]) .ret)
theorem q3t : zr Try.prog 71 = some ⟨15, qv7, [.slot 6]⟩ := by kernel_rfl
def qh4 : AC := .seq (.region [oB 6 false]) (.seq (.region [oM 7 0,oM 8 1,oP 9 .geq 7 8,oM 10 9,oG 11 10 true (.mov (.t 0)),oG 12 10 true (.mov (.t 2)),oG 13 10 true (.bin .leq (.t 11) (.t 12)),o0 14 (.pick (.t 10) (.t 13) (.c (.bool false))),oM 6 14]) .ret)
theorem qt7 : zr Try.prog 66 = some ⟨15, qh4, [.slot 6]⟩ := by kernel_rfl
def qc4 : AC := .seq (.region [oI 4 0]) (.seq (.seq (.region [oM 5 1,oM 6 0,oP 7 .lss 5 6]) (.cond 7 (.seq (.region [oM 8 1,oM 4 8]) .ret) .skip)) (.seq (.region [oM 9 0,o0 10 (.bin .mul (.c (.int .i64 3)) (.t 9)),oK 11 .sub 10 1,oM 12 1,oP 13 .sub 11 12,oM 4 13]) .ret))
theorem qn2 : zr Try.prog 169 = some ⟨14, qc4, [.slot 4]⟩ := by kernel_rfl
def qah : AC := .seq (.region [oI 4 0]) (.seq (.seq (.region [oM 5 1,oM 6 0,oP 7 .lss 5 6]) (.cond 7 (.seq (.region [oM 8 1,oM 4 8]) .ret) .skip)) (.seq (.region [oM 9 0,o0 10 (.bin .mul (.c (.int .i64 3)) (.t 9)),oK 11 .sub 10 1,oM 12 1,oP 13 .sub 11 12,oM 4 13]) .ret))
theorem qj0 : zr Try.prog 165 = some ⟨14, qah, [.slot 4]⟩ := by kernel_rfl
def qlj : AC := .seq (.region [oI 4 0]) (.seq (.region [oM 5 0,oM 6 1,oP 7 .rem 5 6,oM 8 1,oP 9 .add 7 8,oM 10 1,oP 11 .rem 9 10,oM 4 11]) .ret)
theorem quv : zr Try.prog 76 = some ⟨12, qlj, [.slot 4]⟩ := by kernel_rfl
def Yw : AC := .seq (.seq (.region [oM 4 3,oM 5 0,oP 6 .lss 4 5,oM 7 6,oG 8 7 true (.mov (.t 3)),oG 9 7 true (.bin .lss (.t 8) (.c (.int .i64 100))),o0 10 (.pick (.t 7) (.t 9) (.c (.bool false)))]) (.cond 10 .skip (.exit 0))) (.seq (.block 1 (.seq (.region [oM 13 0,oM 14 3,oP 15 .rem 13 14,oK 16 .eql 15 0]) (.cond 16 (.seq (.region [oB 2 false]) .ret) .skip))) (.region [oM 11 3,oK 12 .add 11 1,oM 3 12]))
def Yz : AC := .seq (.region [oM 17 0,oC 18 66 [.t 17,(.c (.int .i64 2)),(.c (.int .i64 97))],oM 2 18]) .ret
def qaf : AC := .seq (.region [oB 2 false]) (.seq (.seq (.region [oI 3 2]) (.block 0 (.loop Yw))) Yz)
theorem qkd : zr Try.prog 137 = some ⟨19, qaf, [.slot 2]⟩ := by kernel_rfl
def Bc : AC := .seq (.seq (.region [oM 7 3,oM 8 3,oP 9 .mul 7 8,oM 10 0,oP 11 .leq 9 10]) (.cond 11 .skip (.exit 0))) (.seq (.block 1 (.seq (.region [oM 14 0,oM 15 3,oP 16 .rem 14 15,oK 17 .eql 16 0]) (.cond 17 (.seq (.region [oB 2 false]) .ret) .skip))) (.region [oM 12 3,oK 13 .add 12 1,oM 3 13]))
def Bo : AC := .seq (.region [oB 2 true]) .ret
def qcq : AC := .seq (.region [oB 2 false]) (.seq (.seq (.region [oM 4 0,oC 5 71 [.t 4,(.c (.int .i64 2)),(.c (.int .i64 97))],o0 6 (.un .not (.t 5))]) (.cond 6 (.seq (.region [oB 2 false]) .ret) .skip)) (.seq (.seq (.region [oI 3 2]) (.block 0 (.loop Bc))) Bo))
theorem qmw : zr Try.prog 120 = some ⟨18, qcq, [.slot 2]⟩ := by kernel_rfl
def qdu : AC := .seq (.region [oB 4 false]) (.seq (.region [oM 5 0,oC 6 120 [.t 5],oM 7 6,oG 8 7 true (.mov (.t 1)),oG 9 7 true (.mov (.t 0)),oG 10 7 true (.bin .sub (.t 9) (.c (.int .i64 1))),⟨some 11,some (7,true),.call (.c (.fn 71 [] [])) [.t 8,(.c (.int .i64 0)),.t 10]⟩,o0 12 (.pick (.t 7) (.t 11) (.c (.bool false))),oM 4 12]) .ret)
theorem qmg : zr Try.prog 94 = some ⟨13, qdu, [.slot 4]⟩ := by kernel_rfl
def j7 : List AV → Option AV
  | [.int .i64 a, .int .i64 b, .int .i64 c] => some (.bool (decide (b ≤ a ∧ a ≤ c)))
  | _ => none
def j8 : List AV → Option AV
  | [.int .i64 n, .int .i64 i] => chk (br n ∧ br i) (some (.int .i64 (Xv n i)))
  | _ => none
def U9 : List AV → Option AV
  | [.int .i64 n, .int .i64 p] => chk (0 < p ∧ p ≤ 1000000) (some (.int .i64 (n.emod p)))
  | _ => none
def vq : List AV → Option AV
  | [.int .i64 p] => some (.bool (w9 p))
  | _ => none
def vu : List AV → Option AV
  | [.int .i64 p, .int .i64 c] => some (.bool (w9 p && decide (0 ≤ c ∧ c ≤ p - 1)))
  | _ => none
theorem qly {a b c : Int} : (b ≤ a → decide (a ≤ c) = decide (b ≤ a ∧ a ≤ c)) ∧ (¬b ≤ a → false = decide (b ≤ a ∧ a ≤ c)) :=
  ⟨fun h => by simp [h], fun h => by simp [h]⟩
theorem q2i (a b c : Int) : Am.Fn Try.prog 71 [.int .i64 a, .int .i64 b, .int .i64 c] [] (fun v H' => v = .bool (decide (b ≤ a ∧ a ≤ c)) ∧ H' = []) := by
  refine Am.Fn.jd (R := fun v => v = _) qn.none mixed q3t (by simp) (by simp) ?_
  simp (maxSteps := 3000000) only [qv7, qa, zZ, ↓qo, ↓reduceIte, reduceCtorEq, nA, nM, nS, nE, nL, nD]; try simp only [qa, zY]
  exact qly
theorem qsh (a b c : Int) : Am.Fn Try.prog 66 [.int .i64 a, .int .i64 b, .int .i64 c] [] (fun v H' => v = .bool (decide (b ≤ a ∧ a ≤ c)) ∧ H' = []) := by
  refine Am.Fn.jd (R := fun v => v = _) qn.none mixed qt7 (by simp) (by simp) ?_
  simp (maxSteps := 3000000) only [qh4, qa, zZ, ↓qo, ↓reduceIte, reduceCtorEq, nA, nM, nS, nE, nL, nD]; try simp only [qa, zY]
  exact qly
theorem qds {n i : Int} (hn : br n) (hi : br i) : (i < n → AV.int .i64 i = AV.int .i64 (Xv n i)) ∧
    (¬i < n → AV.int .i64 (qu .i64 (qu .i64 (qu .i64 (3 * n) - 1) - i)) = AV.int .i64 (Xv n i)) := by
  unfold br at hn hi
  refine ⟨fun h => by simp [Xv, h], fun h => ?_⟩
  rw [wrap64 (n := 3 * n) (by omega) (by omega), wrap64 (n := 3 * n - 1) (by omega) (by omega), wrap64 (by omega) (by omega)]
  simp [Xv, h]
theorem qk2 (n i : Int) (hn : br n) (hi : br i) : Am.Fn Try.prog 169 [.int .i64 n, .int .i64 i] [] (fun v H' => v = .int .i64 (Xv n i) ∧ H' = []) := by
  refine Am.Fn.jd (R := fun v => v = _) qn.none mixed qn2 (by simp) (by simp) ?_
  simp (maxSteps := 3000000) only [qc4, qa, zZ, ↓qo, ↓reduceIte, reduceCtorEq, nA, nM, nS, nE, nL, nD]; try simp only [qa, zY]
  exact qds hn hi
theorem qjl (n i : Int) (hn : br n) (hi : br i) : Am.Fn Try.prog 165 [.int .i64 n, .int .i64 i] [] (fun v H' => v = .int .i64 (Xv n i) ∧ H' = []) := by
  refine Am.Fn.jd (R := fun v => v = _) qn.none mixed qj0 (by simp) (by simp) ?_
  simp (maxSteps := 3000000) only [qah, qa, zZ, ↓qo, ↓reduceIte, reduceCtorEq, nA, nM, nS, nE, nL, nD]; try simp only [qa, zY]
  exact qds hn hi
theorem qqd {n p : Int} (h : 0 < p ∧ p ≤ 1000000) : ¬p = 0 ∧ ¬p = 0 ∧ AV.int .i64 ((qu .i64 (n.tmod p + p)).tmod p) = AV.int .i64 (n.emod p) := by
  refine ⟨by omega, by omega, ?_⟩
  have h1 : n.tmod p < p := Int.tmod_lt_of_pos n h.1
  have h2 : -p < n.tmod p := by
    have := Int.lt_tmod_of_pos n h.1
    omega
  rw [wrap64 (by omega) (by omega), Int.tmod_eq_emod_of_nonneg (by omega), Int.add_emod_right]
  congr 1
  rw [Int.tmod_eq_emod]
  split
  · rw [show ((0 : Nat) : Int) = 0 from rfl, Int.sub_zero]; exact Int.emod_emod_of_dvd n (Int.dvd_refl p)
  · rw [show (p.natAbs : Int) = p from by omega, Int.sub_emod_right]
    exact Int.emod_emod_of_dvd n (Int.dvd_refl p)
theorem qvf (n p : Int) (h : 0 < p ∧ p ≤ 1000000) : Am.Fn Try.prog 76 [.int .i64 n, .int .i64 p] [] (fun v H' => v = .int .i64 (n.emod p) ∧ H' = []) := by
  refine Am.Fn.jd (R := fun v => v = _) qn.none mixed quv (by simp) (by simp) ?_
  simp (maxSteps := 3000000) only [qlj, qa, zZ, ↓qo, ↓reduceIte, reduceCtorEq, nA, nM, nS, nE, nL, nD]; try simp only [qa, zY]
  exact qqd h
theorem qqy {f : FuncId} (h : ∀ a b c, Am.Fn Try.prog f [.int .i64 a, .int .i64 b, .int .i64 c] [] (fun v H' => v = .bool (decide (b ≤ a ∧ a ≤ c)) ∧ H' = [])) : Am.Callee Try.prog f (qm j7) :=
  Am.Callee.plain fun xs v he => by
    unfold j7 at he
    split at he
    · cases he; exact ⟨rfl, rfl, h _ _ _⟩
    · cases he
theorem qfh {f : FuncId} (h : ∀ n i, br n → br i → Am.Fn Try.prog f [.int .i64 n, .int .i64 i] [] (fun v H' => v = .int .i64 (Xv n i) ∧ H' = [])) : Am.Callee Try.prog f (qm j8) :=
  Am.Callee.plain fun xs v he => by
    unfold j8 at he
    split at he
    · obtain ⟨h1, he⟩ := ql he
      cases he; exact ⟨rfl, rfl, h _ _ h1.1 h1.2⟩
    · cases he
def B1 : za := ((((za.none.put 71 (qm j7)).put 66 (qm j7)).put 169 (qm j8)).put 165 (qm j8))
theorem qmc : qn Try.prog B1 := ((((qn.none.put (qqy q2i)).put (qqy qsh)).put (qfh qk2)).put (qfh qjl))
theorem qga : B1 71 = some (qm j7) := rfl
theorem G7 : B1 66 = some (qm j7) := rfl
theorem qc7 {p : Int} {k : Nat} (h1 : 2 ≤ k) (hk : k < 100) (h2 : (k : Int) < p) (h3 : p.tmod k = 0) : w9 p = false := by
  unfold w9
  rw [Bool.and_eq_false_iff]
  right
  rw [List.all_eq_false]
  exact ⟨k, List.mem_range.2 hk, by simp [h1, h2, h3]⟩
theorem qgb {p : Int} (h : 2 ≤ p ∧ p ≤ 97) (h3 : ∀ j : Nat, 2 ≤ j → (j : Int) < p → p.tmod j ≠ 0) : w9 p = true := by
  unfold w9
  rw [Bool.and_eq_true]
  refine ⟨decide_eq_true h, List.all_eq_true.2 fun j hj => ?_⟩
  by_cases h5 : 2 ≤ j
  · by_cases h6 : (j : Int) < p
    · have := h3 j h5 h6; simp [h5, h6, this]
    · simp [h6]
  · simp [h5]
theorem qck {p : Int} (h : ¬(2 ≤ p ∧ p ≤ 97)) : w9 p = false := by
  unfold w9; rw [decide_eq_false h, Bool.false_and]
theorem qiz (p : Int) : Am.Fn Try.prog 137 [.int .i64 p] [] (fun v H' => v = .bool (w9 p) ∧ H' = []) := by
  refine Am.Fn.jd (R := fun v => v = _) qmc mixed qkd (by simp) (by simp) ?_
  simp (maxSteps := 3000000) only [qaf, qa, zZ, ↓qo, ↓reduceIte, reduceCtorEq, nA, nM, nS, nE, nL, nD]; try simp only [qa, zY]
  refine WA.jn qmc (fun s => ∃ k : Nat, s = ⟨[(3, .int .i64 k), (0, .int .i64 p)], []⟩ ∧ 2 ≤ k ∧ k ≤ 100 ∧ ∀ j : Nat, 2 ≤ j → j < k → (j : Int) < p → p.tmod j ≠ 0) (fun s => match get s.env 3 with | .int _ k => (100 - k).toNat | _ => 0) ⟨_, qz.qx [3, 0], 2, rfl, by omega, by omega, by intros; omega⟩ ?_
  rintro s ⟨k, rfl, h1, h2, h3⟩
  simp (maxSteps := 3000000) only [Yw, Yz, qga, G7, j7, qa, zZ, ↓qo, ↓reduceIte, reduceCtorEq, nA, nM, nS, nE, nL, nD]; try simp only [qa, zY]
  refine ⟨fun h4 => ⟨fun h5 => ⟨by omega, fun h6 => ?_, fun h6 => ⟨_, qz.qx [3, 0], ⟨k + 1, ?_, by omega, by omega, ?_⟩, ?_⟩⟩, fun h5 => ?_⟩, fun h4 => ?_⟩
  · exact (qc7 h1 (by omega) h4 h6).symm
  · simp only [qx, zj, reduceIte, reduceCtorEq, Nat.reduceEqDiff]
    have : qu .i64 ((k : Int) + 1) = ((k + 1 : Nat) : Int) := by rw [wrap64 (by omega) (by omega)]; rfl
    rw [this]
  · intro j h7 h8 h9
    by_cases h10 : j = k
    · subst h10; exact h6
    · exact h3 j h7 (by omega) h9
  · simp only [qx, zj, reduceIte, reduceCtorEq, Nat.reduceEqDiff]
    have : qu .i64 ((k : Int) + 1) = ((k + 1 : Nat) : Int) := by rw [wrap64 (by omega) (by omega)]; rfl
    rw [this]; omega
  · rw [qck (by omega)]; simp; omega
  · by_cases h : 2 ≤ p ∧ p ≤ 97
    · rw [qgb h fun j a b => h3 j a (by omega) b]; simp [h]
    · rw [qck h]; simp [h]
theorem qk6 : ((List.range 98).all fun p => (List.range 11).all fun k => !decide (p < k * k ∧ 2 ≤ p) || !((List.range k).all fun j => !decide (2 ≤ j) || p % j != 0) || (List.range p).all fun j => !decide (2 ≤ j) || p % j != 0) = true := by decide +kernel
theorem qpa {p : Int} {k : Nat} (h : 2 ≤ p ∧ p ≤ 97) (hk : k ≤ 10) (hkp : p < (k : Int) * k) (h3 : ∀ j : Nat, 2 ≤ j → j < k → p.tmod j ≠ 0) : w9 p = true := by
  obtain ⟨q, rfl⟩ : ∃ q : Nat, p = q := ⟨p.toNat, by omega⟩
  have e : ∀ j : Nat, ((q : Int).tmod j = 0) ↔ q % j = 0 := fun j => by
    rw [← Int.ofNat_tmod]; omega
  have h4 := List.all_eq_true.1 (List.all_eq_true.1 qk6 q (List.mem_range.2 (by omega))) k (List.mem_range.2 (by omega))
  have h5 : q < k * k := by
    have : ((k * k : Nat) : Int) = (k : Int) * k := by simp
    omega
  simp only [Bool.or_eq_true, Bool.not_eq_true', decide_eq_false_iff_not] at h4
  rcases h4 with (h4 | h4) | h4
  · exact absurd ⟨h5, by omega⟩ h4
  · exfalso
    rw [List.all_eq_false] at h4
    obtain ⟨j, hj, h6⟩ := h4
    have hj := List.mem_range.1 hj
    apply h6
    by_cases h7 : 2 ≤ j
    · have := h3 j h7 hj
      rw [Ne, e] at this
      simp [this]
    · simp [h7]
  · refine qgb h fun j h6 h7 => ?_
    rw [Ne, e]
    have := List.all_eq_true.1 h4 j (List.mem_range.2 (by omega))
    simpa [h6] using this
theorem qkk (p : Int) : Am.Fn Try.prog 120 [.int .i64 p] [] (fun v H' => v = .bool (w9 p) ∧ H' = []) := by
  refine Am.Fn.jd (R := fun v => v = _) qmc mixed qmw (by simp) (by simp) ?_
  simp (maxSteps := 3000000) only [qcq, qga, G7, j7, qa, zZ, ↓qo, ↓reduceIte, reduceCtorEq, nA, nM, nS, nE, nL, nD]; try simp only [qa, zY]
  refine ⟨fun h => (qck h).symm, fun h => ?_⟩
  refine WA.jn qmc (fun s => ∃ k : Nat, s = ⟨[(3, .int .i64 k), (0, .int .i64 p)], []⟩ ∧ 2 ≤ k ∧ k ≤ 10 ∧ ∀ j : Nat, 2 ≤ j → j < k → p.tmod j ≠ 0) (fun s => match get s.env 3 with | .int _ k => (100 - k).toNat | _ => 0) ⟨_, qz.qx [3, 0], 2, rfl, by omega, by omega, by intros; omega⟩ ?_
  rintro s ⟨k, rfl, h1, h2, h3⟩
  have hw : qu .i64 ((k : Int) + 1) = ((k + 1 : Nat) : Int) := by rw [wrap64 (by omega) (by omega)]; rfl
  have hm : qu .i64 ((k : Int) * k) = ((k * k : Nat) : Int) := by
    have : k * k ≤ 10 * 10 := Nat.mul_le_mul h2 h2
    rw [← Int.natCast_mul]; exact yf (by omega)
  simp (maxSteps := 3000000) only [Bc, Bo, hm, hw, qx, qa, zZ, ↓qo, ↓reduceIte, reduceCtorEq, nA, nM, nS, nE, nL, nD]; try simp only [qa, zY]
  have hkk : k < 10 ∨ k = 10 := by omega
  refine ⟨fun h4 => ⟨by omega, fun h6 => ?_, fun h6 => ⟨_, qz.qx [3, 0], ⟨k + 1, rfl, by omega, ?_, ?_⟩, ?_⟩⟩, fun h4 => ?_⟩
  · have : k * 2 ≤ k * k := Nat.mul_le_mul_left k h1
    exact (qc7 h1 (by omega) (by omega) h6).symm
  · rcases hkk with e | e
    · omega
    · subst e; omega
  · intro j h7 h8
    by_cases h10 : j = k
    · subst h10; exact h6
    · exact h3 j h7 (by omega)
  · simp only [qx, zj, reduceIte, reduceCtorEq, Nat.reduceEqDiff]
    omega
  · rw [qpa h h2 (by rw [← Int.natCast_mul]; omega) h3]
theorem qfe {f : FuncId} (h : ∀ p, Am.Fn Try.prog f [.int .i64 p] [] (fun v H' => v = .bool (w9 p) ∧ H' = [])) : Am.Callee Try.prog f (qm vq) :=
  Am.Callee.plain fun xs v he => by
    unfold vq at he
    split at he
    · cases he; exact ⟨rfl, rfl, h _⟩
    · cases he
theorem quh : Am.Callee Try.prog 76 (qm U9) :=
  Am.Callee.plain fun xs v he => by
    unfold U9 at he
    split at he
    · obtain ⟨h1, he⟩ := ql he
      cases he; exact ⟨rfl, rfl, qvf _ _ h1⟩
    · cases he
def B2 : za := (((B1.put 120 (qm vq)).put 137 (qm vq)).put 76 (qm U9))
theorem q18 : qn Try.prog B2 := (((qmc.put (qfe qkk)).put (qfe qiz)).put (quh))
theorem qqc : B2 71 = some (qm j7) := rfl
theorem qgw : B2 66 = some (qm j7) := rfl
theorem qd1 : B2 120 = some (qm vq) := rfl
theorem qkl {p : Int} (h : w9 p = true) : 2 ≤ p ∧ p ≤ 97 := by
  unfold w9 at h
  rw [Bool.and_eq_true] at h
  exact of_decide_eq_true h.1
theorem qkp (p c : Int) : Am.Fn Try.prog 94 [.int .i64 p, .int .i64 c] [] (fun v H' => v = .bool (w9 p && decide (0 ≤ c ∧ c ≤ p - 1)) ∧ H' = []) := by
  refine Am.Fn.jd (R := fun v => v = _) q18 mixed qmg (by simp) (by simp) ?_
  simp (maxSteps := 3000000) only [qdu, qqc, qgw, qd1, j7, vq, qa, zZ, ↓qo, ↓reduceIte, reduceCtorEq, nA, nM, nS, nE, nL, nD]; try simp only [qa, zY]
  refine ⟨fun h => ?_, fun h => ?_⟩
  · have := qkl h
    rw [h, wrap64 (by omega) (by omega)]; rfl
  · rw [h]; rfl
theorem qln : Am.Callee Try.prog 94 (qm vu) :=
  Am.Callee.plain fun xs v he => by
    unfold vu at he
    split at he
    · cases he; exact ⟨rfl, rfl, qkp _ _⟩
    · cases he
def B3 : za := (B2.put 94 (qm vu))
theorem q1z : qn Try.prog B3 := (q18.put (qln))
end Go.Proofs.Ytfhckbbgmblhbaa
namespace Go.Proofs.Ytfhckbbgmblhbaa
open Go.Am Go.Dia
open Nat renaming reduceAdd → nA, reduceMul → nM, reduceSub → nS, reduceEqDiff → nE, reduceLT → nL, reduceLeDiff → nD, reduceBEq → nB
open Int renaming reduceEq → iE, reduceNe → iN, reduceBEq → iB, reduceBNe → iC, reduceLT → iL, reduceLE → iD, reduceAdd → iA, reduceSub → iS, reduceMul → iM
set_option linter.unusedSimpArgs false
set_option linter.unusedVariables false
set_option maxRecDepth 4000
def G5 : AC := .seq (.region [oI 2 0]) (.seq (.region [oM 3 0,o0 4 (.ju (.t 3)),oF 5 0 4,oL 6 5,oM 2 6]) .ret)
theorem qhf : zr Try.prog 168 = some ⟨7, G5, [.slot 2]⟩ := by kernel_rfl
def Xw : AC := .seq (.region [oP 12 .lss 11 10]) (.seq (.cond 12 .skip (.exit 0)) (.seq (.block 1 (.seq (.region [oM 13 11,oM 5 13]) (.seq (.draw false [oM 14 3,oM 15 0,oM 16 3,oM 17 5,o0 19 (.ju (.t 15)),oF 20 1 19,oM 25 5,oC 18 169 [.t 16,.t 17],o0 21 (.xp 16 1 (.t 20) (.t 18)),oL 22 21,o0 23 (.conv .i64 (.t 22)),oC 24 169 [.t 14,.t 23],oP 26 .gtr 24 25]) (.cond 26 (.region [oM 27 4,o0 28 (.ga 1 [.int .u8 0] [(0,1,(.c (.int .u8 40)))]),o0 29 (.append 1 1 (.t 27) (.t 28)),oM 4 29]) (.region [oM 30 4,o0 31 (.ga 1 [.int .u8 0] [(0,1,(.c (.int .u8 41)))]),o0 32 (.append 1 1 (.t 30) (.t 31)),oM 4 32]))))) (.region [oK 33 .add 11 1,oM 11 33])))
def X4 : AC := .seq (.region [oM 34 4,o0 35 (.b2s (.t 34)),oM 2 35]) .ret
def Wd : AC := .seq (.region [o0 2 (.mov (.c (.str [])))]) (.seq (.region [oM 6 0,oC 7 168 [.t 6],o0 8 (.ga 0 [] []),oM 3 7,oM 4 8]) (.seq (.seq (.region [oM 9 3,o0 10 (.bin .mul (.c (.int .i64 2)) (.t 9)),oI 11 0]) (.block 0 (.loop Xw))) X4))
theorem qcl : zr Try.prog 142 = some ⟨36, Wd, [.slot 2]⟩ := by kernel_rfl
def Bg : AC := .seq (.seq (.region [oM 7 4,oF 8 0 1,oL 9 8,o0 10 (.bin .mul (.c (.int .i64 2)) (.t 9)),oP 11 .lss 7 10]) (.cond 11 .skip (.exit 0))) (.seq (.block 1 (.seq (.region [oF 14 0 1,oL 15 14,oM 16 4,oC 17 165 [.t 15,.t 16],oM 5 17]) (.seq (.draw false [oF 18 0 1,oL 19 18,oM 20 5,oF 21 1 1,o0 22 (.xp 16 1 (.t 21) (.t 20)),oL 23 22,o0 24 (.conv .i64 (.t 23)),oM 26 4,oC 25 165 [.t 19,.t 24],oP 27 .gtr 25 26]) (.cond 27 (.region [oM 28 3,o0 29 (.ga 1 [.int .u8 0] [(0,1,(.c (.int .u8 40)))]),o0 30 (.append 1 1 (.t 28) (.t 29)),oM 3 30]) (.region [oM 31 3,o0 32 (.ga 1 [.int .u8 0] [(0,1,(.c (.int .u8 41)))]),o0 33 (.append 1 1 (.t 31) (.t 32)),oM 3 33]))))) (.region [oM 12 4,oK 13 .add 12 1,oM 4 13]))
def Bi : AC := .seq (.region [oM 34 3,o0 35 (.b2s (.t 34)),oM 2 35]) .ret
def qdl : AC := .seq (.region [o0 1 (.box (.t 0)),o0 2 (.mov (.c (.str [])))]) (.seq (.region [o0 6 (.ga 0 [] []),oM 3 6]) (.seq (.seq (.region [oI 4 0]) (.block 0 (.loop Bg))) Bi))
theorem qme : zr Try.prog 150 = some ⟨36, qdl, [.slot 2]⟩ := by kernel_rfl
def okD (m : List Nat) : Prop := m.length = 16 ∧ ∀ x, x ∈ m → x < 256
theorem okD.get {m : List Nat} (h : okD m) (i : Nat) : m.getD i 0 < 256 := by
  rw [List.getD_eq_getElem?_getD]
  cases e : m[i]? with
  | none => simp
  | some x => exact h.2 x (List.mem_of_getElem? e)
def bytesOf : List AV → Option (List Nat)
  | [] => some []
  | .int .u8 x :: r => if 0 ≤ x ∧ x < 256 then (match bytesOf r with
    | some l => some (x.toNat :: l)
    | none => none) else none
  | _ => none
theorem Z6 : ∀ {m : List Nat}, (∀ x, x ∈ m → x < 256) → bytesOf (u8s m) = some m
  | [], _ => rfl
  | x :: m, h => by
    have h1 := Z6 (m := m) fun y hy => h y (List.mem_cons_of_mem _ hy)
    have h2 := h x (by simp)
    simp only [u8s, List.map_cons, bytesOf] at h1 ⊢
    rw [if_pos (by omega), h1]
    simp
theorem Qt : ∀ {l : List AV} {m : List Nat}, bytesOf l = some m → l = u8s m ∧ ∀ x, x ∈ m → x < 256
  | [], m, h => by cases h; exact ⟨rfl, by simp⟩
  | a :: l, m, h => by
    cases a <;> (try (simp only [bytesOf, reduceCtorEq] at h; done))
    rename_i k x
    cases k <;> (try (simp only [bytesOf, reduceCtorEq] at h; done))
    simp only [bytesOf] at h
    split at h
    · rename_i hx
      split at h
      · rename_i r hr
        cases h
        obtain ⟨h1, h2⟩ := Qt hr
        refine ⟨?_, fun y hy => ?_⟩
        · simp only [u8s, List.map_cons, List.cons.injEq, AV.int.injEq, true_and]
          exact ⟨by omega, h1⟩
        · rcases List.mem_cons.1 hy with rfl | hy
          · omega
          · exact h2 y hy
      · cases h
    · cases h
def ui : List AV → Option (Int × List Nat)
  | .int .i64 n :: r => match bytesOf r with
    | some m => if m.length = 16 then some (n, m) else none
    | none => none
  | _ => none
theorem qq {n : Int} {m : List Nat} (h : okD m) : ui (dia n m) = some (n, m) := by
  simp only [dia, ui, Z6 h.2, h.1, if_true]
theorem zp {l : List AV} {n : Int} {m : List Nat} (h : ui l = some (n, m)) : l = dia n m ∧ okD m := by
  unfold ui at h
  split at h
  · split at h
    · rename_i hm
      obtain ⟨h1, h2⟩ := Qt hm
      split at h
      · rename_i h3; cases h; exact ⟨by rw [h1]; rfl, h3, h2⟩
      · cases h
    · cases h
  · cases h
theorem q5j (n : Int) : Am.Fn Try.prog 168 [.ptr 0 0] [.ro [.int .i64 n]] (fun v H' => v = .int .i64 n ∧ H' = [.ro [.int .i64 n]]) := by
  refine Am.Fn.jd (R := fun v => v = _) q1z mixed qhf (by simp) (by intro j o h; cases j <;> simp at h; subst h; exact ⟨trivial, trivial⟩) ?_
  simp (maxSteps := 3000000) only [G5, rd, List.getElem?_cons_zero, qa, zZ, ↓qo, ↓reduceIte, reduceCtorEq, nA, nM, nS, nE, nL, nD]; try simp only [qa, zY]
  exact ⟨_, rfl⟩
def g_n : List AV → List AV → Option AV
  | [.int .i64 n], [] => some (.int .i64 n)
  | _, _ => none
theorem q40 : Am.Callee Try.prog 168 (Z4 1 g_n) :=
  Am.Callee.read fun l xs v hl he => by
    unfold g_n at he
    split at he
    · cases he; exact ⟨rfl, rfl, rfl, q5j _⟩
    · cases he
theorem qib {n : Int} {m : List Nat} : List.take 1 (List.drop 0 (dia n m)) = [.int .i64 n] := rfl
def B4 : za := (B3.put 168 (Z4 1 g_n))
theorem qmk : qn Try.prog B4 := (q1z.put (q40))
theorem Xk : B4 169 = some (qm j8) := rfl
theorem Zn : B4 165 = some (qm j8) := rfl
theorem Q8 : B4 168 = some (Z4 1 g_n) := rfl
theorem gn {n k : Nat} (h : k < 2 * n) : Xv n k = (place n k : Nat) := by
  unfold Xv place; split <;> split <;> omega
theorem Yd {n x k : Nat} : ((k : Int) < Xv n x) ↔ (k < place n x) := by
  unfold Xv place; split <;> split <;> omega
theorem jb {x : Nat} (h : x < 1000) : br (x : Int) := by unfold br; omega
theorem ku {l : List AV} (h : AV.zb l = true) : ∀ (j : Nat) (o : AO), [AO.ro l][j]? = some o → o.under [AO.ro l].length := by
  intro j o e
  cases j with
  | zero => simp only [List.getElem?_cons_zero, Option.some.injEq] at e; subst e; exact qh _ _ h
  | succ j => simp at e
def Ye (n : Nat) (m : List Nat) : List Nat := (List.range (2 * n)).map fun k => if k < place n (m.getD (place n k) 0) then 40 else 41
theorem qmq (n : Nat) (m : List Nat) : (Ye n m).map (fun x => UInt8.ofNat x) = xm n m := by
  simp only [Ye, xm, List.map_map]
  refine List.map_congr_left fun k _ => ?_
  simp only [Function.comp]
  split <;> rfl
theorem gf (n : Nat) (m : List Nat) : (Ye n m).length = 2 * n := by simp [Ye]
theorem ql9 {n : Nat} {m : List Nat} {k : Nat} (h : k < 2 * n) : (Ye n m).take (k + 1) = (Ye n m).take k ++ [if k < place n (m.getD (place n k) 0) then 40 else 41] := by
  rw [List.take_add_one]
  congr 1
  simp [Ye, h]
theorem qm2 {l : List AV} {k : Nat} (h : l.length ≤ k) : List.take k (List.drop 0 l) = l := by rw [List.drop_zero, List.take_of_length_le h]
theorem qvj (n : Nat) (m : List Nat) (hn : n ≤ 8) (hm : okD m) : Am.Fn Try.prog 142 [.ptr 0 0] [.ro (dia n m)] (fun v H' => v = .str (xm n m) ∧ H' = [.ro (dia n m)]) := by
  refine Am.Fn.jd (R := fun v => v = _) qmk mixed qcl (by simp) (ku (qe _ _)) ?_
  have h2n : qu .i64 (2 * (n : Int)) = ((2 * n : Nat) : Int) := by rw [wrap64 (by omega) (by omega)]; simp
  simp (maxSteps := 3000000) only [Wd, Xk, Zn, Q8, g_n, j8, rd, List.getElem?_cons_zero, qib, qb, hm.1, h2n, vx, qa, zZ, ↓qo, ↓reduceIte, reduceCtorEq, nA, nM, nS, nE, nL, nD]; try simp only [qa, zY]
  refine WA.jn qmk (fun s => ∃ k : Nat, s = ⟨[(11, .int .i64 k), (10, .int .i64 ((2 * n : Nat) : Int)), (4, .slc 1 0 k false 0), (3, .int .i64 n), (0, .ptr 0 0)], [.ro (dia n m), .vec 1 (u8s ((Ye n m).take k))]⟩ ∧ k ≤ 2 * n)
    (fun s => match get s.env 11 with | .int _ k => (100 - k).toNat | _ => 0) ⟨_, qz.trans (qz.qx [11, 10, 4, 3, 0]) (qz.vec 1 0 1 (by decide) rfl rfl ?_ ?_), 0, ?_, by omega⟩ ?_
  · simp only [qx, zj, zV, ↓reduceIte, nE, reduceCtorEq, nB]
  · simp only [zV, ↓reduceIte, nE, reduceCtorEq, nB]
  · simp only [qx, zj, List.take_zero, zV, ↓reduceIte, nE, reduceCtorEq, nB]; rfl
  rintro s ⟨k, rfl, hk⟩
  have hw : qu .i64 ((k : Int) + 1) = ((k + 1 : Nat) : Int) := by rw [wrap64 (by omega) (by omega)]; rfl
  simp (maxSteps := 3000000) only [Xw, X4, hw, Xk, Zn, Q8, g_n, j8, rd, List.getElem?_cons_zero, List.getElem?_cons_succ, vx, src, qa, zZ, ↓qo, ↓reduceIte, reduceCtorEq, nA, nM, nS, nE, nL, nD]; try simp only [qa, zY]
  refine ⟨fun h => ?_, fun h => ?_⟩
  · have hk' : k < 2 * n := by omega
    have hp := q9 hk'
    have hg := hm.get (place n k)
    have h1 : qu .i64 ((m.getD (place n k) 0 : Nat) : Int) = (m.getD (place n k) 0 : Nat) := yf (by omega)
    have hlt : (List.take k (Ye n m)).length = k := by rw [List.length_take, gf]; omega
    have hap : ∀ c : Nat, c = (if k < place n (m.getD (place n k) 0) then 40 else 41) → List.take k (u8s (List.take k (Ye n m))) ++ [AV.int .u8 (c : Int)] = u8s (List.take (k + 1) (Ye n m)) := by
      intro c hc
      rw [List.take_of_length_le (by rw [xo, hlt]; exact Nat.le_refl _), ql9 hk', ← hc, ← qgd]; rfl
    simp (maxSteps := 3000000) only [gn hk', h1, qa, zZ, ↓qo, ↓reduceIte, reduceCtorEq, nA, nM, nS, nE, nL, nD]; try simp only [qa, zY]
    refine ⟨⟨jb (by omega), jb (by omega)⟩, ⟨by omega, by omega⟩, by rw [hm.1]; omega, ⟨jb (by omega), jb (by omega)⟩, fun h2 => ?_, fun h2 => ?_⟩
    · have e := hap 40 (by rw [if_pos (Yd.1 h2)])
      simp only [Int.cast_ofNat_Int] at e
      refine ⟨by decide, ⟨by rw [xo, hlt]; exact Nat.le_refl _, by decide, by omega⟩, _, qz.ve [0, 3] [11, 10, 4, 3, 0] ⟨by decide, ?_⟩ ?_, ⟨k + 1, ?_, by omega⟩, ?_⟩
      · simp only [over, List.take_zero, List.length_cons, List.length_nil, List.drop_succ_cons, List.drop_nil, List.take_succ_cons, List.drop_zero, e, zK, ↓reduceIte, reduceCtorEq, nE, nB, nA]
      · simp only [zK, ↓reduceIte, reduceCtorEq, nE, nB, nA]
      · simp only [over, List.take_zero, List.length_cons, List.length_nil, List.drop_succ_cons, List.drop_nil, List.take_succ_cons, List.drop_zero, e, zL, ↓reduceIte, reduceCtorEq, nE, nA]
      · simp only [zL, ↓reduceIte, reduceCtorEq, nE, nA]
        omega
    · have e := hap 41 (by rw [if_neg fun h => h2 (Yd.2 h)])
      simp only [Int.cast_ofNat_Int] at e
      refine ⟨by decide, ⟨by rw [xo, hlt]; exact Nat.le_refl _, by decide, by omega⟩, _, qz.ve [0, 3] [11, 10, 4, 3, 0] ⟨by decide, ?_⟩ ?_, ⟨k + 1, ?_, by omega⟩, ?_⟩
      · simp only [over, List.take_zero, List.length_cons, List.length_nil, List.drop_succ_cons, List.drop_nil, List.take_succ_cons, List.drop_zero, e, zK, ↓reduceIte, reduceCtorEq, nE, nB, nA]
      · simp only [zK, ↓reduceIte, reduceCtorEq, nE, nB, nA]
      · simp only [over, List.take_zero, List.length_cons, List.length_nil, List.drop_succ_cons, List.drop_nil, List.take_succ_cons, List.drop_zero, e, zL, ↓reduceIte, reduceCtorEq, nE, nA]
      · simp only [zL, ↓reduceIte, reduceCtorEq, nE, nA]
        omega
  · have hkn : k = 2 * n := by omega
    have hall : List.take k (Ye n m) = Ye n m := by rw [List.take_of_length_le]; rw [gf]; omega
    rw [hall, qm2 (by rw [xo, gf]; omega), Br, zc, qmq]
    simp (maxSteps := 3000000) only [List.set_cons_zero, List.set_cons_succ, qa, zZ, ↓qo, ↓reduceIte, reduceCtorEq, nA, nM, nS, nE, nL, nD]; try simp only [qa, zY]
    exact ⟨by rw [xo, gf]; omega, _, rfl⟩
theorem qlq (n : Nat) (m : List Nat) (hn : n ≤ 8) (hm : okD m) : Am.Fn Try.prog 150 [.agg (dia n m)] [] (fun v H' => v = .str (xm n m) ∧ H' = []) := by
  refine Am.Fn.jd (R := fun v => v = _) qmk mixed qme (by simp) (by simp) ?_
  have h2n : qu .i64 (2 * (n : Int)) = ((2 * n : Nat) : Int) := by rw [wrap64 (by omega) (by omega)]; simp
  simp (maxSteps := 3000000) only [qdl, vx, qa, zZ, ↓qo, ↓reduceIte, reduceCtorEq, nA, nM, nS, nE, nL, nD]; try simp only [qa, zY]
  refine WA.jn qmk (fun s => ∃ k : Nat, s = ⟨[(4, .int .i64 k), (3, .slc 1 0 k false 0), (1, .ptr 0 0)], [.cells (dia n m), .vec 1 (u8s ((Ye n m).take k))]⟩ ∧ k ≤ 2 * n)
    (fun s => match get s.env 4 with | .int _ k => (100 - k).toNat | _ => 0) ⟨_, qz.trans (qz.qx [4, 3, 1]) (qz.vec 1 0 1 (by decide) rfl rfl ?_ ?_), 0, ?_, by omega⟩ ?_
  · simp only [qx, zj, zV, ↓reduceIte, nE, reduceCtorEq, nB]
  · simp only [zV, ↓reduceIte, nE, reduceCtorEq, nB]
  · simp only [qx, zj, List.take_zero, zV, ↓reduceIte, nE, reduceCtorEq, nB]; rfl
  rintro s ⟨k, rfl, hk⟩
  have hw : qu .i64 ((k : Int) + 1) = ((k + 1 : Nat) : Int) := by rw [wrap64 (by omega) (by omega)]; rfl
  simp (maxSteps := 3000000) only [Bg, Bi, hw, h2n, vg, Xk, Zn, Q8, g_n, j8, rd, List.getElem?_cons_zero, List.getElem?_cons_succ, vx, src, qa, zZ, ↓qo, ↓reduceIte, reduceCtorEq, nA, nM, nS, nE, nL, nD]; try simp only [qa, zY]
  refine ⟨fun h => ?_, fun h => ?_⟩
  · have hk' : k < 2 * n := by omega
    have hp := q9 hk'
    have hg := hm.get (place n k)
    have h1 : qu .i64 ((m.getD (place n k) 0 : Nat) : Int) = (m.getD (place n k) 0 : Nat) := yf (by omega)
    have hlt : (List.take k (Ye n m)).length = k := by rw [List.length_take, gf]; omega
    have hap : ∀ c : Nat, c = (if k < place n (m.getD (place n k) 0) then 40 else 41) → List.take k (u8s (List.take k (Ye n m))) ++ [AV.int .u8 (c : Int)] = u8s (List.take (k + 1) (Ye n m)) := by
      intro c hc
      rw [List.take_of_length_le (by rw [xo, hlt]; exact Nat.le_refl _), ql9 hk', ← hc, ← qgd]; rfl
    simp (maxSteps := 3000000) only [gn hk', h1, qa, zZ, ↓qo, ↓reduceIte, reduceCtorEq, nA, nM, nS, nE, nL, nD]; try simp only [qa, zY]
    refine ⟨⟨jb (by omega), jb (by omega)⟩, ⟨by omega, by omega⟩, by rw [hm.1]; omega, ⟨jb (by omega), jb (by omega)⟩, fun h2 => ?_, fun h2 => ?_⟩
    · have e := hap 40 (by rw [if_pos (Yd.1 h2)])
      simp only [Int.cast_ofNat_Int] at e
      refine ⟨by decide, ⟨by rw [xo, hlt]; exact Nat.le_refl _, by decide, by omega⟩, _, qz.ve [0, 3] [4, 3, 1] ⟨by decide, ?_⟩ ?_, ⟨k + 1, ?_, by omega⟩, ?_⟩
      · simp only [over, List.take_zero, List.length_cons, List.length_nil, List.drop_succ_cons, List.drop_nil, List.take_succ_cons, List.drop_zero, e, zK, ↓reduceIte, reduceCtorEq, nE, nB, nA]
      · simp only [zK, ↓reduceIte, reduceCtorEq, nE, nB, nA]
      · simp only [over, List.take_zero, List.length_cons, List.length_nil, List.drop_succ_cons, List.drop_nil, List.take_succ_cons, List.drop_zero, e, zL, ↓reduceIte, reduceCtorEq, nE, nA]
      · simp only [zL, ↓reduceIte, reduceCtorEq, nE, nA]
        omega
    · have e := hap 41 (by rw [if_neg fun h => h2 (Yd.2 h)])
      simp only [Int.cast_ofNat_Int] at e
      refine ⟨by decide, ⟨by rw [xo, hlt]; exact Nat.le_refl _, by decide, by omega⟩, _, qz.ve [0, 3] [4, 3, 1] ⟨by decide, ?_⟩ ?_, ⟨k + 1, ?_, by omega⟩, ?_⟩
      · simp only [over, List.take_zero, List.length_cons, List.length_nil, List.drop_succ_cons, List.drop_nil, List.take_succ_cons, List.drop_zero, e, zK, ↓reduceIte, reduceCtorEq, nE, nB, nA]
      · simp only [zK, ↓reduceIte, reduceCtorEq, nE, nB, nA]
      · simp only [over, List.take_zero, List.length_cons, List.length_nil, List.drop_succ_cons, List.drop_nil, List.take_succ_cons, List.drop_zero, e, zL, ↓reduceIte, reduceCtorEq, nE, nA]
      · simp only [zL, ↓reduceIte, reduceCtorEq, nE, nA]
        omega
  · have hkn : k = 2 * n := by omega
    have hall : List.take k (Ye n m) = Ye n m := by rw [List.take_of_length_le]; rw [gf]; omega
    rw [hall, qm2 (by rw [xo, gf]; omega), Br, zc, qmq]
    simp (maxSteps := 3000000) only [List.set_cons_zero, List.set_cons_succ, qa, zZ, ↓qo, ↓reduceIte, reduceCtorEq, nA, nM, nS, nE, nL, nD]; try simp only [qa, zY]
    rw [xo, gf]; omega
end Go.Proofs.Ytfhckbbgmblhbaa
namespace Go.Proofs.Ytfhckbbgmblhbaa
open Go.Am Go.Dia
open Nat renaming reduceAdd → nA, reduceMul → nM, reduceSub → nS, reduceEqDiff → nE, reduceLT → nL, reduceLeDiff → nD, reduceBEq → nB
open Int renaming reduceEq → iE, reduceNe → iN, reduceBEq → iB, reduceBNe → iC, reduceLT → iL, reduceLE → iD, reduceAdd → iA, reduceSub → iS, reduceMul → iM
set_option linter.unusedSimpArgs false
set_option linter.unusedVariables false
set_option maxRecDepth 4000
set_option maxHeartbeats 4000000
def qdf : AC := .seq (.region [o0 2 (.box (.t 0)),oI 4 0,oI 5 0]) (.seq (.draw true [oF 8 0 2,oL 9 8,oM 10 1,oF 12 0 2,oL 13 12,oM 14 1,oF 15 1 2,o0 16 (.xp 16 1 (.t 15) (.t 14)),oL 17 16,o0 18 (.conv .i64 (.t 17)),oC 11 165 [.t 9,.t 10],oC 19 165 [.t 13,.t 18],oM 6 11,oM 7 19]) (.seq (.region [oM 20 6,oM 21 7,o0 22 (.Xj true (.t 20) (.t 21)),oM 23 6,oM 24 7,o0 25 (.Xj false (.t 23) (.t 24)),oM 4 22,oM 5 25]) .ret))
theorem ql7 : zr Try.prog 145 = some ⟨26, qdf, [.slot 4, .slot 5]⟩ := by kernel_rfl
def K9 : AC := .seq (.seq (.region [oM 17 4,oK 18 .lss 17 16]) (.cond 18 .skip (.exit 0))) (.seq (.block 1 (.seq (.region [oM 21 4,oF 22 1 1,o0 23 (.xp 16 1 (.t 22) (.t 21)),oL 24 23,o0 25 (.conv .i64 (.t 24)),oM 5 25]) (.seq (.seq (.region [oM 26 4,oM 27 3,o0 28 (.bin .mul (.c (.int .i64 2)) (.t 27)),oP 29 .geq 26 28]) (.cond 29 (.seq (.seq (.region [oM 30 5,oK 31 .neq 30 0]) (.cond 31 (.seq (.region [oB 2 false]) .ret) .skip)) (.exit 1)) .skip)) (.seq (.region [oM 32 5,oM 33 3,o0 34 (.bin .mul (.c (.int .i64 2)) (.t 33)),oP 35 .geq 32 34,oM 36 35,oG 37 36 false (.mov (.t 5)),oG 38 36 false (.mov (.t 4)),oG 39 36 false (.bin .eql (.t 37) (.t 38)),o0 40 (.pick (.t 36) (.c (.bool true)) (.t 39)),oM 41 40,oG 42 41 false (.mov (.t 5)),oG 43 41 false (.ym 1 (.t 1)),oG 44 41 false (.xp 16 1 (.t 43) (.t 42)),oG 45 41 false (.wy (.t 44)),oG 46 41 false (.conv .i64 (.t 45)),oG 47 41 false (.mov (.t 4)),oG 48 41 false (.bin .neq (.t 46) (.t 47)),o0 49 (.pick (.t 41) (.c (.bool true)) (.t 48))]) (.cond 49 (.seq (.region [oB 2 false]) .ret) .skip))))) (.region [oM 19 4,oK 20 .add 19 1,oM 4 20]))
def qbh : AC := .seq (.seq (.region [oM 62 9,oM 63 3,o0 64 (.bin .mul (.c (.int .i64 2)) (.t 63)),oP 65 .lss 62 64]) (.cond 65 .skip (.exit 4))) (.seq (.block 5 (.seq (.region [oN 69 17 1,oM 70 9,oC 71 145 [.t 69,.t 70],oM 68 71,oE 72 0 68,oE 73 1 68,oM 10 72,oM 11 73]) (.seq (.region [oM 74 7,oM 75 10,oP 76 .lss 74 75,oM 77 76,oG 78 77 true (.mov (.t 10)),oG 79 77 true (.mov (.t 8)),oG 80 77 true (.bin .lss (.t 78) (.t 79)),o0 81 (.pick (.t 77) (.t 80) (.c (.bool false))),oM 82 81,oG 83 82 true (.mov (.t 8)),oG 84 82 true (.mov (.t 11)),oG 85 82 true (.bin .lss (.t 83) (.t 84)),o0 86 (.pick (.t 82) (.t 85) (.c (.bool false)))]) (.cond 86 (.seq (.region [oB 2 false]) .ret) .skip)))) (.region [oM 66 9,oK 67 .add 66 1,oM 9 67]))
def qao : AC := .region [oM 54 6,oK 55 .add 54 1,oM 6 55]
def K6 : AC := .seq (.seq (.region [oM 50 6,oM 51 3,o0 52 (.bin .mul (.c (.int .i64 2)) (.t 51)),oP 53 .lss 50 52]) (.cond 53 .skip (.exit 2))) (.seq (.block 3 (.seq (.region [oN 57 17 1,oM 58 6,oC 59 145 [.t 57,.t 58],oM 56 59,oE 60 0 56,oE 61 1 56,oM 7 60,oM 8 61]) (.seq (.region [oI 9 0]) (.block 4 (.loop qbh))))) qao)
def qap : AC := .seq (.region [oB 2 true]) .ret
def qa8 : AC := .seq (.seq (.region [oI 6 0]) (.block 2 (.loop K6))) qap
def qil : AC := .seq (.region [o0 1 (.box (.t 0)),oB 2 false]) (.seq (.region [oF 12 0 1,oL 13 12,oM 3 13]) (.seq (.seq (.region [oM 14 3,oC 15 66 [.t 14,(.c (.int .i64 1)),(.c (.int .i64 8))],o0 16 (.un .not (.t 15))]) (.cond 16 (.seq (.region [oB 2 false]) .ret) .skip)) (.seq (.seq (.region [oI 4 0]) (.block 0 (.loop K9))) qa8)))
theorem qtm : zr Try.prog 91 = some ⟨87, qil, [.slot 2]⟩ := by kernel_rfl
def vj : List AV → List AV → Option AV := fun l xs => match ui l, xs with
  | some (n, m), [] => chk (0 ≤ n ∧ n ≤ 8) (some (.str (xm n.toNat m)))
  | _, _ => none
theorem qx1 : Am.Callee Try.prog 142 (Z4 17 vj) :=
  Am.Callee.read fun l xs v hl he => by
    unfold vj at he
    split at he
    · rename_i n m hd
      obtain ⟨h1, he⟩ := ql he
      cases he
      obtain ⟨rfl, hm⟩ := zp hd
      obtain ⟨k, rfl⟩ : ∃ k : Nat, n = k := ⟨n.toNat, by omega⟩
      exact ⟨qe _ _, rfl, rfl, by rw [Int.toNat_natCast]; exact qvj k m (by omega) hm⟩
    · cases he
def yl : List AV → Option AV
  | [.agg l] => match ui l with
    | some (n, m) => chk (0 ≤ n ∧ n ≤ 8) (some (.str (xm n.toNat m)))
    | none => none
  | _ => none
theorem qn1 : Am.Callee Try.prog 150 (qm yl) :=
  Am.Callee.plain fun xs v he => by
    unfold yl at he
    split at he
    · split at he
      · rename_i n m hd
        obtain ⟨h1, he⟩ := ql he
        cases he
        obtain ⟨rfl, hm⟩ := zp hd
        obtain ⟨k, rfl⟩ : ∃ k : Nat, n = k := ⟨n.toNat, by omega⟩
        exact ⟨by simp only [AV.zb, AV.zl, qe, Bool.and_self], rfl, by rw [Int.toNat_natCast]; exact qlq k m (by omega) hm⟩
      · cases he
    · cases he
def B5 : za := ((B4.put 142 (Z4 17 vj)).put 150 (qm yl))
theorem q17 : qn Try.prog B5 := ((qmk.put (qx1)).put (qn1))
theorem qgn : B5 66 = some (qm j7) := rfl
theorem qca : B5 165 = some (qm j8) := rfl
theorem qnj (n i : Nat) (m : List Nat) (hn : n ≤ 8) (hm : okD m) (hi : i < 2 * n) (ht : m.getD i 0 < 2 * n) :
    Am.Fn Try.prog 145 [.agg (dia n m), .int .i64 i] [] (fun v H' => v = .tup [.int .i64 (Vp n m i : Nat), .int .i64 (Vu n m i : Nat)] ∧ H' = []) := by
  refine Am.Fn.jd (R := fun v => v = _) q17 mixed ql7 (by simp) (by simp) ?_
  have hg := hm.get i
  have h1 : qu .i64 ((m.getD i 0 : Nat) : Int) = (m.getD i 0 : Nat) := yf (by omega)
  have hl : i < m.length := by rw [hm.1]; omega
  simp (maxSteps := 3000000) only [qdf, qgn, qca, j7, j8, rd, List.getElem?_cons_zero, List.getElem?_cons_succ, vg, Vm hl, Int.toNat_natCast, Nat.mul_one, h1, gn hi, gn ht, and_self, List.append_cancel_left_eq, List.self_eq_append_right, exists_eq, AV.tup.injEq, List.cons.injEq, AV.int.injEq, qa, zZ, ↓qo, ↓reduceIte, reduceCtorEq, nA, nM, nS, nE, nL, nD]; try simp only [qa, zY]
  refine ⟨⟨by omega, by omega⟩, hl, ⟨jb (by omega), jb (by omega)⟩, ⟨jb (by omega), jb (by omega)⟩, ?_, ?_⟩
  · unfold Vp; split <;> omega
  · unfold Vu; split <;> omega
def K5 : List AV → Option AV
  | [.agg l, .int .i64 i] => match ui l with
    | some (n, m) => chk ((0 ≤ n ∧ n ≤ 8) ∧ (0 ≤ i ∧ i < 2 * n) ∧ m.getD i.toNat 0 < 2 * n.toNat) (some (.tup [.int .i64 (Vp n.toNat m i.toNat : Nat), .int .i64 (Vu n.toNat m i.toNat : Nat)]))
    | none => none
  | _ => none
theorem qkz : Am.Callee Try.prog 145 (qm K5) :=
  Am.Callee.plain fun xs v he => by
    unfold K5 at he
    split at he
    · split at he
      · rename_i i _ n m hd
        obtain ⟨h1, he⟩ := ql he
        cases he
        obtain ⟨rfl, hm⟩ := zp hd
        obtain ⟨k, rfl⟩ : ∃ k : Nat, n = k := ⟨n.toNat, by omega⟩
        obtain ⟨j, rfl⟩ : ∃ j : Nat, i = j := ⟨i.toNat, by omega⟩
        simp only [Int.toNat_natCast] at h1 ⊢
        exact ⟨by simp only [AV.zb, AV.zl, qe, Bool.and_self], rfl, qnj k j m (by omega) hm (by omega) h1.2.2⟩
      · cases he
    · cases he
def B6 : za := (B5.put 145 (qm K5))
theorem qm3 : qn Try.prog B6 := (q17.put (qkz))
theorem V4 : B6 66 = some (qm j7) := rfl
theorem Zt : B6 165 = some (qm j8) := rfl
theorem Xt : B6 145 = some (qm K5) := rfl
theorem q09 {n : Int} {m : List Nat} (h : ¬(1 ≤ n ∧ n ≤ 8)) : isS n.toNat m = false := by
  unfold isS; rw [decide_eq_false (by omega)]; rfl
def Gx (n : Nat) (m : List Nat) (i : Nat) : Bool := if 2 * n ≤ i then m.getD i 0 == 0 else decide (m.getD i 0 < 2 * n ∧ m.getD i 0 ≠ i ∧ m.getD (m.getD i 0) 0 = i)
theorem qnk {n i : Nat} {m : List Nat} (h : 2 * n ≤ i) : Gx n m i = (m.getD i 0 == 0) := if_pos h
theorem qak {n i : Nat} {m : List Nat} (h : ¬2 * n ≤ i) : Gx n m i = decide (m.getD i 0 < 2 * n ∧ m.getD i 0 ≠ i ∧ m.getD (m.getD i 0) 0 = i) := if_neg h
def jx (n : Nat) (m : List Nat) (i k : Nat) : Bool := decide (Vp n m i < Vp n m k ∧ Vp n m k < Vu n m i ∧ Vu n m i < Vu n m k)
theorem qei {n : Nat} {m : List Nat} {i : Nat} (hi : i < 16) (h : Gx n m i = false) : isS n m = false := by
  unfold isS
  rw [Bool.and_eq_false_iff]; right
  rw [Bool.and_eq_false_iff]; left
  unfold qx0
  rw [List.all_eq_false]
  exact ⟨i, List.mem_range.2 hi, by unfold Gx at h; rw [h]; simp⟩
theorem q1q {n : Nat} {m : List Nat} {i k : Nat} (hi : i < 2 * n) (hk : k < 2 * n) (h : jx n m i k = true) : isS n m = false := by
  unfold isS
  rw [Bool.and_eq_false_iff]; right
  rw [Bool.and_eq_false_iff]; right
  unfold qq5
  rw [List.all_eq_false]
  refine ⟨i, List.mem_range.2 hi, ?_⟩
  rw [Bool.not_eq_true, List.all_eq_false]
  exact ⟨k, List.mem_range.2 hk, by unfold jx at h; rw [h]; simp⟩
theorem qz7 {n : Nat} {m : List Nat} (hn : 1 ≤ n ∧ n ≤ 8) (h1 : ∀ i, i < 16 → Gx n m i = true) (h2 : ∀ i, i < 2 * n → ∀ k, k < 2 * n → jx n m i k = false) : isS n m = true := by
  unfold isS
  rw [decide_eq_true hn, Bool.true_and, Bool.and_eq_true]
  refine ⟨List.all_eq_true.2 fun i hi => ?_, List.all_eq_true.2 fun i hi => List.all_eq_true.2 fun k hk => ?_⟩
  · exact h1 i (List.mem_range.1 hi)
  · have := h2 i (List.mem_range.1 hi) k (List.mem_range.1 hk)
    unfold jx at this; rw [this]; rfl
theorem qr0 (n : Int) (m : List Nat) (hm : okD m) : Am.Fn Try.prog 91 [.agg (dia n m)] [] (fun v H' => v = .bool (isS n.toNat m) ∧ H' = []) := by
  refine Am.Fn.jd (R := fun v => v = _) qm3 mixed qtm (by simp) (by simp) ?_
  simp (maxSteps := 3000000) only [qil, V4, Zt, Xt, K5, j7, j8, rd, List.getElem?_cons_zero, List.getElem?_cons_succ, vg, qa, zZ, ↓qo, ↓reduceIte, reduceCtorEq, nA, nM, nS, nE, nL, nD]; try simp only [qa, zY]
  refine ⟨fun h => (q09 h).symm, fun h => ?_⟩
  obtain ⟨n, rfl⟩ : ∃ k : Nat, n = k := ⟨n.toNat, by omega⟩
  simp only [Int.toNat_natCast]
  have hn : 1 ≤ n ∧ n ≤ 8 := by omega
  have h2n : qu .i64 (2 * (n : Int)) = ((2 * n : Nat) : Int) := by rw [wrap64 (by omega) (by omega)]; simp
  refine WA.jn qm3 (fun s => ∃ k : Nat, s = ⟨[(4, .int .i64 k), (3, .int .i64 n), (1, .ptr 0 0)], [.cells (dia n m)]⟩ ∧ k ≤ 16 ∧ ∀ i, i < k → Gx n m i = true)
    (fun s => match get s.env 4 with | .int _ k => (100 - k).toNat | _ => 0) ⟨_, qz.qx [4, 3, 1], 0, rfl, by omega, by intros; omega⟩ ?_
  rintro s ⟨k, rfl, hk, hc⟩
  have hw : qu .i64 ((k : Int) + 1) = ((k + 1 : Nat) : Int) := by rw [wrap64 (by omega) (by omega)]; rfl
  have hg := hm.get k
  have h1 : qu .i64 ((m.getD k 0 : Nat) : Int) = (m.getD k 0 : Nat) := yf (by omega)
  have hml := hm.1
  simp (maxSteps := 3000000) only [K9, hw, h2n, h1, hml, rd, List.getElem?_cons_zero, List.getElem?_cons_succ, qa, zZ, ↓qo, ↓reduceIte, reduceCtorEq, nA, nM, nS, nE, nL, nD]; try simp only [qa, zY]
  have hnext : Gx n m k = true → ∀ i, i < k + 1 → Gx n m i = true := fun hk1 i hi => by
    by_cases e : i = k
    · subst e; exact hk1
    · exact hc i (by omega)
  have htt := hm.get (m.getD k 0)
  refine ⟨fun h3 => ⟨⟨by omega, by omega⟩, by omega, fun h4 => ⟨fun h5 => ?_, fun h5 => ⟨_, qz.qx [4, 3, 1], ⟨k + 1, rfl, by omega, hnext ?_⟩, ?_⟩⟩,
    fun h4 => ⟨fun h5 => ⟨fun h6 => ⟨⟨by omega, by omega⟩, by omega, fun h7 => ?_, fun h7 => ⟨_, qz.qx [4, 3, 1], ⟨k + 1, rfl, by omega, hnext ?_⟩, ?_⟩⟩, fun h6 => ?_⟩, fun h5 => ?_⟩⟩, fun h3 => ?_⟩
  · refine (qei (i := k) (by omega) ?_).symm
    rw [qnk (by omega)]; exact beq_eq_false_iff_ne.2 (by omega)
  · rw [qnk (by omega)]; exact beq_iff_eq.2 (by omega)
  · simp only [zL, ↓reduceIte, reduceCtorEq, nE, nA]; omega
  · refine (qei (i := k) (by omega) ?_).symm
    rw [yf (by omega)] at h7
    rw [qak (by omega)]; exact decide_eq_false (by omega)
  · rw [yf (by omega)] at h7
    rw [qak (by omega)]; exact decide_eq_true (by omega)
  · simp only [zL, ↓reduceIte, reduceCtorEq, nE, nA]; omega
  · refine (qei (i := k) (by omega) ?_).symm
    rw [qak (by omega)]; exact decide_eq_false (by omega)
  · refine (qei (i := k) (by omega) ?_).symm
    rw [qak (by omega)]; exact decide_eq_false (by omega)
  have hc' : ∀ i, i < 16 → Gx n m i = true := fun i hi => hc i (by omega)
  have hto : ∀ i, i < 2 * n → m.getD i 0 < 2 * n := fun i hi => by
    have := hc' i (by omega)
    unfold Gx at this; rw [if_neg (by omega)] at this
    exact (of_decide_eq_true this).1
  clear hc hnext hw
  simp (maxSteps := 3000000) only [qa8, qa, zZ, ↓qo, ↓reduceIte, reduceCtorEq, nA, nM, nS, nE, nL, nD]; try simp only [qa, zY]
  refine WA.jn qm3 (fun s => ∃ i : Nat, s = ⟨[(6, .int .i64 i), (3, .int .i64 n), (1, .ptr 0 0)], [.cells (dia n m)]⟩ ∧ i ≤ 2 * n ∧ ∀ i', i' < i → ∀ k, k < 2 * n → jx n m i' k = false)
    (fun s => match get s.env 6 with | .int _ k => (100 - k).toNat | _ => 0) ⟨_, qz.qx [6, 3, 1], 0, rfl, by omega, by intros; omega⟩ ?_
  rintro s ⟨i, rfl, hi, hx⟩
  have hw : qu .i64 ((i : Int) + 1) = ((i + 1 : Nat) : Int) := by rw [wrap64 (by omega) (by omega)]; rfl
  simp (maxSteps := 3000000) only [K6, V4, Zt, Xt, K5, j7, j8, hw, h2n, qq hm, wb hml, qb, hml, rd, List.getElem?_cons_zero, List.getElem?_cons_succ, qa, zZ, ↓qo, ↓reduceIte, reduceCtorEq, nA, nM, nS, nE, nL, nD]; try simp only [qa, zY]
  refine ⟨fun h3 => ⟨⟨⟨by omega, by omega⟩, ⟨by omega, by omega⟩, hto i (by omega)⟩, ?_⟩, fun h3 => ?_⟩
  · have hi2 : i < 2 * n := by omega
    refine WA.jn qm3 (fun s => ∃ j : Nat, s = ⟨[(9, .int .i64 j), (8, .int .i64 (Vu n m i : Nat)), (7, .int .i64 (Vp n m i : Nat)), (6, .int .i64 i), (3, .int .i64 n), (1, .ptr 0 0)], [.cells (dia n m)]⟩ ∧ j ≤ 2 * n ∧ ∀ j', j' < j → jx n m i j' = false)
      (fun s => match get s.env 9 with | .int _ k => (100 - k).toNat | _ => 0) ⟨_, qz.qx [9, 8, 7, 6, 3, 1], 0, rfl, by omega, by intros; omega⟩ ?_
    rintro s ⟨j, rfl, hj, hy⟩
    have hw' : qu .i64 ((j : Int) + 1) = ((j + 1 : Nat) : Int) := by rw [wrap64 (by omega) (by omega)]; rfl
    simp (maxSteps := 3000000) only [qbh, qao, V4, Zt, Xt, K5, j7, j8, hw, hw', h2n, qq hm, wb hml, qb, hml, rd, List.getElem?_cons_zero, List.getElem?_cons_succ, qa, zZ, ↓qo, ↓reduceIte, reduceCtorEq, nA, nM, nS, nE, nL, nD]; try simp only [qa, zY]
    have hny : jx n m i j = false → ∀ j', j' < j + 1 → jx n m i j' = false := fun hk1 j' hi => by
      by_cases e : j' = j
      · subst e; exact hk1
      · exact hy j' (by omega)
    refine ⟨fun h4 => ⟨⟨⟨by omega, by omega⟩, ⟨by omega, by omega⟩, hto j (by omega)⟩, fun h5 => ⟨fun h6 => ⟨fun h7 => (q1q hi2 (by omega : j < 2 * n) (decide_eq_true (by omega))).symm, fun h7 => ?_⟩, fun h6 => ?_⟩, fun h5 => ?_⟩, fun h4 => ⟨_, qz.qx [6, 3, 1], ⟨i + 1, rfl, by omega, ?_⟩, ?_⟩⟩
    · refine ⟨_, qz.qx [9, 8, 7, 6, 3, 1], ⟨j + 1, rfl, by omega, hny (decide_eq_false (by omega))⟩, ?_⟩
      simp only [zL, ↓reduceIte, reduceCtorEq, nE, nA]; omega
    · refine ⟨_, qz.qx [9, 8, 7, 6, 3, 1], ⟨j + 1, rfl, by omega, hny (decide_eq_false (by omega))⟩, ?_⟩
      simp only [zL, ↓reduceIte, reduceCtorEq, nE, nA]; omega
    · refine ⟨_, qz.qx [9, 8, 7, 6, 3, 1], ⟨j + 1, rfl, by omega, hny (decide_eq_false (by omega))⟩, ?_⟩
      simp only [zL, ↓reduceIte, reduceCtorEq, nE, nA]; omega
    · intro i' hi' k hk
      by_cases e : i' = i
      · subst e; exact hy k (by omega)
      · exact hx i' (by omega) k hk
    · simp only [zL, ↓reduceIte, reduceCtorEq, nE, nA]; omega
  · simp (maxSteps := 3000000) only [qap, qa, zZ, ↓qo, ↓reduceIte, reduceCtorEq, nA, nM, nS, nE, nL, nD]; try simp only [qa, zY]
    exact (qz7 hn hc' fun i' hi' => hx i' (by omega)).symm
def wu : List AV → Option AV
  | [.agg l] => match ui l with
    | some (n, m) => some (.bool (isS n.toNat m))
    | none => none
  | _ => none
theorem qtw : Am.Callee Try.prog 91 (qm wu) :=
  Am.Callee.plain fun xs v he => by
    unfold wu at he
    split at he
    · split at he
      · rename_i n m hd
        cases he
        obtain ⟨rfl, hm⟩ := zp hd
        exact ⟨by simp only [AV.zb, AV.zl, qe, Bool.and_self], rfl, qr0 n m hm⟩
      · cases he
    · cases he
def B7 : za := (B6.put 91 (qm wu))
theorem qnq : qn Try.prog B7 := (qm3.put (qtw))
theorem qdy : B7 169 = some (qm j8) := rfl
def Y0 : AC := .seq (.region [oP 15 .lss 14 13]) (.seq (.cond 15 .skip (.exit 0)) (.seq (.block 1 (.seq (.region [oM 16 14,oM 6 16]) (.block 2 (.seq (.region [oM 37 0,oM 38 6,o0 39 (.qd3 (.t 37) (.t 38)),o0 40 (.bin .eql (.t 39) (.c (.int .u8 40))),oM 36 40]) (.cond 36 (.region [oM 41 5,oM 42 6,o0 43 (.ga 1 [.int .i64 0] [(0,1,.t 42)]),o0 44 (.append 1 8 (.t 41) (.t 43)),oM 5 44]) (.seq (.region [oM 46 0,oM 47 6,o0 48 (.qd3 (.t 46) (.t 47)),o0 49 (.bin .neq (.t 48) (.c (.int .u8 41))),oM 50 49,oG 51 50 false (.mov (.t 5)),oG 52 50 false (.len .slc (.t 51)),oG 53 50 false (.bin .eql (.t 52) (.c (.int .i64 0))),o0 54 (.pick (.t 50) (.c (.bool true)) (.t 53)),oM 45 54]) (.cond 45 (.seq (.region [o0 2 (.mov (.c (.v (.slice none 0 0)))),oB 3 false]) .ret) (.seq (.region [oM 17 5,oM 18 5,o0 19 (.len .slc (.t 18)),oK 20 .sub 19 1,oX 21 1 17 20,oL 22 21,oM 7 22]) (.seq (.region [oM 23 5,oM 24 5,o0 25 (.len .slc (.t 24)),oK 26 .sub 25 1,o0 27 (.qcz 1 (.t 23) none (some (.t 26))),oM 5 27]) (.region [oM 28 4,oM 29 7,oM 30 4,oM 31 6,oM 32 6,oM 33 7,oX 34 1 28 29,oT 34 32,oX 35 1 30 31,oT 35 33])))))))))) (.region [oK 55 .add 14 1,oM 14 55])))
def Y9 : AC := .seq (.region [oM 56 4,oM 57 5,o0 58 (.len .slc (.t 57)),oK 59 .eql 58 0,oM 2 56,oM 3 59]) .ret
def K7 : AC := .seq (.region [o0 2 (.mov (.c (.v (.slice none 0 0)))),oB 3 false]) (.seq (.region [oM 8 0,o0 9 (.len .str (.t 8)),o0 10 (.kx 1 8 [.int .i64 0] (.t 9) (.t 9)),o0 11 (.ga 0 [] []),oM 4 10,oM 5 11]) (.seq (.seq (.region [oM 12 0,o0 13 (.len .str (.t 12)),oI 14 0]) (.block 0 (.loop Y0))) Y9))
theorem qi3 : zr Try.prog 179 = some ⟨60, K7, [.slot 2, .slot 3]⟩ := by kernel_rfl
def Gq : AC := .seq (.region [oP 13 .lss 12 11]) (.seq (.cond 13 .skip (.exit 0)) (.seq (.block 1 (.seq (.region [oM 14 12,oX 15 1 10 12,oL 16 15,oM 6 14,oM 7 16]) (.region [oM 17 0,oM 18 6,oC 19 169 [.t 17,.t 18],oM 20 0,oM 21 7,oC 22 169 [.t 20,.t 21],o0 23 (.conv .u8 (.t 22)),oF 24 1 5,o0 25 (.xp 16 1 (.t 24) (.t 19)),oT 25 23]))) (.region [oK 26 .add 12 1,oM 12 26])))
def Gr : AC := .seq (.region [oN 27 17 5,oS 17 4 27]) .ret
def qfx : AC := .seq (.region [oD 4]) (.seq (.region [oM 8 0,o0 9 (.build [.int .i64 0,.int .u8 0,.int .u8 0,.int .u8 0,.int .u8 0,.int .u8 0,.int .u8 0,.int .u8 0,.int .u8 0,.int .u8 0,.int .u8 0,.int .u8 0,.int .u8 0,.int .u8 0,.int .u8 0,.int .u8 0,.int .u8 0] [(0,1,.t 8)]),oD 5,oS 17 5 9]) (.seq (.seq (.region [oM 10 1,o0 11 (.len .slc (.t 10)),oI 12 0]) (.block 0 (.loop Gq))) Gr))
theorem qn3 : zr Try.prog 180 = some ⟨28, qfx, [.Qj 4 17]⟩ := by kernel_rfl
def U4 : List AV → Option (List Nat)
  | [] => some []
  | .int .i64 x :: r => if 0 ≤ x then (match U4 r with
    | some l => some (x.toNat :: l)
    | none => none) else none
  | _ => none
theorem qct : ∀ {m : List Nat}, U4 (uq m) = some m
  | [] => rfl
  | x :: m => by
    have h1 := qct (m := m)
    simp only [uq, List.map_cons, U4] at h1 ⊢
    rw [if_pos (by omega), h1]
    simp
theorem qdk : ∀ {l : List AV} {m : List Nat}, U4 l = some m → l = uq m
  | [], m, h => by cases h; rfl
  | a :: l, m, h => by
    cases a <;> (try (simp only [U4, reduceCtorEq] at h; done))
    rename_i k x
    cases k <;> (try (simp only [U4, reduceCtorEq] at h; done))
    simp only [U4] at h
    split at h
    · split at h
      · rename_i r hr
        cases h
        rw [qdk hr]
        simp only [uq, List.map_cons, List.cons.injEq, AV.int.injEq, true_and, and_true]
        omega
      · cases h
    · cases h
def Z9 (s : List UInt8) : AV × List AO := match parts s s.length with
  | none => (.tup [.v (.slice none 0 0), .bool false], [])
  | some (out, st) => (.tup [.slc 0 0 s.length true s.length, .bool ((st.length : Int) == 0)], [.cells (uq out)])
theorem Bw {x : UInt8} {c : Nat} (hc : c < 256) : ((x.toNat : Int) = c) ↔ x = UInt8.ofNat c := by
  constructor
  · intro h
    apply UInt8.toNat_inj.1
    rw [UInt8.toNat_ofNat']; omega
  · intro h; rw [h, UInt8.toNat_ofNat']; omega
theorem Ki {s : List UInt8} {k : Nat} (h : parts s k = none) : ∀ j, k ≤ j → parts s j = none
  | 0, hj => by rw [← Nat.le_zero.1 hj]; exact h
  | j + 1, hj => by
    by_cases e : k = j + 1
    · rw [← e]; exact h
    · simp only [parts, Ki h j (by omega)]
theorem Bl : ∀ (k : Nat) (l : List Nat), l.Nodup → (∀ i, i ∈ l → i < k) → l.length ≤ k
  | 0, [], _, _ => Nat.le_refl _
  | 0, a :: l, _, h => absurd (h a (by simp)) (by omega)
  | k + 1, l, hn, h => by
    by_cases hk : k ∈ l
    · have h1 := Bl k (l.erase k) (hn.erase k) fun i hi => by
        have h2 := h i (List.mem_of_mem_erase hi)
        have h3 : i ≠ k := by rintro rfl; exact (List.Nodup.not_mem_erase hn) hi
        omega
      rw [List.length_erase_of_mem hk] at h1; omega
    · have h1 := Bl k l hn fun i hi => by
        have h2 := h i hi
        have h3 : i ≠ k := by rintro rfl; exact hk hi
        omega
      omega
theorem qix (s : List UInt8) (hs : s.length ≤ 1000) : Am.Fn Try.prog 179 [.str s] [] (fun v H' => v = (Z9 s).1 ∧ H' = (Z9 s).2) := by
  refine Am.Fn.ofB qnq mixed qi3 (by simp) (by simp) ?_
  simp (maxSteps := 3000000) only [K7, vx, qkt, qa, zZ, ↓qo, ↓reduceIte, reduceCtorEq, nA, nM, nS, nE, nL, nD]; try simp only [qa, zY]
  refine ⟨⟨by omega, by omega, by omega⟩, ?_⟩
  refine WA.jn qnq (fun t => ∃ (k : Nat) (out st cl : List Nat), t = ⟨[(14, .int .i64 k), (13, .int .i64 s.length), (5, .slc 1 0 st.length false 0), (4, .slc 0 0 s.length true s.length), (0, .str s)], [.cells (uq out), .vec 1 (uq cl)]⟩ ∧
      k ≤ s.length ∧ parts s k = some (out, st) ∧ out.length = s.length ∧ st.length ≤ cl.length ∧ cl.take st.length = st.reverse ∧ (∀ i, i ∈ st → i < k))
    (fun s => match get s.env 14 with | .int _ k => (1000 - k).toNat | _ => 0) ⟨_, qz.trans (qz.qx [14, 13, 5, 4, 0]) (qz.vec 1 0 1 (by decide) rfl rfl ?_ ?_), 0, List.replicate s.length 0, [], [], ?_, by omega, rfl, by simp, by simp, rfl, by simp⟩ ?_
  · simp only [qx, zj, zV, ↓reduceIte, nE, reduceCtorEq, nB]
  · simp only [zV, ↓reduceIte, nE, reduceCtorEq, nB]
  · simp only [qx, zj, zV, ↓reduceIte, nE, reduceCtorEq, nB]; rfl
  rintro t ⟨k, out, st, cl, rfl, hk, hp, hl, hcl, htk, hlt⟩
  have hw : qu .i64 ((k : Int) + 1) = ((k + 1 : Nat) : Int) := by rw [wrap64 (by omega) (by omega)]; rfl
  simp (maxSteps := 3000000) only [Y0, hw, rd, List.getElem?_cons_zero, List.getElem?_cons_succ, vx, src, lim, Option.map_some, Option.map_none, Zk, wrt, wrl, AO.b8, List.set_cons_zero, List.set_cons_succ, qa, zZ, ↓qo, ↓reduceIte, reduceCtorEq, nA, nM, nS, nE, nL, nD]; try simp only [qa, zY]
  refine ⟨fun h1 => ⟨⟨by omega, by omega⟩, fun h2 => ?_, fun h2 => ⟨⟨by omega, by omega⟩, fun h3 => ⟨fun h4 => ?_, fun h4 => ?_⟩, fun h3 => ?_⟩⟩, fun h1 => ?_⟩
  · have h2' : s.getD k 0 = 40 := (Bw (by decide)).1 h2
    have happ : List.take st.length (uq cl) ++ [AV.int .i64 (k : Int)] = uq (k :: st).reverse := by
      rw [qh9, htk, List.reverse_cons, ← qc1]; rfl
    refine ⟨by simp [over], ⟨by rw [uw]; exact hcl, by simp [over, AV.one], ?_⟩, _, qz.ve [0, 3] [14, 13, 5, 4, 0] ⟨by decide, ?_⟩ ?_, ⟨k + 1, out, k :: st, (k :: st).reverse, ?_, by omega, ?_, hl, by simp, ?_, ?_⟩, ?_⟩
    · have : st.length ≤ 1000 := by
        have := Jx k out st hk hp
        have h5 : st.Nodup := this.2.1.imp fun h => by omega
        have h6 := Bl k st h5 hlt
        omega
      omega
    · simp only [over, List.take_zero, List.length_cons, List.length_nil, List.drop_succ_cons, List.drop_nil, List.take_succ_cons, List.drop_zero, happ, zK, ↓reduceIte, reduceCtorEq, nE, nB, nA]
    · simp only [zK, ↓reduceIte, reduceCtorEq, nE, nB, nA]
    · simp only [over, List.take_zero, List.length_cons, List.length_nil, List.drop_succ_cons, List.drop_nil, List.take_succ_cons, List.drop_zero, happ, zL, ↓reduceIte, reduceCtorEq, nE, nA]
    · simp only [parts, hp, h2', if_true]
    · rw [List.take_of_length_le (by simp)]
    · intro i hi
      rcases List.mem_cons.1 hi with rfl | hi
      · omega
      · have := hlt i hi; omega
    · simp only [zL, ↓reduceIte, reduceCtorEq, nE, nA]; omega
  · have h2' : ¬ s.getD k 0 = 40 := fun h => h2 ((Bw (c := 40) (by decide)).2 h)
    have hst : st = [] := List.length_eq_zero_iff.1 (by omega)
    have hnone : parts s (k + 1) = none := by
      simp only [parts, hp, hst, if_neg h2']
      split <;> rfl
    have hr : Z9 s = (.tup [.v (.slice none 0 0), .bool false], []) := by
      unfold Z9; rw [Ki hnone s.length (by omega)]
    rw [hr]
    refine Ret.here [] ⟨by decide, by simp⟩ (rs := [.v (.slice none 0 0), .bool false]) (by simp (maxSteps := 3000000) only [qa, zZ, ↓qo, ↓reduceIte, reduceCtorEq, nA, nM, nS, nE, nL, nD]; try simp only [qa, zY]) rfl (by simp [xw]) (by simp [zi]) ⟨?_, rfl⟩
    simp [xw, AV.ren, AV.zh]
  · have h2' : ¬ s.getD k 0 = 40 := fun h => h2 ((Bw (c := 40) (by decide)).2 h)
    have h3' : s.getD k 0 = 41 := (Bw (c := 41) (by decide)).1 h3
    cases st with
    | nil => simp at h4
    | cons tp st' =>
    have hlen : qu .i64 (((tp :: st').length : Nat) - 1 : Int) = (st'.length : Nat) := by
      have : (tp :: st').length ≤ 1000 := by
        have := Jx k out _ hk hp
        have h5 : (tp :: st').Nodup := this.2.1.imp fun h => by omega
        have h6 := Bl k _ h5 hlt
        omega
      rw [wrap64 (by simp only [List.length_cons] at *; omega) (by simp only [List.length_cons] at *; omega)]
      simp
    have htop : cl.getD st'.length 0 = tp := by
      have h5 : (cl.take (tp :: st').length)[st'.length]? = cl[st'.length]? := List.getElem?_take_of_lt (by simp)
      rw [htk, List.reverse_cons, List.getElem?_append_right (by simp)] at h5
      rw [List.getD_eq_getElem?_getD, ← h5]; simp
    have htpk := hlt tp (by simp)
    simp only [hlen, Int.toNat_natCast, htop, Nat.sub_zero, qyo, uw, List.length_set]
    simp only [List.length_cons] at hcl ⊢
    refine ⟨⟨⟨by omega, by omega⟩, by omega⟩, by omega, ⟨by omega, by omega⟩, by omega, ⟨⟨by omega, by omega⟩, by omega⟩, ⟨by omega, rfl⟩, ⟨⟨by omega, by omega⟩, by omega⟩, ⟨by omega, rfl⟩,
      _, qz.qx [14, 13, 5, 4, 0], ⟨k + 1, (out.set tp k).set k tp, st', cl, ?_, by omega, ?_, by simp [hl], by omega, ?_, ?_⟩, ?_⟩
    · simp only [zL, ↓reduceIte, reduceCtorEq, nE, nA]
    · simp only [parts, hp, if_neg h2', if_pos h3']
    · have h5 := congrArg (List.take st'.length) htk
      rw [List.take_take, List.reverse_cons, List.take_append_of_le_length (by simp), List.take_of_length_le (l := st'.reverse) (by simp)] at h5
      rw [← h5]; congr 1; simp only [List.length_cons]; omega
    · intro i hi
      have := hlt i (List.mem_cons_of_mem _ hi); omega
    · simp only [zL, ↓reduceIte, reduceCtorEq, nE, nA]; omega
  · have h2' : ¬ s.getD k 0 = 40 := fun h => h2 ((Bw (c := 40) (by decide)).2 h)
    have h3' : ¬ s.getD k 0 = 41 := fun h => by
      have := (Bw (x := s.getD k 0) (c := 41) (by decide)).2 h
      simp_all
    have hnone : parts s (k + 1) = none := by
      simp only [parts, hp, if_neg h2', if_neg h3']
    have hr : Z9 s = (.tup [.v (.slice none 0 0), .bool false], []) := by
      unfold Z9; rw [Ki hnone s.length (by omega)]
    rw [hr]
    refine Ret.here [] ⟨by decide, by simp⟩ (rs := [.v (.slice none 0 0), .bool false]) (by simp (maxSteps := 3000000) only [qa, zZ, ↓qo, ↓reduceIte, reduceCtorEq, nA, nM, nS, nE, nL, nD]; try simp only [qa, zY]) rfl (by simp [xw]) (by simp [zi]) ⟨?_, rfl⟩
    simp [xw, AV.ren, AV.zh]
  · have hkl : k = s.length := by omega
    subst hkl
    simp (maxSteps := 3000000) only [Y9, qa, zZ, ↓qo, ↓reduceIte, reduceCtorEq, nA, nM, nS, nE, nL, nD]; try simp only [qa, zY]
    have hr : Z9 s = (.tup [.slc 0 0 s.length true s.length, .bool ((st.length : Int) == 0)], [.cells (uq out)]) := by
      unfold Z9; rw [hp]
    rw [hr]
    refine Ret.here [0] ⟨by decide, ?_⟩ (rs := [.slc 0 0 s.length true s.length, .bool ((st.length : Int) == 0)]) (by simp (maxSteps := 3000000) only [qa, zZ, ↓qo, ↓reduceIte, reduceCtorEq, nA, nM, nS, nE, nL, nD]; try simp only [qa, zY]) rfl (by simp [xw]) ?_ ⟨?_, ?_⟩
    · simp only [zK, ↓reduceIte, reduceCtorEq, nE, nB, nA]
    · intro j l; cases j <;> simp [zi, AO.ren]
    · simp only [xw]
      simp only [zL, ↓reduceIte, reduceCtorEq, nE, nA]
    · simp only [zL, ↓reduceIte, reduceCtorEq, nE, nA]
def va : List AV → Option (AV × List AO)
  | [.str s] => chk (s.length ≤ 1000) (some (Z9 s))
  | _ => none
theorem qjh : Am.Callee Try.prog 179 (Gk va) :=
  Am.Callee.new fun xs v H he => by
    unfold va at he
    split at he
    · rename_i s
      obtain ⟨h1, he⟩ := ql he
      have e1 : v = (Z9 s).1 := by rw [Option.some.inj he]
      have e2 : H = (Z9 s).2 := by rw [Option.some.inj he]
      rw [e1, e2]
      exact ⟨rfl, qix s h1⟩
    · cases he
theorem qod (n : Nat) (out : List Nat) (hn : n ≤ 8) (hl : out.length = 2 * n) (ho : ∀ k, k < 2 * n → out.getD k 0 < 2 * n) :
    Am.Fn Try.prog 180 [.int .i64 n, .slc 0 0 (2 * n) true (2 * n)] [.ro (uq out)] (fun v H' => v = .agg (dia n (vz n out (2 * n))) ∧ H' = [.ro (uq out)]) := by
  refine Am.Fn.jd (R := fun v => v = _) qnq mixed qn3 (by simp) (ku (yo _)) ?_
  simp (maxSteps := 3000000) only [qfx, vx, rd, wrt, wrl, AO.b8, List.getElem?_cons_zero, List.getElem?_cons_succ, List.set_cons_zero, List.set_cons_succ, zn, Zq, zy qw qw, qb, List.length_replicate, ze, qa, zZ, ↓qo, ↓reduceIte, reduceCtorEq, nA, nM, nS, nE, nL, nD]; try simp only [qa, zY]
  refine WA.jn qnq (fun t => ∃ k : Nat, t = ⟨[(12, .int .i64 k), (11, .int .i64 (2 * n : Nat)), (10, .slc 0 0 (2 * n) true (2 * n)), (5, .ptr 2 0), (4, .ptr 1 0), (0, .int .i64 n)], [.ro (uq out), .cells (dia 0 (List.replicate 16 0)), .cells (dia n (vz n out k))]⟩ ∧ k ≤ 2 * n)
    (fun s => match get s.env 12 with | .int _ k => (1000 - k).toNat | _ => 0) ⟨_, qz.qx [12, 11, 10, 5, 4, 0], 0, rfl, by omega⟩ ?_
  rintro t ⟨k, rfl, hk⟩
  have hw : qu .i64 ((k : Int) + 1) = ((k + 1 : Nat) : Int) := by rw [wrap64 (by omega) (by omega)]; rfl
  have hj := yb n out k
  simp (maxSteps := 3000000) only [Gq, qdy, j8, hw, rd, List.getElem?_cons_zero, List.getElem?_cons_succ, uw, hl, wrt, wrl, AO.b8, List.set_cons_zero, List.set_cons_succ, qa, zZ, ↓qo, ↓reduceIte, reduceCtorEq, nA, nM, nS, nE, nL, nD]; try simp only [qa, zY]
  refine ⟨fun h => ?_, fun h => ?_⟩
  · have hk' : k < 2 * n := by omega
    have h1 := ho k hk'
    have h2 := q9 h1
    have h3 := q9 hk'
    simp only [gn hk', gn h1, Int.toNat_natCast, Uz (show place n (out.getD k 0) < 256 from by omega), qau, qb, hj]
    refine ⟨⟨⟨by omega, by omega⟩, by omega⟩, by omega, ⟨jb (by omega), jb (by omega)⟩, ⟨jb (by omega), jb (by omega)⟩, ⟨by omega, by omega⟩, ⟨by omega, rfl⟩, _, qz.qx [12, 11, 10, 5, 4, 0], ⟨k + 1, ?_, by omega⟩, ?_⟩
    · simp only [zL, ↓reduceIte, reduceCtorEq, nE, nA]; rfl
    · simp only [zL, ↓reduceIte, reduceCtorEq, nE, nA]; omega
  · have hkn : k = 2 * n := by omega
    subst hkn
    simp (maxSteps := 3000000) only [Gr, rd, wrt, wrl, AO.b8, List.getElem?_cons_zero, List.getElem?_cons_succ, List.set_cons_zero, List.set_cons_succ, qb, hj, wb hj, zy qw hj, ze, List.length_replicate, qe, qa, zZ, ↓qo, ↓reduceIte, reduceCtorEq, nA, nM, nS, nE, nL, nD]; try simp only [qa, zY]
    exact ⟨_, rfl⟩
def y7 : List AV → List AV → Option AV := fun l xs => match U4 l, xs with
  | some out, [.int .i64 n, .slc 0 0 k true c] => chk ((0 ≤ n ∧ n ≤ 8) ∧ k = 2 * n.toNat ∧ c = k ∧ out.length = k ∧ (List.range k).all (fun i => decide (out.getD i 0 < k)) = true) (some (.agg (dia n (vz n.toNat out k))))
  | _, _ => none
theorem qof : Am.Callee Try.prog 180 (G4 1 1 y7) :=
  Am.Callee.G4 fun l pre post len ex c v hp hl he => by
    unfold y7 at he
    split at he
    · rename_i out n k c' hd hx
      obtain ⟨⟨h1, h2, h3, h4, h5⟩, he⟩ := ql he
      cases he
      obtain ⟨a, rfl⟩ : ∃ a, pre = [a] := List.length_eq_one_iff.1 hp
      simp only [List.cons_append, List.nil_append, List.cons.injEq, AV.slc.injEq, true_and] at hx
      obtain ⟨rfl, ⟨rfl, rfl, rfl⟩, rfl⟩ := hx
      have := qdk hd
      subst this
      obtain ⟨j, rfl⟩ : ∃ j : Nat, n = j := ⟨n.toNat, by omega⟩
      simp only [Int.toNat_natCast] at h2 ⊢
      subst h3; subst h2
      refine ⟨yo _, rfl, rfl, by simp only [AV.zl, qe], qod j out (by omega) h4 fun k hk => ?_⟩
      have := List.all_eq_true.1 h5 k (List.mem_range.2 hk)
      exact of_decide_eq_true this
    · cases he
end Go.Proofs.Ytfhckbbgmblhbaa
namespace Go.Proofs.Ytfhckbbgmblhbaa
open Go.Am Go.Dia
open Nat renaming reduceAdd → nA, reduceMul → nM, reduceSub → nS, reduceEqDiff → nE, reduceLT → nL, reduceLeDiff → nD, reduceBEq → nB
open Int renaming reduceEq → iE, reduceNe → iN, reduceBEq → iB, reduceBNe → iC, reduceLT → iL, reduceLE → iD, reduceAdd → iA, reduceSub → iS, reduceMul → iM
set_option linter.unusedSimpArgs false
set_option linter.unusedVariables false
set_option maxRecDepth 4000
set_option maxHeartbeats 1000000
def V7 : AC := .seq (.region [oD 2,oB 3 false]) (.seq (.seq (.region [oM 6 0,o0 7 (.len .str (.t 6)),oK 8 .rem 7 2,oK 9 .neq 8 0,oM 10 9,oG 11 10 false (.mov (.t 0)),oG 12 10 false (.len .str (.t 11)),⟨some 13,some (10,false),.call (.c (.fn 71 [] [])) [.t 12,(.c (.int .i64 2)),(.c (.int .i64 16))]⟩,oG 14 10 false (.un .not (.t 13)),o0 15 (.pick (.t 10) (.c (.bool true)) (.t 14))]) (.cond 15 (.seq (.region [o0 16 (.build [.int .i64 0,.int .u8 0,.int .u8 0,.int .u8 0,.int .u8 0,.int .u8 0,.int .u8 0,.int .u8 0,.int .u8 0,.int .u8 0,.int .u8 0,.int .u8 0,.int .u8 0,.int .u8 0,.int .u8 0,.int .u8 0,.int .u8 0] []),oS 17 2 16,oB 3 false]) .ret) .skip)) (.seq (.region [oM 18 0,oC 19 179 [.t 18],oM 17 19,oE 20 0 17,oE 21 1 17,oM 4 20,oM 5 21]) (.seq (.seq (.region [oM 22 5,o0 23 (.un .not (.t 22))]) (.cond 23 (.seq (.region [o0 24 (.build [.int .i64 0,.int .u8 0,.int .u8 0,.int .u8 0,.int .u8 0,.int .u8 0,.int .u8 0,.int .u8 0,.int .u8 0,.int .u8 0,.int .u8 0,.int .u8 0,.int .u8 0,.int .u8 0,.int .u8 0,.int .u8 0,.int .u8 0] []),oS 17 2 24,oB 3 false]) .ret) .skip)) (.seq (.region [oM 25 0,o0 26 (.len .str (.t 25)),oK 27 .quo 26 2,oM 28 4,oC 29 180 [.t 27,.t 28],oS 17 2 29,oB 3 true]) .ret))))
theorem qvc : zr Try.prog 152 = some ⟨30, V7, [.Qj 2 17, .slot 3]⟩ := by kernel_rfl
def Wc : AC := .seq (.region [oK 14 .lss 13 16]) (.seq (.cond 14 .skip (.exit 0)) (.seq (.block 1 (.seq (.region [oM 15 13,o0 16 (.qd0 16 1 false (.t 12) (.t 13)),oM 3 15,oM 4 16]) (.seq (.region [oM 17 3,oC 18 168 [.t 1],o0 19 (.bin .mul (.c (.int .i64 2)) (.t 18)),oP 20 .geq 17 19,oM 21 20,oG 22 21 true (.mov (.t 4)),oG 23 21 true (.bin .neq (.t 22) (.c (.int .u8 0))),o0 24 (.pick (.t 21) (.t 23) (.c (.bool false))),oM 25 24,oG 26 25 false (.mov (.t 3)),⟨some 27,some (25,false),.call (.c (.fn 168 [] [])) [.t 1]⟩,oG 28 25 false (.bin .mul (.c (.int .i64 2)) (.t 27)),oG 29 25 false (.bin .lss (.t 26) (.t 28)),oG 30 25 false (.mov (.t 29)),oG 31 30 true (.mov (.t 4)),oG 32 30 true (.conv .i64 (.t 31)),⟨some 33,some (30,true),.call (.c (.fn 168 [] [])) [.t 1]⟩,oG 34 30 true (.bin .mul (.c (.int .i64 2)) (.t 33)),oG 35 30 true (.bin .geq (.t 32) (.t 34)),oG 36 25 false (.pick (.t 30) (.t 35) (.c (.bool false))),o0 37 (.pick (.t 25) (.c (.bool true)) (.t 36))]) (.cond 37 (.seq (.region [oB 2 false]) .ret) .skip)))) (.region [oK 38 .add 13 1,oM 13 38])))
def Wq : AC := .seq (.region [oC 40 142 [.t 1],oC 41 152 [.t 40],oM 39 41,oE 42 0 39,oE 43 1 39,oD 5,oS 17 5 42,oM 6 43]) (.seq (.region [oM 44 6,oM 45 44,oG 46 45 true (.Qq 17 (.t 5)),oG 47 45 true (.Qq 17 (.t 1)),oG 48 45 true (.eqs false [.int,.int,.int,.int,.int,.int,.int,.int,.int,.int,.int,.int,.int,.int,.int,.int,.int] (.t 46) (.t 47)),o0 49 (.pick (.t 45) (.t 48) (.c (.bool false))),oM 2 49]) .ret)
def Gu : AC := .seq (.region [o0 1 (.box (.t 0)),oB 2 false]) (.seq (.seq (.region [oF 7 0 1,oL 8 7,oC 9 71 [.t 8,(.c (.int .i64 1)),(.c (.int .i64 8))],o0 10 (.un .not (.t 9))]) (.cond 10 (.seq (.region [oB 2 false]) .ret) .skip)) (.seq (.seq (.region [oF 11 1 1,oN 12 16 11,oI 13 0]) (.block 0 (.loop Wc))) Wq))
theorem qgv : zr Try.prog 141 = some ⟨50, Gu, [.slot 2]⟩ := by kernel_rfl
def B8 : za := ((B7.put 179 (Gk va)).put 180 (G4 1 1 y7))
theorem q1y : qn Try.prog B8 := ((qnq.put (qjh)).put (qof))
theorem yh : B8 168 = some (Z4 1 g_n) := rfl
theorem vl : B8 142 = some (Z4 17 vj) := rfl
theorem Jo : B8 71 = some (qm j7) := rfl
theorem uc : B8 179 = some (Gk va) := rfl
theorem gu : B8 180 = some (G4 1 1 y7) := rfl
def X1 (s : List UInt8) : AV := match vk s with
  | some (n, m) => .tup [.agg (dia n m), .bool true]
  | none => .tup [.agg (dia 0 (List.replicate 16 0)), .bool false]
theorem qt {n : Int} {m : List Nat} (h : m.length = 16) : List.take 17 (dia n m) = dia n m := by
  rw [List.take_of_length_le]; rw [qb, h]; exact Nat.le_refl _
theorem qut (b n c m : Nat) (x : Bool) : AV.ren (Vy m) (.tup [.slc b 0 n true c, .bool x]) = .tup [.slc (m + b) 0 n true c, .bool x] := rfl
theorem q25 (m : Nat) (x : Bool) : AV.ren (Vy m) (.tup [.v (.slice none 0 0), .bool x]) = .tup [.v (.slice none 0 0), .bool x] := rfl
theorem qxp (s : List UInt8) (hs : s.length ≤ 1000000) : Am.Fn Try.prog 152 [.str s] [] (fun v H' => v = X1 s ∧ H' = []) := by
  refine Am.Fn.jd (R := fun v => v = _) q1y mixed qvc (by simp) (by simp) ?_
  have htm : (s.length : Int).tmod 2 = ((s.length % 2 : Nat) : Int) := (Int.ofNat_tmod s.length 2).symm
  by_cases hc : s.length % 2 = 0 ∧ 2 ≤ s.length ∧ s.length ≤ 16
  case neg =>
    have hr : X1 s = .tup [.agg (dia 0 (List.replicate 16 0)), .bool false] := by
      unfold X1 vk; rw [if_neg hc]
    have hb : ((2 : Int) = 0) = False := eq_false (by decide)
    by_cases hpar : s.length % 2 = 0
    · have hx : ((s.length : Int).tmod 2 = 0) = True := eq_true (by omega)
      have hy : (2 ≤ (s.length : Int) ∧ (s.length : Int) ≤ 16) = False := eq_false (by omega)
      simp (maxSteps := 3000000) only [V7, yh, vl, Jo, uc, gu, j7, y7, g_n, va, vj, hr, hb, hx, hy, vx, rd, wrt, wrl, AO.b8, List.getElem?_cons_zero, List.getElem?_cons_succ, List.set_cons_zero, List.set_cons_succ, zn, zy qw qw, qb, List.length_replicate, ze, wb qw, qt qw, qe, Nat.le_refl, qa, zZ, ↓qo, ↓reduceIte, reduceCtorEq, nA, nM, nS, nE, nL, nD]; try simp only [qa, zY]
    · have hx : ((s.length : Int).tmod 2 = 0) = False := eq_false (by omega)
      simp (maxSteps := 3000000) only [V7, yh, vl, Jo, uc, gu, j7, y7, g_n, va, vj, hr, hb, hx, vx, rd, wrt, wrl, AO.b8, List.getElem?_cons_zero, List.getElem?_cons_succ, List.set_cons_zero, List.set_cons_succ, zn, zy qw qw, qb, List.length_replicate, ze, wb qw, qt qw, qe, Nat.le_refl, qa, zZ, ↓qo, ↓reduceIte, reduceCtorEq, nA, nM, nS, nE, nL, nD]; try simp only [qa, zY]
  case pos =>
    have h4 : qu .i64 ((s.length : Int).tdiv 2) = ((s.length / 2 : Nat) : Int) := by
      rw [show (s.length : Int).tdiv 2 = ((s.length / 2 : Nat) : Int) from (Int.ofNat_tdiv s.length 2).symm]; exact yf (by omega)
    have hb : ((2 : Int) = 0) = False := eq_false (by decide)
    have hcs : parts s s.length = none ∨ ∃ out st, parts s s.length = some (out, st) := by
      cases parts s s.length with
      | none => exact .inl rfl
      | some r => exact .inr ⟨r.1, r.2, rfl⟩
    rcases hcs with hp | ⟨out, st, hp⟩
    · skip
      have hr : X1 s = .tup [.agg (dia 0 (List.replicate 16 0)), .bool false] := by
        unfold X1 vk; rw [if_pos hc, hp]
      have hpr : Z9 s = (.tup [.v (.slice none 0 0), .bool false], []) := by unfold Z9; rw [hp]
      simp (maxSteps := 3000000) only [V7, yh, vl, Jo, uc, gu, j7, y7, g_n, va, vj, vx, rd, wrt, wrl, AO.b8, List.getElem?_cons_zero, List.getElem?_cons_succ, List.set_cons_zero, List.set_cons_succ, List.take_zero, List.take_succ_cons, List.drop_succ_cons, List.drop_zero, zn, zy qw qw, qb, List.length_replicate, ze, wb qw, qt qw, qe, Nat.le_refl, hr, hpr, q25, vx, rd, wrt, wrl, AO.b8, List.getElem?_cons_zero, List.getElem?_cons_succ, List.set_cons_zero, List.set_cons_succ, List.take_zero, List.take_succ_cons, List.drop_succ_cons, List.drop_zero, zn, zy qw qw, qb, List.length_replicate, ze, wb qw, qt qw, qe, Nat.le_refl, qa, zZ, ↓qo, ↓reduceIte, reduceCtorEq, nA, nM, nS, nE, nL, nD]; try simp only [qa, zY]
      refine ⟨by decide, fun _ => ⟨fun _ => trivial, fun _ => by omega⟩, fun _ => trivial⟩
    · cases st with
      | cons a st =>
        have hr : X1 s = .tup [.agg (dia 0 (List.replicate 16 0)), .bool false] := by
          unfold X1 vk; rw [if_pos hc, hp]
        have h5 : ((((a :: st).length : Nat) : Int) == 0) = false := by
          rw [beq_eq_false_iff_ne, List.length_cons]; omega
        have hpr : Z9 s = (.tup [.slc 0 0 s.length true s.length, .bool false], [.cells (uq out)]) := by unfold Z9; rw [hp]; simp only [h5]
        simp (maxSteps := 3000000) only [V7, yh, vl, Jo, uc, gu, j7, y7, g_n, va, vj, vx, rd, wrt, wrl, AO.b8, List.getElem?_cons_zero, List.getElem?_cons_succ, List.set_cons_zero, List.set_cons_succ, List.take_zero, List.take_succ_cons, List.drop_succ_cons, List.drop_zero, zn, zy qw qw, qb, List.length_replicate, ze, wb qw, qt qw, qe, Nat.le_refl, hr, hpr, qut, qgh, qc _ _ (yo _), vx, rd, wrt, wrl, AO.b8, List.getElem?_cons_zero, List.getElem?_cons_succ, List.set_cons_zero, List.set_cons_succ, List.take_zero, List.take_succ_cons, List.drop_succ_cons, List.drop_zero, zn, zy qw qw, qb, List.length_replicate, ze, wb qw, qt qw, qe, Nat.le_refl, qa, zZ, ↓qo, ↓reduceIte, reduceCtorEq, nA, nM, nS, nE, nL, nD]; try simp only [qa, zY]
        refine ⟨by decide, fun _ => ⟨fun _ => trivial, fun _ => by omega⟩, fun _ => trivial⟩
      | nil =>
        have hr : X1 s = .tup [.agg (dia (s.length / 2 : Nat) (vz (s.length / 2) out s.length)), .bool true] := by
          unfold X1 vk; rw [if_pos hc, hp]
        have hn : s.length = 2 * (s.length / 2) := by omega
        obtain ⟨a1, a2, a3, a4, a5, a6, a7⟩ := Jx s.length out [] (Nat.le_refl _) hp
        have h6 : (List.range s.length).all (fun i => decide (out.getD i 0 < s.length)) = true := List.all_eq_true.2 fun i hi => decide_eq_true (a4 i (List.mem_range.1 hi) (by simp)).1
        have hj := yb (s.length / 2) out s.length
        have hpr : Z9 s = (.tup [.slc 0 0 s.length true s.length, .bool true], [.cells (uq out)]) := by unfold Z9; rw [hp]; rfl
        have htk : List.take s.length (uq out) = uq out := by rw [List.take_of_length_le]; rw [uw, a1]; exact Nat.le_refl _
        simp (maxSteps := 3000000) only [V7, yh, vl, Jo, uc, gu, j7, y7, g_n, va, vj, vx, rd, wrt, wrl, AO.b8, List.getElem?_cons_zero, List.getElem?_cons_succ, List.set_cons_zero, List.set_cons_succ, List.take_zero, List.take_succ_cons, List.drop_succ_cons, List.drop_zero, zn, zy qw qw, qb, List.length_replicate, ze, wb qw, qt qw, qe, Nat.le_refl, hr, hpr, h4, h6, hb, htk, qct, qut, qgh, qc _ _ (yo _), uw, a1, hj, zy qw hj, wb hj, qt hj, vx, rd, wrt, wrl, AO.b8, List.getElem?_cons_zero, List.getElem?_cons_succ, List.set_cons_zero, List.set_cons_succ, List.take_zero, List.take_succ_cons, List.drop_succ_cons, List.drop_zero, zn, zy qw qw, qb, List.length_replicate, ze, wb qw, qt qw, qe, Nat.le_refl, qa, zZ, ↓qo, ↓reduceIte, reduceCtorEq, nA, nM, nS, nE, nL, nD]; try simp only [qa, zY]
        refine ⟨fun _ => ⟨fun h => absurd ⟨by omega, by omega⟩ h, fun _ => ⟨by omega, ⟨by omega, by omega⟩, by omega⟩⟩, fun h => absurd (by omega) h⟩
def Kz : List AV → Option AV
  | [.str s] => chk (s.length ≤ 1000000) (some (X1 s))
  | _ => none
theorem qpc (s : List UInt8) : (X1 s).zl = true := by
  unfold X1; split <;> simp only [AV.zl, AV.zb, qe, Bool.and_self]
theorem qvm : Am.Callee Try.prog 152 (qm Kz) :=
  Am.Callee.plain fun xs v he => by
    unfold Kz at he
    split at he
    · obtain ⟨h1, he⟩ := ql he
      cases he; exact ⟨rfl, qpc _, qxp _ h1⟩
    · cases he
def B9 : za := (B8.put 152 (qm Kz))
theorem qkm : qn Try.prog B9 := (q1y.put (qvm))
theorem Zd : B9 168 = some (Z4 1 g_n) := rfl
theorem gi : B9 142 = some (Z4 17 vj) := rfl
theorem Kf : B9 71 = some (qm j7) := rfl
theorem Zo : B9 179 = some (Gk va) := rfl
theorem Jq : B9 180 = some (G4 1 1 y7) := rfl
theorem Yj : B9 152 = some (qm Kz) := rfl
theorem Gc : xg = .v (.tuple #[]) := rfl
theorem W5 : (#[] : Array Value).size = 0 := rfl
theorem q1a {n : Int} {m : List Nat} (h : ¬(1 ≤ n ∧ n ≤ 8)) : isI n.toNat m = false := by
  unfold isI; rw [decide_eq_false (by omega)]; rfl
def rng (n : Nat) (m : List Nat) (i : Nat) : Bool := if 2 * n ≤ i then m.getD i 0 == 0 else decide (m.getD i 0 < 2 * n)
theorem qvr {n : Nat} {m : List Nat} {i : Nat} (hi : i < 16) (h : rng n m i = false) : isI n m = false := by
  unfold isI
  rw [Bool.and_eq_false_iff]; right
  rw [Bool.and_eq_false_iff]; left
  unfold qj8
  rw [List.all_eq_false]
  exact ⟨i, List.mem_range.2 hi, by unfold rng at h; rw [h]; simp⟩
theorem q1h {n : Nat} {m : List Nat} (hn : 1 ≤ n ∧ n ≤ 8) (h1 : ∀ i, i < 16 → rng n m i = true) : isI n m = (vk (xm n m) == some (n, m)) := by
  unfold isI
  have : qj8 n m = true := List.all_eq_true.2 fun i hi => h1 i (List.mem_range.1 hi)
  rw [decide_eq_true hn, this, Bool.true_and, Bool.true_and]
theorem qjx {s : List UInt8} {n : Nat} {m : List Nat} (h : vk s = some (n, m)) : m.length = 16 := by
  unfold vk at h
  split at h
  · split at h
    · cases h; exact yb _ _ _
    · cases h
  · cases h
theorem qg6 (n : Int) (m : List Nat) (hm : okD m) : Am.Fn Try.prog 141 [.agg (dia n m)] [] (fun v H' => v = .bool (isI n.toNat m) ∧ H' = []) := by
  refine Am.Fn.jd (R := fun v => v = _) qkm mixed qgv (by simp) (by simp) ?_
  have hml := hm.1
  simp (maxSteps := 3000000) only [Gu, Zd, gi, Kf, Zo, Jq, Yj, j7, y7, g_n, va, Kz, vj, hml, Gg hml, qb, rd, List.getElem?_cons_zero, List.getElem?_cons_succ, qa, zZ, ↓qo, ↓reduceIte, reduceCtorEq, nA, nM, nS, nE, nL, nD]; try simp only [qa, zY]
  refine ⟨fun h => (q1a h).symm, fun h => ?_⟩
  obtain ⟨n, rfl⟩ : ∃ k : Nat, n = k := ⟨n.toNat, by omega⟩
  simp only [Int.toNat_natCast]
  have hn : 1 ≤ n ∧ n ≤ 8 := by omega
  have h2n : qu .i64 (2 * (n : Int)) = ((2 * n : Nat) : Int) := by rw [wrap64 (by omega) (by omega)]; simp
  refine WA.jn qkm (fun s => ∃ k : Nat, s = ⟨[(13, .int .i64 k), (12, .agg (u8s m)), (1, .ptr 0 0)], [.cells (dia n m)]⟩ ∧ k ≤ 16 ∧ ∀ i, i < k → rng n m i = true)
    (fun s => match get s.env 13 with | .int _ k => (100 - k).toNat | _ => 0) ⟨_, qz.qx [13, 12, 1], 0, rfl, by omega, by intros; omega⟩ ?_
  rintro s ⟨k, rfl, hk, hc⟩
  have hw : qu .i64 ((k : Int) + 1) = ((k + 1 : Nat) : Int) := by rw [wrap64 (by omega) (by omega)]; rfl
  have hg := hm.get k
  have h1 : qu .i64 ((m.getD k 0 : Nat) : Int) = (m.getD k 0 : Nat) := yf (by omega)
  simp (maxSteps := 3000000) only [Wc, Gc, W5, Zd, gi, Kf, Zo, Jq, Yj, j7, y7, g_n, va, Kz, vj, hw, h2n, h1, hml, qib, qb, rd, List.getElem?_cons_zero, List.getElem?_cons_succ, qa, zZ, ↓qo, ↓reduceIte, reduceCtorEq, nA, nM, nS, nE, nL, nD]; try simp only [qa, zY]
  have hnext : rng n m k = true → ∀ i, i < k + 1 → rng n m i = true := fun hk1 i hi => by
    by_cases e : i = k
    · subst e; exact hk1
    · exact hc i (by omega)
  have hhi : 2 * n ≤ k → rng n m k = (m.getD k 0 == 0) := fun h => if_pos h
  have hlo : ¬2 * n ≤ k → rng n m k = decide (m.getD k 0 < 2 * n) := fun h => if_neg h
  refine ⟨fun h3 => ⟨⟨by omega, by omega⟩, by omega, fun h4 => ⟨fun h5 => ⟨fun h6 => absurd h6 (by omega), fun h6 => ⟨_, qz.qx [13, 12, 1], ⟨k + 1, rfl, by omega, hnext ?_⟩, ?_⟩⟩, fun h5 => ?_⟩,
    fun h4 => ⟨fun h5 => ⟨fun h6 => ?_, fun h6 => ⟨_, qz.qx [13, 12, 1], ⟨k + 1, rfl, by omega, hnext ?_⟩, ?_⟩⟩, fun h5 => absurd (by omega) h5⟩⟩, fun h3 => ?_⟩
  · rw [hhi (by omega)]; exact beq_iff_eq.2 (by omega)
  · simp only [zL, ↓reduceIte, reduceCtorEq, nE, nA]; omega
  · exact (qvr (i := k) (by omega) (by rw [hhi (by omega)]; exact beq_eq_false_iff_ne.2 (by omega))).symm
  · exact (qvr (i := k) (by omega) (by rw [hlo (by omega)]; exact decide_eq_false (by omega))).symm
  · rw [hlo (by omega)]; exact decide_eq_true (by omega)
  · simp only [zL, ↓reduceIte, reduceCtorEq, nE, nA]; omega
  have hyes := q1h (m := m) hn fun i hi => hc i (by omega)
  simp (maxSteps := 3000000) only [Wq, Gc, W5, Zd, gi, Kf, Zo, Jq, Yj, j7, y7, g_n, va, Kz, vj, hml, qq hm, qb, wb hml, qt hml, Int.toNat_natCast, rd, List.getElem?_cons_zero, List.getElem?_cons_succ, bo, qa, zZ, ↓qo, ↓reduceIte, reduceCtorEq, nA, nM, nS, nE, nL, nD]; try simp only [qa, zY]
  refine ⟨⟨by omega, by omega⟩, by omega, ?_⟩
  have hcs : vk (xm n m) = none ∨ ∃ n' m', vk (xm n m) = some (n', m') := by
    cases vk (xm n m) with
    | none => exact .inl rfl
    | some r => exact .inr ⟨r.1, r.2, rfl⟩
  rcases hcs with hrd | ⟨n', m', hrd⟩
  · skip
    have hr : X1 (xm n m) = .tup [.agg (dia 0 (List.replicate 16 0)), .bool false] := by unfold X1; rw [hrd]
    have hi : isI n m = false := by rw [hyes, hrd]; rfl
    simp (maxSteps := 3000000) only [hr, hi, zy qw qw, Gc, W5, List.getElem?_cons_zero, List.getElem?_cons_succ, rd, wrt, wrl, AO.b8, List.set_cons_zero, List.set_cons_succ, zn, qb, hml, qw, List.length_replicate, ze, wb hml, wb qw, qa, zZ, ↓qo, ↓reduceIte, reduceCtorEq, nA, nM, nS, nE, nL, nD]; try simp only [qa, zY]
  · skip
    have hml' := qjx hrd
    have hr : X1 (xm n m) = .tup [.agg (dia n' m'), .bool true] := by unfold X1; rw [hrd]
    have hi : isI n m = decide ((n' : Int) = n ∧ m' = m) := by
      rw [hyes, hrd, Bool.eq_iff_iff, beq_iff_eq, decide_eq_true_eq, Option.some.injEq, Prod.mk.injEq]; exact and_congr (by omega) Iff.rfl
    simp (maxSteps := 3000000) only [hr, hi, hml', zy qw hml', wb hml', Wk hml' hml, Gc, W5, List.getElem?_cons_zero, List.getElem?_cons_succ, rd, wrt, wrl, AO.b8, List.set_cons_zero, List.set_cons_succ, zn, qb, hml, qw, List.length_replicate, ze, wb hml, wb qw, qa, zZ, ↓qo, ↓reduceIte, reduceCtorEq, nA, nM, nS, nE, nL, nD]; try simp only [qa, zY]
def Wi : AC := .seq (.seq (.region [oM 5 4,oK 6 .lss 5 16]) (.cond 6 .skip (.exit 0))) (.seq (.block 1 (.region [oM 9 4,oM 10 4,o0 11 (.xp 16 1 (.t 1) (.t 10)),oL 12 11,o0 13 (.xp 16 1 (.t 3) (.t 9)),oT 13 12])) (.region [oM 7 4,oK 8 .add 7 1,oM 4 8]))
def Wh : AC := .seq (.region [oN 14 16 3,oS 16 2 14]) .ret
def Gz : AC := .seq (.region [o0 1 (.box (.t 0)),o0 2 (.alloc [.int .u8 0,.int .u8 0,.int .u8 0,.int .u8 0,.int .u8 0,.int .u8 0,.int .u8 0,.int .u8 0,.int .u8 0,.int .u8 0,.int .u8 0,.int .u8 0,.int .u8 0,.int .u8 0,.int .u8 0,.int .u8 0])]) (.seq (.region [o0 3 (.alloc [.int .u8 0,.int .u8 0,.int .u8 0,.int .u8 0,.int .u8 0,.int .u8 0,.int .u8 0,.int .u8 0,.int .u8 0,.int .u8 0,.int .u8 0,.int .u8 0,.int .u8 0,.int .u8 0,.int .u8 0,.int .u8 0])]) (.seq (.seq (.region [oI 4 0]) (.block 0 (.loop Wi))) Wh))
theorem qgq : zr Try.prog 92 = some ⟨15, Gz, [.Qj 2 16]⟩ := by kernel_rfl
def Gv : AC := .seq (.region [o0 1 (.box (.t 0)),oD 2]) (.seq (.region [oD 3]) (.seq (.region [oF 4 0 1,oL 5 4,oF 6 0 3,oT 6 5]) (.seq (.region [oF 7 1 1,oN 8 16 7,oC 9 92 [.t 8],oF 10 1 3,oS 16 10 9]) (.seq (.region [oN 11 17 3,oS 17 2 11]) .ret))))
theorem qgu : zr Try.prog 39 = some ⟨12, Gv, [.Qj 2 17]⟩ := by kernel_rfl
def W1 : AC := .seq (.seq (.region [oM 6 5,oK 7 .lss 6 16]) (.cond 7 .skip (.exit 0))) (.seq (.block 1 (.seq (.draw false [oM 10 5,o0 11 (.xp 16 1 (.t 2) (.t 10)),oL 12 11,oM 13 5,o0 14 (.xp 16 1 (.t 3) (.t 13)),oL 15 14,oP 16 .neq 12 15]) (.cond 16 (.seq (.region [oB 4 false]) .ret) .skip))) (.region [oM 8 5,oK 9 .add 8 1,oM 5 9]))
def Wr : AC := .seq (.region [oB 4 true]) .ret
def Kb : AC := .seq (.region [o0 2 (.box (.t 0)),o0 3 (.box (.t 1)),oB 4 false]) (.seq (.seq (.region [oI 5 0]) (.block 0 (.loop W1))) Wr)
theorem qhd : zr Try.prog 186 = some ⟨17, Kb, [.slot 4]⟩ := by kernel_rfl
def G8 : AC := .seq (.region [o0 2 (.box (.t 0)),o0 3 (.box (.t 1)),oB 4 false]) (.seq (.seq (.region [oF 5 0 2,oL 6 5,oF 7 0 3,oL 8 7,oP 9 .neq 6 8]) (.cond 9 (.seq (.region [oB 4 false]) .ret) .skip)) (.seq (.seq (.region [oF 10 1 2,oN 11 16 10,oF 12 1 3,oN 13 16 12,oC 14 186 [.t 11,.t 13],o0 15 (.un .not (.t 14))]) (.cond 15 (.seq (.region [oB 4 false]) .ret) .skip)) (.seq (.region [oB 4 true]) .ret)))
theorem qg2 : zr Try.prog 160 = some ⟨16, G8, [.slot 4]⟩ := by kernel_rfl
def qes : AC := .seq (.region [o0 2 (.box (.t 0)),o0 3 (.box (.t 1)),oB 4 false]) (.seq (.seq (.region [oF 5 0 2,oN 6 17 5,oF 7 0 3,oN 8 17 7,oC 9 160 [.t 6,.t 8],o0 10 (.un .not (.t 9))]) (.cond 10 (.seq (.region [oB 4 false]) .ret) .skip)) (.seq (.seq (.region [oF 11 17 2,oL 12 11,oF 13 17 3,oL 14 13,oP 15 .neq 12 14]) (.cond 15 (.seq (.region [oB 4 false]) .ret) .skip)) (.seq (.region [oB 4 true]) .ret)))
theorem qpb : zr Try.prog 116 = some ⟨16, qes, [.slot 4]⟩ := by kernel_rfl
theorem q0r : [AV.int .u8 0, .int .u8 0, .int .u8 0, .int .u8 0, .int .u8 0, .int .u8 0, .int .u8 0, .int .u8 0, .int .u8 0, .int .u8 0, .int .u8 0, .int .u8 0, .int .u8 0, .int .u8 0, .int .u8 0, .int .u8 0] = u8s (List.replicate 16 0) := rfl
theorem qxq {m m' : List Nat} (h : m.length = 16) (h' : m'.length = 16) : over (u8s m) 0 (u8s m') = u8s m' := qbi (by rw [xo, xo, h, h'])
theorem qzm {m : List Nat} (h : m.length = 16) : List.take 16 (List.drop 0 (u8s m)) = u8s m := by
  rw [List.drop_zero, List.take_of_length_le]; rw [xo, h]; exact Nat.le_refl _
theorem qv8 {n n' : Int} {m : List Nat} : (dia n m).set 0 (.int .i64 n') = dia n' m := rfl
theorem qto {n : Int} {m m' : List Nat} (h : m.length = 16) (h' : m'.length = 16) : over (dia n m) 1 (u8s m') = dia n m' := by
  simp only [over, dia, List.take_succ_cons, List.take_zero, List.cons_append, List.nil_append, List.drop_succ_cons]
  rw [xo, h', show 1 + 16 = 16 + 1 from rfl, List.drop_succ_cons, List.drop_of_length_le (by rw [xo, h]; exact Nat.le_refl _), List.append_nil]
theorem take_set {m : List Nat} {k : Nat} (hm : m.length = 16) (hk : k < 16) : (m.take k ++ List.replicate (16 - k) 0).set k (m.getD k 0) = m.take (k + 1) ++ List.replicate (16 - (k + 1)) 0 := by
  rw [List.set_append_right _ _ (by simp; omega)]
  have h1 : k - (m.take k).length = 0 := by simp; omega
  have h2 : 16 - k = (16 - (k + 1)) + 1 := by omega
  rw [h1, h2, List.replicate_succ, List.set_cons_zero, List.take_add_one, List.append_assoc]
  congr 1
  have h3 : m[k]? = some (m.getD k 0) := by rw [List.getD_eq_getElem?_getD, List.getElem?_eq_getElem (by omega)]; rfl
  rw [h3]; rfl
theorem qha (m : List Nat) (hm : okD m) : Am.Fn Try.prog 92 [.agg (u8s m)] [] (fun v H' => v = .agg (u8s m) ∧ H' = []) := by
  refine Am.Fn.jd (R := fun v => v = _) qkm mixed qgq (by simp) (by simp) ?_
  have hml := hm.1
  simp (maxSteps := 3000000) only [Gz, q0r, qa, zZ, ↓qo, ↓reduceIte, reduceCtorEq, nA, nM, nS, nE, nL, nD]; try simp only [qa, zY]
  refine WA.jn qkm (fun s => ∃ k : Nat, s = ⟨[(4, .int .i64 k), (3, .ptr 2 0), (2, .ptr 1 0), (1, .ptr 0 0)], [.cells (u8s m), .cells (u8s (List.replicate 16 0)), .cells (u8s (m.take k ++ List.replicate (16 - k) 0))]⟩ ∧ k ≤ 16)
    (fun s => match get s.env 4 with | .int _ k => (100 - k).toNat | _ => 0) ⟨_, qz.qx [4, 3, 2, 1], 0, rfl, by omega⟩ ?_
  rintro s ⟨k, rfl, hk⟩
  have hw : qu .i64 ((k : Int) + 1) = ((k + 1 : Nat) : Int) := by rw [wrap64 (by omega) (by omega)]; rfl
  have hl : (m.take k ++ List.replicate (16 - k) 0).length = 16 := by simp; omega
  simp (maxSteps := 3000000) only [Wi, Wh, hw, hml, hl, rd, wrt, wrl, AO.b8, List.getElem?_cons_zero, List.getElem?_cons_succ, List.set_cons_zero, List.set_cons_succ, qyz, xo, qzm hl, qxq qw hl, List.length_replicate, qna, uj, qa, zZ, ↓qo, ↓reduceIte, reduceCtorEq, nA, nM, nS, nE, nL, nD]; try simp only [qa, zY]
  refine ⟨fun h => ⟨⟨by omega, by omega⟩, by omega, ⟨by omega, by omega⟩, ⟨by omega, rfl⟩, _, qz.qx [4, 3, 2, 1], ⟨k + 1, ?_, by omega⟩, ?_⟩, fun h => ?_⟩
  · simp only [take_set hml (show k < 16 from by omega), zL, ↓reduceIte, reduceCtorEq, nE, nA]
  · simp only [zL, ↓reduceIte, reduceCtorEq, nE, nA]; omega
  · have hk16 : k = 16 := by omega
    subst hk16
    have e : List.take 16 m ++ List.replicate (16 - 16) 0 = m := by rw [List.take_of_length_le (by omega)]; simp
    rw [e]
def Ja : List AV → Option AV
  | [.agg l] => match bytesOf l with
    | some m => chk (m.length = 16) (some (.agg l))
    | none => none
  | _ => none
theorem qgs : Am.Callee Try.prog 92 (qm Ja) :=
  Am.Callee.plain fun xs v he => by
    unfold Ja at he
    split at he
    · split at he
      · rename_i l m hd
        obtain ⟨h1, he⟩ := ql he
        cases he
        obtain ⟨rfl, h2⟩ := Qt hd
        exact ⟨by simp only [AV.zb, AV.zl, uj, Bool.and_self], by simp only [AV.zl, uj], qha m ⟨h1, h2⟩⟩
      · cases he
    · cases he
def B10 : za := (B9.put 92 (qm Ja))
theorem qi9 : qn Try.prog B10 := (qkm.put (qgs))
theorem Kn : B10 92 = some (qm Ja) := rfl
theorem qhb (n : Int) (m : List Nat) (hm : okD m) : Am.Fn Try.prog 39 [.agg (dia n m)] [] (fun v H' => v = .agg (dia n m) ∧ H' = []) := by
  refine Am.Fn.jd (R := fun v => v = _) qi9 mixed qgu (by simp) (by simp) ?_
  have hml := hm.1
  simp (maxSteps := 3000000) only [Gv, Kn, Ja, zn, hml, Gg hml, Z6 hm.2, qv8, qto qw hml, zy qw hml, wb hml, rd, wrt, wrl, AO.b8, List.getElem?_cons_zero, List.getElem?_cons_succ, List.set_cons_zero, List.set_cons_succ, qb, xo, List.length_replicate, qna, ze, qe, AV.one, qa, zZ, ↓qo, ↓reduceIte, reduceCtorEq, nA, nM, nS, nE, nL, nD]; try simp only [qa, zY]
theorem qgm (m m' : List Nat) (hm : okD m) (hm' : okD m') : Am.Fn Try.prog 186 [.agg (u8s m), .agg (u8s m')] [] (fun v H' => v = .bool (decide (m = m')) ∧ H' = []) := by
  refine Am.Fn.jd (R := fun v => v = _) qi9 mixed qhd (by simp) (by simp) ?_
  have hml := hm.1
  have hml' := hm'.1
  simp (maxSteps := 3000000) only [Kb, qa, zZ, ↓qo, ↓reduceIte, reduceCtorEq, nA, nM, nS, nE, nL, nD]; try simp only [qa, zY]
  refine WA.jn qi9 (fun s => ∃ k : Nat, s = ⟨[(5, .int .i64 k), (3, .ptr 1 0), (2, .ptr 0 0)], [.cells (u8s m), .cells (u8s m')]⟩ ∧ k ≤ 16 ∧ ∀ i, i < k → m.getD i 0 = m'.getD i 0)
    (fun s => match get s.env 5 with | .int _ k => (100 - k).toNat | _ => 0) ⟨_, qz.qx [5, 3, 2], 0, rfl, by omega, by intros; omega⟩ ?_
  rintro s ⟨k, rfl, hk, hc⟩
  have hw : qu .i64 ((k : Int) + 1) = ((k + 1 : Nat) : Int) := by rw [wrap64 (by omega) (by omega)]; rfl
  simp (maxSteps := 3000000) only [W1, Wr, hw, hml, hml', rd, List.getElem?_cons_zero, List.getElem?_cons_succ, qa, zZ, ↓qo, ↓reduceIte, reduceCtorEq, nA, nM, nS, nE, nL, nD]; try simp only [qa, zY]
  refine ⟨fun h => ⟨⟨by omega, by omega⟩, by omega, ⟨by omega, by omega⟩, by omega, fun h2 => ?_, fun h2 => ⟨_, qz.qx [5, 3, 2], ⟨k + 1, rfl, by omega, fun i hi => ?_⟩, ?_⟩⟩, fun h => ?_⟩
  · symm; rw [decide_eq_false_iff_not]; rintro rfl; exact h2 rfl
  · by_cases e : i = k
    · subst e; omega
    · exact hc i (by omega)
  · simp only [zL, ↓reduceIte, reduceCtorEq, nE, nA]; omega
  · symm; rw [decide_eq_true_eq]
    exact qx4 hml hml' fun i hi => hc i (by omega)
def Zm : List AV → Option AV
  | [.agg l, .agg l'] => match bytesOf l, bytesOf l' with
    | some m, some m' => chk (m.length = 16 ∧ m'.length = 16) (some (.bool (decide (m = m'))))
    | _, _ => none
  | _ => none
theorem qgj : Am.Callee Try.prog 186 (qm Zm) :=
  Am.Callee.plain fun xs v he => by
    unfold Zm at he
    split at he
    · split at he
      · rename_i m m' hd hd'
        obtain ⟨h1, he⟩ := ql he
        cases he
        obtain ⟨rfl, h2⟩ := Qt hd
        obtain ⟨rfl, h2'⟩ := Qt hd'
        exact ⟨by simp only [AV.zb, AV.zl, uj, Bool.and_self], rfl, qgm m m' ⟨h1.1, h2⟩ ⟨h1.2, h2'⟩⟩
      · cases he
    · cases he
def Ju : List AV → Option AV
  | [.agg l] => match ui l with
    | some _ => some (.agg l)
    | none => none
  | _ => none
theorem qgp : Am.Callee Try.prog 39 (qm Ju) :=
  Am.Callee.plain fun xs v he => by
    unfold Ju at he
    split at he
    · split at he
      · rename_i l r hd
        obtain ⟨n, m⟩ := r
        cases he
        obtain ⟨rfl, h2⟩ := zp hd
        exact ⟨by simp only [AV.zb, AV.zl, qe, Bool.and_self], by simp only [AV.zl, qe], qhb n m h2⟩
      · cases he
    · cases he
def B11 : za := ((B10.put 39 (qm Ju)).put 186 (qm Zm))
theorem qxw : qn Try.prog B11 := ((qi9.put (qgp)).put (qgj))
theorem K2 : B11 92 = some (qm Ja) := rfl
theorem K1 : B11 186 = some (qm Zm) := rfl
theorem qhe (n n' : Int) (m m' : List Nat) (hm : okD m) (hm' : okD m') : Am.Fn Try.prog 160 [.agg (dia n m), .agg (dia n' m')] [] (fun v H' => v = .bool (decide (n = n' ∧ m = m')) ∧ H' = []) := by
  refine Am.Fn.jd (R := fun v => v = _) qxw mixed qg2 (by simp) (by simp) ?_
  have hml := hm.1
  have hml' := hm'.1
  simp (maxSteps := 3000000) only [G8, K2, K1, Ja, Zm, Gg hml, Gg hml', Z6 hm.2, Z6 hm'.2, hml, hml', qb, rd, List.getElem?_cons_zero, List.getElem?_cons_succ, qa, zZ, ↓qo, ↓reduceIte, reduceCtorEq, nA, nM, nS, nE, nL, nD]; try simp only [qa, zY]
  refine ⟨fun h => ?_, fun h => ⟨fun h2 => ?_, fun h2 => ?_⟩⟩
  · symm; rw [decide_eq_false_iff_not]; exact fun e => h e.1
  · symm; rw [decide_eq_false_iff_not]; exact fun e => h2 e.2
  · symm; rw [decide_eq_true_eq]; exact ⟨h, h2⟩
def trm (t : Int × List Nat × Int) : List AV := dia t.1 t.2.1 ++ [.int .i64 t.2.2]
def zk (ts : List (Int × List Nat × Int)) : List AV := ts.flatMap trm
def okT (ts : List (Int × List Nat × Int)) : Prop := ∀ t, t ∈ ts → okD t.2.1
theorem Bv : ∀ (a b : List AV), AV.zb a = true → AV.zb b = true → AV.zb (a ++ b) = true
  | [], b, _, h => h
  | x :: a, b, h, h' => by
    simp only [AV.zb, Bool.and_eq_true, List.cons_append] at h ⊢
    exact ⟨h.1, Bv a b h.2 h'⟩
theorem yc (t : Int × List Nat × Int) : AV.zb (trm t) = true := Bv _ _ (qe _ _) rfl
theorem qd : ∀ (ts : List (Int × List Nat × Int)), AV.zb (zk ts) = true
  | [] => rfl
  | t :: ts => by simp only [zk, List.flatMap_cons]; exact Bv _ _ (yc t) (qd ts)
theorem zt {t : Int × List Nat × Int} (h : okD t.2.1) : (trm t).length = 18 := by simp [trm, qb, h.1]
theorem zg : ∀ {ts : List (Int × List Nat × Int)}, okT ts → (zk ts).length = ts.length * 18
  | [], _ => rfl
  | t :: ts, h => by
    simp only [zk, List.flatMap_cons, List.length_append, zt (h t (by simp)), List.length_cons]
    have := zg (ts := ts) fun u hu => h u (List.mem_cons_of_mem _ hu)
    unfold zk at this
    rw [this]; omega
theorem kq : ∀ {ts : List (Int × List Nat × Int)} {i : Nat}, okT ts → (h : i < ts.length) → List.take 18 (List.drop (i * 18) (zk ts)) = trm ts[i]
  | t :: ts, 0, h, hi => by
    simp only [zk, List.flatMap_cons, Nat.zero_mul, List.drop_zero, List.getElem_cons_zero]
    rw [List.take_append_of_le_length (by rw [zt (h t (by simp))]; exact Nat.le_refl _), List.take_of_length_le (by rw [zt (h t (by simp))]; exact Nat.le_refl _)]
  | t :: ts, i + 1, h, hi => by
    have h1 := kq (ts := ts) (i := i) (fun u hu => h u (List.mem_cons_of_mem _ hu)) (by simpa using hi)
    simp only [zk, List.flatMap_cons, List.getElem_cons_succ] at h1 ⊢
    rw [List.drop_append, List.drop_of_length_le (by rw [zt (h t (by simp))]; omega), List.nil_append, zt (h t (by simp)), ← h1]
    congr 2; omega
theorem Vv {t : Int × List Nat × Int} (h : okD t.2.1) : List.take 17 (List.drop 0 (trm t)) = dia t.1 t.2.1 := by
  rw [List.drop_zero, trm, List.take_append_of_le_length (by rw [qb, h.1]; exact Nat.le_refl _), qt h.1]
theorem gr {t : Int × List Nat × Int} (h : okD t.2.1) : (trm t)[17]? = some (.int .i64 t.2.2) := by
  rw [trm, List.getElem?_append_right (by rw [qb, h.1]; exact Nat.le_refl _), qb, h.1]; rfl
def Xa : List AV → Option AV
  | [.agg l, .agg l'] => match ui l, ui l' with
    | some (n, m), some (n', m') => some (.bool (decide (n = n' ∧ m = m')))
    | _, _ => none
  | _ => none
theorem qgk : Am.Callee Try.prog 160 (qm Xa) :=
  Am.Callee.plain fun xs v he => by
    unfold Xa at he
    split at he
    · split at he
      · rename_i n m n' m' hd hd'
        cases he
        obtain ⟨rfl, h2⟩ := zp hd
        obtain ⟨rfl, h2'⟩ := zp hd'
        exact ⟨by simp only [AV.zb, AV.zl, qe, Bool.and_self], rfl, qhe n n' m m' h2 h2'⟩
      · cases he
    · cases he
def B12 : za := (B11.put 160 (qm Xa))
theorem qxu : qn Try.prog B12 := (qxw.put (qgk))
theorem Kr : B12 92 = some (qm Ja) := rfl
theorem Kw : B12 186 = some (qm Zm) := rfl
theorem Ks : B12 160 = some (qm Xa) := rfl
theorem qn9 (t u : Int × List Nat × Int) (ht : okD t.2.1) (hu : okD u.2.1) : Am.Fn Try.prog 116 [.agg (trm t), .agg (trm u)] [] (fun v H' => v = .bool (decide (t = u)) ∧ H' = []) := by
  refine Am.Fn.jd (R := fun v => v = _) qxu mixed qpb (by simp) (by simp) ?_
  have h1 := zt ht
  have h2 := zt hu
  simp (maxSteps := 3000000) only [qes, Kr, Kw, Ks, Ja, Zm, Xa, Vv ht, Vv hu, gr ht, gr hu, h1, h2, qq ht, qq hu, rd, List.getElem?_cons_zero, List.getElem?_cons_succ, qa, zZ, ↓qo, ↓reduceIte, reduceCtorEq, nA, nM, nS, nE, nL, nD]; try simp only [qa, zY]
  have he : t = u ↔ (t.1 = u.1 ∧ t.2.1 = u.2.1) ∧ t.2.2 = u.2.2 := by
    obtain ⟨a, b, c⟩ := t
    obtain ⟨a', b', c'⟩ := u
    simp only [Prod.mk.injEq, and_assoc]
  refine ⟨fun h => ?_, fun h => ⟨fun h2 => ?_, fun h2 => ?_⟩⟩
  · symm; rw [decide_eq_false_iff_not, he]; exact fun e => h e.1
  · symm; rw [decide_eq_false_iff_not, he]; exact fun e => h2 e.2
  · symm; rw [decide_eq_true_eq, he]; exact ⟨h, h2⟩
def qdq (l : List AV) : Option (Int × List Nat × Int) := match ui (l.take 17), l.drop 17 with
  | some (n, m), [.int .i64 f] => some (n, m, f)
  | _, _ => none
theorem Bz {t : Int × List Nat × Int} (h : okD t.2.1) : qdq (trm t) = some t := by
  have h1 := Vv h
  rw [List.drop_zero] at h1
  have h2 : (trm t).drop 17 = [.int .i64 t.2.2] := by
    rw [trm, List.drop_append, List.drop_of_length_le (by rw [qb, h.1]; exact Nat.le_refl _), qb, h.1]; rfl
  unfold qdq
  rw [h1, h2, qq h]
theorem Yi {l : List AV} {t : Int × List Nat × Int} (h : qdq l = some t) : l = trm t ∧ okD t.2.1 := by
  unfold qdq at h
  split at h
  · rename_i n m f h1 h2
    cases h
    obtain ⟨h3, h4⟩ := zp h1
    refine ⟨?_, h4⟩
    rw [← List.take_append_drop 17 l, h3, h2]; rfl
  · cases h
def J8 : List AV → Option AV
  | [.agg l, .agg l'] => match qdq l, qdq l' with
    | some t, some u => some (.bool (decide (t = u)))
    | _, _ => none
  | _ => none
theorem qov : Am.Callee Try.prog 116 (qm J8) :=
  Am.Callee.plain fun xs v he => by
    unfold J8 at he
    split at he
    · split at he
      · rename_i t u hd hd'
        cases he
        obtain ⟨rfl, h2⟩ := Yi hd
        obtain ⟨rfl, h2'⟩ := Yi hd'
        exact ⟨by simp only [AV.zb, AV.zl, yc, Bool.and_self], rfl, qn9 t u h2 h2'⟩
      · cases he
    · cases he
def B13 : za := (B12.put 116 (qm J8))
theorem qp7 : qn Try.prog B13 := (qxu.put (qov))
end Go.Proofs.Ytfhckbbgmblhbaa

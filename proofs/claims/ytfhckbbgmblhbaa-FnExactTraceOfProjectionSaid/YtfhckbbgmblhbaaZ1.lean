/- Contracts of functions of the program, and plain laws, part 1: each text of this part is proved without further condition. -/
import Derived.Test.YtfhckbbgmblhbaaAmC
import Derived.Test.YtfhckbbgmblhbaaProg
import Derived.KernelRfl
import Derived.Shelf.Small.Strs
namespace Go.Proofs.Ytfhckbbgmblhbaa
open Go.Am
open Nat renaming reduceAdd → nA, reduceMul → nM, reduceSub → nS, reduceEqDiff → nE, reduceLT → nL, reduceLeDiff → nD, reduceBEq → nB
open Int renaming reduceEq → iE, reduceNe → iN, reduceBEq → iB, reduceBNe → iC, reduceLT → iL, reduceLE → iD, reduceAdd → iA, reduceSub → iS, reduceMul → iM
set_option linter.unusedSimpArgs false
set_option linter.unusedVariables false
set_option maxRecDepth 4000
theorem mixed : Try.prog.follows .mixedOrders = true := by kernel_rfl
def Jn (n i : Int) : Int := if i < n then i else 3 * n - 1 - i
def u3 (x : Int) : Prop := -1000000 ≤ x ∧ x ≤ 1000000
instance (x : Int) : Decidable (u3 x) := by unfold u3; infer_instance
def zx (p : Int) : Bool := decide (2 ≤ p ∧ p ≤ 97) && (List.range 100).all fun k => !(decide (2 ≤ k) && decide ((k : Int) < p) && decide (p.tmod k = 0))
def qxa : AC := .seq (.region [oB 6 false]) (.seq (.region [oM 7 0,oM 8 1,oP 9 .geq 7 8,oM 10 9,oG 11 10 true (.mov (.t 0)),oG 12 10 true (.mov (.t 2)),oG 13 10 true (.bin .leq (.t 11) (.t 12)),o0 14 (.pick (.t 10) (.t 13) (.c (.bool false))),oM 6 14]) .ret)
theorem q6i : zh Try.prog 71 = some ⟨15, qxa, [.slot 6]⟩ := by kernel_rfl
def qj9 : AC := .seq (.region [oB 6 false]) (.seq (.region [oM 7 0,oM 8 1,oP 9 .geq 7 8,oM 10 9,oG 11 10 true (.mov (.t 0)),oG 12 10 true (.mov (.t 2)),oG 13 10 true (.bin .leq (.t 11) (.t 12)),o0 14 (.pick (.t 10) (.t 13) (.c (.bool false))),oM 6 14]) .ret)
theorem qwo : zh Try.prog 66 = some ⟨15, qj9, [.slot 6]⟩ := by kernel_rfl
def qfr : AC := .seq (.region [oI 4 0]) (.seq (.seq (.region [oM 5 1,oM 6 0,oP 7 .lss 5 6]) (.cond 7 (.seq (.region [oM 8 1,oM 4 8]) .ret) .skip)) (.seq (.region [oM 9 0,o0 10 (.bin .mul (.c (.int .i64 3)) (.t 9)),oK 11 .sub 10 1,oM 12 1,oP 13 .sub 11 12,oM 4 13]) .ret))
theorem qou : zh Try.prog 169 = some ⟨14, qfr, [.slot 4]⟩ := by kernel_rfl
def qcc : AC := .seq (.region [oI 4 0]) (.seq (.seq (.region [oM 5 1,oM 6 0,oP 7 .lss 5 6]) (.cond 7 (.seq (.region [oM 8 1,oM 4 8]) .ret) .skip)) (.seq (.region [oM 9 0,o0 10 (.bin .mul (.c (.int .i64 3)) (.t 9)),oK 11 .sub 10 1,oM 12 1,oP 13 .sub 11 12,oM 4 13]) .ret))
theorem qme : zh Try.prog 165 = some ⟨14, qcc, [.slot 4]⟩ := by kernel_rfl
def qot : AC := .seq (.region [oI 4 0]) (.seq (.region [oM 5 0,oM 6 1,oP 7 .rem 5 6,oM 8 1,oP 9 .add 7 8,oM 10 1,oP 11 .rem 9 10,oM 4 11]) .ret)
theorem q0d : zh Try.prog 76 = some ⟨12, qot, [.slot 4]⟩ := by kernel_rfl
def qi1 : AC := .seq (.region [oI 4 0]) (.seq (.region [oM 5 1,oM 6 0,oP 7 .rem 5 6,oM 8 0,oP 9 .add 7 8,oM 10 0,oP 11 .rem 9 10,oM 4 11]) .ret)
theorem qsg : zh Try.prog 70 = some ⟨12, qi1, [.slot 4]⟩ := by kernel_rfl
def Bp : AC := .seq (.seq (.region [oM 4 3,oM 5 0,oP 6 .lss 4 5,oM 7 6,oG 8 7 true (.mov (.t 3)),oG 9 7 true (.bin .lss (.t 8) (.c (.int .i64 100))),o0 10 (.pick (.t 7) (.t 9) (.c (.bool false)))]) (.cond 10 .skip (.exit 0))) (.seq (.block 1 (.seq (.region [oM 13 0,oM 14 3,oP 15 .rem 13 14,oK 16 .eql 15 0]) (.cond 16 (.seq (.region [oB 2 false]) .ret) .skip))) (.region [oM 11 3,oK 12 .add 11 1,oM 3 12]))
def Bo : AC := .seq (.region [oM 17 0,oC 18 66 [.t 17,(.c (.int .i64 2)),(.c (.int .i64 97))],oM 2 18]) .ret
def qb0 : AC := .seq (.region [oB 2 false]) (.seq (.seq (.region [oI 3 2]) (.block 0 (.loop Bp))) Bo)
theorem qlm : zh Try.prog 137 = some ⟨19, qb0, [.slot 2]⟩ := by kernel_rfl
def Kq : AC := .seq (.seq (.region [oM 7 3,oM 8 3,oP 9 .mul 7 8,oM 10 0,oP 11 .leq 9 10]) (.cond 11 .skip (.exit 0))) (.seq (.block 1 (.seq (.region [oM 14 0,oM 15 3,oP 16 .rem 14 15,oK 17 .eql 16 0]) (.cond 17 (.seq (.region [oB 2 false]) .ret) .skip))) (.region [oM 12 3,oK 13 .add 12 1,oM 3 13]))
def Kc : AC := .seq (.region [oB 2 true]) .ret
def qe6 : AC := .seq (.region [oB 2 false]) (.seq (.seq (.region [oM 4 0,oC 5 71 [.t 4,(.c (.int .i64 2)),(.c (.int .i64 97))],o0 6 (.un .not (.t 5))]) (.cond 6 (.seq (.region [oB 2 false]) .ret) .skip)) (.seq (.seq (.region [oI 3 2]) (.block 0 (.loop Kq))) Kc))
theorem qps : zh Try.prog 120 = some ⟨18, qe6, [.slot 2]⟩ := by kernel_rfl
def qep : AC := .seq (.region [oB 4 false]) (.seq (.region [oM 5 0,oC 6 120 [.t 5],oM 7 6,oG 8 7 true (.mov (.t 1)),oG 9 7 true (.mov (.t 0)),oG 10 7 true (.bin .sub (.t 9) (.c (.int .i64 1))),⟨some 11,some (7,true),.call (.c (.fn 71 [] [])) [.t 8,(.c (.int .i64 0)),.t 10]⟩,o0 12 (.pick (.t 7) (.t 11) (.c (.bool false))),oM 4 12]) .ret)
theorem qpl : zh Try.prog 94 = some ⟨13, qep, [.slot 4]⟩ := by kernel_rfl
def uk : List AV → Option AV
  | [.int .i64 a, .int .i64 b, .int .i64 c] => some (.bool (decide (b ≤ a ∧ a ≤ c)))
  | _ => none
def vd : List AV → Option AV
  | [.int .i64 n, .int .i64 i] => chk (u3 n ∧ u3 i) (some (.int .i64 (Jn n i)))
  | _ => none
def Jq : List AV → Option AV
  | [.int .i64 n, .int .i64 p] => chk (0 < p ∧ p ≤ 1000000) (some (.int .i64 (n.emod p)))
  | _ => none
def J0 : List AV → Option AV
  | [.int .i64 p, .int .i64 n] => chk (0 < p ∧ p ≤ 1000000) (some (.int .i64 (n.emod p)))
  | _ => none
def wq : List AV → Option AV
  | [.int .i64 p] => some (.bool (zx p))
  | _ => none
def Q2 : List AV → Option AV
  | [.int .i64 p, .int .i64 c] => some (.bool (zx p && decide (0 ≤ c ∧ c ≤ p - 1)))
  | _ => none
theorem qpe {a b c : Int} : (b ≤ a → decide (a ≤ c) = decide (b ≤ a ∧ a ≤ c)) ∧ (¬b ≤ a → false = decide (b ≤ a ∧ a ≤ c)) :=
  ⟨fun h => by simp [h], fun h => by simp [h]⟩
theorem q53 (a b c : Int) : Am.Fn Try.prog 71 [.int .i64 a, .int .i64 b, .int .i64 c] [] (fun v H' => v = .bool (decide (b ≤ a ∧ a ≤ c)) ∧ H' = []) := by
  refine Am.Fn.xp (R := fun v => v = _) qo.none mixed q6i (by simp) (by simp) ?_
  simp (maxSteps := 3000000) only [qxa, qa, zZ, ↓qp, ↓reduceIte, reduceCtorEq, nA, nM, nS, nE, nL, nD]; try simp only [qa, zY]
  exact qpe
theorem qu8 (a b c : Int) : Am.Fn Try.prog 66 [.int .i64 a, .int .i64 b, .int .i64 c] [] (fun v H' => v = .bool (decide (b ≤ a ∧ a ≤ c)) ∧ H' = []) := by
  refine Am.Fn.xp (R := fun v => v = _) qo.none mixed qwo (by simp) (by simp) ?_
  simp (maxSteps := 3000000) only [qj9, qa, zZ, ↓qp, ↓reduceIte, reduceCtorEq, nA, nM, nS, nE, nL, nD]; try simp only [qa, zY]
  exact qpe
theorem qfg {n i : Int} (hn : u3 n) (hi : u3 i) : (i < n → AV.int .i64 i = AV.int .i64 (Jn n i)) ∧
    (¬i < n → AV.int .i64 (qn .i64 (qn .i64 (qn .i64 (3 * n) - 1) - i)) = AV.int .i64 (Jn n i)) := by
  unfold u3 at hn hi
  refine ⟨fun h => by simp [Jn, h], fun h => ?_⟩
  rw [wrap64 (n := 3 * n) (by omega) (by omega), wrap64 (n := 3 * n - 1) (by omega) (by omega), wrap64 (by omega) (by omega)]
  simp [Jn, h]
theorem qo6 (n i : Int) (hn : u3 n) (hi : u3 i) : Am.Fn Try.prog 169 [.int .i64 n, .int .i64 i] [] (fun v H' => v = .int .i64 (Jn n i) ∧ H' = []) := by
  refine Am.Fn.xp (R := fun v => v = _) qo.none mixed qou (by simp) (by simp) ?_
  simp (maxSteps := 3000000) only [qfr, qa, zZ, ↓qp, ↓reduceIte, reduceCtorEq, nA, nM, nS, nE, nL, nD]; try simp only [qa, zY]
  exact qfg hn hi
theorem qlq (n i : Int) (hn : u3 n) (hi : u3 i) : Am.Fn Try.prog 165 [.int .i64 n, .int .i64 i] [] (fun v H' => v = .int .i64 (Jn n i) ∧ H' = []) := by
  refine Am.Fn.xp (R := fun v => v = _) qo.none mixed qme (by simp) (by simp) ?_
  simp (maxSteps := 3000000) only [qcc, qa, zZ, ↓qp, ↓reduceIte, reduceCtorEq, nA, nM, nS, nE, nL, nD]; try simp only [qa, zY]
  exact qfg hn hi
theorem qij {n p : Int} (h : 0 < p ∧ p ≤ 1000000) : ¬p = 0 ∧ ¬p = 0 ∧ AV.int .i64 ((qn .i64 (n.tmod p + p)).tmod p) = AV.int .i64 (n.emod p) := by
  refine ⟨by omega, by omega, ?_⟩
  have h1 : n.tmod p < p := Int.tmod_lt_of_pos n h.1
  have h2 : -p < n.tmod p := by
    have := Int.lt_tmod_of_pos n h.1
    omega
  rw [wrap64 (by omega) (by omega), Int.tmod_eq_emod_of_nonneg (by omega), Int.add_emod_right]
  congr 1
  rw [Int.tmod_eq_emod]
  split
  · rw [show ((0 : Nat) : Int) = 0 from rfl, Int.sub_zero]; exact Int.emod_emod_of_dvd n (Int.dvd_refl p)
  · rw [show (p.natAbs : Int) = p from by omega, Int.sub_emod_right]
    exact Int.emod_emod_of_dvd n (Int.dvd_refl p)
theorem q1k (n p : Int) (h : 0 < p ∧ p ≤ 1000000) : Am.Fn Try.prog 76 [.int .i64 n, .int .i64 p] [] (fun v H' => v = .int .i64 (n.emod p) ∧ H' = []) := by
  refine Am.Fn.xp (R := fun v => v = _) qo.none mixed q0d (by simp) (by simp) ?_
  simp (maxSteps := 3000000) only [qot, qa, zZ, ↓qp, ↓reduceIte, reduceCtorEq, nA, nM, nS, nE, nL, nD]; try simp only [qa, zY]
  exact qij h
theorem qrm (n p : Int) (h : 0 < p ∧ p ≤ 1000000) : Am.Fn Try.prog 70 [.int .i64 p, .int .i64 n] [] (fun v H' => v = .int .i64 (n.emod p) ∧ H' = []) := by
  refine Am.Fn.xp (R := fun v => v = _) qo.none mixed qsg (by simp) (by simp) ?_
  simp (maxSteps := 3000000) only [qi1, qa, zZ, ↓qp, ↓reduceIte, reduceCtorEq, nA, nM, nS, nE, nL, nD]; try simp only [qa, zY]
  exact qij h
theorem quc {f : FuncId} (h : ∀ a b c, Am.Fn Try.prog f [.int .i64 a, .int .i64 b, .int .i64 c] [] (fun v H' => v = .bool (decide (b ≤ a ∧ a ≤ c)) ∧ H' = [])) : Am.Callee Try.prog f (qk uk) :=
  Am.Callee.plain fun xs v he => by
    unfold uk at he
    split at he
    · cases he; exact ⟨rfl, rfl, h _ _ _⟩
    · cases he
theorem qgw {f : FuncId} (h : ∀ n i, u3 n → u3 i → Am.Fn Try.prog f [.int .i64 n, .int .i64 i] [] (fun v H' => v = .int .i64 (Jn n i) ∧ H' = [])) : Am.Callee Try.prog f (qk vd) :=
  Am.Callee.plain fun xs v he => by
    unfold vd at he
    split at he
    · obtain ⟨h1, he⟩ := qm he
      cases he; exact ⟨rfl, rfl, h _ _ h1.1 h1.2⟩
    · cases he
def B1 : zb := ((((zb.none.put 71 (qk uk)).put 66 (qk uk)).put 169 (qk vd)).put 165 (qk vd))
theorem qpu : qo Try.prog B1 := ((((qo.none.put (quc q53)).put (quc qu8)).put (qgw qo6)).put (qgw qlq))
theorem qhs : B1 71 = some (qk uk) := rfl
theorem qa3 : B1 66 = some (qk uk) := rfl
theorem qfj {p : Int} {k : Nat} (h1 : 2 ≤ k) (hk : k < 100) (h2 : (k : Int) < p) (h3 : p.tmod k = 0) : zx p = false := by
  unfold zx
  rw [Bool.and_eq_false_iff]
  right
  rw [List.all_eq_false]
  exact ⟨k, List.mem_range.2 hk, by simp [h1, h2, h3]⟩
theorem qib {p : Int} (h : 2 ≤ p ∧ p ≤ 97) (h3 : ∀ j : Nat, 2 ≤ j → (j : Int) < p → p.tmod j ≠ 0) : zx p = true := by
  unfold zx
  rw [Bool.and_eq_true]
  refine ⟨decide_eq_true h, List.all_eq_true.2 fun j hj => ?_⟩
  by_cases h5 : 2 ≤ j
  · by_cases h6 : (j : Int) < p
    · have := h3 j h5 h6; simp [h5, h6, this]
    · simp [h6]
  · simp [h5]
theorem qdi {p : Int} (h : ¬(2 ≤ p ∧ p ≤ 97)) : zx p = false := by
  unfold zx; rw [decide_eq_false h, Bool.false_and]
theorem qmq (p : Int) : Am.Fn Try.prog 137 [.int .i64 p] [] (fun v H' => v = .bool (zx p) ∧ H' = []) := by
  refine Am.Fn.xp (R := fun v => v = _) qpu mixed qlm (by simp) (by simp) ?_
  simp (maxSteps := 3000000) only [qb0, qa, zZ, ↓qp, ↓reduceIte, reduceCtorEq, nA, nM, nS, nE, nL, nD]; try simp only [qa, zY]
  refine WA.xo qpu (fun s => ∃ k : Nat, s = ⟨[(3, .int .i64 k), (0, .int .i64 p)], []⟩ ∧ 2 ≤ k ∧ k ≤ 100 ∧ ∀ j : Nat, 2 ≤ j → j < k → (j : Int) < p → p.tmod j ≠ 0) (fun s => match get s.env 3 with | .int _ k => (100 - k).toNat | _ => 0) ⟨_, qu.qv [3, 0], 2, rfl, by omega, by omega, by intros; omega⟩ ?_
  rintro s ⟨k, rfl, h1, h2, h3⟩
  simp (maxSteps := 3000000) only [Bp, Bo, qhs, qa3, uk, qa, zZ, ↓qp, ↓reduceIte, reduceCtorEq, nA, nM, nS, nE, nL, nD]; try simp only [qa, zY]
  refine ⟨fun h4 => ⟨fun h5 => ⟨by omega, fun h6 => ?_, fun h6 => ⟨_, qu.qv [3, 0], ⟨k + 1, ?_, by omega, by omega, ?_⟩, ?_⟩⟩, fun h5 => ?_⟩, fun h4 => ?_⟩
  · exact (qfj h1 (by omega) h4 h6).symm
  · simp only [qv, zu, reduceIte, reduceCtorEq, Nat.reduceEqDiff]
    have : qn .i64 ((k : Int) + 1) = ((k + 1 : Nat) : Int) := by rw [wrap64 (by omega) (by omega)]; rfl
    rw [this]
  · intro j h7 h8 h9
    by_cases h10 : j = k
    · subst h10; exact h6
    · exact h3 j h7 (by omega) h9
  · simp only [qv, zu, reduceIte, reduceCtorEq, Nat.reduceEqDiff]
    have : qn .i64 ((k : Int) + 1) = ((k + 1 : Nat) : Int) := by rw [wrap64 (by omega) (by omega)]; rfl
    rw [this]; omega
  · rw [qdi (by omega)]; simp; omega
  · by_cases h : 2 ≤ p ∧ p ≤ 97
    · rw [qib h fun j a b => h3 j a (by omega) b]; simp [h]
    · rw [qdi h]; simp [h]
theorem qn9 : ((List.range 98).all fun p => (List.range 11).all fun k => !decide (p < k * k ∧ 2 ≤ p) || !((List.range k).all fun j => !decide (2 ≤ j) || p % j != 0) || (List.range p).all fun j => !decide (2 ≤ j) || p % j != 0) = true := by decide +kernel
theorem qso {p : Int} {k : Nat} (h : 2 ≤ p ∧ p ≤ 97) (hk : k ≤ 10) (hkp : p < (k : Int) * k) (h3 : ∀ j : Nat, 2 ≤ j → j < k → p.tmod j ≠ 0) : zx p = true := by
  obtain ⟨q, rfl⟩ : ∃ q : Nat, p = q := ⟨p.toNat, by omega⟩
  have e : ∀ j : Nat, ((q : Int).tmod j = 0) ↔ q % j = 0 := fun j => by
    rw [← Int.ofNat_tmod]; omega
  have h4 := List.all_eq_true.1 (List.all_eq_true.1 qn9 q (List.mem_range.2 (by omega))) k (List.mem_range.2 (by omega))
  have h5 : q < k * k := by
    have : ((k * k : Nat) : Int) = (k : Int) * k := by simp
    omega
  simp only [Bool.or_eq_true, Bool.not_eq_true', decide_eq_false_iff_not] at h4
  rcases h4 with (h4 | h4) | h4
  · exact absurd ⟨h5, by omega⟩ h4
  · exfalso
    rw [List.all_eq_false] at h4
    obtain ⟨j, hj, h6⟩ := h4
    have hj := List.mem_range.1 hj
    apply h6
    by_cases h7 : 2 ≤ j
    · have := h3 j h7 hj
      rw [Ne, e] at this
      simp [this]
    · simp [h7]
  · refine qib h fun j h6 h7 => ?_
    rw [Ne, e]
    have := List.all_eq_true.1 h4 j (List.mem_range.2 (by omega))
    simpa [h6] using this
theorem qm5 (p : Int) : Am.Fn Try.prog 120 [.int .i64 p] [] (fun v H' => v = .bool (zx p) ∧ H' = []) := by
  refine Am.Fn.xp (R := fun v => v = _) qpu mixed qps (by simp) (by simp) ?_
  simp (maxSteps := 3000000) only [qe6, qhs, qa3, uk, qa, zZ, ↓qp, ↓reduceIte, reduceCtorEq, nA, nM, nS, nE, nL, nD]; try simp only [qa, zY]
  refine ⟨fun h => (qdi h).symm, fun h => ?_⟩
  refine WA.xo qpu (fun s => ∃ k : Nat, s = ⟨[(3, .int .i64 k), (0, .int .i64 p)], []⟩ ∧ 2 ≤ k ∧ k ≤ 10 ∧ ∀ j : Nat, 2 ≤ j → j < k → p.tmod j ≠ 0) (fun s => match get s.env 3 with | .int _ k => (100 - k).toNat | _ => 0) ⟨_, qu.qv [3, 0], 2, rfl, by omega, by omega, by intros; omega⟩ ?_
  rintro s ⟨k, rfl, h1, h2, h3⟩
  have hw : qn .i64 ((k : Int) + 1) = ((k + 1 : Nat) : Int) := by rw [wrap64 (by omega) (by omega)]; rfl
  have hm : qn .i64 ((k : Int) * k) = ((k * k : Nat) : Int) := by
    have : k * k ≤ 10 * 10 := Nat.mul_le_mul h2 h2
    rw [← Int.natCast_mul]; exact jj (by omega)
  simp (maxSteps := 3000000) only [Kq, Kc, hm, hw, qv, qa, zZ, ↓qp, ↓reduceIte, reduceCtorEq, nA, nM, nS, nE, nL, nD]; try simp only [qa, zY]
  have hkk : k < 10 ∨ k = 10 := by omega
  refine ⟨fun h4 => ⟨by omega, fun h6 => ?_, fun h6 => ⟨_, qu.qv [3, 0], ⟨k + 1, rfl, by omega, ?_, ?_⟩, ?_⟩⟩, fun h4 => ?_⟩
  · have : k * 2 ≤ k * k := Nat.mul_le_mul_left k h1
    exact (qfj h1 (by omega) (by omega) h6).symm
  · rcases hkk with e | e
    · omega
    · subst e; omega
  · intro j h7 h8
    by_cases h10 : j = k
    · subst h10; exact h6
    · exact h3 j h7 (by omega)
  · simp only [qv, zu, reduceIte, reduceCtorEq, Nat.reduceEqDiff]
    omega
  · rw [qso h h2 (by rw [← Int.natCast_mul]; omega) h3]
theorem qgx {f : FuncId} (h : ∀ p, Am.Fn Try.prog f [.int .i64 p] [] (fun v H' => v = .bool (zx p) ∧ H' = [])) : Am.Callee Try.prog f (qk wq) :=
  Am.Callee.plain fun xs v he => by
    unfold wq at he
    split at he
    · cases he; exact ⟨rfl, rfl, h _⟩
    · cases he
theorem q0g : Am.Callee Try.prog 76 (qk Jq) :=
  Am.Callee.plain fun xs v he => by
    unfold Jq at he
    split at he
    · obtain ⟨h1, he⟩ := qm he
      cases he; exact ⟨rfl, rfl, q1k _ _ h1⟩
    · cases he
theorem qq7 : Am.Callee Try.prog 70 (qk J0) :=
  Am.Callee.plain fun xs v he => by
    unfold J0 at he
    split at he
    · obtain ⟨h1, he⟩ := qm he
      cases he; exact ⟨rfl, rfl, qrm _ _ h1⟩
    · cases he
def B2 : zb := ((((B1.put 120 (qk wq)).put 137 (qk wq)).put 76 (qk Jq)).put 70 (qk J0))
theorem q4h : qo Try.prog B2 := ((((qpu.put (qgx qm5)).put (qgx qmq)).put (q0g)).put (qq7))
theorem qrf : B2 71 = some (qk uk) := rfl
theorem qjp : B2 66 = some (qk uk) := rfl
theorem qfx : B2 120 = some (qk wq) := rfl
theorem uu {p : Int} (h : zx p = true) : 2 ≤ p ∧ p ≤ 97 := by
  unfold zx at h
  rw [Bool.and_eq_true] at h
  exact of_decide_eq_true h.1
theorem qnu (p c : Int) : Am.Fn Try.prog 94 [.int .i64 p, .int .i64 c] [] (fun v H' => v = .bool (zx p && decide (0 ≤ c ∧ c ≤ p - 1)) ∧ H' = []) := by
  refine Am.Fn.xp (R := fun v => v = _) q4h mixed qpl (by simp) (by simp) ?_
  simp (maxSteps := 3000000) only [qep, qrf, qjp, qfx, uk, wq, qa, zZ, ↓qp, ↓reduceIte, reduceCtorEq, nA, nM, nS, nE, nL, nD]; try simp only [qa, zY]
  refine ⟨fun h => ?_, fun h => ?_⟩
  · have := uu h
    rw [h, wrap64 (by omega) (by omega)]; rfl
  · rw [h]; rfl
theorem qqd : Am.Callee Try.prog 94 (qk Q2) :=
  Am.Callee.plain fun xs v he => by
    unfold Q2 at he
    split at he
    · cases he; exact ⟨rfl, rfl, qnu _ _⟩
    · cases he
def B3 : zb := (B2.put 94 (qk Q2))
theorem q4l : qo Try.prog B3 := (q4h.put (qqd))
end Go.Proofs.Ytfhckbbgmblhbaa
namespace Go.Proofs.Ytfhckbbgmblhbaa
open Go.Am Go.Dia
open Nat renaming reduceAdd → nA, reduceMul → nM, reduceSub → nS, reduceEqDiff → nE, reduceLT → nL, reduceLeDiff → nD, reduceBEq → nB
open Int renaming reduceEq → iE, reduceNe → iN, reduceBEq → iB, reduceBNe → iC, reduceLT → iL, reduceLE → iD, reduceAdd → iA, reduceSub → iS, reduceMul → iM
set_option linter.unusedSimpArgs false
set_option linter.unusedVariables false
set_option maxRecDepth 4000
def qau : AC := .seq (.region [oI 2 0]) (.seq (.region [oM 3 0,o0 4 (.x7 (.t 3)),oF 5 0 4,oL 6 5,oM 2 6]) .ret)
theorem qjf : zh Try.prog 168 = some ⟨7, qau, [.slot 2]⟩ := by kernel_rfl
def J5 : AC := .seq (.region [oP 12 .lss 11 10]) (.seq (.cond 12 .skip (.exit 0)) (.seq (.block 1 (.seq (.region [oM 13 11,oM 5 13]) (.seq (.draw false [oM 14 3,oM 15 0,oM 16 3,oM 17 5,o0 19 (.x7 (.t 15)),oF 20 1 19,oM 25 5,oC 18 169 [.t 16,.t 17],o0 21 (.zn 16 1 (.t 20) (.t 18)),oL 22 21,o0 23 (.conv .i64 (.t 22)),oC 24 169 [.t 14,.t 23],oP 26 .gtr 24 25]) (.cond 26 (.region [oM 27 4,o0 28 (.gi 1 [.int .u8 0] [(0,1,(.c (.int .u8 40)))]),o0 29 (.append 1 1 (.t 27) (.t 28)),oM 4 29]) (.region [oM 30 4,o0 31 (.gi 1 [.int .u8 0] [(0,1,(.c (.int .u8 41)))]),o0 32 (.append 1 1 (.t 30) (.t 31)),oM 4 32]))))) (.region [oK 33 .add 11 1,oM 11 33])))
def J7 : AC := .seq (.region [oM 34 4,o0 35 (.b2s (.t 34)),oM 2 35]) .ret
def Uc : AC := .seq (.region [o0 2 (.mov (.c (.str [])))]) (.seq (.region [oM 6 0,oC 7 168 [.t 6],o0 8 (.gi 0 [] []),oM 3 7,oM 4 8]) (.seq (.seq (.region [oM 9 3,o0 10 (.bin .mul (.c (.int .i64 2)) (.t 9)),oI 11 0]) (.block 0 (.loop J5))) J7))
theorem qde : zh Try.prog 142 = some ⟨36, Uc, [.slot 2]⟩ := by kernel_rfl
def G0 : AC := .seq (.seq (.region [oM 7 4,oF 8 0 1,oL 9 8,o0 10 (.bin .mul (.c (.int .i64 2)) (.t 9)),oP 11 .lss 7 10]) (.cond 11 .skip (.exit 0))) (.seq (.block 1 (.seq (.region [oF 14 0 1,oL 15 14,oM 16 4,oC 17 165 [.t 15,.t 16],oM 5 17]) (.seq (.draw false [oF 18 0 1,oL 19 18,oM 20 5,oF 21 1 1,o0 22 (.zn 16 1 (.t 21) (.t 20)),oL 23 22,o0 24 (.conv .i64 (.t 23)),oM 26 4,oC 25 165 [.t 19,.t 24],oP 27 .gtr 25 26]) (.cond 27 (.region [oM 28 3,o0 29 (.gi 1 [.int .u8 0] [(0,1,(.c (.int .u8 40)))]),o0 30 (.append 1 1 (.t 28) (.t 29)),oM 3 30]) (.region [oM 31 3,o0 32 (.gi 1 [.int .u8 0] [(0,1,(.c (.int .u8 41)))]),o0 33 (.append 1 1 (.t 31) (.t 32)),oM 3 33]))))) (.region [oM 12 4,oK 13 .add 12 1,oM 4 13]))
def G8 : AC := .seq (.region [oM 34 3,o0 35 (.b2s (.t 34)),oM 2 35]) .ret
def qev : AC := .seq (.region [o0 1 (.box (.t 0)),o0 2 (.mov (.c (.str [])))]) (.seq (.region [o0 6 (.gi 0 [] []),oM 3 6]) (.seq (.seq (.region [oI 4 0]) (.block 0 (.loop G0))) G8))
theorem qpi : zh Try.prog 150 = some ⟨36, qev, [.slot 2]⟩ := by kernel_rfl
def okD (m : List Nat) : Prop := m.length = 16 ∧ ∀ x, x ∈ m → x < 256
theorem okD.get {m : List Nat} (h : okD m) (i : Nat) : m.getD i 0 < 256 := by
  rw [List.getD_eq_getElem?_getD]
  cases e : m[i]? with
  | none => simp
  | some x => exact h.2 x (List.mem_of_getElem? e)
def bytesOf : List AV → Option (List Nat)
  | [] => some []
  | .int .u8 x :: r => if 0 ≤ x ∧ x < 256 then (match bytesOf r with
    | some l => some (x.toNat :: l)
    | none => none) else none
  | _ => none
theorem qfm : ∀ {m : List Nat}, (∀ x, x ∈ m → x < 256) → bytesOf (u8s m) = some m
  | [], _ => rfl
  | x :: m, h => by
    have h1 := qfm (m := m) fun y hy => h y (List.mem_cons_of_mem _ hy)
    have h2 := h x (by simp)
    simp only [u8s, List.map_cons, bytesOf] at h1 ⊢
    rw [if_pos (by omega), h1]
    simp
theorem qca : ∀ {l : List AV} {m : List Nat}, bytesOf l = some m → l = u8s m ∧ ∀ x, x ∈ m → x < 256
  | [], m, h => by cases h; exact ⟨rfl, by simp⟩
  | a :: l, m, h => by
    cases a <;> (try (simp only [bytesOf, reduceCtorEq] at h; done))
    rename_i k x
    cases k <;> (try (simp only [bytesOf, reduceCtorEq] at h; done))
    simp only [bytesOf] at h
    split at h
    · rename_i hx
      split at h
      · rename_i r hr
        cases h
        obtain ⟨h1, h2⟩ := qca hr
        refine ⟨?_, fun y hy => ?_⟩
        · simp only [u8s, List.map_cons, List.cons.injEq, AV.int.injEq, true_and]
          exact ⟨by omega, h1⟩
        · rcases List.mem_cons.1 hy with rfl | hy
          · omega
          · exact h2 y hy
      · cases h
    · cases h
def vy : List AV → Option (Int × List Nat)
  | .int .i64 n :: r => match bytesOf r with
    | some m => if m.length = 16 then some (n, m) else none
    | none => none
  | _ => none
theorem qy {n : Int} {m : List Nat} (h : okD m) : vy (dia n m) = some (n, m) := by
  simp only [dia, vy, qfm h.2, h.1, if_true]
theorem zl {l : List AV} {n : Int} {m : List Nat} (h : vy l = some (n, m)) : l = dia n m ∧ okD m := by
  unfold vy at h
  split at h
  · split at h
    · rename_i hm
      obtain ⟨h1, h2⟩ := qca hm
      split at h
      · rename_i h3; cases h; exact ⟨by rw [h1]; rfl, h3, h2⟩
      · cases h
    · cases h
  · cases h
theorem q7h (n : Int) : Am.Fn Try.prog 168 [.ptr 0 0] [.ro [.int .i64 n]] (fun v H' => v = .int .i64 n ∧ H' = [.ro [.int .i64 n]]) := by
  refine Am.Fn.xp (R := fun v => v = _) q4l mixed qjf (by simp) (by intro j o h; cases j <;> simp at h; subst h; exact ⟨trivial, trivial⟩) ?_
  simp (maxSteps := 3000000) only [qau, rd, List.getElem?_cons_zero, qa, zZ, ↓qp, ↓reduceIte, reduceCtorEq, nA, nM, nS, nE, nL, nD]; try simp only [qa, zY]
  exact ⟨_, rfl⟩
def g_n : List AV → List AV → Option AV
  | [.int .i64 n], [] => some (.int .i64 n)
  | _, _ => none
theorem q7f : Am.Callee Try.prog 168 (J1 1 g_n) :=
  Am.Callee.read fun l xs v hl he => by
    unfold g_n at he
    split at he
    · cases he; exact ⟨rfl, rfl, rfl, q7h _⟩
    · cases he
theorem quz {n : Int} {m : List Nat} : List.take 1 (List.drop 0 (dia n m)) = [.int .i64 n] := rfl
def B4 : zb := (B3.put 168 (J1 1 g_n))
theorem qnl : qo Try.prog B4 := (q4l.put (q7f))
theorem Jr : B4 169 = some (qk vd) := rfl
theorem Xo : B4 165 = some (qk vd) := rfl
theorem Z0 : B4 168 = some (J1 1 g_n) := rfl
theorem Xr {n k : Nat} (h : k < 2 * n) : Jn n k = (place n k : Nat) := by
  unfold Jn place; split <;> split <;> omega
theorem Be {n x k : Nat} : ((k : Int) < Jn n x) ↔ (k < place n x) := by
  unfold Jn place; split <;> split <;> omega
theorem jy {x : Nat} (h : x < 1000) : u3 (x : Int) := by unfold u3; omega
theorem qcb {l : List AV} (h : AV.zf l = true) : ∀ (j : Nat) (o : AO), [AO.ro l][j]? = some o → o.under [AO.ro l].length := by
  intro j o e
  cases j with
  | zero => simp only [List.getElem?_cons_zero, Option.some.injEq] at e; subst e; exact qj _ _ h
  | succ j => simp at e
def Un (n : Nat) (m : List Nat) : List Nat := (List.range (2 * n)).map fun k => if k < place n (m.getD (place n k) 0) then 40 else 41
theorem qqq (n : Nat) (m : List Nat) : (Un n m).map (fun x => UInt8.ofNat x) = vb n m := by
  simp only [Un, vb, List.map_map]
  refine List.map_congr_left fun k _ => ?_
  simp only [Function.comp]
  split <;> rfl
theorem gg (n : Nat) (m : List Nat) : (Un n m).length = 2 * n := by simp [Un]
theorem qqc {n : Nat} {m : List Nat} {k : Nat} (h : k < 2 * n) : (Un n m).take (k + 1) = (Un n m).take k ++ [if k < place n (m.getD (place n k) 0) then 40 else 41] := by
  rw [List.take_add_one]
  congr 1
  simp [Un, h]
theorem qn8 {l : List AV} {k : Nat} (h : l.length ≤ k) : List.take k (List.drop 0 l) = l := by rw [List.drop_zero, List.take_of_length_le h]
theorem q0u (n : Nat) (m : List Nat) (hn : n ≤ 8) (hm : okD m) : Am.Fn Try.prog 142 [.ptr 0 0] [.ro (dia n m)] (fun v H' => v = .str (vb n m) ∧ H' = [.ro (dia n m)]) := by
  refine Am.Fn.xp (R := fun v => v = _) qnl mixed qde (by simp) (qcb (qg _ _)) ?_
  have h2n : qn .i64 (2 * (n : Int)) = ((2 * n : Nat) : Int) := by rw [wrap64 (by omega) (by omega)]; simp
  simp (maxSteps := 3000000) only [Uc, Jr, Xo, Z0, g_n, vd, rd, List.getElem?_cons_zero, quz, qe, hm.1, h2n, kb, qa, zZ, ↓qp, ↓reduceIte, reduceCtorEq, nA, nM, nS, nE, nL, nD]; try simp only [qa, zY]
  refine WA.xo qnl (fun s => ∃ k : Nat, s = ⟨[(11, .int .i64 k), (10, .int .i64 ((2 * n : Nat) : Int)), (4, .slc 1 0 k false 0), (3, .int .i64 n), (0, .ptr 0 0)], [.ro (dia n m), .vec 1 (u8s ((Un n m).take k))]⟩ ∧ k ≤ 2 * n)
    (fun s => match get s.env 11 with | .int _ k => (100 - k).toNat | _ => 0) ⟨_, qu.trans (qu.qv [11, 10, 4, 3, 0]) (qu.vec 1 0 1 (by decide) rfl rfl ?_ ?_), 0, ?_, by omega⟩ ?_
  · simp only [qv, zu, zV, ↓reduceIte, nE, reduceCtorEq, nB]
  · simp only [zV, ↓reduceIte, nE, reduceCtorEq, nB]
  · simp only [qv, zu, List.take_zero, zV, ↓reduceIte, nE, reduceCtorEq, nB]; rfl
  rintro s ⟨k, rfl, hk⟩
  have hw : qn .i64 ((k : Int) + 1) = ((k + 1 : Nat) : Int) := by rw [wrap64 (by omega) (by omega)]; rfl
  simp (maxSteps := 3000000) only [J5, J7, hw, Jr, Xo, Z0, g_n, vd, rd, List.getElem?_cons_zero, List.getElem?_cons_succ, kb, src, qa, zZ, ↓qp, ↓reduceIte, reduceCtorEq, nA, nM, nS, nE, nL, nD]; try simp only [qa, zY]
  refine ⟨fun h => ?_, fun h => ?_⟩
  · have hk' : k < 2 * n := by omega
    have hp := q7 hk'
    have hg := hm.get (place n k)
    have h1 : qn .i64 ((m.getD (place n k) 0 : Nat) : Int) = (m.getD (place n k) 0 : Nat) := jj (by omega)
    have hlt : (List.take k (Un n m)).length = k := by rw [List.length_take, gg]; omega
    have hap : ∀ c : Nat, c = (if k < place n (m.getD (place n k) 0) then 40 else 41) → List.take k (u8s (List.take k (Un n m))) ++ [AV.int .u8 (c : Int)] = u8s (List.take (k + 1) (Un n m)) := by
      intro c hc
      rw [List.take_of_length_le (by rw [wh, hlt]; exact Nat.le_refl _), qqc hk', ← hc, ← qi3]; rfl
    simp (maxSteps := 3000000) only [Xr hk', h1, qa, zZ, ↓qp, ↓reduceIte, reduceCtorEq, nA, nM, nS, nE, nL, nD]; try simp only [qa, zY]
    refine ⟨⟨jy (by omega), jy (by omega)⟩, ⟨by omega, by omega⟩, by rw [hm.1]; omega, ⟨jy (by omega), jy (by omega)⟩, fun h2 => ?_, fun h2 => ?_⟩
    · have e := hap 40 (by rw [if_pos (Be.1 h2)])
      simp only [Int.cast_ofNat_Int] at e
      refine ⟨by decide, ⟨by rw [wh, hlt]; exact Nat.le_refl _, by decide, by omega⟩, _, qu.xy [0, 3] [11, 10, 4, 3, 0] ⟨by decide, ?_⟩ ?_, ⟨k + 1, ?_, by omega⟩, ?_⟩
      · simp only [over, List.take_zero, List.length_cons, List.length_nil, List.drop_succ_cons, List.drop_nil, List.take_succ_cons, List.drop_zero, e, zK, ↓reduceIte, reduceCtorEq, nE, nB, nA]
      · simp only [zK, ↓reduceIte, reduceCtorEq, nE, nB, nA]
      · simp only [over, List.take_zero, List.length_cons, List.length_nil, List.drop_succ_cons, List.drop_nil, List.take_succ_cons, List.drop_zero, e, zL, ↓reduceIte, reduceCtorEq, nE, nA]
      · simp only [zL, ↓reduceIte, reduceCtorEq, nE, nA]
        omega
    · have e := hap 41 (by rw [if_neg fun h => h2 (Be.2 h)])
      simp only [Int.cast_ofNat_Int] at e
      refine ⟨by decide, ⟨by rw [wh, hlt]; exact Nat.le_refl _, by decide, by omega⟩, _, qu.xy [0, 3] [11, 10, 4, 3, 0] ⟨by decide, ?_⟩ ?_, ⟨k + 1, ?_, by omega⟩, ?_⟩
      · simp only [over, List.take_zero, List.length_cons, List.length_nil, List.drop_succ_cons, List.drop_nil, List.take_succ_cons, List.drop_zero, e, zK, ↓reduceIte, reduceCtorEq, nE, nB, nA]
      · simp only [zK, ↓reduceIte, reduceCtorEq, nE, nB, nA]
      · simp only [over, List.take_zero, List.length_cons, List.length_nil, List.drop_succ_cons, List.drop_nil, List.take_succ_cons, List.drop_zero, e, zL, ↓reduceIte, reduceCtorEq, nE, nA]
      · simp only [zL, ↓reduceIte, reduceCtorEq, nE, nA]
        omega
  · have hkn : k = 2 * n := by omega
    have hall : List.take k (Un n m) = Un n m := by rw [List.take_of_length_le]; rw [gg]; omega
    rw [hall, qn8 (by rw [wh, gg]; omega), Gl, zd, qqq]
    simp (maxSteps := 3000000) only [List.set_cons_zero, List.set_cons_succ, qa, zZ, ↓qp, ↓reduceIte, reduceCtorEq, nA, nM, nS, nE, nL, nD]; try simp only [qa, zY]
    exact ⟨by rw [wh, gg]; omega, _, rfl⟩
theorem qog (n : Nat) (m : List Nat) (hn : n ≤ 8) (hm : okD m) : Am.Fn Try.prog 150 [.agg (dia n m)] [] (fun v H' => v = .str (vb n m) ∧ H' = []) := by
  refine Am.Fn.xp (R := fun v => v = _) qnl mixed qpi (by simp) (by simp) ?_
  have h2n : qn .i64 (2 * (n : Int)) = ((2 * n : Nat) : Int) := by rw [wrap64 (by omega) (by omega)]; simp
  simp (maxSteps := 3000000) only [qev, kb, qa, zZ, ↓qp, ↓reduceIte, reduceCtorEq, nA, nM, nS, nE, nL, nD]; try simp only [qa, zY]
  refine WA.xo qnl (fun s => ∃ k : Nat, s = ⟨[(4, .int .i64 k), (3, .slc 1 0 k false 0), (1, .ptr 0 0)], [.cells (dia n m), .vec 1 (u8s ((Un n m).take k))]⟩ ∧ k ≤ 2 * n)
    (fun s => match get s.env 4 with | .int _ k => (100 - k).toNat | _ => 0) ⟨_, qu.trans (qu.qv [4, 3, 1]) (qu.vec 1 0 1 (by decide) rfl rfl ?_ ?_), 0, ?_, by omega⟩ ?_
  · simp only [qv, zu, zV, ↓reduceIte, nE, reduceCtorEq, nB]
  · simp only [zV, ↓reduceIte, nE, reduceCtorEq, nB]
  · simp only [qv, zu, List.take_zero, zV, ↓reduceIte, nE, reduceCtorEq, nB]; rfl
  rintro s ⟨k, rfl, hk⟩
  have hw : qn .i64 ((k : Int) + 1) = ((k + 1 : Nat) : Int) := by rw [wrap64 (by omega) (by omega)]; rfl
  simp (maxSteps := 3000000) only [G0, G8, hw, h2n, vz, Jr, Xo, Z0, g_n, vd, rd, List.getElem?_cons_zero, List.getElem?_cons_succ, kb, src, qa, zZ, ↓qp, ↓reduceIte, reduceCtorEq, nA, nM, nS, nE, nL, nD]; try simp only [qa, zY]
  refine ⟨fun h => ?_, fun h => ?_⟩
  · have hk' : k < 2 * n := by omega
    have hp := q7 hk'
    have hg := hm.get (place n k)
    have h1 : qn .i64 ((m.getD (place n k) 0 : Nat) : Int) = (m.getD (place n k) 0 : Nat) := jj (by omega)
    have hlt : (List.take k (Un n m)).length = k := by rw [List.length_take, gg]; omega
    have hap : ∀ c : Nat, c = (if k < place n (m.getD (place n k) 0) then 40 else 41) → List.take k (u8s (List.take k (Un n m))) ++ [AV.int .u8 (c : Int)] = u8s (List.take (k + 1) (Un n m)) := by
      intro c hc
      rw [List.take_of_length_le (by rw [wh, hlt]; exact Nat.le_refl _), qqc hk', ← hc, ← qi3]; rfl
    simp (maxSteps := 3000000) only [Xr hk', h1, qa, zZ, ↓qp, ↓reduceIte, reduceCtorEq, nA, nM, nS, nE, nL, nD]; try simp only [qa, zY]
    refine ⟨⟨jy (by omega), jy (by omega)⟩, ⟨by omega, by omega⟩, by rw [hm.1]; omega, ⟨jy (by omega), jy (by omega)⟩, fun h2 => ?_, fun h2 => ?_⟩
    · have e := hap 40 (by rw [if_pos (Be.1 h2)])
      simp only [Int.cast_ofNat_Int] at e
      refine ⟨by decide, ⟨by rw [wh, hlt]; exact Nat.le_refl _, by decide, by omega⟩, _, qu.xy [0, 3] [4, 3, 1] ⟨by decide, ?_⟩ ?_, ⟨k + 1, ?_, by omega⟩, ?_⟩
      · simp only [over, List.take_zero, List.length_cons, List.length_nil, List.drop_succ_cons, List.drop_nil, List.take_succ_cons, List.drop_zero, e, zK, ↓reduceIte, reduceCtorEq, nE, nB, nA]
      · simp only [zK, ↓reduceIte, reduceCtorEq, nE, nB, nA]
      · simp only [over, List.take_zero, List.length_cons, List.length_nil, List.drop_succ_cons, List.drop_nil, List.take_succ_cons, List.drop_zero, e, zL, ↓reduceIte, reduceCtorEq, nE, nA]
      · simp only [zL, ↓reduceIte, reduceCtorEq, nE, nA]
        omega
    · have e := hap 41 (by rw [if_neg fun h => h2 (Be.2 h)])
      simp only [Int.cast_ofNat_Int] at e
      refine ⟨by decide, ⟨by rw [wh, hlt]; exact Nat.le_refl _, by decide, by omega⟩, _, qu.xy [0, 3] [4, 3, 1] ⟨by decide, ?_⟩ ?_, ⟨k + 1, ?_, by omega⟩, ?_⟩
      · simp only [over, List.take_zero, List.length_cons, List.length_nil, List.drop_succ_cons, List.drop_nil, List.take_succ_cons, List.drop_zero, e, zK, ↓reduceIte, reduceCtorEq, nE, nB, nA]
      · simp only [zK, ↓reduceIte, reduceCtorEq, nE, nB, nA]
      · simp only [over, List.take_zero, List.length_cons, List.length_nil, List.drop_succ_cons, List.drop_nil, List.take_succ_cons, List.drop_zero, e, zL, ↓reduceIte, reduceCtorEq, nE, nA]
      · simp only [zL, ↓reduceIte, reduceCtorEq, nE, nA]
        omega
  · have hkn : k = 2 * n := by omega
    have hall : List.take k (Un n m) = Un n m := by rw [List.take_of_length_le]; rw [gg]; omega
    rw [hall, qn8 (by rw [wh, gg]; omega), Gl, zd, qqq]
    simp (maxSteps := 3000000) only [List.set_cons_zero, List.set_cons_succ, qa, zZ, ↓qp, ↓reduceIte, reduceCtorEq, nA, nM, nS, nE, nL, nD]; try simp only [qa, zY]
    rw [wh, gg]; omega
end Go.Proofs.Ytfhckbbgmblhbaa
namespace Go.Proofs.Ytfhckbbgmblhbaa
open Go.Am Go.Dia
open Nat renaming reduceAdd → nA, reduceMul → nM, reduceSub → nS, reduceEqDiff → nE, reduceLT → nL, reduceLeDiff → nD, reduceBEq → nB
open Int renaming reduceEq → iE, reduceNe → iN, reduceBEq → iB, reduceBNe → iC, reduceLT → iL, reduceLE → iD, reduceAdd → iA, reduceSub → iS, reduceMul → iM
set_option linter.unusedSimpArgs false
set_option linter.unusedVariables false
set_option maxRecDepth 4000
set_option maxHeartbeats 4000000
def qe1 : AC := .seq (.region [o0 2 (.box (.t 0)),oI 4 0,oI 5 0]) (.seq (.draw true [oF 8 0 2,oL 9 8,oM 10 1,oF 12 0 2,oL 13 12,oM 14 1,oF 15 1 2,o0 16 (.zn 16 1 (.t 15) (.t 14)),oL 17 16,o0 18 (.conv .i64 (.t 17)),oC 11 165 [.t 9,.t 10],oC 19 165 [.t 13,.t 18],oM 6 11,oM 7 19]) (.seq (.region [oM 20 6,oM 21 7,o0 22 (.Jo true (.t 20) (.t 21)),oM 23 6,oM 24 7,o0 25 (.Jo false (.t 23) (.t 24)),oM 4 22,oM 5 25]) .ret))
theorem qnh : zh Try.prog 145 = some ⟨26, qe1, [.slot 4, .slot 5]⟩ := by kernel_rfl
def qc0 : AC := .seq (.seq (.region [oM 17 4,oK 18 .lss 17 16]) (.cond 18 .skip (.exit 0))) (.seq (.block 1 (.seq (.region [oM 21 4,oF 22 1 1,o0 23 (.zn 16 1 (.t 22) (.t 21)),oL 24 23,o0 25 (.conv .i64 (.t 24)),oM 5 25]) (.seq (.seq (.region [oM 26 4,oM 27 3,o0 28 (.bin .mul (.c (.int .i64 2)) (.t 27)),oP 29 .geq 26 28]) (.cond 29 (.seq (.seq (.region [oM 30 5,oK 31 .neq 30 0]) (.cond 31 (.seq (.region [oB 2 false]) .ret) .skip)) (.exit 1)) .skip)) (.seq (.region [oM 32 5,oM 33 3,o0 34 (.bin .mul (.c (.int .i64 2)) (.t 33)),oP 35 .geq 32 34,oM 36 35,oG 37 36 false (.mov (.t 5)),oG 38 36 false (.mov (.t 4)),oG 39 36 false (.bin .eql (.t 37) (.t 38)),o0 40 (.pick (.t 36) (.c (.bool true)) (.t 39)),oM 41 40,oG 42 41 false (.mov (.t 5)),oG 43 41 false (.qav 1 (.t 1)),oG 44 41 false (.zn 16 1 (.t 43) (.t 42)),oG 45 41 false (.W5 (.t 44)),oG 46 41 false (.conv .i64 (.t 45)),oG 47 41 false (.mov (.t 4)),oG 48 41 false (.bin .neq (.t 46) (.t 47)),o0 49 (.pick (.t 41) (.c (.bool true)) (.t 48))]) (.cond 49 (.seq (.region [oB 2 false]) .ret) .skip))))) (.region [oM 19 4,oK 20 .add 19 1,oM 4 20]))
def qc2 : AC := .seq (.seq (.region [oM 62 9,oM 63 3,o0 64 (.bin .mul (.c (.int .i64 2)) (.t 63)),oP 65 .lss 62 64]) (.cond 65 .skip (.exit 4))) (.seq (.block 5 (.seq (.region [oN 69 17 1,oM 70 9,oC 71 145 [.t 69,.t 70],oM 68 71,oE 72 0 68,oE 73 1 68,oM 10 72,oM 11 73]) (.seq (.region [oM 74 7,oM 75 10,oP 76 .lss 74 75,oM 77 76,oG 78 77 true (.mov (.t 10)),oG 79 77 true (.mov (.t 8)),oG 80 77 true (.bin .lss (.t 78) (.t 79)),o0 81 (.pick (.t 77) (.t 80) (.c (.bool false))),oM 82 81,oG 83 82 true (.mov (.t 8)),oG 84 82 true (.mov (.t 11)),oG 85 82 true (.bin .lss (.t 83) (.t 84)),o0 86 (.pick (.t 82) (.t 85) (.c (.bool false)))]) (.cond 86 (.seq (.region [oB 2 false]) .ret) .skip)))) (.region [oM 66 9,oK 67 .add 66 1,oM 9 67]))
def qbv : AC := .region [oM 54 6,oK 55 .add 54 1,oM 6 55]
def qcw : AC := .seq (.seq (.region [oM 50 6,oM 51 3,o0 52 (.bin .mul (.c (.int .i64 2)) (.t 51)),oP 53 .lss 50 52]) (.cond 53 .skip (.exit 2))) (.seq (.block 3 (.seq (.region [oN 57 17 1,oM 58 6,oC 59 145 [.t 57,.t 58],oM 56 59,oE 60 0 56,oE 61 1 56,oM 7 60,oM 8 61]) (.seq (.region [oI 9 0]) (.block 4 (.loop qc2))))) qbv)
def qbs : AC := .seq (.region [oB 2 true]) .ret
def qbw : AC := .seq (.seq (.region [oI 6 0]) (.block 2 (.loop qcw))) qbs
def qkq : AC := .seq (.region [o0 1 (.box (.t 0)),oB 2 false]) (.seq (.region [oF 12 0 1,oL 13 12,oM 3 13]) (.seq (.seq (.region [oM 14 3,oC 15 66 [.t 14,(.c (.int .i64 1)),(.c (.int .i64 8))],o0 16 (.un .not (.t 15))]) (.cond 16 (.seq (.region [oB 2 false]) .ret) .skip)) (.seq (.seq (.region [oI 4 0]) (.block 0 (.loop qc0))) qbw)))
theorem qu9 : zh Try.prog 91 = some ⟨87, qkq, [.slot 2]⟩ := by kernel_rfl
def qhf : List AV → List AV → Option AV := fun l xs => match vy l, xs with
  | some (n, m), [] => chk (0 ≤ n ∧ n ≤ 8) (some (.str (vb n.toNat m)))
  | _, _ => none
theorem q1e : Am.Callee Try.prog 142 (J1 17 qhf) :=
  Am.Callee.read fun l xs v hl he => by
    unfold qhf at he
    split at he
    · rename_i n m hd
      obtain ⟨h1, he⟩ := qm he
      cases he
      obtain ⟨rfl, hm⟩ := zl hd
      obtain ⟨k, rfl⟩ : ∃ k : Nat, n = k := ⟨n.toNat, by omega⟩
      exact ⟨qg _ _, rfl, rfl, by rw [Int.toNat_natCast]; exact q0u k m (by omega) hm⟩
    · cases he
def qc4 : List AV → Option AV
  | [.agg l] => match vy l with
    | some (n, m) => chk (0 ≤ n ∧ n ≤ 8) (some (.str (vb n.toNat m)))
    | none => none
  | _ => none
theorem qqb : Am.Callee Try.prog 150 (qk qc4) :=
  Am.Callee.plain fun xs v he => by
    unfold qc4 at he
    split at he
    · split at he
      · rename_i n m hd
        obtain ⟨h1, he⟩ := qm he
        cases he
        obtain ⟨rfl, hm⟩ := zl hd
        obtain ⟨k, rfl⟩ : ∃ k : Nat, n = k := ⟨n.toNat, by omega⟩
        exact ⟨by simp only [AV.zf, AV.zo, qg, Bool.and_self], rfl, by rw [Int.toNat_natCast]; exact qog k m (by omega) hm⟩
      · cases he
    · cases he
def B5 : zb := ((B4.put 142 (J1 17 qhf)).put 150 (qk qc4))
theorem q39 : qo Try.prog B5 := ((qnl.put (q1e)).put (qqb))
theorem qja : B5 66 = some (qk uk) := rfl
theorem qdf : B5 165 = some (qk vd) := rfl
theorem qm9 (n i : Nat) (m : List Nat) (hn : n ≤ 8) (hm : okD m) (hi : i < 2 * n) (ht : m.getD i 0 < 2 * n) :
    Am.Fn Try.prog 145 [.agg (dia n m), .int .i64 i] [] (fun v H' => v = .tup [.int .i64 (Wv n m i : Nat), .int .i64 (Ww n m i : Nat)] ∧ H' = []) := by
  refine Am.Fn.xp (R := fun v => v = _) q39 mixed qnh (by simp) (by simp) ?_
  have hg := hm.get i
  have h1 : qn .i64 ((m.getD i 0 : Nat) : Int) = (m.getD i 0 : Nat) := jj (by omega)
  have hl : i < m.length := by rw [hm.1]; omega
  simp (maxSteps := 3000000) only [qe1, qja, qdf, uk, vd, rd, List.getElem?_cons_zero, List.getElem?_cons_succ, vz, Q4 hl, Int.toNat_natCast, Nat.mul_one, h1, Xr hi, Xr ht, and_self, List.append_cancel_left_eq, List.self_eq_append_right, exists_eq, AV.tup.injEq, List.cons.injEq, AV.int.injEq, qa, zZ, ↓qp, ↓reduceIte, reduceCtorEq, nA, nM, nS, nE, nL, nD]; try simp only [qa, zY]
  refine ⟨⟨by omega, by omega⟩, hl, ⟨jy (by omega), jy (by omega)⟩, ⟨jy (by omega), jy (by omega)⟩, ?_, ?_⟩
  · unfold Wv; split <;> omega
  · unfold Ww; split <;> omega
def qbj : List AV → Option AV
  | [.agg l, .int .i64 i] => match vy l with
    | some (n, m) => chk ((0 ≤ n ∧ n ≤ 8) ∧ (0 ≤ i ∧ i < 2 * n) ∧ m.getD i.toNat 0 < 2 * n.toNat) (some (.tup [.int .i64 (Wv n.toNat m i.toNat : Nat), .int .i64 (Ww n.toNat m i.toNat : Nat)]))
    | none => none
  | _ => none
theorem qoa : Am.Callee Try.prog 145 (qk qbj) :=
  Am.Callee.plain fun xs v he => by
    unfold qbj at he
    split at he
    · split at he
      · rename_i i _ n m hd
        obtain ⟨h1, he⟩ := qm he
        cases he
        obtain ⟨rfl, hm⟩ := zl hd
        obtain ⟨k, rfl⟩ : ∃ k : Nat, n = k := ⟨n.toNat, by omega⟩
        obtain ⟨j, rfl⟩ : ∃ j : Nat, i = j := ⟨i.toNat, by omega⟩
        simp only [Int.toNat_natCast] at h1 ⊢
        exact ⟨by simp only [AV.zf, AV.zo, qg, Bool.and_self], rfl, qm9 k j m (by omega) hm (by omega) h1.2.2⟩
      · cases he
    · cases he
def B6 : zb := (B5.put 145 (qk qbj))
theorem qns : qo Try.prog B6 := (q39.put (qoa))
theorem Yk : B6 66 = some (qk uk) := rfl
theorem Xd : B6 165 = some (qk vd) := rfl
theorem Jp : B6 145 = some (qk qbj) := rfl
theorem q1z {n : Int} {m : List Nat} (h : ¬(1 ≤ n ∧ n ≤ 8)) : isS n.toNat m = false := by
  unfold isS; rw [decide_eq_false (by omega)]; rfl
def qar (n : Nat) (m : List Nat) (i : Nat) : Bool := if 2 * n ≤ i then m.getD i 0 == 0 else decide (m.getD i 0 < 2 * n ∧ m.getD i 0 ≠ i ∧ m.getD (m.getD i 0) 0 = i)
theorem qo0 {n i : Nat} {m : List Nat} (h : 2 * n ≤ i) : qar n m i = (m.getD i 0 == 0) := if_pos h
theorem qcy {n i : Nat} {m : List Nat} (h : ¬2 * n ≤ i) : qar n m i = decide (m.getD i 0 < 2 * n ∧ m.getD i 0 ≠ i ∧ m.getD (m.getD i 0) 0 = i) := if_neg h
def jo (n : Nat) (m : List Nat) (i k : Nat) : Bool := decide (Wv n m i < Wv n m k ∧ Wv n m k < Ww n m i ∧ Ww n m i < Ww n m k)
theorem qf5 {n : Nat} {m : List Nat} {i : Nat} (hi : i < 16) (h : qar n m i = false) : isS n m = false := by
  unfold isS
  rw [Bool.and_eq_false_iff]; right
  rw [Bool.and_eq_false_iff]; left
  unfold qyr
  rw [List.all_eq_false]
  exact ⟨i, List.mem_range.2 hi, by unfold qar at h; rw [h]; simp⟩
theorem q2j {n : Nat} {m : List Nat} {i k : Nat} (hi : i < 2 * n) (hk : k < 2 * n) (h : jo n m i k = true) : isS n m = false := by
  unfold isS
  rw [Bool.and_eq_false_iff]; right
  rw [Bool.and_eq_false_iff]; right
  unfold qtf
  rw [List.all_eq_false]
  refine ⟨i, List.mem_range.2 hi, ?_⟩
  rw [Bool.not_eq_true, List.all_eq_false]
  exact ⟨k, List.mem_range.2 hk, by unfold jo at h; rw [h]; simp⟩
theorem q3r {n : Nat} {m : List Nat} (hn : 1 ≤ n ∧ n ≤ 8) (h1 : ∀ i, i < 16 → qar n m i = true) (h2 : ∀ i, i < 2 * n → ∀ k, k < 2 * n → jo n m i k = false) : isS n m = true := by
  unfold isS
  rw [decide_eq_true hn, Bool.true_and, Bool.and_eq_true]
  refine ⟨List.all_eq_true.2 fun i hi => ?_, List.all_eq_true.2 fun i hi => List.all_eq_true.2 fun k hk => ?_⟩
  · exact h1 i (List.mem_range.1 hi)
  · have := h2 i (List.mem_range.1 hi) k (List.mem_range.1 hk)
    unfold jo at this; rw [this]; rfl
theorem qv0 (n : Int) (m : List Nat) (hm : okD m) : Am.Fn Try.prog 91 [.agg (dia n m)] [] (fun v H' => v = .bool (isS n.toNat m) ∧ H' = []) := by
  refine Am.Fn.xp (R := fun v => v = _) qns mixed qu9 (by simp) (by simp) ?_
  simp (maxSteps := 3000000) only [qkq, Yk, Xd, Jp, qbj, uk, vd, rd, List.getElem?_cons_zero, List.getElem?_cons_succ, vz, qa, zZ, ↓qp, ↓reduceIte, reduceCtorEq, nA, nM, nS, nE, nL, nD]; try simp only [qa, zY]
  refine ⟨fun h => (q1z h).symm, fun h => ?_⟩
  obtain ⟨n, rfl⟩ : ∃ k : Nat, n = k := ⟨n.toNat, by omega⟩
  simp only [Int.toNat_natCast]
  have hn : 1 ≤ n ∧ n ≤ 8 := by omega
  have h2n : qn .i64 (2 * (n : Int)) = ((2 * n : Nat) : Int) := by rw [wrap64 (by omega) (by omega)]; simp
  refine WA.xo qns (fun s => ∃ k : Nat, s = ⟨[(4, .int .i64 k), (3, .int .i64 n), (1, .ptr 0 0)], [.cells (dia n m)]⟩ ∧ k ≤ 16 ∧ ∀ i, i < k → qar n m i = true)
    (fun s => match get s.env 4 with | .int _ k => (100 - k).toNat | _ => 0) ⟨_, qu.qv [4, 3, 1], 0, rfl, by omega, by intros; omega⟩ ?_
  rintro s ⟨k, rfl, hk, hc⟩
  have hw : qn .i64 ((k : Int) + 1) = ((k + 1 : Nat) : Int) := by rw [wrap64 (by omega) (by omega)]; rfl
  have hg := hm.get k
  have h1 : qn .i64 ((m.getD k 0 : Nat) : Int) = (m.getD k 0 : Nat) := jj (by omega)
  have hml := hm.1
  simp (maxSteps := 3000000) only [qc0, hw, h2n, h1, hml, rd, List.getElem?_cons_zero, List.getElem?_cons_succ, qa, zZ, ↓qp, ↓reduceIte, reduceCtorEq, nA, nM, nS, nE, nL, nD]; try simp only [qa, zY]
  have hnext : qar n m k = true → ∀ i, i < k + 1 → qar n m i = true := fun hk1 i hi => by
    by_cases e : i = k
    · subst e; exact hk1
    · exact hc i (by omega)
  have htt := hm.get (m.getD k 0)
  refine ⟨fun h3 => ⟨⟨by omega, by omega⟩, by omega, fun h4 => ⟨fun h5 => ?_, fun h5 => ⟨_, qu.qv [4, 3, 1], ⟨k + 1, rfl, by omega, hnext ?_⟩, ?_⟩⟩,
    fun h4 => ⟨fun h5 => ⟨fun h6 => ⟨⟨by omega, by omega⟩, by omega, fun h7 => ?_, fun h7 => ⟨_, qu.qv [4, 3, 1], ⟨k + 1, rfl, by omega, hnext ?_⟩, ?_⟩⟩, fun h6 => ?_⟩, fun h5 => ?_⟩⟩, fun h3 => ?_⟩
  · refine (qf5 (i := k) (by omega) ?_).symm
    rw [qo0 (by omega)]; exact beq_eq_false_iff_ne.2 (by omega)
  · rw [qo0 (by omega)]; exact beq_iff_eq.2 (by omega)
  · simp only [zL, ↓reduceIte, reduceCtorEq, nE, nA]; omega
  · refine (qf5 (i := k) (by omega) ?_).symm
    rw [jj (by omega)] at h7
    rw [qcy (by omega)]; exact decide_eq_false (by omega)
  · rw [jj (by omega)] at h7
    rw [qcy (by omega)]; exact decide_eq_true (by omega)
  · simp only [zL, ↓reduceIte, reduceCtorEq, nE, nA]; omega
  · refine (qf5 (i := k) (by omega) ?_).symm
    rw [qcy (by omega)]; exact decide_eq_false (by omega)
  · refine (qf5 (i := k) (by omega) ?_).symm
    rw [qcy (by omega)]; exact decide_eq_false (by omega)
  have hc' : ∀ i, i < 16 → qar n m i = true := fun i hi => hc i (by omega)
  have hto : ∀ i, i < 2 * n → m.getD i 0 < 2 * n := fun i hi => by
    have := hc' i (by omega)
    unfold qar at this; rw [if_neg (by omega)] at this
    exact (of_decide_eq_true this).1
  clear hc hnext hw
  simp (maxSteps := 3000000) only [qbw, qa, zZ, ↓qp, ↓reduceIte, reduceCtorEq, nA, nM, nS, nE, nL, nD]; try simp only [qa, zY]
  refine WA.xo qns (fun s => ∃ i : Nat, s = ⟨[(6, .int .i64 i), (3, .int .i64 n), (1, .ptr 0 0)], [.cells (dia n m)]⟩ ∧ i ≤ 2 * n ∧ ∀ i', i' < i → ∀ k, k < 2 * n → jo n m i' k = false)
    (fun s => match get s.env 6 with | .int _ k => (100 - k).toNat | _ => 0) ⟨_, qu.qv [6, 3, 1], 0, rfl, by omega, by intros; omega⟩ ?_
  rintro s ⟨i, rfl, hi, hx⟩
  have hw : qn .i64 ((i : Int) + 1) = ((i + 1 : Nat) : Int) := by rw [wrap64 (by omega) (by omega)]; rfl
  simp (maxSteps := 3000000) only [qcw, Yk, Xd, Jp, qbj, uk, vd, hw, h2n, qy hm, qtt hml, qe, hml, rd, List.getElem?_cons_zero, List.getElem?_cons_succ, qa, zZ, ↓qp, ↓reduceIte, reduceCtorEq, nA, nM, nS, nE, nL, nD]; try simp only [qa, zY]
  refine ⟨fun h3 => ⟨⟨⟨by omega, by omega⟩, ⟨by omega, by omega⟩, hto i (by omega)⟩, ?_⟩, fun h3 => ?_⟩
  · have hi2 : i < 2 * n := by omega
    refine WA.xo qns (fun s => ∃ j : Nat, s = ⟨[(9, .int .i64 j), (8, .int .i64 (Ww n m i : Nat)), (7, .int .i64 (Wv n m i : Nat)), (6, .int .i64 i), (3, .int .i64 n), (1, .ptr 0 0)], [.cells (dia n m)]⟩ ∧ j ≤ 2 * n ∧ ∀ j', j' < j → jo n m i j' = false)
      (fun s => match get s.env 9 with | .int _ k => (100 - k).toNat | _ => 0) ⟨_, qu.qv [9, 8, 7, 6, 3, 1], 0, rfl, by omega, by intros; omega⟩ ?_
    rintro s ⟨j, rfl, hj, hy⟩
    have hw' : qn .i64 ((j : Int) + 1) = ((j + 1 : Nat) : Int) := by rw [wrap64 (by omega) (by omega)]; rfl
    simp (maxSteps := 3000000) only [qc2, qbv, Yk, Xd, Jp, qbj, uk, vd, hw, hw', h2n, qy hm, qtt hml, qe, hml, rd, List.getElem?_cons_zero, List.getElem?_cons_succ, qa, zZ, ↓qp, ↓reduceIte, reduceCtorEq, nA, nM, nS, nE, nL, nD]; try simp only [qa, zY]
    have hny : jo n m i j = false → ∀ j', j' < j + 1 → jo n m i j' = false := fun hk1 j' hi => by
      by_cases e : j' = j
      · subst e; exact hk1
      · exact hy j' (by omega)
    refine ⟨fun h4 => ⟨⟨⟨by omega, by omega⟩, ⟨by omega, by omega⟩, hto j (by omega)⟩, fun h5 => ⟨fun h6 => ⟨fun h7 => (q2j hi2 (by omega : j < 2 * n) (decide_eq_true (by omega))).symm, fun h7 => ?_⟩, fun h6 => ?_⟩, fun h5 => ?_⟩, fun h4 => ⟨_, qu.qv [6, 3, 1], ⟨i + 1, rfl, by omega, ?_⟩, ?_⟩⟩
    · refine ⟨_, qu.qv [9, 8, 7, 6, 3, 1], ⟨j + 1, rfl, by omega, hny (decide_eq_false (by omega))⟩, ?_⟩
      simp only [zL, ↓reduceIte, reduceCtorEq, nE, nA]; omega
    · refine ⟨_, qu.qv [9, 8, 7, 6, 3, 1], ⟨j + 1, rfl, by omega, hny (decide_eq_false (by omega))⟩, ?_⟩
      simp only [zL, ↓reduceIte, reduceCtorEq, nE, nA]; omega
    · refine ⟨_, qu.qv [9, 8, 7, 6, 3, 1], ⟨j + 1, rfl, by omega, hny (decide_eq_false (by omega))⟩, ?_⟩
      simp only [zL, ↓reduceIte, reduceCtorEq, nE, nA]; omega
    · intro i' hi' k hk
      by_cases e : i' = i
      · subst e; exact hy k (by omega)
      · exact hx i' (by omega) k hk
    · simp only [zL, ↓reduceIte, reduceCtorEq, nE, nA]; omega
  · simp (maxSteps := 3000000) only [qbs, qa, zZ, ↓qp, ↓reduceIte, reduceCtorEq, nA, nM, nS, nE, nL, nD]; try simp only [qa, zY]
    exact (q3r hn hc' fun i' hi' => hx i' (by omega)).symm
def Ke : List AV → Option AV
  | [.agg l] => match vy l with
    | some (n, m) => some (.bool (isS n.toNat m))
    | none => none
  | _ => none
theorem qux : Am.Callee Try.prog 91 (qk Ke) :=
  Am.Callee.plain fun xs v he => by
    unfold Ke at he
    split at he
    · split at he
      · rename_i n m hd
        cases he
        obtain ⟨rfl, hm⟩ := zl hd
        exact ⟨by simp only [AV.zf, AV.zo, qg, Bool.and_self], rfl, qv0 n m hm⟩
      · cases he
    · cases he
def B7 : zb := (B6.put 91 (qk Ke))
theorem q78 : qo Try.prog B7 := (qns.put (qux))
theorem qio : ∀ (k : Nat) (l : List Nat), l.Nodup → (∀ i, i ∈ l → i < k) → l.length ≤ k
  | 0, [], _, _ => Nat.le_refl _
  | 0, a :: l, _, h => absurd (h a (by simp)) (by omega)
  | k + 1, l, hn, h => by
    by_cases hk : k ∈ l
    · have h1 := qio k (l.erase k) (hn.erase k) fun i hi => by
        have h2 := h i (List.mem_of_mem_erase hi)
        have h3 : i ≠ k := by rintro rfl; exact (List.Nodup.not_mem_erase hn) hi
        omega
      rw [List.length_erase_of_mem hk] at h1; omega
    · have h1 := qio k l hn fun i hi => by
        have h2 := h i hi
        have h3 : i ≠ k := by rintro rfl; exact hk hi
        omega
      omega
end Go.Proofs.Ytfhckbbgmblhbaa
namespace Go.Proofs.Ytfhckbbgmblhbaa
open Go.Am Go.Dia
open Nat renaming reduceAdd → nA, reduceMul → nM, reduceSub → nS, reduceEqDiff → nE, reduceLT → nL, reduceLeDiff → nD, reduceBEq → nB
open Int renaming reduceEq → iE, reduceNe → iN, reduceBEq → iB, reduceBNe → iC, reduceLT → iL, reduceLE → iD, reduceAdd → iA, reduceSub → iS, reduceMul → iM
set_option linter.unusedSimpArgs false
set_option linter.unusedVariables false
set_option maxRecDepth 4000
set_option maxHeartbeats 1000000
def B8 : zb := B7
theorem q71 : qo Try.prog B8 := q78
theorem qw {n : Int} {m : List Nat} (h : m.length = 16) : List.take 17 (dia n m) = dia n m := by
  rw [List.take_of_length_le]; rw [qe, h]; exact Nat.le_refl _
def B9 : zb := B8
theorem q7l : qo Try.prog B9 := q71
def B10 : zb := B9
theorem q5a : qo Try.prog B10 := q7l
def B11 : zb := B10
theorem q48 : qo Try.prog B11 := q5a
def trm (t : Int × List Nat × Int) : List AV := dia t.1 t.2.1 ++ [.int .i64 t.2.2]
def xb (ts : List (Int × List Nat × Int)) : List AV := ts.flatMap trm
def okT (ts : List (Int × List Nat × Int)) : Prop := ∀ t, t ∈ ts → okD t.2.1
theorem K6 : ∀ (a b : List AV), AV.zf a = true → AV.zf b = true → AV.zf (a ++ b) = true
  | [], b, _, h => h
  | x :: a, b, h, h' => by
    simp only [AV.zf, Bool.and_eq_true, List.cons_append] at h ⊢
    exact ⟨h.1, K6 a b h.2 h'⟩
theorem Q0 (t : Int × List Nat × Int) : AV.zf (trm t) = true := K6 _ _ (qg _ _) rfl
theorem qc : ∀ (ts : List (Int × List Nat × Int)), AV.zf (xb ts) = true
  | [] => rfl
  | t :: ts => by simp only [xb, List.flatMap_cons]; exact K6 _ _ (Q0 t) (qc ts)
theorem xv {t : Int × List Nat × Int} (h : okD t.2.1) : (trm t).length = 18 := by simp [trm, qe, h.1]
theorem xe : ∀ {ts : List (Int × List Nat × Int)}, okT ts → (xb ts).length = ts.length * 18
  | [], _ => rfl
  | t :: ts, h => by
    simp only [xb, List.flatMap_cons, List.length_append, xv (h t (by simp)), List.length_cons]
    have := xe (ts := ts) fun u hu => h u (List.mem_cons_of_mem _ hu)
    unfold xb at this
    rw [this]; omega
theorem Zw : ∀ {ts : List (Int × List Nat × Int)} {i : Nat}, okT ts → (h : i < ts.length) → List.take 18 (List.drop (i * 18) (xb ts)) = trm ts[i]
  | t :: ts, 0, h, hi => by
    simp only [xb, List.flatMap_cons, Nat.zero_mul, List.drop_zero, List.getElem_cons_zero]
    rw [List.take_append_of_le_length (by rw [xv (h t (by simp))]; exact Nat.le_refl _), List.take_of_length_le (by rw [xv (h t (by simp))]; exact Nat.le_refl _)]
  | t :: ts, i + 1, h, hi => by
    have h1 := Zw (ts := ts) (i := i) (fun u hu => h u (List.mem_cons_of_mem _ hu)) (by simpa using hi)
    simp only [xb, List.flatMap_cons, List.getElem_cons_succ] at h1 ⊢
    rw [List.drop_append, List.drop_of_length_le (by rw [xv (h t (by simp))]; omega), List.nil_append, xv (h t (by simp)), ← h1]
    congr 2; omega
theorem qcz {t : Int × List Nat × Int} (h : okD t.2.1) : List.take 17 (List.drop 0 (trm t)) = dia t.1 t.2.1 := by
  rw [List.drop_zero, trm, List.take_append_of_le_length (by rw [qe, h.1]; exact Nat.le_refl _), qw h.1]
theorem Qr {t : Int × List Nat × Int} (h : okD t.2.1) : (trm t)[17]? = some (.int .i64 t.2.2) := by
  rw [trm, List.getElem?_append_right (by rw [qe, h.1]; exact Nat.le_refl _), qe, h.1]; rfl
def B12 : zb := B11
theorem q51 : qo Try.prog B12 := q48
def qo7 (l : List AV) : Option (Int × List Nat × Int) := match vy (l.take 17), l.drop 17 with
  | some (n, m), [.int .i64 f] => some (n, m, f)
  | _, _ => none
theorem qvn {t : Int × List Nat × Int} (h : okD t.2.1) : qo7 (trm t) = some t := by
  have h1 := qcz h
  rw [List.drop_zero] at h1
  have h2 : (trm t).drop 17 = [.int .i64 t.2.2] := by
    rw [trm, List.drop_append, List.drop_of_length_le (by rw [qe, h.1]; exact Nat.le_refl _), qe, h.1]; rfl
  unfold qo7
  rw [h1, h2, qy h]
theorem qs2 {l : List AV} {t : Int × List Nat × Int} (h : qo7 l = some t) : l = trm t ∧ okD t.2.1 := by
  unfold qo7 at h
  split at h
  · rename_i n m f h1 h2
    cases h
    obtain ⟨h3, h4⟩ := zl h1
    refine ⟨?_, h4⟩
    rw [← List.take_append_drop 17 l, h3, h2]; rfl
  · cases h
def B13 : zb := B12
theorem q5y : qo Try.prog B13 := q51
def qah : Nat → List AV → Option (List (Int × List Nat × Int))
  | 0, _ => some []
  | k + 1, l => match qo7 (l.take 18), qah k (l.drop 18) with
    | some t, some ts => some (t :: ts)
    | _, _ => none
theorem qkk : ∀ {ts : List (Int × List Nat × Int)} {x : List AV}, okT ts → qah ts.length (xb ts ++ x) = some ts
  | [], _, _ => rfl
  | t :: ts, x, h => by
    have h1 := qkk (ts := ts) (x := x) fun u hu => h u (List.mem_cons_of_mem _ hu)
    have h2 := xv (h t (by simp))
    simp only [xb, List.flatMap_cons, List.length_cons, qah, List.append_assoc] at h1 ⊢
    rw [List.take_append_of_le_length (by omega), List.take_of_length_le (by omega), qvn (h t (by simp)), List.drop_append, List.drop_of_length_le (by omega), h2, List.nil_append]
    simp only [Nat.sub_self, List.drop_zero, h1]
theorem bx {ts : List (Int × List Nat × Int)} (h : okT ts) : qah ts.length (xb ts) = some ts := by
  have := qkk (x := []) h
  rwa [List.append_nil] at this
theorem gv : ∀ {k : Nat} {l : List AV} {ts : List (Int × List Nat × Int)}, qah k l = some ts → ts.length = k ∧ okT ts ∧ l.take (k * 18) = xb ts ∧ k * 18 ≤ l.length
  | 0, l, ts, h => by cases h; exact ⟨rfl, by simp [okT], by simp [xb], by omega⟩
  | k + 1, l, ts, h => by
    simp only [qah] at h
    split at h
    · rename_i t us ht hus
      cases h
      obtain ⟨h1, h2, h3, h4⟩ := gv hus
      obtain ⟨h5, h6⟩ := qs2 ht
      have h7 := xv h6
      have h8 : 18 ≤ l.length := by
        have := congrArg List.length h5
        rw [h7, List.length_take] at this; omega
      rw [List.length_drop] at h4
      refine ⟨by simp [h1], fun u hu => ?_, ?_, by omega⟩
      · rcases List.mem_cons.1 hu with rfl | hu
        · exact h6
        · exact h2 u hu
      · rw [show (k + 1) * 18 = 18 + k * 18 from by omega, List.take_add, h5, h3]; rfl
    · cases h
def two (b b' : Nat) : Ren := fun j => if j = 0 then some (b, 0) else if j = 1 then some (b', 0) else none
theorem K1 {l l' : List AV} (h : AV.zf l = true) (h' : AV.zf l' = true) : ∀ (j : Nat) (o : AO), [AO.ro l, AO.ro l'][j]? = some o → o.under [AO.ro l, AO.ro l'].length := by
  intro j o e
  match j, e with
  | 0, e => cases e; exact qj _ _ h
  | 1, e => cases e; exact qj _ _ h'
  | j + 2, e => simp at e
def B14 : zb := B13
theorem q4w : qo Try.prog B14 := q5y
def elemV (p c n : Int) (b k : Nat) : AV := .agg [.int .i64 p, .int .i64 c, .int .i64 n, .slc b 0 k false 0]
def B15 : zb := B14
theorem q46 : qo Try.prog B15 := q4w
def part (k : Nat) (m : List Nat) (j : Nat) : List Nat := (List.range 16).map fun t => if t < j then (k + t) % 256 else m.getD t 0
def one (b : Nat) : Ren := fun j => if j = 0 then some (b, 0) else none
theorem Callee.wr1 {f : FuncId} {g : BE} (h : ∀ hp xs v hp', g hp xs = some (v, hp') → ∃ (sz : Nat) (l l' : List AV) (b : Nat) (ys : List AV), hp[b]? = some (.vec sz l) ∧ hp' = hp.set b (.vec sz l') ∧
    AV.zf l = true ∧ AV.zf l' = true ∧ xs = AV.zg (one b) ys ∧ xs.all jb = true ∧ AV.qt 1 ys ∧ v.zo = true ∧ Am.Fn Try.prog f ys [.vec sz l] fun v' H' => v' = v ∧ H' = [.vec sz l']) : Am.Callee Try.prog f g := by
  intro hp xs v hp' he
  obtain ⟨sz, l, l', b, ys, hb, rfl, h3, h3', h4, h5, h6, h7, h8⟩ := h hp xs v hp' he
  refine ⟨[.vec sz l], ys, _, one b, [(b, 0)], h8, h4, h5, ⟨fun j hj => ?_, rfl, fun j o c hj hc => ?_, fun j k bj bk oj ok hj hk hoj hok hw hl hjk => ?_⟩, ?_, h6, ?_⟩
  · match j, hj with
    | 0, _ => rfl
  · match j, hj, hc with
    | 0, hj, hc =>
      cases hj; cases hc
      exact ⟨rfl, by simp only [AO.ren, qb _ _ h3]; exact hb⟩
    | j + 1, hj, hc => simp at hj
  · match j, k, hoj, hok with
    | 0, 0, _, _ => rfl
    | 0, k + 1, _, hok => simp at hok
    | j + 1, _, hoj, _ => simp at hoj
  · intro j o hj
    match j, hj with
    | 0, hj => cases hj; exact qj _ _ h3
    | j + 1, hj => simp at hj
  · rintro v' H' ⟨rfl, rfl⟩
    refine ⟨Y6 _ _ h7, ?_⟩
    simp only [after, upd, AO.wr, if_true, AO.ren, qb _ _ h3', List.length_cons, List.length_nil, List.drop_succ_cons, List.drop_nil, List.map_nil, List.append_nil]
def B16 : zb := B15
theorem q5h : qo Try.prog B16 := q46
def B17 : zb := B16
theorem q60 : qo Try.prog B17 := q5h
def B18 : zb := B17
theorem q5k : qo Try.prog B18 := q60
def B19 : zb := B18
theorem q5g : qo Try.prog B19 := q5k
def B20 : zb := B19
theorem q6u : qo Try.prog B20 := q5g
def B21 : zb := B20
theorem q49 : qo Try.prog B21 := q6u
def B22 : zb := B21
theorem q6l : qo Try.prog B22 := q49
theorem Z2 : [AV.int .i64 0, .int .u8 0, .int .u8 0, .int .u8 0, .int .u8 0, .int .u8 0, .int .u8 0, .int .u8 0, .int .u8 0, .int .u8 0, .int .u8 0, .int .u8 0, .int .u8 0, .int .u8 0, .int .u8 0, .int .u8 0, .int .u8 0, .int .i64 0] = trm (0, List.replicate 16 0, 0) := rfl
theorem qc9 (t : Int × List Nat × Int) : (trm t).length = t.2.1.length + 2 := by simp [trm, qe]
theorem qmi {t : Int × List Nat × Int} {n : Int} {m : List Nat} (h : t.2.1.length = 16) (h' : m.length = 16) : over (trm t) 0 (dia n m) = trm (n, m, t.2.2) := by
  simp only [over, trm, List.take_zero, List.nil_append, Nat.zero_add, qe, h']
  rw [List.drop_append, List.drop_of_length_le (by rw [qe, h]; exact Nat.le_refl _), qe, h]; rfl
theorem qhb {t : Int × List Nat × Int} {f : Int} (h : t.2.1.length = 16) : over (trm t) 17 [.int .i64 f] = trm (t.1, t.2.1, f) := by
  simp only [over, trm]
  rw [List.take_append_of_le_length (by rw [qe, h]; exact Nat.le_refl _), List.take_of_length_le (by rw [qe, h]; exact Nat.le_refl _), List.drop_of_length_le (by simp [qe, h]), List.append_nil]
theorem X9 {t u : Int × List Nat × Int} (h : t.2.1.length = 16) (h' : u.2.1.length = 16) : over (trm t) 0 (trm u) = trm u := qgk (by rw [qc9, qc9, h, h'])
theorem qhu {t : Int × List Nat × Int} (h : t.2.1.length = 16) : List.take 18 (trm t) = trm t := by rw [List.take_of_length_le]; rw [qc9, h]; exact Nat.le_refl _
theorem Zb (t : Int × List Nat × Int) : (trm t).all AV.one = true := by simp [trm, zq, AV.one]
theorem q4n : ((0 : Nat) : Int) = 0 := rfl
theorem q4a : ((1 : Nat) : Int) = 1 := rfl
def B23 : zb := B22
theorem q40 : qo Try.prog B23 := q6l
def q0k (r : Int × Int × Int × List (Int × List Nat × Int) × Int) (v : AV) (H' : List AO) : Prop :=
  v = .tup [elemV r.1 r.2.1 r.2.2.1 0 r.2.2.2.1.length, .int .i64 r.2.2.2.2] ∧ H' = [.vec 18 (xb r.2.2.2.1)]
theorem ql2 {a b c d x : AV} : over [a, b, c, d] 0 [x] = [x, b, c, d] := rfl
theorem qmu {a b c d x : AV} : over [a, b, c, d] 1 [x] = [a, x, c, d] := rfl
theorem qmz {a b c d x : AV} : over [a, b, c, d] 2 [x] = [a, b, x, d] := rfl
theorem qlk {a b c d x : AV} : over [a, b, c, d] 3 [x] = [a, b, c, x] := rfl
theorem qmn {a b c d x y z w : AV} : over [a, b, c, d] 0 [x, y, z, w] = [x, y, z, w] := rfl
theorem qf : type_of% (And.intro @ql2 (And.intro @qmu (And.intro @qmz (And.intro @qlk @qmn)))) := (And.intro @ql2 (And.intro @qmu (And.intro @qmz (And.intro @qlk @qmn))))
def B24 : zb := B23
theorem q5v : qo Try.prog B24 := q40
def qz2 : Go.Shelf.Ren := ⟨fun | 106 => 156 | 213 => 183 | 265 => 200 | n => n, fun | 9 => 9 | 3 => 3 | n => n, fun | n => n⟩
theorem q85 : Go.Proofs.Lays.n106 Try.prog qz2 where
  mixed := by kernel_rfl
  f106 := Try.func156.trans (congrArg some (by kernel_rfl))
  f213 := Try.func183.trans (congrArg some (by kernel_rfl))
  f265 := Try.func200.trans (congrArg some (by kernel_rfl))
  t3 := Try.underlying3
  a3 := Try.isAgg3
  z3 := Try.sizeOf3
  v3 := Try.zeroValue3
  t9 := Try.underlying9
  a9 := Try.isAgg9
  z9 := Try.sizeOf9
  v9 := Try.zeroValue9
def qx6 : Go.Shelf.Ren := ⟨fun | 6 => 154 | 15 => 182 | 14 => 181 | 28 => 198 | 29 => 199 | 20 => 190 | 21 => 191 | 22 => 192 | 23 => 193 | 24 => 194 | 25 => 195 | 26 => 196 | 27 => 197 | 46 => 201 | 47 => 202 | 48 => 203 | 49 => 204 | 50 => 205 | 57 => 206 | n => n, fun | 22 => 28 | 24 => 73 | 25 => 150 | 3 => 3 | 39 => 177 | 0 => 0 | 53 => 195 | 55 => 110 | 4 => 4 | 46 => 188 | 45 => 187 | 50 => 192 | 5 => 5 | 9 => 9 | 66 => 197 | 70 => 201 | 76 => 203 | 77 => 204 | n => n, fun | n => n⟩
theorem q8w : Go.Proofs.SlLaysF0.n6 Try.prog qx6 where
  mixed := by kernel_rfl
  f6 := ⟨Try.f154.name, by kernel_rfl, Try.func154.trans (congrArg some (by kernel_rfl))⟩
  f14 := ⟨Try.f181.name, by kernel_rfl, Try.func181.trans (congrArg some (by kernel_rfl))⟩
  f15 := Try.func182.trans (congrArg some (by kernel_rfl))
  f20 := ⟨Try.f190.name, by kernel_rfl, Try.func190.trans (congrArg some (by kernel_rfl))⟩
  f21 := ⟨Try.f191.name, by kernel_rfl, Try.func191.trans (congrArg some (by kernel_rfl))⟩
  f22 := ⟨Try.f192.name, by kernel_rfl, Try.func192.trans (congrArg some (by kernel_rfl))⟩
  f23 := ⟨Try.f193.name, by kernel_rfl, Try.func193.trans (congrArg some (by kernel_rfl))⟩
  f24 := ⟨Try.f194.name, by kernel_rfl, Try.func194.trans (congrArg some (by kernel_rfl))⟩
  f25 := ⟨Try.f195.name, by kernel_rfl, Try.func195.trans (congrArg some (by kernel_rfl))⟩
  f26 := ⟨Try.f196.name, by kernel_rfl, Try.func196.trans (congrArg some (by kernel_rfl))⟩
  f27 := ⟨Try.f197.name, by kernel_rfl, Try.func197.trans (congrArg some (by kernel_rfl))⟩
  f28 := Try.func198.trans (congrArg some (by kernel_rfl))
  f29 := Try.func199.trans (congrArg some (by kernel_rfl))
  f46 := ⟨Try.f201.name, by kernel_rfl, Try.func201.trans (congrArg some (by kernel_rfl))⟩
  f47 := Try.func202.trans (congrArg some (by kernel_rfl))
  f48 := Try.func203.trans (congrArg some (by kernel_rfl))
  f49 := ⟨Try.f204.name, by kernel_rfl, Try.func204.trans (congrArg some (by kernel_rfl))⟩
  f50 := ⟨Try.f205.name, by kernel_rfl, Try.func205.trans (congrArg some (by kernel_rfl))⟩
  f57 := ⟨Try.f206.name, by kernel_rfl, Try.func206.trans (congrArg some (by kernel_rfl))⟩
  t0 := Try.underlying0
  a0 := Try.isAgg0
  z0 := Try.sizeOf0
  v0 := Try.zeroValue0
  t3 := Try.underlying3
  a3 := Try.isAgg3
  z3 := Try.sizeOf3
  v3 := Try.zeroValue3
  t4 := Try.underlying4
  a4 := Try.isAgg4
  z4 := Try.sizeOf4
  v4 := Try.zeroValue4
  t5 := Try.underlying5
  a5 := Try.isAgg5
  z5 := Try.sizeOf5
  v5 := Try.zeroValue5
  t9 := Try.underlying9
  a9 := Try.isAgg9
  z9 := Try.sizeOf9
  v9 := Try.zeroValue9
  t22 := Try.underlying28
  a22 := Try.isAgg28
  z22 := Try.sizeOf28
  v22 := Try.zeroValue28
  t25 := Try.underlying150
  a25 := Try.isAgg150
  z25 := Try.sizeOf150
  v25 := Try.zeroValue150
  t39 := Try.underlying177
  a39 := Try.isAgg177
  z39 := Try.sizeOf177
  v39 := Try.zeroValue177
  t45 := Try.underlying187
  a45 := Try.isAgg187
  z45 := Try.sizeOf187
  v45 := Try.zeroValue187
  t46 := Try.underlying188
  a46 := Try.isAgg188
  z46 := Try.sizeOf188
  v46 := Try.zeroValue188
  t50 := Try.underlying192
  a50 := Try.isAgg192
  z50 := Try.sizeOf192
  v50 := Try.zeroValue192
  t53 := Try.underlying195
  a53 := Try.isAgg195
  z53 := Try.sizeOf195
  v53 := Try.zeroValue195
  t55 := Try.underlying110
  a55 := Try.isAgg110
  z55 := Try.sizeOf110
  v55 := Try.zeroValue110
  t66 := Try.underlying197
  a66 := Try.isAgg197
  z66 := Try.sizeOf197
  v66 := Try.zeroValue197
  t70 := Try.underlying201
  a70 := Try.isAgg201
  z70 := Try.sizeOf201
  v70 := Try.zeroValue201
  t76 := Try.underlying203
  a76 := Try.isAgg203
  z76 := Try.sizeOf203
  v76 := Try.zeroValue203
  t77 := Try.underlying204
  a77 := Try.isAgg204
  z77 := Try.sizeOf204
  v77 := Try.zeroValue204
def Ue : List AV → Option AV
  | [.str a, .str b] => some (.int .i64 (Go.Lib.compareBytes a b))
  | _ => none
theorem qvt (a b : List UInt8) : Am.Fn Try.prog 156 [.str a, .str b] [] (fun v H' => v = .int .i64 (Go.Lib.compareBytes a b) ∧ H' = []) :=
  qpr ⟨Try.f156, Try.func156, by kernel_rfl, by kernel_rfl⟩ rfl rfl fun w => Go.Proofs.Any.strings_Compare q85 ⟨a.toArray⟩ ⟨b.toArray⟩ w
theorem qu3 : Am.Callee Try.prog 156 (qk Ue) := Am.Callee.plain fun xs v he => by
  unfold Ue at he
  split at he
  · cases he; exact ⟨rfl, rfl, qvt _ _⟩
  · cases he
def B26 : zb := (B24.put 156 (qk Ue))
theorem qy6 : qo Try.prog B26 := (q5v.put (qu3))
theorem Bx : B26 142 = some (J1 17 qhf) := rfl
theorem qby : B26 156 = some (qk Ue) := rfl
def Vr : AC := .seq (.region [o0 2 (.box (.t 0)),o0 3 (.box (.t 1)),oI 4 0]) (.seq (.region [oF 5 0 2,oC 6 142 [.t 5],oF 7 0 3,oC 8 142 [.t 7],oC 9 156 [.t 6,.t 8],oM 4 9]) .ret)
theorem qbf : zh Try.prog 155 = some ⟨10, Vr, [.slot 4]⟩ := by kernel_rfl
def txt (t : Int × List Nat × Int) : List UInt8 := vb t.1.toNat t.2.1
def qx9 (t u : Int × List Nat × Int) : Int := Go.Lib.compareBytes (txt t) (txt u)
theorem q2t (t u : Int × List Nat × Int) (ht : okD t.2.1) (hu : okD u.2.1) (h1 : 0 ≤ t.1 ∧ t.1 ≤ 8) (h2 : 0 ≤ u.1 ∧ u.1 ≤ 8) :
    Am.Fn Try.prog 155 [.agg (trm t), .agg (trm u)] [] (fun v H' => v = .int .i64 (qx9 t u) ∧ H' = []) := by
  refine Am.Fn.xp (R := fun v => v = _) qy6 mixed qbf (by simp) (by simp) ?_
  simp (maxSteps := 3000000) only [Vr, Bx, qby, Ue, qhf, qcz ht, qcz hu, xv ht, xv hu, qy ht, qy hu, h1, h2, rd, List.getElem?_cons_zero, List.getElem?_cons_succ, qa, zZ, ↓qp, ↓reduceIte, reduceCtorEq, nA, nM, nS, nE, nL, nD]; try simp only [qa, zY]
  rfl
theorem qta : ∀ (a b : List UInt8), (Go.Lib.compareBytes a b < 0) ↔ Op.bytesLess a b = true
  | [], [] => by simp [Go.Lib.compareBytes, Op.bytesLess]
  | [], b :: y => by simp [Go.Lib.compareBytes, Op.bytesLess]
  | a :: x, [] => by simp [Go.Lib.compareBytes, Op.bytesLess]
  | a :: x, b :: y => by
    simp only [Go.Lib.compareBytes, Op.bytesLess, Bool.or_eq_true, Bool.and_eq_true, decide_eq_true_eq, beq_iff_eq]
    by_cases h : a < b
    · simp [h]
    · by_cases h2 : b < a
      · have : a ≠ b := fun e => by subst e; exact UInt8.lt_irrefl _ h2
        simp [h, h2, this]
      · have : a = b := UInt8.le_antisymm (UInt8.not_lt.1 h2) (UInt8.not_lt.1 h)
        subst this
        simp only [h, if_false, false_or, true_and]
        exact qta x y
theorem ug : ∀ (a : List UInt8), Op.bytesLess a a = false
  | [] => rfl
  | a :: x => by simp [Op.bytesLess, ug x]
theorem Qx : ∀ (a b c : List UInt8), Op.bytesLess a b = true → Op.bytesLess b c = true → Op.bytesLess a c = true
  | _, _, [], _, h => by cases ‹List UInt8› <;> simp [Op.bytesLess] at h
  | [], _, c :: z, h, _ => by simp [Op.bytesLess]
  | a :: x, [], c :: z, h, _ => by simp [Op.bytesLess] at h
  | a :: x, b :: y, c :: z, h, h' => by
    simp only [Op.bytesLess, Bool.or_eq_true, Bool.and_eq_true, decide_eq_true_eq, beq_iff_eq] at h h' ⊢
    rcases h with h | ⟨rfl, h⟩
    · rcases h' with h' | ⟨rfl, h'⟩
      · exact .inl (UInt8.lt_trans h h')
      · exact .inl h
    · rcases h' with h' | ⟨rfl, h'⟩
      · exact .inl h'
      · exact .inr ⟨rfl, Qx x y z h h'⟩
theorem X7 : ∀ (a b : List UInt8), Op.bytesLess a b = false → Op.bytesLess b a = false → a = b
  | [], [], _, _ => rfl
  | [], b :: y, h, _ => by simp [Op.bytesLess] at h
  | a :: x, [], _, h => by simp [Op.bytesLess] at h
  | a :: x, b :: y, h, h' => by
    simp only [Op.bytesLess, Bool.or_eq_false_iff, Bool.and_eq_false_iff, decide_eq_false_iff_not, beq_eq_false_iff_ne] at h h'
    have e : a = b := UInt8.le_antisymm (UInt8.not_lt.1 h'.1) (UInt8.not_lt.1 h.1)
    subst e
    rw [X7 x y (by simpa using h.2) (by simpa using h'.2)]
theorem Gy (a b : List UInt8) (h : Op.bytesLess a b = true) : Op.bytesLess b a = false := by
  cases hb : Op.bytesLess b a with
  | false => rfl
  | true => have := Qx a b a h hb; rw [ug] at this; cases this
def ltT (t u : Int × List Nat × Int) : Bool := Op.bytesLess (txt t) (txt u)
abbrev qa7 := {t : Int × List Nat × Int // okD t.2.1 ∧ 0 ≤ t.1 ∧ t.1 ≤ 8}
instance : Inhabited qa7 := ⟨⟨(0, List.replicate 16 0, 0), ⟨by simp, by intro x hx; simp at hx; omega⟩, by decide, by decide⟩⟩
theorem qm1 (x y : qa7) : Go.Proofs.ltOf (fun x y : qa7 => qx9 x.1 y.1) x y = ltT x.1 y.1 := by
  unfold Go.Proofs.ltOf qx9 ltT
  have := qta (txt x.1) (txt y.1)
  cases h : Op.bytesLess (txt x.1) (txt y.1) with
  | true => exact decide_eq_true (this.2 h)
  | false => exact decide_eq_false (fun h2 => by rw [this.1 h2] at h; cases h)
theorem swo : Go.Sort.SWO (Go.Proofs.ltOf (fun x y : qa7 => qx9 x.1 y.1)) where
  irrefl x := by rw [qm1]; exact ug _
  trans x y z h h' := by rw [qm1] at *; exact Qx _ _ _ h h'
  ntrans x y z h h' := by
    rw [qm1] at *
    cases hc : ltT x.1 z.1 with
    | false => rfl
    | true =>
      exfalso
      by_cases e : txt x.1 = txt y.1
      · unfold ltT at *; rw [e] at hc; rw [hc] at h'; cases h'
      · have h1 : ltT y.1 x.1 = true := by
          cases hb : ltT y.1 x.1 with
          | true => rfl
          | false => exact absurd (X7 _ _ h hb) e
        have := Qx _ _ _ h1 hc
        unfold ltT at h'; rw [this] at h'; cases h'
def qs0 (t : Int × List Nat × Int) : List (Int × List Nat × Int) → List (Int × List Nat × Int)
  | [] => [t]
  | u :: l => if ltT t u then t :: u :: l else u :: qs0 t l
def Qs : List (Int × List Nat × Int) → List (Int × List Nat × Int)
  | [] => []
  | t :: l => qs0 t (Qs l)
theorem qdb (t : Int × List Nat × Int) : ∀ l, (qs0 t l).Perm (t :: l)
  | [] => .refl _
  | u :: l => by
    unfold qs0; split
    · exact .refl _
    · exact ((qdb t l).cons u).trans (.swap t u l)
theorem ua : ∀ l, (Qs l).Perm l
  | [] => .refl _
  | t :: l => (qdb t _).trans ((ua l).cons t)
def Kl (l : List (Int × List Nat × Int)) : Prop := (l.map txt).Nodup
def upT (l : List (Int × List Nat × Int)) : Prop := l.Pairwise fun a b => ltT a b = true
theorem qun {t : Int × List Nat × Int} : ∀ {l}, upT l → (∀ u ∈ l, txt t ≠ txt u) → upT (qs0 t l)
  | [], _, _ => by simp [qs0, upT]
  | u :: l, h, hn => by
    unfold qs0
    have h' := List.pairwise_cons.1 h
    split
    · rename_i hlt
      exact List.pairwise_cons.2 ⟨fun a ha => by
        rcases List.mem_cons.1 ha with rfl | ha
        · exact hlt
        · exact Qx _ _ _ hlt (h'.1 a ha), h⟩
    · rename_i hlt
      refine List.pairwise_cons.2 ⟨fun a ha => ?_, qun h'.2 fun v hv => hn v (List.mem_cons_of_mem _ hv)⟩
      have hm := (qdb t l).mem_iff.1 ha
      rcases List.mem_cons.1 hm with rfl | hm
      · cases hb : ltT u a with
        | true => rfl
        | false => exact absurd (X7 _ _ (Bool.eq_false_iff.2 hlt) hb) (hn u (List.mem_cons_self ..))
      · exact h'.1 a hm
theorem qb5 : ∀ {l}, Kl l → upT (Qs l)
  | [], _ => .nil
  | t :: l, h => by
    have h' := List.nodup_cons.1 h
    refine qun (qb5 h'.2) fun u hu e => h'.1 ?_
    rw [e]
    exact List.mem_map.2 ⟨u, (ua l).mem_iff.1 hu, rfl⟩
theorem qdq : ∀ {a b : List (Int × List Nat × Int)}, upT a → upT b → a.Perm b → a = b
  | [], b, _, _, hp => by rw [List.nil_perm.1 hp]
  | x :: a, [], _, _, hp => by have := hp.length_eq; simp at this
  | x :: a, y :: b, ha, hb, hp => by
    have ha' := List.pairwise_cons.1 ha
    have hb' := List.pairwise_cons.1 hb
    have e : x = y := by
      have h1 : x ∈ y :: b := hp.mem_iff.1 (List.mem_cons_self ..)
      have h2 : y ∈ x :: a := hp.mem_iff.2 (List.mem_cons_self ..)
      rcases List.mem_cons.1 h1 with h | h
      · exact h
      · rcases List.mem_cons.1 h2 with h' | h'
        · exact h'.symm
        · have c1 := hb'.1 x h
          have c2 := ha'.1 y h'
          have := Gy _ _ c1
          unfold ltT at c2; rw [this] at c2; cases c2
    subst e
    rw [qdq ha'.2 hb'.2 ((List.perm_cons x).1 hp)]
theorem qpx {a l : List (Int × List Nat × Int)} (hp : a.Perm l) (hs : a.Pairwise fun x y => ltT y x = false) (hl : Kl l) : a = Qs l := by
  have hn : (a.map txt).Nodup := (hp.map txt).nodup_iff.2 hl
  refine qdq ?_ (qb5 hl) (hp.trans (ua l).symm)
  unfold upT
  rw [List.pairwise_iff_getElem] at hs ⊢
  intro i j hi hj hij
  cases hb : ltT a[i] a[j] with
  | true => rfl
  | false =>
    have e := X7 _ _ hb (hs i j hi hj hij)
    have := (List.pairwise_iff_getElem.1 hn) i j (by simpa using hi) (by simpa using hj) hij
    simp only [List.getElem_map] at this
    exact absurd e this
theorem q63 (ts : List (Int × List Nat × Int)) (hl : ts.length ≤ 1000000000) (hok : ∀ t ∈ ts, okD t.2.1 ∧ 0 ≤ t.1 ∧ t.1 ≤ 8) (hap : Kl ts) :
    Am.Fn Try.prog 154 [.slc 0 0 ts.length false 0, .fn 155 [] []] [.vec 18 (xb ts)] (fun v H' => v = .tup [] ∧ H' = [.vec 18 (xb (Qs ts))]) := by
  obtain ⟨d, rfl⟩ : ∃ d : List qa7, ts = d.map Subtype.val := ⟨ts.attach.map fun x => ⟨x.1, hok x.1 x.2⟩, by rw [List.map_map]; exact (List.attach_map_subtype_val ts).symm⟩
  have e : ∀ d : List qa7, xb (d.map Subtype.val) = d.flatMap fun x => trm x.1 := fun d => by simp [xb, List.flatMap_map]
  have := q3s q8w 18 (by decide) Try.isAgg73 Try.sizeOf73 (fun x : qa7 => trm x.1) (fun x => xv x.2.1) (fun x a ha => ?_) (fun x => Q0 _) (fun x y => qx9 x.1 y.1) swo
    ⟨Try.f154, Try.func154, by kernel_rfl, by kernel_rfl⟩ 155 ⟨Try.f155, Try.func155, by kernel_rfl, by kernel_rfl⟩
    (fun x y => q2t x.1 y.1 x.2.1 y.2.1 x.2.2 y.2.2) d (by simp at hl; omega)
  · rw [List.length_map, e]
    refine this.mono ?_
    rintro v H' ⟨rfl, d', hp, hs, rfl⟩
    refine ⟨rfl, ?_⟩
    rw [← e d', qpx (hp.map _) ?_ hap]
    exact List.pairwise_map.2 (hs.imp fun {a b} h => by rw [qm1] at h; exact h)
  · simp only [trm, dia, List.cons_append, List.mem_cons, List.mem_append, List.not_mem_nil, or_false] at ha
    rcases ha with rfl | ha | rfl
    · rfl
    · unfold u8s at ha
      obtain ⟨y, _, rfl⟩ := List.mem_map.1 ha
      rfl
    · rfl
def Kd : BE := fun hp xs => match xs with
  | [.slc b 0 n false 0, .fn 155 [] []] => match hp[b]? with
    | some (.vec 18 l) => match qah n l with
      | some ts => chk (l.length = n * 18 ∧ n ≤ 1000000 ∧ (∀ t ∈ ts, 0 ≤ t.1 ∧ t.1 ≤ 8) ∧ (ts.map txt).Nodup) (some (.tup [], hp.set b (.vec 18 (xb (Qs ts)))))
      | none => none
    | _ => none
  | _ => none
theorem q6a : Am.Callee Try.prog 154 Kd := Callee.wr1 fun hp xs v hp' he => by
  unfold Kd at he
  split at he
  · rename_i b n
    split at he
    · rename_i l hb
      split at he
      · rename_i ts hts
        obtain ⟨h0, he⟩ := qm he
        simp only [Option.some.injEq, Prod.mk.injEq] at he
        obtain ⟨rfl, rfl⟩ := he
        obtain ⟨e1, e2, e3, e4⟩ := gv hts
        have hl : l = xb ts := by rw [← e3, List.take_of_length_le (by omega)]
        subst hl
        refine ⟨18, xb ts, _, b, [.slc 0 0 ts.length false 0, .fn 155 [] []], hb, rfl, qc _, qc _, ?_, rfl, ⟨by simp [AV.under], ⟨trivial, trivial⟩, trivial⟩, rfl, ?_⟩
        · simp only [AV.zg, AV.ren, one, if_true, e1, Nat.zero_add]
        · exact q63 ts (by omega) (fun t ht => ⟨e2 t ht, h0.2.2.1 t ht⟩) h0.2.2.2
      · cases he
    · cases he
  · cases he
def B27 : zb := (B26.put 154 (Kd))
theorem qri : qo Try.prog B27 := (qy6.put (q6a))
theorem Xs : B27 76 = some (qk Jq) := rfl
theorem ja : B27 154 = some (Kd) := rfl
def esT : Nat → List (Int × List Nat × Int) → List AE
  | _, [] => []
  | k, t :: l => ⟨.agg (dia t.1 t.2.1), .int .i64 t.2.2, k⟩ :: esT (k + 1) l
def j5 (ts : List (Int × List Nat × Int)) : AO := .map (esT 0 ts) ts.length
def zr (p : Int) (ts : List (Int × List Nat × Int)) : List (Int × List Nat × Int) := ts.filterMap fun t => if t.2.2.emod p = 0 then none else some (t.1, t.2.1, t.2.2.emod p)
def yh (ts : List (Int × List Nat × Int)) (seen : List Nat) : List (Int × List Nat × Int) := seen.map fun i => ts.getD i (0, [], 0)
theorem K7 : ∀ {ts : List (Int × List Nat × Int)} {k : Nat} {e : AE}, e ∈ esT k ts → ∃ i, i < ts.length ∧ e = ⟨.agg (dia (ts.getD i (0, [], 0)).1 (ts.getD i (0, [], 0)).2.1), .int .i64 (ts.getD i (0, [], 0)).2.2, k + i⟩
  | [], k, e, h => by cases h
  | t :: l, k, e, h => by
    rcases List.mem_cons.1 h with rfl | h
    · exact ⟨0, by simp, by simp⟩
    · obtain ⟨i, h1, rfl⟩ := K7 h
      refine ⟨i + 1, by simpa using h1, ?_⟩
      simp only [List.getD_cons_succ, AE.mk.injEq, true_and]; omega
theorem qt1 : ∀ {ts : List (Int × List Nat × Int)} {k i : Nat}, i < ts.length → (⟨.agg (dia (ts.getD i (0, [], 0)).1 (ts.getD i (0, [], 0)).2.1), .int .i64 (ts.getD i (0, [], 0)).2.2, k + i⟩ : AE) ∈ esT k ts
  | t :: l, k, 0, h => by simp [esT]
  | t :: l, k, i + 1, h => by
    have := qt1 (ts := l) (k := k + 1) (i := i) (by simpa using h)
    simp only [esT, List.mem_cons]
    right
    rw [show k + (i + 1) = k + 1 + i by omega]
    simpa using this
theorem qqv : ∀ {ts : List (Int × List Nat × Int)} {k i : Nat}, i < ts.length → (esT k ts).find? (fun x => x.born == k + i) = some ⟨.agg (dia (ts.getD i (0, [], 0)).1 (ts.getD i (0, [], 0)).2.1), .int .i64 (ts.getD i (0, [], 0)).2.2, k + i⟩
  | t :: l, k, 0, h => by simp [esT]
  | t :: l, k, i + 1, h => by
    have := qqv (ts := l) (k := k + 1) (i := i) (by simpa using h)
    rw [show k + 1 + i = k + (i + 1) by omega] at this
    simp only [esT, List.find?_cons]
    rw [show (k == k + (i + 1)) = false by simp]
    simpa using this
theorem qd2 (n : Nat) (ts : List (Int × List Nat × Int)) (k : Nat) : ∀ e ∈ esT k ts, e.key.under n ∧ e.val.under n := fun e he => by
  obtain ⟨i, _, rfl⟩ := K7 he
  exact ⟨qj _ _ (qg _ _), trivial⟩
theorem Zv (ρ : Ren) (ts : List (Int × List Nat × Int)) : (j5 ts).ren ρ = j5 ts := by
  simp only [j5, AO.ren]
  congr 1
  conv => rhs; rw [← List.map_id (esT 0 ts)]
  refine List.map_congr_left fun e he => ?_
  obtain ⟨i, _, rfl⟩ := K7 he
  simp only [AE.ren, AV.ren, qb _ _ (qg _ _), id]
theorem W2 (ids : List Nat) (ts : List (Int × List Nat × Int)) : (j5 ts).within ids = true := by
  simp only [j5, AO.within, List.all_eq_true]
  intro e he
  obtain ⟨i, _, rfl⟩ := K7 he
  simp only [AV.within, qh _ _ (qg _ _), Bool.and_self]
theorem q9 (ids : List Nat) (ts : List (Int × List Nat × Int)) (k : Nat) : (AO.map (esT 0 ts) k).within ids = true := W2 ids ts
theorem vf (ρ : Ren) (ts : List (Int × List Nat × Int)) (k : Nat) : (AO.map (esT 0 ts) k).ren ρ = AO.map (esT 0 ts) k := by
  have := Zv ρ ts
  simp only [j5, AO.ren, AO.map.injEq] at this ⊢
  exact ⟨this.1, trivial⟩
theorem qxy {r m : Nat} {ts : List (Int × List Nat × Int)} {seen : List Nat} {hp : List AO} {K : AV → List AO → Prop} (h1 : hp[r]? = some (.xq (some m) ts.length seen ts.length)) (h2 : hp[m]? = some (j5 ts))
    (hend : (∀ i, i < ts.length → i ∈ seen) → K (.tup [.bool false]) hp)
    (hgo : ∀ i, i < ts.length → i ∉ seen → K (.tup [.bool true, .agg (dia (ts.getD i (0, [], 0)).1 (ts.getD i (0, [], 0)).2.1), .int .i64 (ts.getD i (0, [], 0)).2.2]) (hp.set r (.xq (some m) ts.length (seen ++ [i]) ts.length))) :
    wbN (.ptr r 0) hp K := by
  simp only [wbN, qug, h1, h2, j5]
  refine ⟨_, qdm ⟨trivial, trivial, fun e he => ?_⟩, fun h => ?_, fun e he hs => ?_⟩
  · obtain ⟨i, h3, rfl⟩ := K7 he; show 0 + i < _; omega
  · refine hend fun i hi => ?_
    have := h _ (qt1 (k := 0) hi)
    simpa using this
  · obtain ⟨i, h3, rfl⟩ := K7 he
    simp only [Nat.zero_add] at hs ⊢
    exact hgo i h3 hs
theorem qyy {B : zb} {n0 nt : Nat} {dst : Option Nat} {it : Opd} {l : List AI} {b : AC} {Q : AX → St → Prop} {s : St}
    (h : wbN (ev s.env it) s.hp (fun v hp' => wbC Try.prog B n0 nt (.seq (.region l) b) Q ⟨xi dst v s.env, hp'⟩)) : wbC Try.prog B n0 nt (.seq (.region (⟨dst, none, .next it⟩ :: l)) b) Q s := h
theorem qyw {ts : List (Int × List Nat × Int)} {seen : List Nat} (hn : seen.Nodup) (hlt : ∀ i ∈ seen, i < ts.length) (h : ∀ i, i < ts.length → i ∈ seen) : (yh ts seen).Perm ts := by
  have hp : seen.Perm (List.range ts.length) := (List.perm_ext_iff_of_nodup hn List.nodup_range).2 fun i => ⟨fun hi => List.mem_range.2 (hlt i hi), fun hi => h i (List.mem_range.1 hi)⟩
  have e : (List.range ts.length).map (fun i => ts.getD i (0, [], 0)) = ts := by
    apply List.ext_getElem (by simp)
    intro i h1 h2
    simp at h1
    simp [h1]
  unfold yh
  refine (hp.map _).trans ?_
  rw [e]
theorem qwa {p : Int} {a b : List (Int × List Nat × Int)} (h : a.Perm b) : (zr p a).Perm (zr p b) := h.filterMap _
theorem qhh {p : Int} : ∀ {l : List (Int × List Nat × Int)}, Kl l → Kl (zr p l) := fun {l} h => by
  unfold Kl zr at *
  refine List.Nodup.sublist ?_ h
  induction l with
  | nil => exact List.nil_sublist _
  | cons t l ih =>
    simp only [List.filterMap_cons]
    split
    · exact (ih (List.nodup_cons.1 h).2).trans (List.sublist_cons_self _ _)
    · rename_i u hu
      split at hu
      · cases hu
      · cases hu
        exact (ih (List.nodup_cons.1 h).2).cons_cons _
theorem qho {p : Int} {l : List (Int × List Nat × Int)} {t : Int × List Nat × Int} (h : t ∈ zr p l) : ∃ u ∈ l, t = (u.1, u.2.1, u.2.2.emod p) ∧ u.2.2.emod p ≠ 0 := by
  obtain ⟨u, hu, he⟩ := List.mem_filterMap.1 h
  split at he
  · cases he
  · rename_i hne; cases he; exact ⟨u, hu, rfl, hne⟩
theorem qt6 {p : Int} {l : List (Int × List Nat × Int)} (h : okT l) : okT (zr p l) := fun t ht => by
  obtain ⟨u, hu, rfl, _⟩ := qho ht; exact h u hu
theorem qp4 {ts : List (Int × List Nat × Int)} {seen : List Nat} (h : okT ts) (hlt : ∀ i ∈ seen, i < ts.length) : okT (yh ts seen) := fun t ht => by
  obtain ⟨i, hi, rfl⟩ := List.mem_map.1 ht
  have := hlt i hi
  simp only [List.getD_eq_getElem?_getD, List.getElem?_eq_getElem this, Option.getD_some]
  exact h _ (List.getElem_mem _)
theorem qj7 (l : List (Int × List Nat × Int)) (t : Int × List Nat × Int) : xb l ++ trm t = xb (l ++ [t]) := by simp [xb]
theorem x8 : [AV.int .i64 0, .int .u8 0, .int .u8 0, .int .u8 0, .int .u8 0, .int .u8 0, .int .u8 0, .int .u8 0, .int .u8 0, .int .u8 0, .int .u8 0, .int .u8 0, .int .u8 0, .int .u8 0, .int .u8 0, .int .u8 0, .int .u8 0] = dia 0 (List.replicate 16 0) := rfl
theorem Qy {n : Int} {m : List Nat} (h : m.length = 16) : over (dia 0 (List.replicate 16 0)) 0 (dia n m) = dia n m := qgk (by rw [qe, qe, h, List.length_replicate])
theorem qkz {n : Int} {m : List Nat} (h : m.length = 16) : over (trm (0, List.replicate 16 0, 0)) 0 (dia n m) = trm (n, m, 0) := qmi (by simp) h
theorem vo : (trm (0, List.replicate 16 0, 0)).length = 18 := rfl
theorem zm : (dia 0 (List.replicate 16 0)).length = 17 := rfl
def Jx : AC := .seq (.region [⟨some 23,none,.next (.t 22)⟩,oE 24 0 23]) (.seq (.cond 24 .skip (.exit 0)) (.block 1 (.seq (.region [o0 25 (.entry (.t 22)),oE 26 0 25,oE 27 1 25,oD 6,oS 17 6 26,oM 7 27]) (.seq (.region [oM 28 7,oM 29 0,o0 30 (.x7 (.t 29)),oF 31 0 30,oL 32 31,oC 33 76 [.t 28,.t 32],oM 7 33]) (.seq (.region [oM 34 7,oK 35 .neq 34 0]) (.cond 35 (.seq (.region [oF 36 0 6,oL 37 36,oF 38 2 5,oT 38 37]) (.region [oF 39 3 5,oL 40 39,oN 41 17 6,oM 42 7,o0 43 (.build [.int .i64 0,.int .u8 0,.int .u8 0,.int .u8 0,.int .u8 0,.int .u8 0,.int .u8 0,.int .u8 0,.int .u8 0,.int .u8 0,.int .u8 0,.int .u8 0,.int .u8 0,.int .u8 0,.int .u8 0,.int .u8 0,.int .u8 0,.int .i64 0] [(0,17,.t 41),(17,1,.t 42)]),o0 44 (.gi 1 [.int .i64 0,.int .u8 0,.int .u8 0,.int .u8 0,.int .u8 0,.int .u8 0,.int .u8 0,.int .u8 0,.int .u8 0,.int .u8 0,.int .u8 0,.int .u8 0,.int .u8 0,.int .u8 0,.int .u8 0,.int .u8 0,.int .u8 0,.int .i64 0] [(0,18,.t 43)]),o0 45 (.append 18 32 (.t 40) (.t 44)),oF 46 3 5,oT 46 45])) .skip))))))
def Jy : AC := .seq (.region [oF 47 3 5,oL 48 47,⟨some 49,none,.call (.c (.fn 154 [] [])) [.t 48,(.c (.fn 155 [] []))]⟩]) (.seq (.region [oN 50 4 5,oS 4 4 50]) .ret)
def Yy : AC := .seq (.region [oZ 4]) (.seq (.draw false [oM 8 0,o0 9 (.x7 (.t 8)),oF 10 0 9,oL 11 10,oM 12 0,o0 13 (.x7 (.t 12)),oF 14 1 13,oL 15 14,oM 16 0,o0 17 (.x7 (.t 16)),oF 18 2 17,oL 19 18,o0 20 (.build [.int .i64 0,.int .i64 0,.int .i64 0,(.v (.slice none 0 0))] [(0,1,.t 11),(1,1,.t 15),(2,1,.t 19)]),oZ 5,oS 4 5 20]) (.seq (.seq (.region [oM 21 1,o0 22 (.Kj (.t 21))]) (.block 0 (.loop Jx))) Jy))
theorem qef : zh Try.prog 105 = some ⟨51, Yy, [.bg 4 4]⟩ := by kernel_rfl
def qka (p c n sz : Int) (ts : List (Int × List Nat × Int)) (seen : List Nat) : St :=
  ⟨[(22, .ptr 4 0), (5, .ptr 3 0), (4, .ptr 2 0), (0, .ptr 0 0)], [.ro [.int .i64 p, .int .i64 c, .int .i64 n], j5 ts, .cells [.int .i64 0, .int .i64 0, .int .i64 0, .v (.slice none 0 0)],
    .cells [.int .i64 p, .int .i64 c, .int .i64 (if zr p (yh ts seen) = [] then n else sz), .slc 5 0 (zr p (yh ts seen)).length false 0], .xq (some 1) ts.length seen ts.length, .vec 18 (xb (zr p (yh ts seen)))]⟩
def q76 (p c n sz : Int) (ts : List (Int × List Nat × Int)) (s : St) : Prop := ∃ seen : List Nat, seen.Nodup ∧ (∀ i ∈ seen, i < ts.length) ∧ s = qka p c n sz ts seen
def qz6 (ts : List (Int × List Nat × Int)) (s : St) : Nat := match s.hp[4]? with | some (AO.xq _ _ seen _) => ts.length - seen.length | _ => 0
theorem q64 (p c n sz : Int) (ts : List (Int × List Nat × Int)) (hp : 0 < p ∧ p ≤ 1000000) (hs : 0 ≤ sz ∧ sz ≤ 8) (ht : okT ts) (hz : ∀ t ∈ ts, t.1 = sz) (ha : Kl ts) (hl : ts.length ≤ 1000000) :
    Am.Fn Try.prog 105 [.ptr 0 0, .map 1] [.ro [.int .i64 p, .int .i64 c, .int .i64 n], j5 ts] (fun v H' => v = elemV p c (if zr p ts = [] then n else sz) 2 (zr p ts).length ∧
      H' = [.ro [.int .i64 p, .int .i64 c, .int .i64 n], j5 ts, .vec 18 (xb (Qs (zr p ts)))]) := by
  refine Am.Fn.ofB qri mixed qef (by simp) ?_ ?_
  · intro j o hj
    match j, hj with
    | 0, hj => cases hj; exact ⟨trivial, trivial, trivial, trivial⟩
    | 1, hj => cases hj; exact qd2 _ _ _
    | j + 2, hj => simp at hj
  have hm : j5 ts = .map (esT 0 ts) ts.length := rfl
  simp (maxSteps := 3000000) only [Yy, hm, ql2, qmu, qmz, qlk, qmn, Xs, ja, Jq, Kd, kb, rd, wrt, wrl, AO.qe5, List.getElem?_cons_zero, List.getElem?_cons_succ, List.set_cons_zero, List.set_cons_succ, qa, zZ, ↓qp, ↓reduceIte, reduceCtorEq, nA, nM, nS, nE, nL, nD]; try simp only [qa, zY]
  refine ⟨rfl, WA.xo qri (q76 p c n sz ts) (qz6 ts) ⟨qka p c n sz ts [], ?_, [], .nil, by simp, rfl⟩ ?_⟩
  · refine qu.trans (qu.qv [22, 5, 4, 0]) ?_
    refine Eq.subst (motive := fun s' => qu 2 _ s') ?_ (qu.q8y 3 3 18 rfl rfl (by simp) ?_ ?_)
    · simp only [qv, zu]
      rfl
    · simp [qv, zu, AV.under]
    · simp only [List.mem_cons, List.not_mem_nil, or_false, forall_eq_or_imp, forall_eq]
      exact ⟨⟨trivial, trivial, trivial, trivial⟩, qd2 _ _ _, ⟨trivial, trivial, trivial, trivial, trivial⟩, ⟨trivial, trivial, trivial, trivial, trivial⟩, fun b h => by cases h; simp⟩
  rintro s ⟨seen, hnd, hlt, rfl⟩
  unfold Jx
  refine qyy (qxy (r := 4) (m := 1) (ts := ts) (seen := seen) rfl rfl (fun hall => ?_) (fun i hi hsn => ?_))
  · have hpm := qyw hnd hlt hall
    have hr := qwa (p := p) hpm
    have hrt := qt6 (p := p) (qp4 ht hlt)
    have hap : (List.map txt (zr p (yh ts seen))).Nodup := (hr.map txt).nodup_iff.2 (qhh ha)
    have hsz : ∀ t ∈ zr p (yh ts seen), 0 ≤ t.1 ∧ t.1 ≤ 8 := fun t h => by
      obtain ⟨u, hu, rfl, _⟩ := qho (hr.mem_iff.1 h)
      simp only [hz u hu]; exact hs
    have hlen : (zr p (yh ts seen)).length = (zr p ts).length := hr.length_eq
    have hle : (zr p ts).length ≤ 1000000 := Nat.le_trans (List.length_filterMap_le _ _) hl
    have hle' : (zr p (yh ts seen)).length ≤ 1000000 := by omega
    have hso : Qs (zr p (yh ts seen)) = Qs (zr p ts) := qpx ((ua _).trans hr) ((qb5 hap).imp fun {a b} h => Gy _ _ h) (qhh ha)
    have hnil : (zr p (yh ts seen) = []) = (zr p ts = []) := propext ⟨fun h => by rw [h] at hr; exact List.nil_perm.1 hr, fun h => by rw [h] at hr; exact List.perm_nil.1 hr⟩
    have htl := xe hrt
    have hto := bx hrt
    rw [hlen] at htl hto
    unfold qka
    simp (maxSteps := 3000000) only [qf, zH, Jy, Xs, ja, Jq, Kd, htl, hto, hle, hap, hsz, hso, hnil, hlen, qa, zZ, ↓qp, ↓reduceIte, reduceCtorEq, nA, nM, nS, nE, nL, nD]; try simp only [qa, zY]
    refine ⟨hsz, rfl, ?_⟩
    refine Ret.xy [0, 1, 5] ⟨⟨by simp, rfl, by decide⟩, ?_⟩ (rs := [.agg [.int .i64 p, .int .i64 c, .int .i64 (if zr p ts = [] then n else sz), .slc 5 0 (zr p ts).length false 0]]) rfl rfl (by simp [xt]) ?_ ⟨?_, ?_⟩
    · simp only [W2, ↓q9, qh _ _ (qc _), zK, ↓reduceIte, reduceCtorEq, nE, nB, nA]
    · intro j l; match j with
      | 0 => exact fun _ => ⟨_, rfl⟩
      | 1 => simp [zj, Zv]; simp [j5]
      | 2 => simp [zj, AO.ren]
      | j + 3 => simp [zj]
    · simp only [elemV, xt]
      simp only [zL, ↓reduceIte, reduceCtorEq, nE, nA]
    · simp only [Zv, ↓vf, qb _ _ (qc _), zL, ↓reduceIte, reduceCtorEq, nE, nA]
      rfl
  · unfold qka
    have htm : ts.getD i (0, [], 0) ∈ ts := by rw [List.getD_eq_getElem?_getD, List.getElem?_eq_getElem hi]; exact List.getElem_mem _
    have hk : okD (ts.getD i (0, [], 0)).2.1 := ht _ htm
    have h1 : (ts.getD i (0, [], 0)).1 = sz := hz _ htm
    have hfind := qqv (ts := ts) (k := 0) hi
    have hlast : (seen ++ [i]).getLast? = some i := List.getLast?_concat ..
    have hpk : yh ts (seen ++ [i]) = yh ts seen ++ [ts.getD i (0, [], 0)] := by simp [yh]
    have hnd' : (seen ++ [i]).Nodup := by
      rw [List.nodup_append]
      exact ⟨hnd, by simp, fun a ha b hb => by simp at hb; subst hb; rintro rfl; exact hsn ha⟩
    have hlt' : ∀ j ∈ seen ++ [i], j < ts.length := fun j hj => by
      rcases List.mem_append.1 hj with h | h
      · exact hlt j h
      · simp at h; omega
    have hsl : seen.length < ts.length := by
      have := qio ts.length (seen ++ [i]) hnd' hlt'
      simp at this; omega
    rw [Nat.zero_add] at hfind
    generalize htt : ts.getD i (0, [], 0) = t at hk h1 hfind hpk ⊢
    obtain ⟨n1, m1, k1⟩ := t
    simp only at hk h1 hfind
    subst h1
    have hone : (dia n1 m1).all AV.one = true := zq _ _
    have hrt := qt6 (p := p) (qp4 ht hlt)
    have htl := xe hrt
    have htk : List.take ((zr p (yh ts seen)).length * 18) (xb (zr p (yh ts seen))) = xb (zr p (yh ts seen)) := List.take_of_length_le (by rw [htl]; exact Nat.le_refl _)
    have hbd : (zr p (yh ts seen)).length ≤ 1000000 := by
      have := List.length_filterMap_le (fun t : Int × List Nat × Int => if t.2.2.emod p = 0 then none else some (t.1, t.2.1, t.2.2.emod p)) (yh ts seen)
      have h2 : (yh ts seen).length = seen.length := by simp [yh]
      unfold zr; omega
    by_cases hkz : k1.emod p = 0
    · have hre : zr p (yh ts (seen ++ [i])) = zr p (yh ts seen) := by rw [hpk]; simp [zr, hkz]
      simp (maxSteps := 3000000) only [qf, zH, Xs, ja, Jq, Kd, hkz, hp, hm, qe, hk.1, hlast, hfind, hone, x8, Qy hk.1, qkz hk.1, qhb (t := (n1, m1, 0)) hk.1, Z2, qc9, vo, zm, qw hk.1, Zb, src, q4n, q4a, Int.toNat_zero, Option.map_some, Option.map_none, List.length_replicate, X9 (t := (0, List.replicate 16 0, 0)) (u := (n1, m1, k1.emod p)) (by simp) hk.1, qhu (t := (n1, m1, k1.emod p)) hk.1, htk, htl, qa, zZ, ↓qp, ↓reduceIte, reduceCtorEq, nA, nM, nS, nE, nL, nD]; try simp only [qa, zY]
      refine ⟨_, qu.xy [0, 1, 2, 3, 4, 5] [22, 5, 4, 0] ⟨by decide, ?_⟩ ?_, ⟨seen ++ [i], hnd', hlt', ?_⟩, ?_⟩
      · simp only [W2, ↓q9, qh _ _ (qc _), zK, ↓reduceIte, reduceCtorEq, nE, nB, nA]
      · simp only [zK, ↓reduceIte, reduceCtorEq, nE, nB, nA]
      · unfold qka
        simp only [Zv, ↓vf, qb _ _ (qc _), hre, zL, ↓reduceIte, reduceCtorEq, nE, nA]
        rfl
      · simp only [qz6]
        simp only [Zv, ↓vf, zL, ↓reduceIte, reduceCtorEq, nE, nA]
        simp; omega
    · have hre : zr p (yh ts (seen ++ [i])) = zr p (yh ts seen) ++ [(n1, m1, k1.emod p)] := by rw [hpk]; simp [zr, hkz]
      simp (maxSteps := 3000000) only [qf, zH, Xs, ja, Jq, Kd, hkz, hp, hm, qe, hk.1, hlast, hfind, hone, x8, Qy hk.1, qkz hk.1, qhb (t := (n1, m1, 0)) hk.1, Z2, qc9, vo, zm, qw hk.1, Zb, src, q4n, q4a, Int.toNat_zero, Option.map_some, Option.map_none, List.length_replicate, X9 (t := (0, List.replicate 16 0, 0)) (u := (n1, m1, k1.emod p)) (by simp) hk.1, qhu (t := (n1, m1, k1.emod p)) hk.1, htk, htl, qa, zZ, ↓qp, ↓reduceIte, reduceCtorEq, nA, nM, nS, nE, nL, nD]; try simp only [qa, zY]
      refine ⟨rfl, ⟨Nat.le_refl _, by omega⟩, rfl, _, qu.xy [0, 1, 2, 3, 4, 8] [22, 5, 4, 0] ⟨by decide, ?_⟩ ?_, ⟨seen ++ [i], hnd', hlt', ?_⟩, ?_⟩
      · simp only [W2, ↓q9, qj7, qh _ _ (qc _), zK, ↓reduceIte, reduceCtorEq, nE, nB, nA]
      · simp only [zK, ↓reduceIte, reduceCtorEq, nE, nB, nA]
      · unfold qka
        have hne : (zr p (yh ts seen) ++ [(n1, m1, k1.emod p)] = []) = False := by simp
        simp only [Zv, ↓vf, qj7, qb _ _ (qc _), hre, hne, List.length_append, List.length_nil, List.length_cons, zL, ↓reduceIte, reduceCtorEq, nE, nA]
        rfl
      · simp only [qz6]
        simp only [Zv, ↓vf, zL, ↓reduceIte, reduceCtorEq, nE, nA]
        simp; omega
end Go.Proofs.Ytfhckbbgmblhbaa

/- Contracts of functions of the program, and plain laws, part 1: each text of this part is proved without further condition. -/
import Derived.Test.YtfhckbbgmblhbaaAmC
import Derived.Test.YtfhckbbgmblhbaaProg
import Derived.KernelRfl
import Derived.Shelf.Small.Strs
namespace Go.Proofs.Ytfhckbbgmblhbaa
open Go.Am
open Nat renaming reduceAdd → nA, reduceMul → nM, reduceSub → nS, reduceEqDiff → nE, reduceLT → nL, reduceLeDiff → nD, reduceBEq → nB
open Int renaming reduceEq → iE, reduceNe → iN, reduceBEq → iB, reduceBNe → iC, reduceLT → iL, reduceLE → iD, reduceAdd → iA, reduceSub → iS, reduceMul → iM
set_option linter.unusedSimpArgs false
set_option linter.unusedVariables false
set_option maxRecDepth 4000
theorem mixed : Try.prog.follows .mixedOrders = true := by kernel_rfl
def X4 (n i : Int) : Int := if i < n then i else 3 * n - 1 - i
def Qu (x : Int) : Prop := -1000000 ≤ x ∧ x ≤ 1000000
instance (x : Int) : Decidable (Qu x) := by unfold Qu; infer_instance
def yr (p : Int) : Bool := decide (2 ≤ p ∧ p ≤ 97) && (List.range 100).all fun k => !(decide (2 ≤ k) && decide ((k : Int) < p) && decide (p.tmod k = 0))
def qv7 : AC := .seq (.region [oB 6 false]) (.seq (.region [oM 7 0,oM 8 1,oP 9 .geq 7 8,oM 10 9,oG 11 10 true (.mov (.t 0)),oG 12 10 true (.mov (.t 2)),oG 13 10 true (.bin .leq (.t 11) (.t 12)),o0 14 (.pick (.t 10) (.t 13) (.c (.bool false))),oM 6 14]) .ret)
theorem qz7 : zk Try.prog 71 = some ⟨15, qv7, [.slot 6]⟩ := by kernel_rfl
def qif : AC := .seq (.region [oB 6 false]) (.seq (.region [oM 7 0,oM 8 1,oP 9 .geq 7 8,oM 10 9,oG 11 10 true (.mov (.t 0)),oG 12 10 true (.mov (.t 2)),oG 13 10 true (.bin .leq (.t 11) (.t 12)),o0 14 (.pick (.t 10) (.t 13) (.c (.bool false))),oM 6 14]) .ret)
theorem qtd : zk Try.prog 66 = some ⟨15, qif, [.slot 6]⟩ := by kernel_rfl
def qc2 : AC := .seq (.region [oI 4 0]) (.seq (.seq (.region [oM 5 1,oM 6 0,oP 7 .lss 5 6]) (.cond 7 (.seq (.region [oM 8 1,oM 4 8]) .ret) .skip)) (.seq (.region [oM 9 0,o0 10 (.bin .mul (.c (.int .i64 3)) (.t 9)),oK 11 .sub 10 1,oM 12 1,oP 13 .sub 11 12,oM 4 13]) .ret))
theorem qle : zk Try.prog 169 = some ⟨14, qc2, [.slot 4]⟩ := by kernel_rfl
def qa1 : AC := .seq (.region [oI 4 0]) (.seq (.seq (.region [oM 5 1,oM 6 0,oP 7 .lss 5 6]) (.cond 7 (.seq (.region [oM 8 1,oM 4 8]) .ret) .skip)) (.seq (.region [oM 9 0,o0 10 (.bin .mul (.c (.int .i64 3)) (.t 9)),oK 11 .sub 10 1,oM 12 1,oP 13 .sub 11 12,oM 4 13]) .ret))
theorem qka : zk Try.prog 165 = some ⟨14, qa1, [.slot 4]⟩ := by kernel_rfl
def qm5 : AC := .seq (.region [oI 4 0]) (.seq (.region [oM 5 0,oM 6 1,oP 7 .rem 5 6,oM 8 1,oP 9 .add 7 8,oM 10 1,oP 11 .rem 9 10,oM 4 11]) .ret)
theorem qvl : zk Try.prog 76 = some ⟨12, qm5, [.slot 4]⟩ := by kernel_rfl
def qfy : AC := .seq (.region [oI 4 0]) (.seq (.region [oM 5 1,oM 6 0,oP 7 .rem 5 6,oM 8 0,oP 9 .add 7 8,oM 10 0,oP 11 .rem 9 10,oM 4 11]) .ret)
theorem qot : zk Try.prog 70 = some ⟨12, qfy, [.slot 4]⟩ := by kernel_rfl
def Uq : AC := .seq (.seq (.region [oM 4 3,oM 5 0,oP 6 .lss 4 5,oM 7 6,oG 8 7 true (.mov (.t 3)),oG 9 7 true (.bin .lss (.t 8) (.c (.int .i64 100))),o0 10 (.pick (.t 7) (.t 9) (.c (.bool false)))]) (.cond 10 .skip (.exit 0))) (.seq (.block 1 (.seq (.region [oM 13 0,oM 14 3,oP 15 .rem 13 14,oK 16 .eql 15 0]) (.cond 16 (.seq (.region [oB 2 false]) .ret) .skip))) (.region [oM 11 3,oK 12 .add 11 1,oM 3 12]))
def U4 : AC := .seq (.region [oM 17 0,oC 18 66 [.t 17,(.c (.int .i64 2)),(.c (.int .i64 97))],oM 2 18]) .ret
def qax : AC := .seq (.region [oB 2 false]) (.seq (.seq (.region [oI 3 2]) (.block 0 (.loop Uq))) U4)
theorem qj4 : zk Try.prog 137 = some ⟨19, qax, [.slot 2]⟩ := by kernel_rfl
def Gv : AC := .seq (.seq (.region [oM 7 3,oM 8 3,oP 9 .mul 7 8,oM 10 0,oP 11 .leq 9 10]) (.cond 11 .skip (.exit 0))) (.seq (.block 1 (.seq (.region [oM 14 0,oM 15 3,oP 16 .rem 14 15,oK 17 .eql 16 0]) (.cond 17 (.seq (.region [oB 2 false]) .ret) .skip))) (.region [oM 12 3,oK 13 .add 12 1,oM 3 13]))
def Bl : AC := .seq (.region [oB 2 true]) .ret
def qdg : AC := .seq (.region [oB 2 false]) (.seq (.seq (.region [oM 4 0,oC 5 71 [.t 4,(.c (.int .i64 2)),(.c (.int .i64 97))],o0 6 (.un .not (.t 5))]) (.cond 6 (.seq (.region [oB 2 false]) .ret) .skip)) (.seq (.seq (.region [oI 3 2]) (.block 0 (.loop Gv))) Bl))
theorem qlq : zk Try.prog 120 = some ⟨18, qdg, [.slot 2]⟩ := by kernel_rfl
def yx : List AV → Option AV
  | [.int .i64 a, .int .i64 b, .int .i64 c] => some (.bool (decide (b ≤ a ∧ a ≤ c)))
  | _ => none
def Jr : List AV → Option AV
  | [.int .i64 n, .int .i64 i] => chk (Qu n ∧ Qu i) (some (.int .i64 (X4 n i)))
  | _ => none
def xi : List AV → Option AV
  | [.int .i64 n, .int .i64 p] => chk (0 < p ∧ p ≤ 1000000) (some (.int .i64 (n.emod p)))
  | _ => none
def xm : List AV → Option AV
  | [.int .i64 p, .int .i64 n] => chk (0 < p ∧ p ≤ 1000000) (some (.int .i64 (n.emod p)))
  | _ => none
def jm : List AV → Option AV
  | [.int .i64 p] => some (.bool (yr p))
  | _ => none
theorem qn8 {a b c : Int} : (b ≤ a → decide (a ≤ c) = decide (b ≤ a ∧ a ≤ c)) ∧ (¬b ≤ a → false = decide (b ≤ a ∧ a ≤ c)) :=
  ⟨fun h => by simp [h], fun h => by simp [h]⟩
theorem qz2 (a b c : Int) : Am.Fn Try.prog 71 [.int .i64 a, .int .i64 b, .int .i64 c] [] (fun v H' => v = .bool (decide (b ≤ a ∧ a ≤ c)) ∧ H' = []) := by
  refine Am.Fn.xo (R := fun v => v = _) qq.none mixed qz7 (by simp) (by simp) ?_
  simp (maxSteps := 3000000) only [qv7, qa, zZ, ↓qt, ↓reduceIte, reduceCtorEq, nA, nM, nS, nE, nL, nD]; try simp only [qa, zY]
  exact qn8
theorem qr6 (a b c : Int) : Am.Fn Try.prog 66 [.int .i64 a, .int .i64 b, .int .i64 c] [] (fun v H' => v = .bool (decide (b ≤ a ∧ a ≤ c)) ∧ H' = []) := by
  refine Am.Fn.xo (R := fun v => v = _) qq.none mixed qtd (by simp) (by simp) ?_
  simp (maxSteps := 3000000) only [qif, qa, zZ, ↓qt, ↓reduceIte, reduceCtorEq, nA, nM, nS, nE, nL, nD]; try simp only [qa, zY]
  exact qn8
theorem qde {n i : Int} (hn : Qu n) (hi : Qu i) : (i < n → AV.int .i64 i = AV.int .i64 (X4 n i)) ∧
    (¬i < n → AV.int .i64 (qm .i64 (qm .i64 (qm .i64 (3 * n) - 1) - i)) = AV.int .i64 (X4 n i)) := by
  unfold Qu at hn hi
  refine ⟨fun h => by simp [X4, h], fun h => ?_⟩
  rw [wrap64 (n := 3 * n) (by omega) (by omega), wrap64 (n := 3 * n - 1) (by omega) (by omega), wrap64 (by omega) (by omega)]
  simp [X4, h]
theorem qmj (n i : Int) (hn : Qu n) (hi : Qu i) : Am.Fn Try.prog 169 [.int .i64 n, .int .i64 i] [] (fun v H' => v = .int .i64 (X4 n i) ∧ H' = []) := by
  refine Am.Fn.xo (R := fun v => v = _) qq.none mixed qle (by simp) (by simp) ?_
  simp (maxSteps := 3000000) only [qc2, qa, zZ, ↓qt, ↓reduceIte, reduceCtorEq, nA, nM, nS, nE, nL, nD]; try simp only [qa, zY]
  exact qde hn hi
theorem qj8 (n i : Int) (hn : Qu n) (hi : Qu i) : Am.Fn Try.prog 165 [.int .i64 n, .int .i64 i] [] (fun v H' => v = .int .i64 (X4 n i) ∧ H' = []) := by
  refine Am.Fn.xo (R := fun v => v = _) qq.none mixed qka (by simp) (by simp) ?_
  simp (maxSteps := 3000000) only [qa1, qa, zZ, ↓qt, ↓reduceIte, reduceCtorEq, nA, nM, nS, nE, nL, nD]; try simp only [qa, zY]
  exact qde hn hi
theorem qfn {n p : Int} (h : 0 < p ∧ p ≤ 1000000) : ¬p = 0 ∧ ¬p = 0 ∧ AV.int .i64 ((qm .i64 (n.tmod p + p)).tmod p) = AV.int .i64 (n.emod p) := by
  refine ⟨by omega, by omega, ?_⟩
  have h1 : n.tmod p < p := Int.tmod_lt_of_pos n h.1
  have h2 : -p < n.tmod p := by
    have := Int.lt_tmod_of_pos n h.1
    omega
  rw [wrap64 (by omega) (by omega), Int.tmod_eq_emod_of_nonneg (by omega), Int.add_emod_right]
  congr 1
  rw [Int.tmod_eq_emod]
  split
  · rw [show ((0 : Nat) : Int) = 0 from rfl, Int.sub_zero]; exact Int.emod_emod_of_dvd n (Int.dvd_refl p)
  · rw [show (p.natAbs : Int) = p from by omega, Int.sub_emod_right]
    exact Int.emod_emod_of_dvd n (Int.dvd_refl p)
theorem qvp (n p : Int) (h : 0 < p ∧ p ≤ 1000000) : Am.Fn Try.prog 76 [.int .i64 n, .int .i64 p] [] (fun v H' => v = .int .i64 (n.emod p) ∧ H' = []) := by
  refine Am.Fn.xo (R := fun v => v = _) qq.none mixed qvl (by simp) (by simp) ?_
  simp (maxSteps := 3000000) only [qm5, qa, zZ, ↓qt, ↓reduceIte, reduceCtorEq, nA, nM, nS, nE, nL, nD]; try simp only [qa, zY]
  exact qfn h
theorem qox (n p : Int) (h : 0 < p ∧ p ≤ 1000000) : Am.Fn Try.prog 70 [.int .i64 p, .int .i64 n] [] (fun v H' => v = .int .i64 (n.emod p) ∧ H' = []) := by
  refine Am.Fn.xo (R := fun v => v = _) qq.none mixed qot (by simp) (by simp) ?_
  simp (maxSteps := 3000000) only [qfy, qa, zZ, ↓qt, ↓reduceIte, reduceCtorEq, nA, nM, nS, nE, nL, nD]; try simp only [qa, zY]
  exact qfn h
theorem qq3 {f : FuncId} (h : ∀ a b c, Am.Fn Try.prog f [.int .i64 a, .int .i64 b, .int .i64 c] [] (fun v H' => v = .bool (decide (b ≤ a ∧ a ≤ c)) ∧ H' = [])) : Am.Callee Try.prog f (qk yx) :=
  Am.Callee.plain fun xs v he => by
    unfold yx at he
    split at he
    · cases he; exact ⟨rfl, rfl, h _ _ _⟩
    · cases he
theorem qfa {f : FuncId} (h : ∀ n i, Qu n → Qu i → Am.Fn Try.prog f [.int .i64 n, .int .i64 i] [] (fun v H' => v = .int .i64 (X4 n i) ∧ H' = [])) : Am.Callee Try.prog f (qk Jr) :=
  Am.Callee.plain fun xs v he => by
    unfold Jr at he
    split at he
    · obtain ⟨h1, he⟩ := ql he
      cases he; exact ⟨rfl, rfl, h _ _ h1.1 h1.2⟩
    · cases he
def B1 : zh := ((((zh.none.put 71 (qk yx)).put 66 (qk yx)).put 169 (qk Jr)).put 165 (qk Jr))
theorem qm2 : qq Try.prog B1 := ((((qq.none.put (qq3 qz2)).put (qq3 qr6)).put (qfa qmj)).put (qfa qj8))
theorem qgw : B1 71 = some (qk yx) := rfl
theorem Kj : B1 66 = some (qk yx) := rfl
theorem qc4 {p : Int} {k : Nat} (h1 : 2 ≤ k) (hk : k < 100) (h2 : (k : Int) < p) (h3 : p.tmod k = 0) : yr p = false := by
  unfold yr
  rw [Bool.and_eq_false_iff]
  right
  rw [List.all_eq_false]
  exact ⟨k, List.mem_range.2 hk, by simp [h1, h2, h3]⟩
theorem qet {p : Int} (h : 2 ≤ p ∧ p ≤ 97) (h3 : ∀ j : Nat, 2 ≤ j → (j : Int) < p → p.tmod j ≠ 0) : yr p = true := by
  unfold yr
  rw [Bool.and_eq_true]
  refine ⟨decide_eq_true h, List.all_eq_true.2 fun j hj => ?_⟩
  by_cases h5 : 2 ≤ j
  · by_cases h6 : (j : Int) < p
    · have := h3 j h5 h6; simp [h5, h6, this]
    · simp [h6]
  · simp [h5]
theorem qb0 {p : Int} (h : ¬(2 ≤ p ∧ p ≤ 97)) : yr p = false := by
  unfold yr; rw [decide_eq_false h, Bool.false_and]
theorem qjb (p : Int) : Am.Fn Try.prog 137 [.int .i64 p] [] (fun v H' => v = .bool (yr p) ∧ H' = []) := by
  refine Am.Fn.xo (R := fun v => v = _) qm2 mixed qj4 (by simp) (by simp) ?_
  simp (maxSteps := 3000000) only [qax, qa, zZ, ↓qt, ↓reduceIte, reduceCtorEq, nA, nM, nS, nE, nL, nD]; try simp only [qa, zY]
  refine WA.jq qm2 (fun s => ∃ k : Nat, s = ⟨[(3, .int .i64 k), (0, .int .i64 p)], []⟩ ∧ 2 ≤ k ∧ k ≤ 100 ∧ ∀ j : Nat, 2 ≤ j → j < k → (j : Int) < p → p.tmod j ≠ 0) (fun s => match get s.env 3 with | .int _ k => (100 - k).toNat | _ => 0) ⟨_, qv.qw [3, 0], 2, rfl, by omega, by omega, by intros; omega⟩ ?_
  rintro s ⟨k, rfl, h1, h2, h3⟩
  simp (maxSteps := 3000000) only [Uq, U4, qgw, Kj, yx, qa, zZ, ↓qt, ↓reduceIte, reduceCtorEq, nA, nM, nS, nE, nL, nD]; try simp only [qa, zY]
  refine ⟨fun h4 => ⟨fun h5 => ⟨by omega, fun h6 => ?_, fun h6 => ⟨_, qv.qw [3, 0], ⟨k + 1, ?_, by omega, by omega, ?_⟩, ?_⟩⟩, fun h5 => ?_⟩, fun h4 => ?_⟩
  · exact (qc4 h1 (by omega) h4 h6).symm
  · simp only [qw, zo, reduceIte, reduceCtorEq, Nat.reduceEqDiff]
    have : qm .i64 ((k : Int) + 1) = ((k + 1 : Nat) : Int) := by rw [wrap64 (by omega) (by omega)]; rfl
    rw [this]
  · intro j h7 h8 h9
    by_cases h10 : j = k
    · subst h10; exact h6
    · exact h3 j h7 (by omega) h9
  · simp only [qw, zo, reduceIte, reduceCtorEq, Nat.reduceEqDiff]
    have : qm .i64 ((k : Int) + 1) = ((k + 1 : Nat) : Int) := by rw [wrap64 (by omega) (by omega)]; rfl
    rw [this]; omega
  · rw [qb0 (by omega)]; simp; omega
  · by_cases h : 2 ≤ p ∧ p ≤ 97
    · rw [qet h fun j a b => h3 j a (by omega) b]; simp [h]
    · rw [qb0 h]; simp [h]
theorem qlk : ((List.range 98).all fun p => (List.range 11).all fun k => !decide (p < k * k ∧ 2 ≤ p) || !((List.range k).all fun j => !decide (2 ≤ j) || p % j != 0) || (List.range p).all fun j => !decide (2 ≤ j) || p % j != 0) = true := by decide +kernel
theorem qpq {p : Int} {k : Nat} (h : 2 ≤ p ∧ p ≤ 97) (hk : k ≤ 10) (hkp : p < (k : Int) * k) (h3 : ∀ j : Nat, 2 ≤ j → j < k → p.tmod j ≠ 0) : yr p = true := by
  obtain ⟨q, rfl⟩ : ∃ q : Nat, p = q := ⟨p.toNat, by omega⟩
  have e : ∀ j : Nat, ((q : Int).tmod j = 0) ↔ q % j = 0 := fun j => by
    rw [← Int.ofNat_tmod]; omega
  have h4 := List.all_eq_true.1 (List.all_eq_true.1 qlk q (List.mem_range.2 (by omega))) k (List.mem_range.2 (by omega))
  have h5 : q < k * k := by
    have : ((k * k : Nat) : Int) = (k : Int) * k := by simp
    omega
  simp only [Bool.or_eq_true, Bool.not_eq_true', decide_eq_false_iff_not] at h4
  rcases h4 with (h4 | h4) | h4
  · exact absurd ⟨h5, by omega⟩ h4
  · exfalso
    rw [List.all_eq_false] at h4
    obtain ⟨j, hj, h6⟩ := h4
    have hj := List.mem_range.1 hj
    apply h6
    by_cases h7 : 2 ≤ j
    · have := h3 j h7 hj
      rw [Ne, e] at this
      simp [this]
    · simp [h7]
  · refine qet h fun j h6 h7 => ?_
    rw [Ne, e]
    have := List.all_eq_true.1 h4 j (List.mem_range.2 (by omega))
    simpa [h6] using this
theorem qnv (p : Int) : Am.Fn Try.prog 120 [.int .i64 p] [] (fun v H' => v = .bool (yr p) ∧ H' = []) := by
  refine Am.Fn.xo (R := fun v => v = _) qm2 mixed qlq (by simp) (by simp) ?_
  simp (maxSteps := 3000000) only [qdg, qgw, Kj, yx, qa, zZ, ↓qt, ↓reduceIte, reduceCtorEq, nA, nM, nS, nE, nL, nD]; try simp only [qa, zY]
  refine ⟨fun h => (qb0 h).symm, fun h => ?_⟩
  refine WA.jq qm2 (fun s => ∃ k : Nat, s = ⟨[(3, .int .i64 k), (0, .int .i64 p)], []⟩ ∧ 2 ≤ k ∧ k ≤ 10 ∧ ∀ j : Nat, 2 ≤ j → j < k → p.tmod j ≠ 0) (fun s => match get s.env 3 with | .int _ k => (100 - k).toNat | _ => 0) ⟨_, qv.qw [3, 0], 2, rfl, by omega, by omega, by intros; omega⟩ ?_
  rintro s ⟨k, rfl, h1, h2, h3⟩
  have hw : qm .i64 ((k : Int) + 1) = ((k + 1 : Nat) : Int) := by rw [wrap64 (by omega) (by omega)]; rfl
  have hm : qm .i64 ((k : Int) * k) = ((k * k : Nat) : Int) := by
    have : k * k ≤ 10 * 10 := Nat.mul_le_mul h2 h2
    rw [← Int.natCast_mul]; exact kp (by omega)
  simp (maxSteps := 3000000) only [Gv, Bl, hm, hw, qw, qa, zZ, ↓qt, ↓reduceIte, reduceCtorEq, nA, nM, nS, nE, nL, nD]; try simp only [qa, zY]
  have hkk : k < 10 ∨ k = 10 := by omega
  refine ⟨fun h4 => ⟨by omega, fun h6 => ?_, fun h6 => ⟨_, qv.qw [3, 0], ⟨k + 1, rfl, by omega, ?_, ?_⟩, ?_⟩⟩, fun h4 => ?_⟩
  · have : k * 2 ≤ k * k := Nat.mul_le_mul_left k h1
    exact (qc4 h1 (by omega) (by omega) h6).symm
  · rcases hkk with e | e
    · omega
    · subst e; omega
  · intro j h7 h8
    by_cases h10 : j = k
    · subst h10; exact h6
    · exact h3 j h7 (by omega)
  · simp only [qw, zo, reduceIte, reduceCtorEq, Nat.reduceEqDiff]
    omega
  · rw [qpq h h2 (by rw [← Int.natCast_mul]; omega) h3]
theorem qgm {f : FuncId} (h : ∀ p, Am.Fn Try.prog f [.int .i64 p] [] (fun v H' => v = .bool (yr p) ∧ H' = [])) : Am.Callee Try.prog f (qk jm) :=
  Am.Callee.plain fun xs v he => by
    unfold jm at he
    split at he
    · cases he; exact ⟨rfl, rfl, h _⟩
    · cases he
theorem qvk : Am.Callee Try.prog 76 (qk xi) :=
  Am.Callee.plain fun xs v he => by
    unfold xi at he
    split at he
    · obtain ⟨h1, he⟩ := ql he
      cases he; exact ⟨rfl, rfl, qvp _ _ h1⟩
    · cases he
theorem qpw : Am.Callee Try.prog 70 (qk xm) :=
  Am.Callee.plain fun xs v he => by
    unfold xm at he
    split at he
    · obtain ⟨h1, he⟩ := ql he
      cases he; exact ⟨rfl, rfl, qox _ _ h1⟩
    · cases he
def B2 : zh := ((((B1.put 120 (qk jm)).put 137 (qk jm)).put 76 (qk xi)).put 70 (qk xm))
theorem q2g : qq Try.prog B2 := ((((qm2.put (qgm qnv)).put (qgm qjb)).put (qvk)).put (qpw))
theorem vu {p : Int} (h : yr p = true) : 2 ≤ p ∧ p ≤ 97 := by
  unfold yr at h
  rw [Bool.and_eq_true] at h
  exact of_decide_eq_true h.1
def B3 : zh := B2
theorem qzr : qq Try.prog B3 := q2g
end Go.Proofs.Ytfhckbbgmblhbaa
namespace Go.Proofs.Ytfhckbbgmblhbaa
open Go.Am Go.Dia
open Nat renaming reduceAdd → nA, reduceMul → nM, reduceSub → nS, reduceEqDiff → nE, reduceLT → nL, reduceLeDiff → nD, reduceBEq → nB
open Int renaming reduceEq → iE, reduceNe → iN, reduceBEq → iB, reduceBNe → iC, reduceLT → iL, reduceLE → iD, reduceAdd → iA, reduceSub → iS, reduceMul → iM
set_option linter.unusedSimpArgs false
set_option linter.unusedVariables false
set_option maxRecDepth 4000
def Kl : AC := .seq (.region [oI 2 0]) (.seq (.region [oM 3 0,o0 4 (.jn (.t 3)),oF 5 0 4,oL 6 5,oM 2 6]) .ret)
theorem qhh : zk Try.prog 168 = some ⟨7, Kl, [.slot 2]⟩ := by kernel_rfl
def Jp : AC := .seq (.region [oP 12 .lss 11 10]) (.seq (.cond 12 .skip (.exit 0)) (.seq (.block 1 (.seq (.region [oM 13 11,oM 5 13]) (.seq (.draw false [oM 14 3,oM 15 0,oM 16 3,oM 17 5,o0 19 (.jn (.t 15)),oF 20 1 19,oM 25 5,oC 18 169 [.t 16,.t 17],o0 21 (.zz 16 1 (.t 20) (.t 18)),oL 22 21,o0 23 (.conv .i64 (.t 22)),oC 24 169 [.t 14,.t 23],oP 26 .gtr 24 25]) (.cond 26 (.region [oM 27 4,o0 28 (.Q4 1 [.int .u8 0] [(0,1,(.c (.int .u8 40)))]),o0 29 (.append 1 1 (.t 27) (.t 28)),oM 4 29]) (.region [oM 30 4,o0 31 (.Q4 1 [.int .u8 0] [(0,1,(.c (.int .u8 41)))]),o0 32 (.append 1 1 (.t 30) (.t 31)),oM 4 32]))))) (.region [oK 33 .add 11 1,oM 11 33])))
def Jl : AC := .seq (.region [oM 34 4,o0 35 (.b2s (.t 34)),oM 2 35]) .ret
def Yj : AC := .seq (.region [o0 2 (.mov (.c (.str [])))]) (.seq (.region [oM 6 0,oC 7 168 [.t 6],o0 8 (.Q4 0 [] []),oM 3 7,oM 4 8]) (.seq (.seq (.region [oM 9 3,o0 10 (.bin .mul (.c (.int .i64 2)) (.t 9)),oI 11 0]) (.block 0 (.loop Jp))) Jl))
theorem qci : zk Try.prog 142 = some ⟨36, Yj, [.slot 2]⟩ := by kernel_rfl
def Bo : AC := .seq (.seq (.region [oM 7 4,oF 8 0 1,oL 9 8,o0 10 (.bin .mul (.c (.int .i64 2)) (.t 9)),oP 11 .lss 7 10]) (.cond 11 .skip (.exit 0))) (.seq (.block 1 (.seq (.region [oF 14 0 1,oL 15 14,oM 16 4,oC 17 165 [.t 15,.t 16],oM 5 17]) (.seq (.draw false [oF 18 0 1,oL 19 18,oM 20 5,oF 21 1 1,o0 22 (.zz 16 1 (.t 21) (.t 20)),oL 23 22,o0 24 (.conv .i64 (.t 23)),oM 26 4,oC 25 165 [.t 19,.t 24],oP 27 .gtr 25 26]) (.cond 27 (.region [oM 28 3,o0 29 (.Q4 1 [.int .u8 0] [(0,1,(.c (.int .u8 40)))]),o0 30 (.append 1 1 (.t 28) (.t 29)),oM 3 30]) (.region [oM 31 3,o0 32 (.Q4 1 [.int .u8 0] [(0,1,(.c (.int .u8 41)))]),o0 33 (.append 1 1 (.t 31) (.t 32)),oM 3 33]))))) (.region [oM 12 4,oK 13 .add 12 1,oM 4 13]))
def Bj : AC := .seq (.region [oM 34 3,o0 35 (.b2s (.t 34)),oM 2 35]) .ret
def qcw : AC := .seq (.region [o0 1 (.box (.t 0)),o0 2 (.mov (.c (.str [])))]) (.seq (.region [o0 6 (.Q4 0 [] []),oM 3 6]) (.seq (.seq (.region [oI 4 0]) (.block 0 (.loop Bo))) Bj))
theorem qlu : zk Try.prog 150 = some ⟨36, qcw, [.slot 2]⟩ := by kernel_rfl
def okD (m : List Nat) : Prop := m.length = 16 ∧ ∀ x, x ∈ m → x < 256
theorem okD.get {m : List Nat} (h : okD m) (i : Nat) : m.getD i 0 < 256 := by
  rw [List.getD_eq_getElem?_getD]
  cases e : m[i]? with
  | none => simp
  | some x => exact h.2 x (List.mem_of_getElem? e)
def bytesOf : List AV → Option (List Nat)
  | [] => some []
  | .int .u8 x :: r => if 0 ≤ x ∧ x < 256 then (match bytesOf r with
    | some l => some (x.toNat :: l)
    | none => none) else none
  | _ => none
theorem qdo : ∀ {m : List Nat}, (∀ x, x ∈ m → x < 256) → bytesOf (u8s m) = some m
  | [], _ => rfl
  | x :: m, h => by
    have h1 := qdo (m := m) fun y hy => h y (List.mem_cons_of_mem _ hy)
    have h2 := h x (by simp)
    simp only [u8s, List.map_cons, bytesOf] at h1 ⊢
    rw [if_pos (by omega), h1]
    simp
theorem qbf : ∀ {l : List AV} {m : List Nat}, bytesOf l = some m → l = u8s m ∧ ∀ x, x ∈ m → x < 256
  | [], m, h => by cases h; exact ⟨rfl, by simp⟩
  | a :: l, m, h => by
    cases a <;> (try (simp only [bytesOf, reduceCtorEq] at h; done))
    rename_i k x
    cases k <;> (try (simp only [bytesOf, reduceCtorEq] at h; done))
    simp only [bytesOf] at h
    split at h
    · rename_i hx
      split at h
      · rename_i r hr
        cases h
        obtain ⟨h1, h2⟩ := qbf hr
        refine ⟨?_, fun y hy => ?_⟩
        · simp only [u8s, List.map_cons, List.cons.injEq, AV.int.injEq, true_and]
          exact ⟨by omega, h1⟩
        · rcases List.mem_cons.1 hy with rfl | hy
          · omega
          · exact h2 y hy
      · cases h
    · cases h
def yz : List AV → Option (Int × List Nat)
  | .int .i64 n :: r => match bytesOf r with
    | some m => if m.length = 16 then some (n, m) else none
    | none => none
  | _ => none
theorem q8 {n : Int} {m : List Nat} (h : okD m) : yz (dia n m) = some (n, m) := by
  simp only [dia, yz, qdo h.2, h.1, if_true]
theorem xf {l : List AV} {n : Int} {m : List Nat} (h : yz l = some (n, m)) : l = dia n m ∧ okD m := by
  unfold yz at h
  split at h
  · split at h
    · rename_i hm
      obtain ⟨h1, h2⟩ := qbf hm
      split at h
      · rename_i h3; cases h; exact ⟨by rw [h1]; rfl, h3, h2⟩
      · cases h
    · cases h
  · cases h
theorem q13 (n : Int) : Am.Fn Try.prog 168 [.ptr 0 0] [.ro [.int .i64 n]] (fun v H' => v = .int .i64 n ∧ H' = [.ro [.int .i64 n]]) := by
  refine Am.Fn.xo (R := fun v => v = _) qzr mixed qhh (by simp) (by intro j o h; cases j <;> simp at h; subst h; exact ⟨trivial, trivial⟩) ?_
  simp (maxSteps := 3000000) only [Kl, rd, List.getElem?_cons_zero, qa, zZ, ↓qt, ↓reduceIte, reduceCtorEq, nA, nM, nS, nE, nL, nD]; try simp only [qa, zY]
  exact ⟨_, rfl⟩
def g_n : List AV → List AV → Option AV
  | [.int .i64 n], [] => some (.int .i64 n)
  | _, _ => none
theorem q2l : Am.Callee Try.prog 168 (V3 1 g_n) :=
  Am.Callee.read fun l xs v hl he => by
    unfold g_n at he
    split at he
    · cases he; exact ⟨rfl, rfl, rfl, q13 _⟩
    · cases he
theorem qsg {n : Int} {m : List Nat} : List.take 1 (List.drop 0 (dia n m)) = [.int .i64 n] := rfl
def B4 : zh := (B3.put 168 (V3 1 g_n))
theorem ql5 : qq Try.prog B4 := (qzr.put (q2l))
theorem Je : B4 169 = some (qk Jr) := rfl
theorem Xa : B4 165 = some (qk Jr) := rfl
theorem Zd : B4 168 = some (V3 1 g_n) := rfl
theorem qgd {n k : Nat} (h : k < 2 * n) : X4 n k = (place n k : Nat) := by
  unfold X4 place; split <;> split <;> omega
theorem Uf {n x k : Nat} : ((k : Int) < X4 n x) ↔ (k < place n x) := by
  unfold X4 place; split <;> split <;> omega
theorem Qv {x : Nat} (h : x < 1000) : Qu (x : Int) := by unfold Qu; omega
theorem jv {l : List AV} (h : AV.zl l = true) : ∀ (j : Nat) (o : AO), [AO.ro l][j]? = some o → o.under [AO.ro l].length := by
  intro j o e
  cases j with
  | zero => simp only [List.getElem?_cons_zero, Option.some.injEq] at e; subst e; exact qi _ _ h
  | succ j => simp at e
def Y7 (n : Nat) (m : List Nat) : List Nat := (List.range (2 * n)).map fun k => if k < place n (m.getD (place n k) 0) then 40 else 41
theorem qk1 (n : Nat) (m : List Nat) : (Y7 n m).map (fun x => UInt8.ofNat x) = wy n m := by
  simp only [Y7, wy, List.map_map]
  refine List.map_congr_left fun k _ => ?_
  simp only [Function.comp]
  split <;> rfl
theorem gh (n : Nat) (m : List Nat) : (Y7 n m).length = 2 * n := by simp [Y7]
theorem qk6 {n : Nat} {m : List Nat} {k : Nat} (h : k < 2 * n) : (Y7 n m).take (k + 1) = (Y7 n m).take k ++ [if k < place n (m.getD (place n k) 0) then 40 else 41] := by
  rw [List.take_add_one]
  congr 1
  simp [Y7, h]
theorem qly {l : List AV} {k : Nat} (h : l.length ≤ k) : List.take k (List.drop 0 l) = l := by rw [List.drop_zero, List.take_of_length_le h]
theorem qwq (n : Nat) (m : List Nat) (hn : n ≤ 8) (hm : okD m) : Am.Fn Try.prog 142 [.ptr 0 0] [.ro (dia n m)] (fun v H' => v = .str (wy n m) ∧ H' = [.ro (dia n m)]) := by
  refine Am.Fn.xo (R := fun v => v = _) ql5 mixed qci (by simp) (jv (qd _ _)) ?_
  have h2n : qm .i64 (2 * (n : Int)) = ((2 * n : Nat) : Int) := by rw [wrap64 (by omega) (by omega)]; simp
  simp (maxSteps := 3000000) only [Yj, Je, Xa, Zd, g_n, Jr, rd, List.getElem?_cons_zero, qsg, qg, hm.1, h2n, b8, qa, zZ, ↓qt, ↓reduceIte, reduceCtorEq, nA, nM, nS, nE, nL, nD]; try simp only [qa, zY]
  refine WA.jq ql5 (fun s => ∃ k : Nat, s = ⟨[(11, .int .i64 k), (10, .int .i64 ((2 * n : Nat) : Int)), (4, .slc 1 0 k false 0), (3, .int .i64 n), (0, .ptr 0 0)], [.ro (dia n m), .vec 1 (u8s ((Y7 n m).take k))]⟩ ∧ k ≤ 2 * n)
    (fun s => match get s.env 11 with | .int _ k => (100 - k).toNat | _ => 0) ⟨_, qv.trans (qv.qw [11, 10, 4, 3, 0]) (qv.vec 1 0 1 (by decide) rfl rfl ?_ ?_), 0, ?_, by omega⟩ ?_
  · simp only [qw, zo, zV, ↓reduceIte, nE, reduceCtorEq, nB]
  · simp only [zV, ↓reduceIte, nE, reduceCtorEq, nB]
  · simp only [qw, zo, List.take_zero, zV, ↓reduceIte, nE, reduceCtorEq, nB]; rfl
  rintro s ⟨k, rfl, hk⟩
  have hw : qm .i64 ((k : Int) + 1) = ((k + 1 : Nat) : Int) := by rw [wrap64 (by omega) (by omega)]; rfl
  simp (maxSteps := 3000000) only [Jp, Jl, hw, Je, Xa, Zd, g_n, Jr, rd, List.getElem?_cons_zero, List.getElem?_cons_succ, b8, src, qa, zZ, ↓qt, ↓reduceIte, reduceCtorEq, nA, nM, nS, nE, nL, nD]; try simp only [qa, zY]
  refine ⟨fun h => ?_, fun h => ?_⟩
  · have hk' : k < 2 * n := by omega
    have hp := ze hk'
    have hg := hm.get (place n k)
    have h1 : qm .i64 ((m.getD (place n k) 0 : Nat) : Int) = (m.getD (place n k) 0 : Nat) := kp (by omega)
    have hlt : (List.take k (Y7 n m)).length = k := by rw [List.length_take, gh]; omega
    have hap : ∀ c : Nat, c = (if k < place n (m.getD (place n k) 0) then 40 else 41) → List.take k (u8s (List.take k (Y7 n m))) ++ [AV.int .u8 (c : Int)] = u8s (List.take (k + 1) (Y7 n m)) := by
      intro c hc
      rw [List.take_of_length_le (by rw [wm, hlt]; exact Nat.le_refl _), qk6 hk', ← hc, ← qgl]; rfl
    simp (maxSteps := 3000000) only [qgd hk', h1, qa, zZ, ↓qt, ↓reduceIte, reduceCtorEq, nA, nM, nS, nE, nL, nD]; try simp only [qa, zY]
    refine ⟨⟨Qv (by omega), Qv (by omega)⟩, ⟨by omega, by omega⟩, by rw [hm.1]; omega, ⟨Qv (by omega), Qv (by omega)⟩, fun h2 => ?_, fun h2 => ?_⟩
    · have e := hap 40 (by rw [if_pos (Uf.1 h2)])
      simp only [Int.cast_ofNat_Int] at e
      refine ⟨by decide, ⟨by rw [wm, hlt]; exact Nat.le_refl _, by decide, by omega⟩, _, qv.xv [0, 3] [11, 10, 4, 3, 0] ⟨by decide, ?_⟩ ?_, ⟨k + 1, ?_, by omega⟩, ?_⟩
      · simp only [over, List.take_zero, List.length_cons, List.length_nil, List.drop_succ_cons, List.drop_nil, List.take_succ_cons, List.drop_zero, e, zK, ↓reduceIte, reduceCtorEq, nE, nB, nA]
      · simp only [zK, ↓reduceIte, reduceCtorEq, nE, nB, nA]
      · simp only [over, List.take_zero, List.length_cons, List.length_nil, List.drop_succ_cons, List.drop_nil, List.take_succ_cons, List.drop_zero, e, zL, ↓reduceIte, reduceCtorEq, nE, nA]
      · simp only [zL, ↓reduceIte, reduceCtorEq, nE, nA]
        omega
    · have e := hap 41 (by rw [if_neg fun h => h2 (Uf.2 h)])
      simp only [Int.cast_ofNat_Int] at e
      refine ⟨by decide, ⟨by rw [wm, hlt]; exact Nat.le_refl _, by decide, by omega⟩, _, qv.xv [0, 3] [11, 10, 4, 3, 0] ⟨by decide, ?_⟩ ?_, ⟨k + 1, ?_, by omega⟩, ?_⟩
      · simp only [over, List.take_zero, List.length_cons, List.length_nil, List.drop_succ_cons, List.drop_nil, List.take_succ_cons, List.drop_zero, e, zK, ↓reduceIte, reduceCtorEq, nE, nB, nA]
      · simp only [zK, ↓reduceIte, reduceCtorEq, nE, nB, nA]
      · simp only [over, List.take_zero, List.length_cons, List.length_nil, List.drop_succ_cons, List.drop_nil, List.take_succ_cons, List.drop_zero, e, zL, ↓reduceIte, reduceCtorEq, nE, nA]
      · simp only [zL, ↓reduceIte, reduceCtorEq, nE, nA]
        omega
  · have hkn : k = 2 * n := by omega
    have hall : List.take k (Y7 n m) = Y7 n m := by rw [List.take_of_length_le]; rw [gh]; omega
    rw [hall, qly (by rw [wm, gh]; omega), By, zc, qk1]
    simp (maxSteps := 3000000) only [List.set_cons_zero, List.set_cons_succ, qa, zZ, ↓qt, ↓reduceIte, reduceCtorEq, nA, nM, nS, nE, nL, nD]; try simp only [qa, zY]
    exact ⟨by rw [wm, gh]; omega, _, rfl⟩
theorem qn4 (n : Nat) (m : List Nat) (hn : n ≤ 8) (hm : okD m) : Am.Fn Try.prog 150 [.agg (dia n m)] [] (fun v H' => v = .str (wy n m) ∧ H' = []) := by
  refine Am.Fn.xo (R := fun v => v = _) ql5 mixed qlu (by simp) (by simp) ?_
  have h2n : qm .i64 (2 * (n : Int)) = ((2 * n : Nat) : Int) := by rw [wrap64 (by omega) (by omega)]; simp
  simp (maxSteps := 3000000) only [qcw, b8, qa, zZ, ↓qt, ↓reduceIte, reduceCtorEq, nA, nM, nS, nE, nL, nD]; try simp only [qa, zY]
  refine WA.jq ql5 (fun s => ∃ k : Nat, s = ⟨[(4, .int .i64 k), (3, .slc 1 0 k false 0), (1, .ptr 0 0)], [.cells (dia n m), .vec 1 (u8s ((Y7 n m).take k))]⟩ ∧ k ≤ 2 * n)
    (fun s => match get s.env 4 with | .int _ k => (100 - k).toNat | _ => 0) ⟨_, qv.trans (qv.qw [4, 3, 1]) (qv.vec 1 0 1 (by decide) rfl rfl ?_ ?_), 0, ?_, by omega⟩ ?_
  · simp only [qw, zo, zV, ↓reduceIte, nE, reduceCtorEq, nB]
  · simp only [zV, ↓reduceIte, nE, reduceCtorEq, nB]
  · simp only [qw, zo, List.take_zero, zV, ↓reduceIte, nE, reduceCtorEq, nB]; rfl
  rintro s ⟨k, rfl, hk⟩
  have hw : qm .i64 ((k : Int) + 1) = ((k + 1 : Nat) : Int) := by rw [wrap64 (by omega) (by omega)]; rfl
  simp (maxSteps := 3000000) only [Bo, Bj, hw, h2n, gw, Je, Xa, Zd, g_n, Jr, rd, List.getElem?_cons_zero, List.getElem?_cons_succ, b8, src, qa, zZ, ↓qt, ↓reduceIte, reduceCtorEq, nA, nM, nS, nE, nL, nD]; try simp only [qa, zY]
  refine ⟨fun h => ?_, fun h => ?_⟩
  · have hk' : k < 2 * n := by omega
    have hp := ze hk'
    have hg := hm.get (place n k)
    have h1 : qm .i64 ((m.getD (place n k) 0 : Nat) : Int) = (m.getD (place n k) 0 : Nat) := kp (by omega)
    have hlt : (List.take k (Y7 n m)).length = k := by rw [List.length_take, gh]; omega
    have hap : ∀ c : Nat, c = (if k < place n (m.getD (place n k) 0) then 40 else 41) → List.take k (u8s (List.take k (Y7 n m))) ++ [AV.int .u8 (c : Int)] = u8s (List.take (k + 1) (Y7 n m)) := by
      intro c hc
      rw [List.take_of_length_le (by rw [wm, hlt]; exact Nat.le_refl _), qk6 hk', ← hc, ← qgl]; rfl
    simp (maxSteps := 3000000) only [qgd hk', h1, qa, zZ, ↓qt, ↓reduceIte, reduceCtorEq, nA, nM, nS, nE, nL, nD]; try simp only [qa, zY]
    refine ⟨⟨Qv (by omega), Qv (by omega)⟩, ⟨by omega, by omega⟩, by rw [hm.1]; omega, ⟨Qv (by omega), Qv (by omega)⟩, fun h2 => ?_, fun h2 => ?_⟩
    · have e := hap 40 (by rw [if_pos (Uf.1 h2)])
      simp only [Int.cast_ofNat_Int] at e
      refine ⟨by decide, ⟨by rw [wm, hlt]; exact Nat.le_refl _, by decide, by omega⟩, _, qv.xv [0, 3] [4, 3, 1] ⟨by decide, ?_⟩ ?_, ⟨k + 1, ?_, by omega⟩, ?_⟩
      · simp only [over, List.take_zero, List.length_cons, List.length_nil, List.drop_succ_cons, List.drop_nil, List.take_succ_cons, List.drop_zero, e, zK, ↓reduceIte, reduceCtorEq, nE, nB, nA]
      · simp only [zK, ↓reduceIte, reduceCtorEq, nE, nB, nA]
      · simp only [over, List.take_zero, List.length_cons, List.length_nil, List.drop_succ_cons, List.drop_nil, List.take_succ_cons, List.drop_zero, e, zL, ↓reduceIte, reduceCtorEq, nE, nA]
      · simp only [zL, ↓reduceIte, reduceCtorEq, nE, nA]
        omega
    · have e := hap 41 (by rw [if_neg fun h => h2 (Uf.2 h)])
      simp only [Int.cast_ofNat_Int] at e
      refine ⟨by decide, ⟨by rw [wm, hlt]; exact Nat.le_refl _, by decide, by omega⟩, _, qv.xv [0, 3] [4, 3, 1] ⟨by decide, ?_⟩ ?_, ⟨k + 1, ?_, by omega⟩, ?_⟩
      · simp only [over, List.take_zero, List.length_cons, List.length_nil, List.drop_succ_cons, List.drop_nil, List.take_succ_cons, List.drop_zero, e, zK, ↓reduceIte, reduceCtorEq, nE, nB, nA]
      · simp only [zK, ↓reduceIte, reduceCtorEq, nE, nB, nA]
      · simp only [over, List.take_zero, List.length_cons, List.length_nil, List.drop_succ_cons, List.drop_nil, List.take_succ_cons, List.drop_zero, e, zL, ↓reduceIte, reduceCtorEq, nE, nA]
      · simp only [zL, ↓reduceIte, reduceCtorEq, nE, nA]
        omega
  · have hkn : k = 2 * n := by omega
    have hall : List.take k (Y7 n m) = Y7 n m := by rw [List.take_of_length_le]; rw [gh]; omega
    rw [hall, qly (by rw [wm, gh]; omega), By, zc, qk1]
    simp (maxSteps := 3000000) only [List.set_cons_zero, List.set_cons_succ, qa, zZ, ↓qt, ↓reduceIte, reduceCtorEq, nA, nM, nS, nE, nL, nD]; try simp only [qa, zY]
    rw [wm, gh]; omega
end Go.Proofs.Ytfhckbbgmblhbaa
namespace Go.Proofs.Ytfhckbbgmblhbaa
open Go.Am Go.Dia
open Nat renaming reduceAdd → nA, reduceMul → nM, reduceSub → nS, reduceEqDiff → nE, reduceLT → nL, reduceLeDiff → nD, reduceBEq → nB
open Int renaming reduceEq → iE, reduceNe → iN, reduceBEq → iB, reduceBNe → iC, reduceLT → iL, reduceLE → iD, reduceAdd → iA, reduceSub → iS, reduceMul → iM
set_option linter.unusedSimpArgs false
set_option linter.unusedVariables false
set_option maxRecDepth 4000
set_option maxHeartbeats 4000000
def qg2 : List AV → List AV → Option AV := fun l xs => match yz l, xs with
  | some (n, m), [] => chk (0 ≤ n ∧ n ≤ 8) (some (.str (wy n.toNat m)))
  | _, _ => none
theorem qv3 : Am.Callee Try.prog 142 (V3 17 qg2) :=
  Am.Callee.read fun l xs v hl he => by
    unfold qg2 at he
    split at he
    · rename_i n m hd
      obtain ⟨h1, he⟩ := ql he
      cases he
      obtain ⟨rfl, hm⟩ := xf hd
      obtain ⟨k, rfl⟩ : ∃ k : Nat, n = k := ⟨n.toNat, by omega⟩
      exact ⟨qd _ _, rfl, rfl, by rw [Int.toNat_natCast]; exact qwq k m (by omega) hm⟩
    · cases he
def u6 : List AV → Option AV
  | [.agg l] => match yz l with
    | some (n, m) => chk (0 ≤ n ∧ n ≤ 8) (some (.str (wy n.toNat m)))
    | none => none
  | _ => none
theorem qkx : Am.Callee Try.prog 150 (qk u6) :=
  Am.Callee.plain fun xs v he => by
    unfold u6 at he
    split at he
    · split at he
      · rename_i n m hd
        obtain ⟨h1, he⟩ := ql he
        cases he
        obtain ⟨rfl, hm⟩ := xf hd
        obtain ⟨k, rfl⟩ : ∃ k : Nat, n = k := ⟨n.toNat, by omega⟩
        exact ⟨by simp only [AV.zl, AV.zq, qd, Bool.and_self], rfl, by rw [Int.toNat_natCast]; exact qn4 k m (by omega) hm⟩
      · cases he
    · cases he
def B5 : zh := ((B4.put 142 (V3 17 qg2)).put 150 (qk u6))
theorem q19 : qq Try.prog B5 := ((ql5.put (qv3)).put (qkx))
def B6 : zh := B5
theorem q1q : qq Try.prog B6 := q19
def wq (n : Nat) (m : List Nat) (i k : Nat) : Bool := decide (Kn n m i < Kn n m k ∧ Kn n m k < Km n m i ∧ Km n m i < Km n m k)
def B7 : zh := B6
theorem q1w : qq Try.prog B7 := q1q
theorem qgj : ∀ (k : Nat) (l : List Nat), l.Nodup → (∀ i, i ∈ l → i < k) → l.length ≤ k
  | 0, [], _, _ => Nat.le_refl _
  | 0, a :: l, _, h => absurd (h a (by simp)) (by omega)
  | k + 1, l, hn, h => by
    by_cases hk : k ∈ l
    · have h1 := qgj k (l.erase k) (hn.erase k) fun i hi => by
        have h2 := h i (List.mem_of_mem_erase hi)
        have h3 : i ≠ k := by rintro rfl; exact (List.Nodup.not_mem_erase hn) hi
        omega
      rw [List.length_erase_of_mem hk] at h1; omega
    · have h1 := qgj k l hn fun i hi => by
        have h2 := h i hi
        have h3 : i ≠ k := by rintro rfl; exact hk hi
        omega
      omega
end Go.Proofs.Ytfhckbbgmblhbaa
namespace Go.Proofs.Ytfhckbbgmblhbaa
open Go.Am Go.Dia
open Nat renaming reduceAdd → nA, reduceMul → nM, reduceSub → nS, reduceEqDiff → nE, reduceLT → nL, reduceLeDiff → nD, reduceBEq → nB
open Int renaming reduceEq → iE, reduceNe → iN, reduceBEq → iB, reduceBNe → iC, reduceLT → iL, reduceLE → iD, reduceAdd → iA, reduceSub → iS, reduceMul → iM
set_option linter.unusedSimpArgs false
set_option linter.unusedVariables false
set_option maxRecDepth 4000
set_option maxHeartbeats 1000000
def B8 : zh := B7
theorem q1t : qq Try.prog B8 := q1w
theorem za {n : Int} {m : List Nat} (h : m.length = 16) : List.take 17 (dia n m) = dia n m := by
  rw [List.take_of_length_le]; rw [qg, h]; exact Nat.le_refl _
def B9 : zh := B8
theorem q1x : qq Try.prog B9 := q1t
def B10 : zh := B9
theorem q0x : qq Try.prog B10 := q1x
def B11 : zh := B10
theorem qzz : qq Try.prog B11 := q0x
def trm (t : Int × List Nat × Int) : List AV := dia t.1 t.2.1 ++ [.int .i64 t.2.2]
def qy (ts : List (Int × List Nat × Int)) : List AV := ts.flatMap trm
def okT (ts : List (Int × List Nat × Int)) : Prop := ∀ t, t ∈ ts → okD t.2.1
theorem qcv : ∀ (a b : List AV), AV.zl a = true → AV.zl b = true → AV.zl (a ++ b) = true
  | [], b, _, h => h
  | x :: a, b, h, h' => by
    simp only [AV.zl, Bool.and_eq_true, List.cons_append] at h ⊢
    exact ⟨h.1, qcv a b h.2 h'⟩
theorem bh (t : Int × List Nat × Int) : AV.zl (trm t) = true := qcv _ _ (qd _ _) rfl
theorem qc : ∀ (ts : List (Int × List Nat × Int)), AV.zl (qy ts) = true
  | [] => rfl
  | t :: ts => by simp only [qy, List.flatMap_cons]; exact qcv _ _ (bh t) (qc ts)
theorem xq {t : Int × List Nat × Int} (h : okD t.2.1) : (trm t).length = 18 := by simp [trm, qg, h.1]
theorem zb : ∀ {ts : List (Int × List Nat × Int)}, okT ts → (qy ts).length = ts.length * 18
  | [], _ => rfl
  | t :: ts, h => by
    simp only [qy, List.flatMap_cons, List.length_append, xq (h t (by simp)), List.length_cons]
    have := zb (ts := ts) fun u hu => h u (List.mem_cons_of_mem _ hu)
    unfold qy at this
    rw [this]; omega
theorem Xw : ∀ {ts : List (Int × List Nat × Int)} {i : Nat}, okT ts → (h : i < ts.length) → List.take 18 (List.drop (i * 18) (qy ts)) = trm ts[i]
  | t :: ts, 0, h, hi => by
    simp only [qy, List.flatMap_cons, Nat.zero_mul, List.drop_zero, List.getElem_cons_zero]
    rw [List.take_append_of_le_length (by rw [xq (h t (by simp))]; exact Nat.le_refl _), List.take_of_length_le (by rw [xq (h t (by simp))]; exact Nat.le_refl _)]
  | t :: ts, i + 1, h, hi => by
    have h1 := Xw (ts := ts) (i := i) (fun u hu => h u (List.mem_cons_of_mem _ hu)) (by simpa using hi)
    simp only [qy, List.flatMap_cons, List.getElem_cons_succ] at h1 ⊢
    rw [List.drop_append, List.drop_of_length_le (by rw [xq (h t (by simp))]; omega), List.nil_append, xq (h t (by simp)), ← h1]
    congr 2; omega
theorem qat {t : Int × List Nat × Int} (h : okD t.2.1) : List.take 17 (List.drop 0 (trm t)) = dia t.1 t.2.1 := by
  rw [List.drop_zero, trm, List.take_append_of_le_length (by rw [qg, h.1]; exact Nat.le_refl _), za h.1]
theorem Z6 {t : Int × List Nat × Int} (h : okD t.2.1) : (trm t)[17]? = some (.int .i64 t.2.2) := by
  rw [trm, List.getElem?_append_right (by rw [qg, h.1]; exact Nat.le_refl _), qg, h.1]; rfl
def B12 : zh := B11
theorem q0i : qq Try.prog B12 := qzz
def qky (l : List AV) : Option (Int × List Nat × Int) := match yz (l.take 17), l.drop 17 with
  | some (n, m), [.int .i64 f] => some (n, m, f)
  | _, _ => none
theorem qsr {t : Int × List Nat × Int} (h : okD t.2.1) : qky (trm t) = some t := by
  have h1 := qat h
  rw [List.drop_zero] at h1
  have h2 : (trm t).drop 17 = [.int .i64 t.2.2] := by
    rw [trm, List.drop_append, List.drop_of_length_le (by rw [qg, h.1]; exact Nat.le_refl _), qg, h.1]; rfl
  unfold qky
  rw [h1, h2, q8 h]
theorem qoz {l : List AV} {t : Int × List Nat × Int} (h : qky l = some t) : l = trm t ∧ okD t.2.1 := by
  unfold qky at h
  split at h
  · rename_i n m f h1 h2
    cases h
    obtain ⟨h3, h4⟩ := xf h1
    refine ⟨?_, h4⟩
    rw [← List.take_append_drop 17 l, h3, h2]; rfl
  · cases h
def B13 : zh := B12
theorem q08 : qq Try.prog B13 := q0i
def Vz : Nat → List AV → Option (List (Int × List Nat × Int))
  | 0, _ => some []
  | k + 1, l => match qky (l.take 18), Vz k (l.drop 18) with
    | some t, some ts => some (t :: ts)
    | _, _ => none
theorem qiy : ∀ {ts : List (Int × List Nat × Int)} {x : List AV}, okT ts → Vz ts.length (qy ts ++ x) = some ts
  | [], _, _ => rfl
  | t :: ts, x, h => by
    have h1 := qiy (ts := ts) (x := x) fun u hu => h u (List.mem_cons_of_mem _ hu)
    have h2 := xq (h t (by simp))
    simp only [qy, List.flatMap_cons, List.length_cons, Vz, List.append_assoc] at h1 ⊢
    rw [List.take_append_of_le_length (by omega), List.take_of_length_le (by omega), qsr (h t (by simp)), List.drop_append, List.drop_of_length_le (by omega), h2, List.nil_append]
    simp only [Nat.sub_self, List.drop_zero, h1]
theorem jh {ts : List (Int × List Nat × Int)} (h : okT ts) : Vz ts.length (qy ts) = some ts := by
  have := qiy (x := []) h
  rwa [List.append_nil] at this
theorem Q3 : ∀ {k : Nat} {l : List AV} {ts : List (Int × List Nat × Int)}, Vz k l = some ts → ts.length = k ∧ okT ts ∧ l.take (k * 18) = qy ts ∧ k * 18 ≤ l.length
  | 0, l, ts, h => by cases h; exact ⟨rfl, by simp [okT], by simp [qy], by omega⟩
  | k + 1, l, ts, h => by
    simp only [Vz] at h
    split at h
    · rename_i t us ht hus
      cases h
      obtain ⟨h1, h2, h3, h4⟩ := Q3 hus
      obtain ⟨h5, h6⟩ := qoz ht
      have h7 := xq h6
      have h8 : 18 ≤ l.length := by
        have := congrArg List.length h5
        rw [h7, List.length_take] at this; omega
      rw [List.length_drop] at h4
      refine ⟨by simp [h1], fun u hu => ?_, ?_, by omega⟩
      · rcases List.mem_cons.1 hu with rfl | hu
        · exact h6
        · exact h2 u hu
      · rw [show (k + 1) * 18 = 18 + k * 18 from by omega, List.take_add, h5, h3]; rfl
    · cases h
def two (b b' : Nat) : Ren := fun j => if j = 0 then some (b, 0) else if j = 1 then some (b', 0) else none
theorem Callee.ro2 {f : FuncId} {g : BE} (h : ∀ hp xs v hp', g hp xs = some (v, hp') → ∃ (l l' : List AV) (b b' : Nat) (ys : List AV), hp' = hp ∧ (∃ L, rd hp b = some L ∧ l.length ≤ L.length ∧ L.take l.length = l) ∧ (∃ L, rd hp b' = some L ∧ l'.length ≤ L.length ∧ L.take l'.length = l') ∧
    AV.zl l = true ∧ AV.zl l' = true ∧ xs = AV.zg (two b b') ys ∧ xs.all je = true ∧ AV.qn 2 ys ∧ v.zq = true ∧ Am.Fn Try.prog f ys [.ro l, .ro l'] fun v' H' => v' = v ∧ H' = [.ro l, .ro l']) : Am.Callee Try.prog f g := by
  intro hp xs v hp' he
  obtain ⟨l, l', b, b', ys, rfl, ⟨L, hL, h1, h2⟩, ⟨L', hL', h1', h2'⟩, h3, h3', h4, h5, h6, h7, h8⟩ := h hp xs v hp' he
  refine ⟨[.ro l, .ro l'], ys, _, two b b', [(b, 0), (b', 0)], h8, h4, h5, ⟨fun j hj => ?_, rfl, fun j o c hj hb => ?_, fun j k bj bk oj ok hj hk hoj hok hw => ?_⟩, ?_, h6, ?_⟩
  · match j, hj with
    | 0, _ => rfl
    | 1, _ => rfl
  · match j, hj, hb with
    | 0, hj, hb =>
      cases hj; cases hb
      exact ⟨L, hL, by omega, by rw [List.drop_zero, qb _ _ h3]; exact h2⟩
    | 1, hj, hb =>
      cases hj; cases hb
      exact ⟨L', hL', by omega, by rw [List.drop_zero, qb _ _ h3']; exact h2'⟩
    | j + 2, hj, hb => simp at hj
  · match j, hoj with
    | 0, hoj => cases hoj; cases hw
    | 1, hoj => cases hoj; cases hw
    | j + 2, hoj => simp at hoj
  · intro j o hj
    match j, hj with
    | 0, hj => cases hj; exact qi _ _ h3
    | 1, hj => cases hj; exact qi _ _ h3'
    | j + 2, hj => simp at hj
  · rintro v' H' ⟨rfl, rfl⟩
    exact ⟨Vh _ _ h7, by simp [after, upd, AO.wr]⟩
theorem J2 {l l' : List AV} (h : AV.zl l = true) (h' : AV.zl l' = true) : ∀ (j : Nat) (o : AO), [AO.ro l, AO.ro l'][j]? = some o → o.under [AO.ro l, AO.ro l'].length := by
  intro j o e
  match j, e with
  | 0, e => cases e; exact qi _ _ h
  | 1, e => cases e; exact qi _ _ h'
  | j + 2, e => simp at e
def B14 : zh := B13
theorem q1b : qq Try.prog B14 := q08
def elemV (p c n : Int) (b k : Nat) : AV := .agg [.int .i64 p, .int .i64 c, .int .i64 n, .slc b 0 k false 0]
def B15 : zh := B14
theorem qz6 : qq Try.prog B15 := q1b
def part (k : Nat) (m : List Nat) (j : Nat) : List Nat := (List.range 16).map fun t => if t < j then (k + t) % 256 else m.getD t 0
def one (b : Nat) : Ren := fun j => if j = 0 then some (b, 0) else none
theorem Callee.wr1 {f : FuncId} {g : BE} (h : ∀ hp xs v hp', g hp xs = some (v, hp') → ∃ (sz : Nat) (l l' : List AV) (b : Nat) (ys : List AV), hp[b]? = some (.vec sz l) ∧ hp' = hp.set b (.vec sz l') ∧
    AV.zl l = true ∧ AV.zl l' = true ∧ xs = AV.zg (one b) ys ∧ xs.all je = true ∧ AV.qn 1 ys ∧ v.zq = true ∧ Am.Fn Try.prog f ys [.vec sz l] fun v' H' => v' = v ∧ H' = [.vec sz l']) : Am.Callee Try.prog f g := by
  intro hp xs v hp' he
  obtain ⟨sz, l, l', b, ys, hb, rfl, h3, h3', h4, h5, h6, h7, h8⟩ := h hp xs v hp' he
  refine ⟨[.vec sz l], ys, _, one b, [(b, 0)], h8, h4, h5, ⟨fun j hj => ?_, rfl, fun j o c hj hc => ?_, fun j k bj bk oj ok hj hk hoj hok hw hl hjk => ?_⟩, ?_, h6, ?_⟩
  · match j, hj with
    | 0, _ => rfl
  · match j, hj, hc with
    | 0, hj, hc =>
      cases hj; cases hc
      exact ⟨rfl, by simp only [AO.ren, qb _ _ h3]; exact hb⟩
    | j + 1, hj, hc => simp at hj
  · match j, k, hoj, hok with
    | 0, 0, _, _ => rfl
    | 0, k + 1, _, hok => simp at hok
    | j + 1, _, hoj, _ => simp at hoj
  · intro j o hj
    match j, hj with
    | 0, hj => cases hj; exact qi _ _ h3
    | j + 1, hj => simp at hj
  · rintro v' H' ⟨rfl, rfl⟩
    refine ⟨Vh _ _ h7, ?_⟩
    simp only [after, upd, AO.wr, if_true, AO.ren, qb _ _ h3', List.length_cons, List.length_nil, List.drop_succ_cons, List.drop_nil, List.map_nil, List.append_nil]
def B16 : zh := B15
theorem q0b : qq Try.prog B16 := qz6
def B17 : zh := B16
theorem qz9 : qq Try.prog B17 := q0b
def B18 : zh := B17
theorem qzy : qq Try.prog B18 := qz9
def B19 : zh := B18
theorem qz1 : qq Try.prog B19 := qzy
def B20 : zh := B19
theorem q0z : qq Try.prog B20 := qz1
def B21 : zh := B20
theorem q0f : qq Try.prog B21 := q0z
def B22 : zh := B21
theorem qpe : qq Try.prog B22 := q0f
theorem qd6 : B22 70 = some (qk xm) := rfl
theorem qce : B22 150 = some (qk u6) := rfl
def ve : AC := .seq (.seq (.region [oM 25 9,oM 26 10,oP 27 .lss 25 26]) (.cond 27 .skip (.exit 0))) (.block 1 (.seq (.region [oM 28 9,oM 29 10,oP 30 .add 28 29,oK 31 .quo 30 2,oM 12 31]) (.seq (.region [oM 32 1,oM 33 12,oX 34 18 32 33,oF 35 0 34,oN 36 17 35,oC 37 150 [.t 36],oM 38 11,oP 39 .lss 37 38]) (.cond 39 (.region [oM 40 12,oK 41 .add 40 1,oM 9 41]) (.region [oM 42 12,oM 10 42])))))
def wb : AC := .seq (.seq (.region [oM 61 0,oM 62 1,oM 63 9,oX 64 18 62 63,oF 65 17 64,oL 66 65,oM 67 3,oP 68 .add 66 67,oC 69 70 [.t 61,.t 68],oM 14 69]) (.seq (.region [oM 70 14,oK 71 .neq 70 0]) (.cond 71 (.region [oM 72 13,oN 73 17 6,oM 74 14,o0 75 (.build [.int .i64 0,.int .u8 0,.int .u8 0,.int .u8 0,.int .u8 0,.int .u8 0,.int .u8 0,.int .u8 0,.int .u8 0,.int .u8 0,.int .u8 0,.int .u8 0,.int .u8 0,.int .u8 0,.int .u8 0,.int .u8 0,.int .u8 0,.int .i64 0] [(0,17,.t 73),(17,1,.t 74)]),o0 76 (.Q4 1 [.int .i64 0,.int .u8 0,.int .u8 0,.int .u8 0,.int .u8 0,.int .u8 0,.int .u8 0,.int .u8 0,.int .u8 0,.int .u8 0,.int .u8 0,.int .u8 0,.int .u8 0,.int .u8 0,.int .u8 0,.int .u8 0,.int .u8 0,.int .i64 0] [(0,18,.t 75)]),o0 77 (.append 18 32 (.t 72) (.t 76)),oM 13 77]) .skip))) (.seq (.region [oM 78 13,oM 79 1,oM 80 9,oK 81 .add 80 1,o0 82 (.qbn 18 (.t 79) (some (.t 81)) none),o0 83 (.append 18 32 (.t 78) (.t 82)),oM 8 83]) .ret)
def yp : AC := .cond 60 wb .skip
def yw : AC := .seq (.region [oM 84 13,oN 85 17 6,oM 86 3,o0 87 (.build [.int .i64 0,.int .u8 0,.int .u8 0,.int .u8 0,.int .u8 0,.int .u8 0,.int .u8 0,.int .u8 0,.int .u8 0,.int .u8 0,.int .u8 0,.int .u8 0,.int .u8 0,.int .u8 0,.int .u8 0,.int .u8 0,.int .u8 0,.int .i64 0] [(0,17,.t 85),(17,1,.t 86)]),o0 88 (.Q4 1 [.int .i64 0,.int .u8 0,.int .u8 0,.int .u8 0,.int .u8 0,.int .u8 0,.int .u8 0,.int .u8 0,.int .u8 0,.int .u8 0,.int .u8 0,.int .u8 0,.int .u8 0,.int .u8 0,.int .u8 0,.int .u8 0,.int .u8 0,.int .i64 0] [(0,18,.t 87)]),o0 89 (.append 18 32 (.t 84) (.t 88)),oM 13 89]) (.seq (.region [oM 90 13,oM 91 1,oM 92 9,o0 93 (.qbn 18 (.t 91) (some (.t 92)) none),o0 94 (.append 18 32 (.t 90) (.t 93)),oM 8 94]) .ret)
def yu : AC := .seq (.region [o0 43 (.Q4 0 [] []),oM 44 1,oM 45 9,o0 46 (.qbn 18 (.t 44) none (some (.t 45))),o0 47 (.append 18 32 (.t 43) (.t 46)),oM 13 47]) (.seq (.seq (.draw false [oM 48 9,oM 49 1,o0 50 (.len .slc (.t 49)),oP 51 .lss 48 50,oM 52 51,oG 53 52 true (.mov (.t 1)),oG 54 52 true (.mov (.t 9)),oG 55 52 true (.J7 18 (.t 53) (.t 54)),oG 56 52 true (.Ki 0 (.t 55)),oG 57 52 true (.Wm 17 (.t 56)),oG 58 52 true (.Wm 17 (.t 6)),oG 59 52 true (.eqs false [.int,.int,.int,.int,.int,.int,.int,.int,.int,.int,.int,.int,.int,.int,.int,.int,.int] (.t 57) (.t 58)),o0 60 (.pick (.t 52) (.t 59) (.c (.bool false)))]) yp) yw)
def Y9 : AC := .seq (.region [o0 6 (.box (.t 2)),o0 8 (.mov (.c (.v (.slice none 0 0))))]) (.seq (.region [oM 15 0,oM 16 3,oC 17 70 [.t 15,.t 16],oM 3 17]) (.seq (.seq (.region [oM 18 3,oK 19 .eql 18 0]) (.cond 19 (.seq (.region [oM 20 1,oM 8 20]) .ret) .skip)) (.seq (.region [oM 21 1,o0 22 (.len .slc (.t 21)),oN 23 17 6,oC 24 150 [.t 23],oI 9 0,oM 10 22,oM 11 24]) (.seq (.block 0 (.loop ve)) yu))))
theorem qfg : zk Try.prog 100 = some ⟨95, Y9, [.slot 8]⟩ := by kernel_rfl
theorem vy : [AV.int .i64 0, .int .u8 0, .int .u8 0, .int .u8 0, .int .u8 0, .int .u8 0, .int .u8 0, .int .u8 0, .int .u8 0, .int .u8 0, .int .u8 0, .int .u8 0, .int .u8 0, .int .u8 0, .int .u8 0, .int .u8 0, .int .u8 0, .int .i64 0] = trm (0, List.replicate 16 0, 0) := rfl
theorem wv (t : Int × List Nat × Int) : (trm t).length = t.2.1.length + 2 := by simp [trm, qg]
theorem Zw {t : Int × List Nat × Int} {n : Int} {m : List Nat} (h : t.2.1.length = 16) (h' : m.length = 16) : over (trm t) 0 (dia n m) = trm (n, m, t.2.2) := by
  simp only [over, trm, List.take_zero, List.nil_append, Nat.zero_add, qg, h']
  rw [List.drop_append, List.drop_of_length_le (by rw [qg, h]; exact Nat.le_refl _), qg, h]; rfl
theorem Z5 {t : Int × List Nat × Int} {f : Int} (h : t.2.1.length = 16) : over (trm t) 17 [.int .i64 f] = trm (t.1, t.2.1, f) := by
  simp only [over, trm]
  rw [List.take_append_of_le_length (by rw [qg, h]; exact Nat.le_refl _), List.take_of_length_le (by rw [qg, h]; exact Nat.le_refl _), List.drop_of_length_le (by simp [qg, h]), List.append_nil]
theorem ka {t u : Int × List Nat × Int} (h : t.2.1.length = 16) (h' : u.2.1.length = 16) : over (trm t) 0 (trm u) = trm u := qe4 (by rw [wv, wv, h, h'])
theorem gg {t : Int × List Nat × Int} (h : t.2.1.length = 16) : List.take 18 (trm t) = trm t := by rw [List.take_of_length_le]; rw [wv, h]; exact Nat.le_refl _
theorem jr (t : Int × List Nat × Int) : (trm t).all AV.one = true := by simp [trm, j2, AV.one]
theorem qdw : ((0 : Nat) : Int) = 0 := rfl
theorem qq0 : ((1 : Nat) : Int) = 1 := rfl
def qwc (p : Int) (n : Nat) (m : List Nat) (k : Int) (v : AV) (H' : List AO) : Prop := if k.emod p = 0 then v = .slc 0 0 0 true 0 ∧ H' = [.ro []] else v = .slc 1 0 1 false 0 ∧ H' = [.ro [], .vec 18 (qy [((n : Int), m, k.emod p)])]
theorem qmw (p : Int) (n : Nat) (m : List Nat) (k : Int) (hp : 0 < p ∧ p ≤ 1000000) (hn : n ≤ 8) (hm : okD m) :
    Am.Fn Try.prog 100 [.int .i64 p, .slc 0 0 0 true 0, .agg (dia n m), .int .i64 k] [.ro []] (qwc p n m k) := by
  refine Am.Fn.ofB qpe mixed qfg (by simp) (jv rfl) ?_
  have hml := hm.1
  simp (maxSteps := 3000000) only [Y9, qd6, qce, xm, u6, qxp hml, hml, qg, q8 hm, rd, List.getElem?_cons_zero, List.getElem?_cons_succ, qa, zZ, ↓qt, ↓reduceIte, reduceCtorEq, nA, nM, nS, nE, nL, nD]; try simp only [qa, zY]
  refine ⟨hp, fun h => ?_, fun h => ⟨⟨by omega, by omega⟩, ?_⟩⟩
  · refine Ret.xv [0] ⟨⟨Nat.le_refl 1, rfl, by decide⟩, ?_⟩ (rs := [.slc 0 0 0 true 0]) rfl (by rfl) (by simp [xa]) ?_ ?_
    · simp only [zK, ↓reduceIte, reduceCtorEq, nE, nB, nA]
    · intro j l; cases j <;> simp [q9, AO.ren]
    · unfold qwc
      rw [if_pos h]
      simp only [xa]
      simp only [zL, ↓reduceIte, reduceCtorEq, nE, nA]
      exact ⟨trivial, trivial⟩
  · refine WA.jq qpe (fun s => s = ⟨[(11, .str (wy n m)), (10, .int .i64 0), (9, .int .i64 0), (6, .ptr 1 0), (0, .int .i64 p), (1, .slc 0 0 0 true 0), (3, .int .i64 (k.emod p))], [.ro [], .cells (dia n m)]⟩) (fun _ => 0) ⟨_, qv.qw [11, 10, 9, 6, 0, 1, 3], rfl⟩ ?_
    rintro s rfl
    have hdl : (dia (n : Int) m).length = 17 := by rw [qg, hml]
    have hz : (List.replicate 16 0 : List Nat).length = 16 := rfl
    have e1 : over (trm (0, List.replicate 16 0, 0)) 0 (dia (n : Int) m) = trm ((n : Int), m, 0) := Zw (t := (0, List.replicate 16 0, 0)) hz hml
    have e2 : ∀ f : Int, over (trm ((n : Int), m, 0)) 17 [.int .i64 f] = trm ((n : Int), m, f) := fun f => Z5 (t := ((n : Int), m, 0)) hml
    have e3 : ∀ f : Int, over (trm (0, List.replicate 16 0, 0)) 0 (trm ((n : Int), m, f)) = trm ((n : Int), m, f) := fun f => ka (t := (0, List.replicate 16 0, 0)) hz hml
    have e4 : ∀ f : Int, List.take 18 (trm ((n : Int), m, f)) = trm ((n : Int), m, f) := fun f => gg (t := ((n : Int), m, f)) hml
    simp (maxSteps := 3000000) only [ve, yu, b8, src, lim, gz, Option.map_some, Option.map_none, rd, List.getElem?_cons_zero, List.getElem?_cons_succ, List.set_cons_zero, List.set_cons_succ, qdw, qq0, Int.lt_irrefl, Int.le_refl, Nat.zero_mul, Int.toNat_zero, List.take_zero, List.drop_zero, List.all_nil, qa, zZ, ↓qt, ↓reduceIte, reduceCtorEq, nA, nM, nS, nE, nL, nD]; try simp only [qa, zY]
    simp (maxSteps := 3000000) only [yp, yw, vy, wv, e1, e2, e3, e4, jr, hml, hz, za hml, qg, b8, src, lim, gz, Option.map_some, Option.map_none, rd, List.getElem?_cons_zero, List.getElem?_cons_succ, List.set_cons_zero, List.set_cons_succ, qdw, qq0, Int.lt_irrefl, Int.le_refl, Nat.zero_mul, Int.toNat_zero, List.take_zero, List.drop_zero, List.all_nil, qa, zZ, ↓qt, ↓reduceIte, reduceCtorEq, nA, nM, nS, nE, nL, nD]; try simp only [qa, zY]
    refine Ret.xv [0, 6] ⟨⟨by simp, rfl, by decide⟩, ?_⟩ (rs := [.slc 6 0 1 false 0]) rfl (by rfl) (by simp [xa]) ?_ ?_
    · simp only [qe _ _ (bh _), zK, ↓reduceIte, reduceCtorEq, nE, nB, nA]
    · intro j l; match j with
      | 0 => intro _; exact ⟨[], rfl⟩
      | 1 => simp [q9, AO.ren]
      | j + 2 => simp [q9]
    · unfold qwc
      rw [if_neg h]
      simp only [xa]
      simp only [qb _ _ (bh _), zL, ↓reduceIte, reduceCtorEq, nE, nA]
      exact ⟨trivial, by simp only [qy, List.flatMap_cons, List.flatMap_nil, List.append_nil]⟩
def qo0 : BE := fun hp xs => match xs with
  | [.int .i64 p, .slc b 0 0 true 0, .agg l, .int .i64 k] => match rd hp b, yz l with
    | some _, some (n, m) => chk ((0 < p ∧ p ≤ 1000000) ∧ 0 ≤ n ∧ n ≤ 8) (if k.emod p = 0 then some (.slc b 0 0 true 0, hp) else some (.slc hp.length 0 1 false 0, hp ++ [.vec 18 (qy [(n, m, k.emod p)])]))
    | _, _ => none
  | _ => none
theorem q07 : Am.Callee Try.prog 100 qo0 := by
  intro hp xs v hp' he
  unfold qo0 at he
  split at he
  · rename_i p b l k
    split at he
    · rename_i L n m hL hd
      obtain ⟨h0, he⟩ := ql he
      obtain ⟨rfl, hm⟩ := xf hd
      obtain ⟨n, rfl⟩ : ∃ j : Nat, n = j := ⟨n.toNat, by omega⟩
      refine ⟨[.ro []], [.int .i64 p, .slc 0 0 0 true 0, .agg (dia n m), .int .i64 k], qwc p n m k, one b, [(b, 0)], qmw p n m k h0.1 (by omega) hm, ?_, rfl, ⟨fun j hj => ?_, rfl, fun j o c hj hb => ?_, fun j k bj bk oj ok hj hk hoj hok hw => ?_⟩, ?_, ⟨trivial, by simp [AV.under], qi _ _ (qd _ _), trivial, trivial⟩, ?_⟩
      · simp only [AV.zg, AV.ren, one, if_true, Nat.zero_add, qb _ _ (qd _ _)]
      · match j, hj with
        | 0, _ => rfl
      · match j, hj, hb with
        | 0, hj, hb =>
          cases hj; cases hb
          exact ⟨L, hL, by simp, by simp [AV.zg]⟩
        | j + 1, hj, hb => simp at hj
      · match j, hoj with
        | 0, hoj => cases hoj; cases hw
        | j + 1, hoj => simp at hoj
      · intro j o hj
        match j, hj with
        | 0, hj => cases hj; trivial
        | j + 1, hj => simp at hj
      · intro v' H' hr
        unfold qwc at hr
        split at he
        · rename_i hk
          rw [if_pos hk] at hr
          obtain ⟨rfl, rfl⟩ := hr
          simp only [Option.some.injEq, Prod.mk.injEq] at he
          obtain ⟨rfl, rfl⟩ := he
          exact ⟨by simp [AV.ren, Ren.ext, one], by simp [after, upd, AO.wr]⟩
        · rename_i hk
          rw [if_neg hk] at hr
          obtain ⟨rfl, rfl⟩ := hr
          simp only [Option.some.injEq, Prod.mk.injEq] at he
          obtain ⟨rfl, rfl⟩ := he
          exact ⟨by simp [AV.ren, Ren.ext], by simp [after, upd, AO.wr, AO.ren, qb _ _ (qc _)]⟩
    · cases he
  · cases he
def B23 : zh := (B22.put 100 (qo0))
theorem q09 : qq Try.prog B23 := (qpe.put (q07))
theorem qj3 {a b c d x : AV} : over [a, b, c, d] 0 [x] = [x, b, c, d] := rfl
theorem qkc {a b c d x : AV} : over [a, b, c, d] 1 [x] = [a, x, c, d] := rfl
theorem qi4 {a b c d x : AV} : over [a, b, c, d] 2 [x] = [a, b, x, d] := rfl
theorem qke {a b c d x : AV} : over [a, b, c, d] 3 [x] = [a, b, c, x] := rfl
theorem qkl {a b c d x y z w : AV} : over [a, b, c, d] 0 [x, y, z, w] = [x, y, z, w] := rfl
theorem qf : type_of% (And.intro @qj3 (And.intro @qkc (And.intro @qi4 (And.intro @qke @qkl)))) := (And.intro @qj3 (And.intro @qkc (And.intro @qi4 (And.intro @qke @qkl))))
def B24 : zh := B23
theorem q0d : qq Try.prog B24 := q09
def qwp : Go.Shelf.Ren := ⟨fun | 106 => 156 | 213 => 183 | 265 => 200 | n => n, fun | 9 => 9 | 3 => 3 | n => n, fun | n => n⟩
theorem q2y : Go.Proofs.Lays.n106 Try.prog qwp where
  mixed := by kernel_rfl
  f106 := Try.func156.trans (congrArg some (by kernel_rfl))
  f213 := Try.func183.trans (congrArg some (by kernel_rfl))
  f265 := Try.func200.trans (congrArg some (by kernel_rfl))
  t3 := Try.underlying3
  a3 := Try.isAgg3
  z3 := Try.sizeOf3
  v3 := Try.zeroValue3
  t9 := Try.underlying9
  a9 := Try.isAgg9
  z9 := Try.sizeOf9
  v9 := Try.zeroValue9
def qwh : Go.Shelf.Ren := ⟨fun | 6 => 154 | 15 => 182 | 14 => 181 | 28 => 198 | 29 => 199 | 20 => 190 | 21 => 191 | 22 => 192 | 23 => 193 | 24 => 194 | 25 => 195 | 26 => 196 | 27 => 197 | 46 => 201 | 47 => 202 | 48 => 203 | 49 => 204 | 50 => 205 | 57 => 206 | n => n, fun | 22 => 28 | 24 => 73 | 25 => 150 | 3 => 3 | 39 => 177 | 0 => 0 | 53 => 195 | 55 => 110 | 4 => 4 | 46 => 188 | 45 => 187 | 50 => 192 | 5 => 5 | 9 => 9 | 66 => 197 | 70 => 201 | 76 => 203 | 77 => 204 | n => n, fun | n => n⟩
theorem q2t : Go.Proofs.SlLaysF0.n6 Try.prog qwh where
  mixed := by kernel_rfl
  f6 := ⟨Try.f154.name, by kernel_rfl, Try.func154.trans (congrArg some (by kernel_rfl))⟩
  f14 := ⟨Try.f181.name, by kernel_rfl, Try.func181.trans (congrArg some (by kernel_rfl))⟩
  f15 := Try.func182.trans (congrArg some (by kernel_rfl))
  f20 := ⟨Try.f190.name, by kernel_rfl, Try.func190.trans (congrArg some (by kernel_rfl))⟩
  f21 := ⟨Try.f191.name, by kernel_rfl, Try.func191.trans (congrArg some (by kernel_rfl))⟩
  f22 := ⟨Try.f192.name, by kernel_rfl, Try.func192.trans (congrArg some (by kernel_rfl))⟩
  f23 := ⟨Try.f193.name, by kernel_rfl, Try.func193.trans (congrArg some (by kernel_rfl))⟩
  f24 := ⟨Try.f194.name, by kernel_rfl, Try.func194.trans (congrArg some (by kernel_rfl))⟩
  f25 := ⟨Try.f195.name, by kernel_rfl, Try.func195.trans (congrArg some (by kernel_rfl))⟩
  f26 := ⟨Try.f196.name, by kernel_rfl, Try.func196.trans (congrArg some (by kernel_rfl))⟩
  f27 := ⟨Try.f197.name, by kernel_rfl, Try.func197.trans (congrArg some (by kernel_rfl))⟩
  f28 := Try.func198.trans (congrArg some (by kernel_rfl))
  f29 := Try.func199.trans (congrArg some (by kernel_rfl))
  f46 := ⟨Try.f201.name, by kernel_rfl, Try.func201.trans (congrArg some (by kernel_rfl))⟩
  f47 := Try.func202.trans (congrArg some (by kernel_rfl))
  f48 := Try.func203.trans (congrArg some (by kernel_rfl))
  f49 := ⟨Try.f204.name, by kernel_rfl, Try.func204.trans (congrArg some (by kernel_rfl))⟩
  f50 := ⟨Try.f205.name, by kernel_rfl, Try.func205.trans (congrArg some (by kernel_rfl))⟩
  f57 := ⟨Try.f206.name, by kernel_rfl, Try.func206.trans (congrArg some (by kernel_rfl))⟩
  t0 := Try.underlying0
  a0 := Try.isAgg0
  z0 := Try.sizeOf0
  v0 := Try.zeroValue0
  t3 := Try.underlying3
  a3 := Try.isAgg3
  z3 := Try.sizeOf3
  v3 := Try.zeroValue3
  t4 := Try.underlying4
  a4 := Try.isAgg4
  z4 := Try.sizeOf4
  v4 := Try.zeroValue4
  t5 := Try.underlying5
  a5 := Try.isAgg5
  z5 := Try.sizeOf5
  v5 := Try.zeroValue5
  t9 := Try.underlying9
  a9 := Try.isAgg9
  z9 := Try.sizeOf9
  v9 := Try.zeroValue9
  t22 := Try.underlying28
  a22 := Try.isAgg28
  z22 := Try.sizeOf28
  v22 := Try.zeroValue28
  t25 := Try.underlying150
  a25 := Try.isAgg150
  z25 := Try.sizeOf150
  v25 := Try.zeroValue150
  t39 := Try.underlying177
  a39 := Try.isAgg177
  z39 := Try.sizeOf177
  v39 := Try.zeroValue177
  t45 := Try.underlying187
  a45 := Try.isAgg187
  z45 := Try.sizeOf187
  v45 := Try.zeroValue187
  t46 := Try.underlying188
  a46 := Try.isAgg188
  z46 := Try.sizeOf188
  v46 := Try.zeroValue188
  t50 := Try.underlying192
  a50 := Try.isAgg192
  z50 := Try.sizeOf192
  v50 := Try.zeroValue192
  t53 := Try.underlying195
  a53 := Try.isAgg195
  z53 := Try.sizeOf195
  v53 := Try.zeroValue195
  t55 := Try.underlying110
  a55 := Try.isAgg110
  z55 := Try.sizeOf110
  v55 := Try.zeroValue110
  t66 := Try.underlying197
  a66 := Try.isAgg197
  z66 := Try.sizeOf197
  v66 := Try.zeroValue197
  t70 := Try.underlying201
  a70 := Try.isAgg201
  z70 := Try.sizeOf201
  v70 := Try.zeroValue201
  t76 := Try.underlying203
  a76 := Try.isAgg203
  z76 := Try.sizeOf203
  v76 := Try.zeroValue203
  t77 := Try.underlying204
  a77 := Try.isAgg204
  z77 := Try.sizeOf204
  v77 := Try.zeroValue204
def Yk : List AV → Option AV
  | [.str a, .str b] => some (.int .i64 (Go.Lib.compareBytes a b))
  | _ => none
theorem qs7 (a b : List UInt8) : Am.Fn Try.prog 156 [.str a, .str b] [] (fun v H' => v = .int .i64 (Go.Lib.compareBytes a b) ∧ H' = []) :=
  qk9 ⟨Try.f156, Try.func156, by kernel_rfl, by kernel_rfl⟩ rfl rfl fun w => Go.Proofs.Any.strings_Compare q2y ⟨a.toArray⟩ ⟨b.toArray⟩ w
theorem qs3 : Am.Callee Try.prog 156 (qk Yk) := Am.Callee.plain fun xs v he => by
  unfold Yk at he
  split at he
  · cases he; exact ⟨rfl, rfl, qs7 _ _⟩
  · cases he
def B26 : zh := (B24.put 156 (qk Yk))
theorem qvx : qq Try.prog B26 := (q0d.put (qs3))
theorem U8 : B26 142 = some (V3 17 qg2) := rfl
theorem qal : B26 156 = some (qk Yk) := rfl
def Ve : AC := .seq (.region [o0 2 (.box (.t 0)),o0 3 (.box (.t 1)),oI 4 0]) (.seq (.region [oF 5 0 2,oC 6 142 [.t 5],oF 7 0 3,oC 8 142 [.t 7],oC 9 156 [.t 6,.t 8],oM 4 9]) .ret)
theorem K0 : zk Try.prog 155 = some ⟨10, Ve, [.slot 4]⟩ := by kernel_rfl
def txt (t : Int × List Nat × Int) : List UInt8 := wy t.1.toNat t.2.1
def qxn (t u : Int × List Nat × Int) : Int := Go.Lib.compareBytes (txt t) (txt u)
theorem qym (t u : Int × List Nat × Int) (ht : okD t.2.1) (hu : okD u.2.1) (h1 : 0 ≤ t.1 ∧ t.1 ≤ 8) (h2 : 0 ≤ u.1 ∧ u.1 ≤ 8) :
    Am.Fn Try.prog 155 [.agg (trm t), .agg (trm u)] [] (fun v H' => v = .int .i64 (qxn t u) ∧ H' = []) := by
  refine Am.Fn.xo (R := fun v => v = _) qvx mixed K0 (by simp) (by simp) ?_
  simp (maxSteps := 3000000) only [Ve, U8, qal, Yk, qg2, qat ht, qat hu, xq ht, xq hu, q8 ht, q8 hu, h1, h2, rd, List.getElem?_cons_zero, List.getElem?_cons_succ, qa, zZ, ↓qt, ↓reduceIte, reduceCtorEq, nA, nM, nS, nE, nL, nD]; try simp only [qa, zY]
  rfl
theorem qrj : ∀ (a b : List UInt8), (Go.Lib.compareBytes a b < 0) ↔ Op.bytesLess a b = true
  | [], [] => by simp [Go.Lib.compareBytes, Op.bytesLess]
  | [], b :: y => by simp [Go.Lib.compareBytes, Op.bytesLess]
  | a :: x, [] => by simp [Go.Lib.compareBytes, Op.bytesLess]
  | a :: x, b :: y => by
    simp only [Go.Lib.compareBytes, Op.bytesLess, Bool.or_eq_true, Bool.and_eq_true, decide_eq_true_eq, beq_iff_eq]
    by_cases h : a < b
    · simp [h]
    · by_cases h2 : b < a
      · have : a ≠ b := fun e => by subst e; exact UInt8.lt_irrefl _ h2
        simp [h, h2, this]
      · have : a = b := UInt8.le_antisymm (UInt8.not_lt.1 h2) (UInt8.not_lt.1 h)
        subst this
        simp only [h, if_false, false_or, true_and]
        exact qrj x y
theorem Q6 : ∀ (a : List UInt8), Op.bytesLess a a = false
  | [] => rfl
  | a :: x => by simp [Op.bytesLess, Q6 x]
theorem ur : ∀ (a b c : List UInt8), Op.bytesLess a b = true → Op.bytesLess b c = true → Op.bytesLess a c = true
  | _, _, [], _, h => by cases ‹List UInt8› <;> simp [Op.bytesLess] at h
  | [], _, c :: z, h, _ => by simp [Op.bytesLess]
  | a :: x, [], c :: z, h, _ => by simp [Op.bytesLess] at h
  | a :: x, b :: y, c :: z, h, h' => by
    simp only [Op.bytesLess, Bool.or_eq_true, Bool.and_eq_true, decide_eq_true_eq, beq_iff_eq] at h h' ⊢
    rcases h with h | ⟨rfl, h⟩
    · rcases h' with h' | ⟨rfl, h'⟩
      · exact .inl (UInt8.lt_trans h h')
      · exact .inl h
    · rcases h' with h' | ⟨rfl, h'⟩
      · exact .inl h'
      · exact .inr ⟨rfl, ur x y z h h'⟩
theorem Xn : ∀ (a b : List UInt8), Op.bytesLess a b = false → Op.bytesLess b a = false → a = b
  | [], [], _, _ => rfl
  | [], b :: y, h, _ => by simp [Op.bytesLess] at h
  | a :: x, [], _, h => by simp [Op.bytesLess] at h
  | a :: x, b :: y, h, h' => by
    simp only [Op.bytesLess, Bool.or_eq_false_iff, Bool.and_eq_false_iff, decide_eq_false_iff_not, beq_eq_false_iff_ne] at h h'
    have e : a = b := UInt8.le_antisymm (UInt8.not_lt.1 h'.1) (UInt8.not_lt.1 h.1)
    subst e
    rw [Xn x y (by simpa using h.2) (by simpa using h'.2)]
theorem qdh (a b : List UInt8) (h : Op.bytesLess a b = true) : Op.bytesLess b a = false := by
  cases hb : Op.bytesLess b a with
  | false => rfl
  | true => have := ur a b a h hb; rw [Q6] at this; cases this
def ltT (t u : Int × List Nat × Int) : Bool := Op.bytesLess (txt t) (txt u)
abbrev qab := {t : Int × List Nat × Int // okD t.2.1 ∧ 0 ≤ t.1 ∧ t.1 ≤ 8}
instance : Inhabited qab := ⟨⟨(0, List.replicate 16 0, 0), ⟨by simp, by intro x hx; simp at hx; omega⟩, by decide, by decide⟩⟩
theorem qi2 (x y : qab) : Go.Proofs.ltOf (fun x y : qab => qxn x.1 y.1) x y = ltT x.1 y.1 := by
  unfold Go.Proofs.ltOf qxn ltT
  have := qrj (txt x.1) (txt y.1)
  cases h : Op.bytesLess (txt x.1) (txt y.1) with
  | true => exact decide_eq_true (this.2 h)
  | false => exact decide_eq_false (fun h2 => by rw [this.1 h2] at h; cases h)
theorem swo : Go.Sort.SWO (Go.Proofs.ltOf (fun x y : qab => qxn x.1 y.1)) where
  irrefl x := by rw [qi2]; exact Q6 _
  trans x y z h h' := by rw [qi2] at *; exact ur _ _ _ h h'
  ntrans x y z h h' := by
    rw [qi2] at *
    cases hc : ltT x.1 z.1 with
    | false => rfl
    | true =>
      exfalso
      by_cases e : txt x.1 = txt y.1
      · unfold ltT at *; rw [e] at hc; rw [hc] at h'; cases h'
      · have h1 : ltT y.1 x.1 = true := by
          cases hb : ltT y.1 x.1 with
          | true => rfl
          | false => exact absurd (Xn _ _ h hb) e
        have := ur _ _ _ h1 hc
        unfold ltT at h'; rw [this] at h'; cases h'
def qp7 (t : Int × List Nat × Int) : List (Int × List Nat × Int) → List (Int × List Nat × Int)
  | [] => [t]
  | u :: l => if ltT t u then t :: u :: l else u :: qp7 t l
def Z2 : List (Int × List Nat × Int) → List (Int × List Nat × Int)
  | [] => []
  | t :: l => qp7 t (Z2 l)
theorem qbw (t : Int × List Nat × Int) : ∀ l, (qp7 t l).Perm (t :: l)
  | [] => .refl _
  | u :: l => by
    unfold qp7; split
    · exact .refl _
    · exact ((qbw t l).cons u).trans (.swap t u l)
theorem kh : ∀ l, (Z2 l).Perm l
  | [] => .refl _
  | t :: l => (qbw t _).trans ((kh l).cons t)
def Gp (l : List (Int × List Nat × Int)) : Prop := (l.map txt).Nodup
def upT (l : List (Int × List Nat × Int)) : Prop := l.Pairwise fun a b => ltT a b = true
theorem qqy {t : Int × List Nat × Int} : ∀ {l}, upT l → (∀ u ∈ l, txt t ≠ txt u) → upT (qp7 t l)
  | [], _, _ => by simp [qp7, upT]
  | u :: l, h, hn => by
    unfold qp7
    have h' := List.pairwise_cons.1 h
    split
    · rename_i hlt
      exact List.pairwise_cons.2 ⟨fun a ha => by
        rcases List.mem_cons.1 ha with rfl | ha
        · exact hlt
        · exact ur _ _ _ hlt (h'.1 a ha), h⟩
    · rename_i hlt
      refine List.pairwise_cons.2 ⟨fun a ha => ?_, qqy h'.2 fun v hv => hn v (List.mem_cons_of_mem _ hv)⟩
      have hm := (qbw t l).mem_iff.1 ha
      rcases List.mem_cons.1 hm with rfl | hm
      · cases hb : ltT u a with
        | true => rfl
        | false => exact absurd (Xn _ _ (Bool.eq_false_iff.2 hlt) hb) (hn u (List.mem_cons_self ..))
      · exact h'.1 a hm
theorem qbe : ∀ {l}, Gp l → upT (Z2 l)
  | [], _ => .nil
  | t :: l, h => by
    have h' := List.nodup_cons.1 h
    refine qqy (qbe h'.2) fun u hu e => h'.1 ?_
    rw [e]
    exact List.mem_map.2 ⟨u, (kh l).mem_iff.1 hu, rfl⟩
theorem qby : ∀ {a b : List (Int × List Nat × Int)}, upT a → upT b → a.Perm b → a = b
  | [], b, _, _, hp => by rw [List.nil_perm.1 hp]
  | x :: a, [], _, _, hp => by have := hp.length_eq; simp at this
  | x :: a, y :: b, ha, hb, hp => by
    have ha' := List.pairwise_cons.1 ha
    have hb' := List.pairwise_cons.1 hb
    have e : x = y := by
      have h1 : x ∈ y :: b := hp.mem_iff.1 (List.mem_cons_self ..)
      have h2 : y ∈ x :: a := hp.mem_iff.2 (List.mem_cons_self ..)
      rcases List.mem_cons.1 h1 with h | h
      · exact h
      · rcases List.mem_cons.1 h2 with h' | h'
        · exact h'.symm
        · have c1 := hb'.1 x h
          have c2 := ha'.1 y h'
          have := qdh _ _ c1
          unfold ltT at c2; rw [this] at c2; cases c2
    subst e
    rw [qby ha'.2 hb'.2 ((List.perm_cons x).1 hp)]
theorem qk2 {a l : List (Int × List Nat × Int)} (hp : a.Perm l) (hs : a.Pairwise fun x y => ltT y x = false) (hl : Gp l) : a = Z2 l := by
  have hn : (a.map txt).Nodup := (hp.map txt).nodup_iff.2 hl
  refine qby ?_ (qbe hl) (hp.trans (kh l).symm)
  unfold upT
  rw [List.pairwise_iff_getElem] at hs ⊢
  intro i j hi hj hij
  cases hb : ltT a[i] a[j] with
  | true => rfl
  | false =>
    have e := Xn _ _ hb (hs i j hi hj hij)
    have := (List.pairwise_iff_getElem.1 hn) i j (by simpa using hi) (by simpa using hj) hij
    simp only [List.getElem_map] at this
    exact absurd e this
theorem q0q (ts : List (Int × List Nat × Int)) (hl : ts.length ≤ 1000000000) (hok : ∀ t ∈ ts, okD t.2.1 ∧ 0 ≤ t.1 ∧ t.1 ≤ 8) (hap : Gp ts) :
    Am.Fn Try.prog 154 [.slc 0 0 ts.length false 0, .fn 155 [] []] [.vec 18 (qy ts)] (fun v H' => v = .tup [] ∧ H' = [.vec 18 (qy (Z2 ts))]) := by
  obtain ⟨d, rfl⟩ : ∃ d : List qab, ts = d.map Subtype.val := ⟨ts.attach.map fun x => ⟨x.1, hok x.1 x.2⟩, by rw [List.map_map]; exact (List.attach_map_subtype_val ts).symm⟩
  have e : ∀ d : List qab, qy (d.map Subtype.val) = d.flatMap fun x => trm x.1 := fun d => by simp [qy, List.flatMap_map]
  have := qx3 q2t 18 (by decide) Try.isAgg73 Try.sizeOf73 (fun x : qab => trm x.1) (fun x => xq x.2.1) (fun x a ha => ?_) (fun x => bh _) (fun x y => qxn x.1 y.1) swo
    ⟨Try.f154, Try.func154, by kernel_rfl, by kernel_rfl⟩ 155 ⟨Try.f155, Try.func155, by kernel_rfl, by kernel_rfl⟩
    (fun x y => qym x.1 y.1 x.2.1 y.2.1 x.2.2 y.2.2) d (by simp at hl; omega)
  · rw [List.length_map, e]
    refine this.mono ?_
    rintro v H' ⟨rfl, d', hp, hs, rfl⟩
    refine ⟨rfl, ?_⟩
    rw [← e d', qk2 (hp.map _) ?_ hap]
    exact List.pairwise_map.2 (hs.imp fun {a b} h => by rw [qi2] at h; exact h)
  · simp only [trm, dia, List.cons_append, List.mem_cons, List.mem_append, List.not_mem_nil, or_false] at ha
    rcases ha with rfl | ha | rfl
    · rfl
    · unfold u8s at ha
      obtain ⟨y, _, rfl⟩ := List.mem_map.1 ha
      rfl
    · rfl
def Bi : BE := fun hp xs => match xs with
  | [.slc b 0 n false 0, .fn 155 [] []] => match hp[b]? with
    | some (.vec 18 l) => match Vz n l with
      | some ts => chk (l.length = n * 18 ∧ n ≤ 1000000 ∧ (∀ t ∈ ts, 0 ≤ t.1 ∧ t.1 ≤ 8) ∧ (ts.map txt).Nodup) (some (.tup [], hp.set b (.vec 18 (qy (Z2 ts)))))
      | none => none
    | _ => none
  | _ => none
theorem q1d : Am.Callee Try.prog 154 Bi := Callee.wr1 fun hp xs v hp' he => by
  unfold Bi at he
  split at he
  · rename_i b n
    split at he
    · rename_i l hb
      split at he
      · rename_i ts hts
        obtain ⟨h0, he⟩ := ql he
        simp only [Option.some.injEq, Prod.mk.injEq] at he
        obtain ⟨rfl, rfl⟩ := he
        obtain ⟨e1, e2, e3, e4⟩ := Q3 hts
        have hl : l = qy ts := by rw [← e3, List.take_of_length_le (by omega)]
        subst hl
        refine ⟨18, qy ts, _, b, [.slc 0 0 ts.length false 0, .fn 155 [] []], hb, rfl, qc _, qc _, ?_, rfl, ⟨by simp [AV.under], ⟨trivial, trivial⟩, trivial⟩, rfl, ?_⟩
        · simp only [AV.zg, AV.ren, one, if_true, e1, Nat.zero_add]
        · exact q0q ts (by omega) (fun t ht => ⟨e2 t ht, h0.2.2.1 t ht⟩) h0.2.2.2
      · cases he
    · cases he
  · cases he
def B27 : zh := (B26.put 154 (Bi))
theorem qqd : qq Try.prog B27 := (qvx.put (q1d))
theorem Xf : B27 76 = some (qk xi) := rfl
theorem jc : B27 154 = some (Bi) := rfl
def esT : Nat → List (Int × List Nat × Int) → List AE
  | _, [] => []
  | k, t :: l => ⟨.agg (dia t.1 t.2.1), .int .i64 t.2.2, k⟩ :: esT (k + 1) l
def wk (ts : List (Int × List Nat × Int)) : AO := .map (esT 0 ts) ts.length
def zr (p : Int) (ts : List (Int × List Nat × Int)) : List (Int × List Nat × Int) := ts.filterMap fun t => if t.2.2.emod p = 0 then none else some (t.1, t.2.1, t.2.2.emod p)
def ub (ts : List (Int × List Nat × Int)) (seen : List Nat) : List (Int × List Nat × Int) := seen.map fun i => ts.getD i (0, [], 0)
theorem G3 : ∀ {ts : List (Int × List Nat × Int)} {k : Nat} {e : AE}, e ∈ esT k ts → ∃ i, i < ts.length ∧ e = ⟨.agg (dia (ts.getD i (0, [], 0)).1 (ts.getD i (0, [], 0)).2.1), .int .i64 (ts.getD i (0, [], 0)).2.2, k + i⟩
  | [], k, e, h => by cases h
  | t :: l, k, e, h => by
    rcases List.mem_cons.1 h with rfl | h
    · exact ⟨0, by simp, by simp⟩
    · obtain ⟨i, h1, rfl⟩ := G3 h
      refine ⟨i + 1, by simpa using h1, ?_⟩
      simp only [List.getD_cons_succ, AE.mk.injEq, true_and]; omega
theorem qre : ∀ {ts : List (Int × List Nat × Int)} {k i : Nat}, i < ts.length → (⟨.agg (dia (ts.getD i (0, [], 0)).1 (ts.getD i (0, [], 0)).2.1), .int .i64 (ts.getD i (0, [], 0)).2.2, k + i⟩ : AE) ∈ esT k ts
  | t :: l, k, 0, h => by simp [esT]
  | t :: l, k, i + 1, h => by
    have := qre (ts := l) (k := k + 1) (i := i) (by simpa using h)
    simp only [esT, List.mem_cons]
    right
    rw [show k + (i + 1) = k + 1 + i by omega]
    simpa using this
theorem qnb : ∀ {ts : List (Int × List Nat × Int)} {k i : Nat}, i < ts.length → (esT k ts).find? (fun x => x.born == k + i) = some ⟨.agg (dia (ts.getD i (0, [], 0)).1 (ts.getD i (0, [], 0)).2.1), .int .i64 (ts.getD i (0, [], 0)).2.2, k + i⟩
  | t :: l, k, 0, h => by simp [esT]
  | t :: l, k, i + 1, h => by
    have := qnb (ts := l) (k := k + 1) (i := i) (by simpa using h)
    rw [show k + 1 + i = k + (i + 1) by omega] at this
    simp only [esT, List.find?_cons]
    rw [show (k == k + (i + 1)) = false by simp]
    simpa using this
theorem qco (n : Nat) (ts : List (Int × List Nat × Int)) (k : Nat) : ∀ e ∈ esT k ts, e.key.under n ∧ e.val.under n := fun e he => by
  obtain ⟨i, _, rfl⟩ := G3 he
  exact ⟨qi _ _ (qd _ _), trivial⟩
theorem Zr (ρ : Ren) (ts : List (Int × List Nat × Int)) : (wk ts).ren ρ = wk ts := by
  simp only [wk, AO.ren]
  congr 1
  conv => rhs; rw [← List.map_id (esT 0 ts)]
  refine List.map_congr_left fun e he => ?_
  obtain ⟨i, _, rfl⟩ := G3 he
  simp only [AE.ren, AV.ren, qb _ _ (qd _ _), id]
theorem Wq (ids : List Nat) (ts : List (Int × List Nat × Int)) : (wk ts).within ids = true := by
  simp only [wk, AO.within, List.all_eq_true]
  intro e he
  obtain ⟨i, _, rfl⟩ := G3 he
  simp only [AV.within, qe _ _ (qd _ _), Bool.and_self]
theorem zj (ids : List Nat) (ts : List (Int × List Nat × Int)) (k : Nat) : (AO.map (esT 0 ts) k).within ids = true := Wq ids ts
theorem y5 (ρ : Ren) (ts : List (Int × List Nat × Int)) (k : Nat) : (AO.map (esT 0 ts) k).ren ρ = AO.map (esT 0 ts) k := by
  have := Zr ρ ts
  simp only [wk, AO.ren, AO.map.injEq] at this ⊢
  exact ⟨this.1, trivial⟩
theorem qw4 {r m : Nat} {ts : List (Int × List Nat × Int)} {seen : List Nat} {hp : List AO} {K : AV → List AO → Prop} (h1 : hp[r]? = some (.xn (some m) ts.length seen ts.length)) (h2 : hp[m]? = some (wk ts))
    (hend : (∀ i, i < ts.length → i ∈ seen) → K (.tup [.bool false]) hp)
    (hgo : ∀ i, i < ts.length → i ∉ seen → K (.tup [.bool true, .agg (dia (ts.getD i (0, [], 0)).1 (ts.getD i (0, [], 0)).2.1), .int .i64 (ts.getD i (0, [], 0)).2.2]) (hp.set r (.xn (some m) ts.length (seen ++ [i]) ts.length))) :
    wbN (.ptr r 0) hp K := by
  simp only [wbN, qq1, h1, h2, wk]
  refine ⟨_, qcp ⟨trivial, trivial, fun e he => ?_⟩, fun h => ?_, fun e he hs => ?_⟩
  · obtain ⟨i, h3, rfl⟩ := G3 he; show 0 + i < _; omega
  · refine hend fun i hi => ?_
    have := h _ (qre (k := 0) hi)
    simpa using this
  · obtain ⟨i, h3, rfl⟩ := G3 he
    simp only [Nat.zero_add] at hs ⊢
    exact hgo i h3 hs
theorem qvy {B : zh} {n0 nt : Nat} {dst : Option Nat} {it : Opd} {l : List AI} {b : AC} {Q : AX → St → Prop} {s : St}
    (h : wbN (ev s.env it) s.hp (fun v hp' => wbC Try.prog B n0 nt (.seq (.region l) b) Q ⟨xb dst v s.env, hp'⟩)) : wbC Try.prog B n0 nt (.seq (.region (⟨dst, none, .next it⟩ :: l)) b) Q s := h
theorem qvi {ts : List (Int × List Nat × Int)} {seen : List Nat} (hn : seen.Nodup) (hlt : ∀ i ∈ seen, i < ts.length) (h : ∀ i, i < ts.length → i ∈ seen) : (ub ts seen).Perm ts := by
  have hp : seen.Perm (List.range ts.length) := (List.perm_ext_iff_of_nodup hn List.nodup_range).2 fun i => ⟨fun hi => List.mem_range.2 (hlt i hi), fun hi => h i (List.mem_range.1 hi)⟩
  have e : (List.range ts.length).map (fun i => ts.getD i (0, [], 0)) = ts := by
    apply List.ext_getElem (by simp)
    intro i h1 h2
    simp at h1
    simp [h1]
  unfold ub
  refine (hp.map _).trans ?_
  rw [e]
theorem qs6 {p : Int} {a b : List (Int × List Nat × Int)} (h : a.Perm b) : (zr p a).Perm (zr p b) := h.filterMap _
theorem qeu {p : Int} : ∀ {l : List (Int × List Nat × Int)}, Gp l → Gp (zr p l) := fun {l} h => by
  unfold Gp zr at *
  refine List.Nodup.sublist ?_ h
  induction l with
  | nil => exact List.nil_sublist _
  | cons t l ih =>
    simp only [List.filterMap_cons]
    split
    · exact (ih (List.nodup_cons.1 h).2).trans (List.sublist_cons_self _ _)
    · rename_i u hu
      split at hu
      · cases hu
      · cases hu
        exact (ih (List.nodup_cons.1 h).2).cons_cons _
theorem qgx {p : Int} {l : List (Int × List Nat × Int)} {t : Int × List Nat × Int} (h : t ∈ zr p l) : ∃ u ∈ l, t = (u.1, u.2.1, u.2.2.emod p) ∧ u.2.2.emod p ≠ 0 := by
  obtain ⟨u, hu, he⟩ := List.mem_filterMap.1 h
  split at he
  · cases he
  · rename_i hne; cases he; exact ⟨u, hu, rfl, hne⟩
theorem qrg {p : Int} {l : List (Int × List Nat × Int)} (h : okT l) : okT (zr p l) := fun t ht => by
  obtain ⟨u, hu, rfl, _⟩ := qgx ht; exact h u hu
theorem qlf {ts : List (Int × List Nat × Int)} {seen : List Nat} (h : okT ts) (hlt : ∀ i ∈ seen, i < ts.length) : okT (ub ts seen) := fun t ht => by
  obtain ⟨i, hi, rfl⟩ := List.mem_map.1 ht
  have := hlt i hi
  simp only [List.getD_eq_getElem?_getD, List.getElem?_eq_getElem this, Option.getD_some]
  exact h _ (List.getElem_mem _)
theorem qh9 (l : List (Int × List Nat × Int)) (t : Int × List Nat × Int) : qy l ++ trm t = qy (l ++ [t]) := by simp [qy]
theorem yg : [AV.int .i64 0, .int .u8 0, .int .u8 0, .int .u8 0, .int .u8 0, .int .u8 0, .int .u8 0, .int .u8 0, .int .u8 0, .int .u8 0, .int .u8 0, .int .u8 0, .int .u8 0, .int .u8 0, .int .u8 0, .int .u8 0, .int .u8 0] = dia 0 (List.replicate 16 0) := rfl
theorem W7 {n : Int} {m : List Nat} (h : m.length = 16) : over (dia 0 (List.replicate 16 0)) 0 (dia n m) = dia n m := qe4 (by rw [qg, qg, h, List.length_replicate])
theorem qie {n : Int} {m : List Nat} (h : m.length = 16) : over (trm (0, List.replicate 16 0, 0)) 0 (dia n m) = trm (n, m, 0) := Zw (by simp) h
theorem yk : (trm (0, List.replicate 16 0, 0)).length = 18 := rfl
theorem xr : (dia 0 (List.replicate 16 0)).length = 17 := rfl
def Jk : AC := .seq (.region [⟨some 23,none,.next (.t 22)⟩,oE 24 0 23]) (.seq (.cond 24 .skip (.exit 0)) (.block 1 (.seq (.region [o0 25 (.entry (.t 22)),oE 26 0 25,oE 27 1 25,oD 6,oS 17 6 26,oM 7 27]) (.seq (.region [oM 28 7,oM 29 0,o0 30 (.jn (.t 29)),oF 31 0 30,oL 32 31,oC 33 76 [.t 28,.t 32],oM 7 33]) (.seq (.region [oM 34 7,oK 35 .neq 34 0]) (.cond 35 (.seq (.region [oF 36 0 6,oL 37 36,oF 38 2 5,oT 38 37]) (.region [oF 39 3 5,oL 40 39,oN 41 17 6,oM 42 7,o0 43 (.build [.int .i64 0,.int .u8 0,.int .u8 0,.int .u8 0,.int .u8 0,.int .u8 0,.int .u8 0,.int .u8 0,.int .u8 0,.int .u8 0,.int .u8 0,.int .u8 0,.int .u8 0,.int .u8 0,.int .u8 0,.int .u8 0,.int .u8 0,.int .i64 0] [(0,17,.t 41),(17,1,.t 42)]),o0 44 (.Q4 1 [.int .i64 0,.int .u8 0,.int .u8 0,.int .u8 0,.int .u8 0,.int .u8 0,.int .u8 0,.int .u8 0,.int .u8 0,.int .u8 0,.int .u8 0,.int .u8 0,.int .u8 0,.int .u8 0,.int .u8 0,.int .u8 0,.int .u8 0,.int .i64 0] [(0,18,.t 43)]),o0 45 (.append 18 32 (.t 40) (.t 44)),oF 46 3 5,oT 46 45])) .skip))))))
def Ji : AC := .seq (.region [oF 47 3 5,oL 48 47,⟨some 49,none,.call (.c (.fn 154 [] [])) [.t 48,(.c (.fn 155 [] []))]⟩]) (.seq (.region [oN 50 4 5,oS 4 4 50]) .ret)
def Ye : AC := .seq (.region [oZ 4]) (.seq (.draw false [oM 8 0,o0 9 (.jn (.t 8)),oF 10 0 9,oL 11 10,oM 12 0,o0 13 (.jn (.t 12)),oF 14 1 13,oL 15 14,oM 16 0,o0 17 (.jn (.t 16)),oF 18 2 17,oL 19 18,o0 20 (.build [.int .i64 0,.int .i64 0,.int .i64 0,(.v (.slice none 0 0))] [(0,1,.t 11),(1,1,.t 15),(2,1,.t 19)]),oZ 5,oS 4 5 20]) (.seq (.seq (.region [oM 21 1,o0 22 (.Gj (.t 21))]) (.block 0 (.loop Jk))) Ji))
theorem qca : zk Try.prog 105 = some ⟨51, Ye, [.Q9 4 4]⟩ := by kernel_rfl
def qit (p c n sz : Int) (ts : List (Int × List Nat × Int)) (seen : List Nat) : St :=
  ⟨[(22, .ptr 4 0), (5, .ptr 3 0), (4, .ptr 2 0), (0, .ptr 0 0)], [.ro [.int .i64 p, .int .i64 c, .int .i64 n], wk ts, .cells [.int .i64 0, .int .i64 0, .int .i64 0, .v (.slice none 0 0)],
    .cells [.int .i64 p, .int .i64 c, .int .i64 (if zr p (ub ts seen) = [] then n else sz), .slc 5 0 (zr p (ub ts seen)).length false 0], .xn (some 1) ts.length seen ts.length, .vec 18 (qy (zr p (ub ts seen)))]⟩
def q12 (p c n sz : Int) (ts : List (Int × List Nat × Int)) (s : St) : Prop := ∃ seen : List Nat, seen.Nodup ∧ (∀ i ∈ seen, i < ts.length) ∧ s = qit p c n sz ts seen
def qu7 (ts : List (Int × List Nat × Int)) (s : St) : Nat := match s.hp[4]? with | some (AO.xn _ _ seen _) => ts.length - seen.length | _ => 0
theorem q1i (p c n sz : Int) (ts : List (Int × List Nat × Int)) (hp : 0 < p ∧ p ≤ 1000000) (hs : 0 ≤ sz ∧ sz ≤ 8) (ht : okT ts) (hz : ∀ t ∈ ts, t.1 = sz) (ha : Gp ts) (hl : ts.length ≤ 1000000) :
    Am.Fn Try.prog 105 [.ptr 0 0, .map 1] [.ro [.int .i64 p, .int .i64 c, .int .i64 n], wk ts] (fun v H' => v = elemV p c (if zr p ts = [] then n else sz) 2 (zr p ts).length ∧
      H' = [.ro [.int .i64 p, .int .i64 c, .int .i64 n], wk ts, .vec 18 (qy (Z2 (zr p ts)))]) := by
  refine Am.Fn.ofB qqd mixed qca (by simp) ?_ ?_
  · intro j o hj
    match j, hj with
    | 0, hj => cases hj; exact ⟨trivial, trivial, trivial, trivial⟩
    | 1, hj => cases hj; exact qco _ _ _
    | j + 2, hj => simp at hj
  have hm : wk ts = .map (esT 0 ts) ts.length := rfl
  simp (maxSteps := 3000000) only [Ye, hm, qj3, qkc, qi4, qke, qkl, Xf, jc, xi, Bi, b8, rd, wrt, wrl, AO.qdp, List.getElem?_cons_zero, List.getElem?_cons_succ, List.set_cons_zero, List.set_cons_succ, qa, zZ, ↓qt, ↓reduceIte, reduceCtorEq, nA, nM, nS, nE, nL, nD]; try simp only [qa, zY]
  refine ⟨rfl, WA.jq qqd (q12 p c n sz ts) (qu7 ts) ⟨qit p c n sz ts [], ?_, [], .nil, by simp, rfl⟩ ?_⟩
  · refine qv.trans (qv.qw [22, 5, 4, 0]) ?_
    refine Eq.subst (motive := fun s' => qv 2 _ s') ?_ (qv.q2u 3 3 18 rfl rfl (by simp) ?_ ?_)
    · simp only [qw, zo]
      rfl
    · simp [qw, zo, AV.under]
    · simp only [List.mem_cons, List.not_mem_nil, or_false, forall_eq_or_imp, forall_eq]
      exact ⟨⟨trivial, trivial, trivial, trivial⟩, qco _ _ _, ⟨trivial, trivial, trivial, trivial, trivial⟩, ⟨trivial, trivial, trivial, trivial, trivial⟩, fun b h => by cases h; simp⟩
  rintro s ⟨seen, hnd, hlt, rfl⟩
  unfold Jk
  refine qvy (qw4 (r := 4) (m := 1) (ts := ts) (seen := seen) rfl rfl (fun hall => ?_) (fun i hi hsn => ?_))
  · have hpm := qvi hnd hlt hall
    have hr := qs6 (p := p) hpm
    have hrt := qrg (p := p) (qlf ht hlt)
    have hap : (List.map txt (zr p (ub ts seen))).Nodup := (hr.map txt).nodup_iff.2 (qeu ha)
    have hsz : ∀ t ∈ zr p (ub ts seen), 0 ≤ t.1 ∧ t.1 ≤ 8 := fun t h => by
      obtain ⟨u, hu, rfl, _⟩ := qgx (hr.mem_iff.1 h)
      simp only [hz u hu]; exact hs
    have hlen : (zr p (ub ts seen)).length = (zr p ts).length := hr.length_eq
    have hle : (zr p ts).length ≤ 1000000 := Nat.le_trans (List.length_filterMap_le _ _) hl
    have hle' : (zr p (ub ts seen)).length ≤ 1000000 := by omega
    have hso : Z2 (zr p (ub ts seen)) = Z2 (zr p ts) := qk2 ((kh _).trans hr) ((qbe hap).imp fun {a b} h => qdh _ _ h) (qeu ha)
    have hnil : (zr p (ub ts seen) = []) = (zr p ts = []) := propext ⟨fun h => by rw [h] at hr; exact List.nil_perm.1 hr, fun h => by rw [h] at hr; exact List.perm_nil.1 hr⟩
    have htl := zb hrt
    have hto := jh hrt
    rw [hlen] at htl hto
    unfold qit
    simp (maxSteps := 3000000) only [qf, zH, Ji, Xf, jc, xi, Bi, htl, hto, hle, hap, hsz, hso, hnil, hlen, qa, zZ, ↓qt, ↓reduceIte, reduceCtorEq, nA, nM, nS, nE, nL, nD]; try simp only [qa, zY]
    refine ⟨hsz, rfl, ?_⟩
    refine Ret.xv [0, 1, 5] ⟨⟨by simp, rfl, by decide⟩, ?_⟩ (rs := [.agg [.int .i64 p, .int .i64 c, .int .i64 (if zr p ts = [] then n else sz), .slc 5 0 (zr p ts).length false 0]]) rfl rfl (by simp [xa]) ?_ ⟨?_, ?_⟩
    · simp only [Wq, ↓zj, qe _ _ (qc _), zK, ↓reduceIte, reduceCtorEq, nE, nB, nA]
    · intro j l; match j with
      | 0 => exact fun _ => ⟨_, rfl⟩
      | 1 => simp [q9, Zr]; simp [wk]
      | 2 => simp [q9, AO.ren]
      | j + 3 => simp [q9]
    · simp only [elemV, xa]
      simp only [zL, ↓reduceIte, reduceCtorEq, nE, nA]
    · simp only [Zr, ↓y5, qb _ _ (qc _), zL, ↓reduceIte, reduceCtorEq, nE, nA]
      rfl
  · unfold qit
    have htm : ts.getD i (0, [], 0) ∈ ts := by rw [List.getD_eq_getElem?_getD, List.getElem?_eq_getElem hi]; exact List.getElem_mem _
    have hk : okD (ts.getD i (0, [], 0)).2.1 := ht _ htm
    have h1 : (ts.getD i (0, [], 0)).1 = sz := hz _ htm
    have hfind := qnb (ts := ts) (k := 0) hi
    have hlast : (seen ++ [i]).getLast? = some i := List.getLast?_concat ..
    have hpk : ub ts (seen ++ [i]) = ub ts seen ++ [ts.getD i (0, [], 0)] := by simp [ub]
    have hnd' : (seen ++ [i]).Nodup := by
      rw [List.nodup_append]
      exact ⟨hnd, by simp, fun a ha b hb => by simp at hb; subst hb; rintro rfl; exact hsn ha⟩
    have hlt' : ∀ j ∈ seen ++ [i], j < ts.length := fun j hj => by
      rcases List.mem_append.1 hj with h | h
      · exact hlt j h
      · simp at h; omega
    have hsl : seen.length < ts.length := by
      have := qgj ts.length (seen ++ [i]) hnd' hlt'
      simp at this; omega
    rw [Nat.zero_add] at hfind
    generalize htt : ts.getD i (0, [], 0) = t at hk h1 hfind hpk ⊢
    obtain ⟨n1, m1, k1⟩ := t
    simp only at hk h1 hfind
    subst h1
    have hone : (dia n1 m1).all AV.one = true := j2 _ _
    have hrt := qrg (p := p) (qlf ht hlt)
    have htl := zb hrt
    have htk : List.take ((zr p (ub ts seen)).length * 18) (qy (zr p (ub ts seen))) = qy (zr p (ub ts seen)) := List.take_of_length_le (by rw [htl]; exact Nat.le_refl _)
    have hbd : (zr p (ub ts seen)).length ≤ 1000000 := by
      have := List.length_filterMap_le (fun t : Int × List Nat × Int => if t.2.2.emod p = 0 then none else some (t.1, t.2.1, t.2.2.emod p)) (ub ts seen)
      have h2 : (ub ts seen).length = seen.length := by simp [ub]
      unfold zr; omega
    by_cases hkz : k1.emod p = 0
    · have hre : zr p (ub ts (seen ++ [i])) = zr p (ub ts seen) := by rw [hpk]; simp [zr, hkz]
      simp (maxSteps := 3000000) only [qf, zH, Xf, jc, xi, Bi, hkz, hp, hm, qg, hk.1, hlast, hfind, hone, yg, W7 hk.1, qie hk.1, Z5 (t := (n1, m1, 0)) hk.1, vy, wv, yk, xr, za hk.1, jr, src, qdw, qq0, Int.toNat_zero, Option.map_some, Option.map_none, List.length_replicate, ka (t := (0, List.replicate 16 0, 0)) (u := (n1, m1, k1.emod p)) (by simp) hk.1, gg (t := (n1, m1, k1.emod p)) hk.1, htk, htl, qa, zZ, ↓qt, ↓reduceIte, reduceCtorEq, nA, nM, nS, nE, nL, nD]; try simp only [qa, zY]
      refine ⟨_, qv.xv [0, 1, 2, 3, 4, 5] [22, 5, 4, 0] ⟨by decide, ?_⟩ ?_, ⟨seen ++ [i], hnd', hlt', ?_⟩, ?_⟩
      · simp only [Wq, ↓zj, qe _ _ (qc _), zK, ↓reduceIte, reduceCtorEq, nE, nB, nA]
      · simp only [zK, ↓reduceIte, reduceCtorEq, nE, nB, nA]
      · unfold qit
        simp only [Zr, ↓y5, qb _ _ (qc _), hre, zL, ↓reduceIte, reduceCtorEq, nE, nA]
        rfl
      · simp only [qu7]
        simp only [Zr, ↓y5, zL, ↓reduceIte, reduceCtorEq, nE, nA]
        simp; omega
    · have hre : zr p (ub ts (seen ++ [i])) = zr p (ub ts seen) ++ [(n1, m1, k1.emod p)] := by rw [hpk]; simp [zr, hkz]
      simp (maxSteps := 3000000) only [qf, zH, Xf, jc, xi, Bi, hkz, hp, hm, qg, hk.1, hlast, hfind, hone, yg, W7 hk.1, qie hk.1, Z5 (t := (n1, m1, 0)) hk.1, vy, wv, yk, xr, za hk.1, jr, src, qdw, qq0, Int.toNat_zero, Option.map_some, Option.map_none, List.length_replicate, ka (t := (0, List.replicate 16 0, 0)) (u := (n1, m1, k1.emod p)) (by simp) hk.1, gg (t := (n1, m1, k1.emod p)) hk.1, htk, htl, qa, zZ, ↓qt, ↓reduceIte, reduceCtorEq, nA, nM, nS, nE, nL, nD]; try simp only [qa, zY]
      refine ⟨rfl, ⟨Nat.le_refl _, by omega⟩, rfl, _, qv.xv [0, 1, 2, 3, 4, 8] [22, 5, 4, 0] ⟨by decide, ?_⟩ ?_, ⟨seen ++ [i], hnd', hlt', ?_⟩, ?_⟩
      · simp only [Wq, ↓zj, qh9, qe _ _ (qc _), zK, ↓reduceIte, reduceCtorEq, nE, nB, nA]
      · simp only [zK, ↓reduceIte, reduceCtorEq, nE, nB, nA]
      · unfold qit
        have hne : (zr p (ub ts seen) ++ [(n1, m1, k1.emod p)] = []) = False := by simp
        simp only [Zr, ↓y5, qh9, qb _ _ (qc _), hre, hne, List.length_append, List.length_nil, List.length_cons, zL, ↓reduceIte, reduceCtorEq, nE, nA]
        rfl
      · simp only [qu7]
        simp only [Zr, ↓y5, zL, ↓reduceIte, reduceCtorEq, nE, nA]
        simp; omega
def tsE : Nat → List AE → Option (List (Int × List Nat × Int))
  | _, [] => some []
  | k, ⟨.agg l, .int .i64 v, b⟩ :: es => match yz l, tsE (k + 1) es with
    | some (n, m), some ts => if b = k then some ((n, m, v) :: ts) else none
    | _, _ => none
  | _, _ => none
theorem qkk : ∀ {ts : List (Int × List Nat × Int)} {k : Nat}, okT ts → tsE k (esT k ts) = some ts
  | [], _, _ => rfl
  | t :: l, k, h => by
    simp only [esT, tsE, q8 (h t (List.mem_cons_self ..)), qkk (ts := l) (k := k + 1) fun u hu => h u (List.mem_cons_of_mem _ hu), if_true]
theorem qk0 : ∀ {es : List AE} {k : Nat} {ts : List (Int × List Nat × Int)}, tsE k es = some ts → es = esT k ts ∧ okT ts
  | [], k, ts, h => by simp only [tsE, Option.some.injEq] at h; subst h; exact ⟨rfl, fun t ht => by cases ht⟩
  | ⟨key, val, b⟩ :: es, k, ts, h => by
    unfold tsE at h
    split at h
    · rename_i e; cases e
    · rename_i e; cases e
      split at h
      · rename_i n m ts' hd hts
        split at h
        · rename_i hb
          cases h; subst hb
          obtain ⟨rfl, hm⟩ := xf hd
          obtain ⟨e1, e2⟩ := qk0 hts
          refine ⟨by rw [e1]; rfl, fun t ht => ?_⟩
          rcases List.mem_cons.1 ht with rfl | ht
          · exact hm
          · exact e2 t ht
        · cases h
      · cases h
    · cases h
theorem ql0 {α : Type} : ∀ {l : List α} {i : Nat} {a : α}, l[i]? = some a → l.set i a = l
  | [], i, a, h => by simp at h
  | x :: l, 0, a, h => by simp only [List.getElem?_cons_zero, Option.some.injEq] at h; simp [h]
  | x :: l, i + 1, a, h => by simp only [List.getElem?_cons_succ] at h; simp [ql0 h]
def qd9 (ts : List (Int × List Nat × Int)) : Int := match ts with | t :: _ => t.1 | [] => 0
def v7 : BE := fun hp xs => match xs with
  | [.ptr b 0, .map m] => match rd hp b, hp[m]? with
    | some (.int .i64 p :: .int .i64 c :: .int .i64 n :: _), some (.map es ck) => match tsE 0 es with
      | some ts => chk (ck = ts.length ∧ (0 < p ∧ p ≤ 1000000) ∧ ts.length ≤ 1000000 ∧ (0 ≤ qd9 ts ∧ qd9 ts ≤ 8) ∧ (∀ t ∈ ts, t.1 = qd9 ts) ∧ (ts.map txt).Nodup)
          (some (elemV p c (if zr p ts = [] then n else qd9 ts) hp.length (zr p ts).length, hp ++ [.vec 18 (qy (Z2 (zr p ts)))]))
      | none => none
    | _, _ => none
  | _ => none
theorem q1j : Am.Callee Try.prog 105 v7 := Callee.fp fun hp xs v hp' he => by
  unfold v7 at he
  split at he
  · rename_i b m
    split at he
    · rename_i p c n L es ck hrd hm
      split at he
      · rename_i ts hts
        obtain ⟨⟨h1, h2, h3, h4, h5, h6⟩, he⟩ := ql he
        simp only [Option.some.injEq, Prod.mk.injEq] at he
        obtain ⟨rfl, rfl⟩ := he
        obtain ⟨rfl, hok⟩ := qk0 hts
        subst h1
        have hne : m ≠ b := by
          rintro rfl
          simp [rd, hm] at hrd
        refine ⟨[(b, 0), (m, 0)], [.ptr 0 0, .map 1], _, _, _, q1i p c n (qd9 ts) ts h2 h4 hok h5 h6 h3, ?_, rfl, ⟨⟨_, hrd, by simp, by simp [AV.zg, AV.ren]⟩, ⟨rfl, ?_⟩, trivial⟩, ?_, ?_, ?_, ?_, ?_⟩
        · simp [ofL, AV.zg, AV.ren]
        · rw [Zr]; exact hm
        · simp [Jf, AO.wr, hne]
        · exact ⟨⟨trivial, trivial, trivial, trivial⟩, qco _ _ _, trivial⟩
        · exact ⟨by simp [AV.under], by simp [AV.under], trivial⟩
        · simp [elemV, AV.ren, AV.zg, Ren.ext]
        · simp only [after, upd, q15, show (wk ts).wr = true from rfl, Zr, qzi, j0, if_true, Bool.false_eq_true, if_false, ql0 (show hp[m]? = some (wk ts) from hm), qb _ _ (qc _), List.length_cons, List.length_nil, List.drop_succ_cons, List.drop_zero, List.map_cons, List.map_nil]
      · cases he
    · cases he
  · cases he
def B28 : zh := (B27.put 105 (v7))
theorem qvq : qq Try.prog B28 := (qqd.put (q1j))
theorem U7 : B28 105 = some (v7) := rfl
abbrev KD : List LT := [LT.int, LT.int, LT.int, LT.int, LT.int, LT.int, LT.int, LT.int, LT.int, LT.int, LT.int, LT.int, LT.int, LT.int, LT.int, LT.int, LT.int]
theorem qm0 : ∀ (m m' : List Nat), m.length = m'.length → j3 (List.replicate m.length .int) (u8s m) (u8s m') = some (decide (m = m'))
  | [], [], _ => rfl
  | [], _ :: _, h => by simp at h
  | _ :: _, [], h => by simp at h
  | a :: m, b :: m', h => by
    have ih := qm0 m m' (by simpa using h)
    simp only [u8s] at ih
    simp only [List.length_cons, List.replicate_succ, u8s, List.map_cons, j3, leq, if_true, ih]
    by_cases e : a = b
    · subst e; simp
    · have : ¬ ((a : Int) = (b : Int)) := by omega
      simp [e, this]
theorem qaw {n n' : Int} {m m' : List Nat} (h : m.length = 16) (h' : m'.length = 16) : j3 KD (dia n m) (dia n' m') = some (decide (n = n' ∧ m = m')) := by
  have h1 := qm0 m m' (by rw [h, h'])
  rw [h] at h1
  have h2 : KD = .int :: List.replicate 16 .int := rfl
  rw [h2]
  simp only [dia, j3, leq, if_true, h1]
  by_cases e : n = n'
  · subst e; simp
  · simp [e]
theorem qen {n : Int} {m : List Nat} (h : m.length = 16) : kok KD true (.agg (dia n m)) = true := by
  simp only [kok, keq, qaw h h]
def qe3 : AC := .seq (.region [o0 6 (.box (.t 2)),oZ 8]) (.seq (.region [oM 10 0,oM 11 1,oF 12 0 6,oL 13 12,o0 14 (.build [.int .i64 0,.int .i64 0,.int .i64 0,(.v (.slice none 0 0))] [(0,1,.t 10),(1,1,.t 11),(2,1,.t 13)]),oZ 9,oS 4 9 14]) (.seq (.region [o0 15 (.Kt),oN 16 17 6,oM 17 3,⟨none,none,.op (.Gf [.int,.int,.int,.int,.int,.int,.int,.int,.int,.int,.int,.int,.int,.int,.int,.int,.int] true (.t 15) (.t 16) (.t 17))⟩,oM 18 15,oC 19 105 [.t 9,.t 18],oS 4 8 19]) .ret))
theorem qov : zk Try.prog 103 = some ⟨20, qe3, [.Q9 8 4]⟩ := by kernel_rfl
theorem qvd (p c n : Int) (m : List Nat) (k : Int) (hp : 0 < p ∧ p ≤ 1000000) (hn : 0 ≤ n ∧ n ≤ 8) (hm : okD m) :
    Am.Fn Try.prog 103 [.int .i64 p, .int .i64 c, .agg (dia n m), .int .i64 k] [] (fun v H' => v = elemV p c n 0 (if k.emod p = 0 then ([] : List (Int × List Nat × Int)) else [(n, m, k.emod p)]).length ∧ H' = [.vec 18 (qy (if k.emod p = 0 then [] else [(n, m, k.emod p)]))]) := by
  refine Am.Fn.ofB qvq mixed qov (by simp) (by simp) ?_
  have hr : zr p [(n, m, k)] = if k.emod p = 0 then [] else [(n, m, k.emod p)] := by
    unfold zr; by_cases h : k.emod p = 0 <;> simp [h]
  have hle : (if k.emod p = 0 then [] else [(n, m, k.emod p)]).length ≤ 1 := by split <;> simp
  generalize (if k.emod p = 0 then [] else [(n, m, k.emod p)]) = L at hr hle ⊢
  have hs : Z2 L = L := by
    match L, hle with
    | [], _ => rfl
    | [t], _ => rfl
  have hsz : qd9 [(n, m, k)] = n := rfl
  have hall : ∀ t ∈ [(n, m, k)], t.1 = n := by simp
  have hnd : [txt (n, m, k)].Nodup := by simp
  simp (maxSteps := 3000000) only [qf, zH, qe3, U7, v7, qg, hm.1, q8 hm, qen hm.1, za hm.1, je, wx, tsE, hp, hn, hsz, hall, hnd, hr, hs, elemV, ite_self, qa, zZ, ↓qt, ↓reduceIte, reduceCtorEq, nA, nM, nS, nE, nL, nD]; try simp only [qa, zY]
  refine ⟨rfl, hall, rfl, ?_⟩
  refine Ret.xv [4] ⟨⟨by simp, rfl, by decide⟩, ?_⟩ (rs := [.agg [.int .i64 p, .int .i64 c, .int .i64 n, .slc 4 0 L.length false 0]]) rfl rfl (by simp [xa]) ?_ ⟨?_, ?_⟩
  · simp only [qe _ _ (qc _), zK, ↓reduceIte, reduceCtorEq, nE, nB, nA]
  · intro j l; match j with
    | 0 => simp [q9, AO.ren]
    | j + 1 => simp [q9]
  · simp only [xa]
    simp only [zL, ↓reduceIte, reduceCtorEq, nE, nA]
  · simp only [qb _ _ (qc _), zL, ↓reduceIte, reduceCtorEq, nE, nA]
def vf : List AV → Option (AV × List AO)
  | [.int .i64 p, .int .i64 c, .agg l, .int .i64 k] => match yz l with
    | some (n, m) => chk ((0 < p ∧ p ≤ 1000000) ∧ (0 ≤ n ∧ n ≤ 8)) (some (elemV p c n 0 (if k.emod p = 0 then ([] : List (Int × List Nat × Int)) else [(n, m, k.emod p)]).length, [.vec 18 (qy (if k.emod p = 0 then [] else [(n, m, k.emod p)]))]))
    | none => none
  | _ => none
theorem qv2 : Am.Callee Try.prog 103 (qhc vf) :=
  Am.Callee.new fun xs v H he => by
    unfold vf at he
    split at he
    · rename_i p c l k
      split at he
      · rename_i n m hd
        obtain ⟨⟨h1, h2⟩, he⟩ := ql he
        obtain ⟨rfl, hm⟩ := xf hd
        have e1 := congrArg Prod.fst (Option.some.inj he)
        have e2 := congrArg Prod.snd (Option.some.inj he)
        simp only at e1 e2
        subst e1; subst e2
        exact ⟨by simp only [AV.zl, AV.zq, qd, Bool.and_self], qvd p c n m k h1 h2 hm⟩
      · cases he
    · cases he
def B29 : zh := (B28.put 103 (qhc vf))
theorem qz4 : qq Try.prog B29 := (qvq.put (qv2))
theorem wz (p c n : Int) (b k m : Nat) : AV.ren (qaa m) (.agg [.int .i64 p, .int .i64 c, .int .i64 n, .slc b 0 k false 0]) = .agg [.int .i64 p, .int .i64 c, .int .i64 n, .slc (m + b) 0 k false 0] := rfl
def B30 : zh := B29
theorem q1e : qq Try.prog B30 := qz4
end Go.Proofs.Ytfhckbbgmblhbaa
namespace Go.Proofs.Ytfhckbbgmblhbaa
open Go.Am Go.Dia
open Nat renaming reduceAdd → nA, reduceMul → nM, reduceSub → nS, reduceEqDiff → nE, reduceLT → nL, reduceLeDiff → nD, reduceBEq → nB
open Int renaming reduceEq → iE, reduceNe → iN, reduceBEq → iB, reduceBNe → iC, reduceLT → iL, reduceLE → iD, reduceAdd → iA, reduceSub → iS, reduceMul → iM
set_option linter.unusedSimpArgs false
set_option linter.unusedVariables false
set_option maxRecDepth 4000
set_option maxHeartbeats 1000000
end Go.Proofs.Ytfhckbbgmblhbaa
namespace Go.Proofs.Ytfhckbbgmblhbaa
open Go.Am Go.Dia
open Nat renaming reduceAdd → nA, reduceMul → nM, reduceSub → nS, reduceEqDiff → nE, reduceLT → nL, reduceLeDiff → nD, reduceBEq → nB
open Int renaming reduceEq → iE, reduceNe → iN, reduceBEq → iB, reduceBNe → iC, reduceLT → iL, reduceLE → iD, reduceAdd → iA, reduceSub → iS, reduceMul → iM
set_option linter.unusedSimpArgs false
set_option linter.unusedVariables false
set_option maxRecDepth 4000
set_option maxHeartbeats 1000000
def q2j : zh := B30
theorem qzd : qq Try.prog q2j := q1e
def qzq (hp : List AO) (X : AV) : Option (List (Int × List Nat × Int)) := match X with
  | .v (.slice none 0 0) => some []
  | .slc b 0 n true cap => match hp[b]? with
    | some .dead => if n = 0 ∧ cap = 0 then some [] else none
    | some (.ro l) => match Vz (l.length / 18) l with
      | some all => if l.length = all.length * 18 ∧ n ≤ cap ∧ n ≤ all.length then some (all.take n) else none
      | none => none
    | _ => none
  | _ => none
def q1z : zh := q2j
theorem qyp : qq Try.prog q1z := qzd
def q2k : zh := q1z
theorem qzf : qq Try.prog q2k := qyp
def q2m : zh := q2k
theorem qyi : qq Try.prog q2m := qzf
def B31 : zh := q2m
theorem K7 : qq Try.prog B31 := qyi
end Go.Proofs.Ytfhckbbgmblhbaa

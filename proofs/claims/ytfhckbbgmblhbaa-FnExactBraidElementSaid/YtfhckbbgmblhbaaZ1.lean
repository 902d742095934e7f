/- Contracts of functions of the program, and plain laws, part 1: each text of this part is proved without further condition. -/
import Derived.Test.YtfhckbbgmblhbaaAmC
import Derived.Test.YtfhckbbgmblhbaaProg
import Derived.KernelRfl
namespace Go.Proofs.Ytfhckbbgmblhbaa
open Go.Am
open Nat renaming reduceAdd → nA, reduceMul → nM, reduceSub → nS, reduceEqDiff → nE, reduceLT → nL, reduceLeDiff → nD, reduceBEq → nB
open Int renaming reduceEq → iE, reduceNe → iN, reduceBEq → iB, reduceBNe → iC, reduceLT → iL, reduceLE → iD, reduceAdd → iA, reduceSub → iS, reduceMul → iM
set_option linter.unusedSimpArgs false
set_option linter.unusedVariables false
set_option maxRecDepth 4000
theorem mixed : Try.prog.follows .mixedOrders = true := by kernel_rfl
def Xq (n i : Int) : Int := if i < n then i else 3 * n - 1 - i
def ku (x : Int) : Prop := -1000000 ≤ x ∧ x ≤ 1000000
instance (x : Int) : Decidable (ku x) := by unfold ku; infer_instance
def yg (p : Int) : Bool := decide (2 ≤ p ∧ p ≤ 97) && (List.range 100).all fun k => !(decide (2 ≤ k) && decide ((k : Int) < p) && decide (p.tmod k = 0))
def quh : AC := .seq (.region [oB 6 false]) (.seq (.region [oM 7 0,oM 8 1,oP 9 .geq 7 8,oM 10 9,oG 11 10 true (.mov (.t 0)),oG 12 10 true (.mov (.t 2)),oG 13 10 true (.bin .leq (.t 11) (.t 12)),o0 14 (.pick (.t 10) (.t 13) (.c (.bool false))),oM 6 14]) .ret)
theorem qzx : zl Try.prog 71 = some ⟨15, quh, [.slot 6]⟩ := by kernel_rfl
def qh9 : AC := .seq (.region [oB 6 false]) (.seq (.region [oM 7 0,oM 8 1,oP 9 .geq 7 8,oM 10 9,oG 11 10 true (.mov (.t 0)),oG 12 10 true (.mov (.t 2)),oG 13 10 true (.bin .leq (.t 11) (.t 12)),o0 14 (.pick (.t 10) (.t 13) (.c (.bool false))),oM 6 14]) .ret)
theorem qsr : zl Try.prog 66 = some ⟨15, qh9, [.slot 6]⟩ := by kernel_rfl
def qc9 : AC := .seq (.region [oI 4 0]) (.seq (.seq (.region [oM 5 1,oM 6 0,oP 7 .lss 5 6]) (.cond 7 (.seq (.region [oM 8 1,oM 4 8]) .ret) .skip)) (.seq (.region [oM 9 0,o0 10 (.bin .mul (.c (.int .i64 3)) (.t 9)),oK 11 .sub 10 1,oM 12 1,oP 13 .sub 11 12,oM 4 13]) .ret))
theorem qn0 : zl Try.prog 169 = some ⟨14, qc9, [.slot 4]⟩ := by kernel_rfl
def qax : AC := .seq (.region [oI 4 0]) (.seq (.seq (.region [oM 5 1,oM 6 0,oP 7 .lss 5 6]) (.cond 7 (.seq (.region [oM 8 1,oM 4 8]) .ret) .skip)) (.seq (.region [oM 9 0,o0 10 (.bin .mul (.c (.int .i64 3)) (.t 9)),oK 11 .sub 10 1,oM 12 1,oP 13 .sub 11 12,oM 4 13]) .ret))
theorem qjj : zl Try.prog 165 = some ⟨14, qax, [.slot 4]⟩ := by kernel_rfl
def qmo : AC := .seq (.region [oI 4 0]) (.seq (.region [oM 5 0,oM 6 1,oP 7 .rem 5 6,oM 8 1,oP 9 .add 7 8,oM 10 1,oP 11 .rem 9 10,oM 4 11]) .ret)
theorem qv8 : zl Try.prog 76 = some ⟨12, qmo, [.slot 4]⟩ := by kernel_rfl
def qes : AC := .seq (.region [oI 4 0]) (.seq (.region [oM 5 1,oM 6 0,oP 7 .rem 5 6,oM 8 0,oP 9 .add 7 8,oM 10 0,oP 11 .rem 9 10,oM 4 11]) .ret)
theorem qpr : zl Try.prog 70 = some ⟨12, qes, [.slot 4]⟩ := by kernel_rfl
def Um : AC := .seq (.seq (.region [oM 4 3,oM 5 0,oP 6 .lss 4 5,oM 7 6,oG 8 7 true (.mov (.t 3)),oG 9 7 true (.bin .lss (.t 8) (.c (.int .i64 100))),o0 10 (.pick (.t 7) (.t 9) (.c (.bool false)))]) (.cond 10 .skip (.exit 0))) (.seq (.block 1 (.seq (.region [oM 13 0,oM 14 3,oP 15 .rem 13 14,oK 16 .eql 15 0]) (.cond 16 (.seq (.region [oB 2 false]) .ret) .skip))) (.region [oM 11 3,oK 12 .add 11 1,oM 3 12]))
def Uc : AC := .seq (.region [oM 17 0,oC 18 66 [.t 17,(.c (.int .i64 2)),(.c (.int .i64 97))],oM 2 18]) .ret
def qaf : AC := .seq (.region [oB 2 false]) (.seq (.seq (.region [oI 3 2]) (.block 0 (.loop Um))) Uc)
theorem qjn : zl Try.prog 137 = some ⟨19, qaf, [.slot 2]⟩ := by kernel_rfl
def U7 : AC := .seq (.seq (.region [oM 7 3,oM 8 3,oP 9 .mul 7 8,oM 10 0,oP 11 .leq 9 10]) (.cond 11 .skip (.exit 0))) (.seq (.block 1 (.seq (.region [oM 14 0,oM 15 3,oP 16 .rem 14 15,oK 17 .eql 16 0]) (.cond 17 (.seq (.region [oB 2 false]) .ret) .skip))) (.region [oM 12 3,oK 13 .add 12 1,oM 3 13]))
def Gi : AC := .seq (.region [oB 2 true]) .ret
def qdk : AC := .seq (.region [oB 2 false]) (.seq (.seq (.region [oM 4 0,oC 5 71 [.t 4,(.c (.int .i64 2)),(.c (.int .i64 97))],o0 6 (.un .not (.t 5))]) (.cond 6 (.seq (.region [oB 2 false]) .ret) .skip)) (.seq (.seq (.region [oI 3 2]) (.block 0 (.loop U7))) Gi))
theorem qlw : zl Try.prog 120 = some ⟨18, qdk, [.slot 2]⟩ := by kernel_rfl
def yi : List AV → Option AV
  | [.int .i64 a, .int .i64 b, .int .i64 c] => some (.bool (decide (b ≤ a ∧ a ≤ c)))
  | _ => none
def X5 : List AV → Option AV
  | [.int .i64 n, .int .i64 i] => chk (ku n ∧ ku i) (some (.int .i64 (Xq n i)))
  | _ => none
def vp : List AV → Option AV
  | [.int .i64 n, .int .i64 p] => chk (0 < p ∧ p ≤ 1000000) (some (.int .i64 (n.emod p)))
  | _ => none
def j3 : List AV → Option AV
  | [.int .i64 p, .int .i64 n] => chk (0 < p ∧ p ≤ 1000000) (some (.int .i64 (n.emod p)))
  | _ => none
def jf : List AV → Option AV
  | [.int .i64 p] => some (.bool (yg p))
  | _ => none
theorem qnu {a b c : Int} : (b ≤ a → decide (a ≤ c) = decide (b ≤ a ∧ a ≤ c)) ∧ (¬b ≤ a → false = decide (b ≤ a ∧ a ≤ c)) :=
  ⟨fun h => by simp [h], fun h => by simp [h]⟩
theorem qzr (a b c : Int) : Am.Fn Try.prog 71 [.int .i64 a, .int .i64 b, .int .i64 c] [] (fun v H' => v = .bool (decide (b ≤ a ∧ a ≤ c)) ∧ H' = []) := by
  refine Am.Fn.xu (R := fun v => v = _) qu.none mixed qzx (by simp) (by simp) ?_
  simp (maxSteps := 3000000) only [quh, qa, zZ, ↓qt, ↓reduceIte, reduceCtorEq, nA, nM, nS, nE, nL, nD]; try simp only [qa, zY]
  exact qnu
theorem qte (a b c : Int) : Am.Fn Try.prog 66 [.int .i64 a, .int .i64 b, .int .i64 c] [] (fun v H' => v = .bool (decide (b ≤ a ∧ a ≤ c)) ∧ H' = []) := by
  refine Am.Fn.xu (R := fun v => v = _) qu.none mixed qsr (by simp) (by simp) ?_
  simp (maxSteps := 3000000) only [qh9, qa, zZ, ↓qt, ↓reduceIte, reduceCtorEq, nA, nM, nS, nE, nL, nD]; try simp only [qa, zY]
  exact qnu
theorem qcz {n i : Int} (hn : ku n) (hi : ku i) : (i < n → AV.int .i64 i = AV.int .i64 (Xq n i)) ∧
    (¬i < n → AV.int .i64 (qm .i64 (qm .i64 (qm .i64 (3 * n) - 1) - i)) = AV.int .i64 (Xq n i)) := by
  unfold ku at hn hi
  refine ⟨fun h => by simp [Xq, h], fun h => ?_⟩
  rw [wrap64 (n := 3 * n) (by omega) (by omega), wrap64 (n := 3 * n - 1) (by omega) (by omega), wrap64 (by omega) (by omega)]
  simp [Xq, h]
theorem qlt (n i : Int) (hn : ku n) (hi : ku i) : Am.Fn Try.prog 169 [.int .i64 n, .int .i64 i] [] (fun v H' => v = .int .i64 (Xq n i) ∧ H' = []) := by
  refine Am.Fn.xu (R := fun v => v = _) qu.none mixed qn0 (by simp) (by simp) ?_
  simp (maxSteps := 3000000) only [qc9, qa, zZ, ↓qt, ↓reduceIte, reduceCtorEq, nA, nM, nS, nE, nL, nD]; try simp only [qa, zY]
  exact qcz hn hi
theorem qjv (n i : Int) (hn : ku n) (hi : ku i) : Am.Fn Try.prog 165 [.int .i64 n, .int .i64 i] [] (fun v H' => v = .int .i64 (Xq n i) ∧ H' = []) := by
  refine Am.Fn.xu (R := fun v => v = _) qu.none mixed qjj (by simp) (by simp) ?_
  simp (maxSteps := 3000000) only [qax, qa, zZ, ↓qt, ↓reduceIte, reduceCtorEq, nA, nM, nS, nE, nL, nD]; try simp only [qa, zY]
  exact qcz hn hi
theorem qfo {n p : Int} (h : 0 < p ∧ p ≤ 1000000) : ¬p = 0 ∧ ¬p = 0 ∧ AV.int .i64 ((qm .i64 (n.tmod p + p)).tmod p) = AV.int .i64 (n.emod p) := by
  refine ⟨by omega, by omega, ?_⟩
  have h1 : n.tmod p < p := Int.tmod_lt_of_pos n h.1
  have h2 : -p < n.tmod p := by
    have := Int.lt_tmod_of_pos n h.1
    omega
  rw [wrap64 (by omega) (by omega), Int.tmod_eq_emod_of_nonneg (by omega), Int.add_emod_right]
  congr 1
  rw [Int.tmod_eq_emod]
  split
  · rw [show ((0 : Nat) : Int) = 0 from rfl, Int.sub_zero]; exact Int.emod_emod_of_dvd n (Int.dvd_refl p)
  · rw [show (p.natAbs : Int) = p from by omega, Int.sub_emod_right]
    exact Int.emod_emod_of_dvd n (Int.dvd_refl p)
theorem qv0 (n p : Int) (h : 0 < p ∧ p ≤ 1000000) : Am.Fn Try.prog 76 [.int .i64 n, .int .i64 p] [] (fun v H' => v = .int .i64 (n.emod p) ∧ H' = []) := by
  refine Am.Fn.xu (R := fun v => v = _) qu.none mixed qv8 (by simp) (by simp) ?_
  simp (maxSteps := 3000000) only [qmo, qa, zZ, ↓qt, ↓reduceIte, reduceCtorEq, nA, nM, nS, nE, nL, nD]; try simp only [qa, zY]
  exact qfo h
theorem qpq (n p : Int) (h : 0 < p ∧ p ≤ 1000000) : Am.Fn Try.prog 70 [.int .i64 p, .int .i64 n] [] (fun v H' => v = .int .i64 (n.emod p) ∧ H' = []) := by
  refine Am.Fn.xu (R := fun v => v = _) qu.none mixed qpr (by simp) (by simp) ?_
  simp (maxSteps := 3000000) only [qes, qa, zZ, ↓qt, ↓reduceIte, reduceCtorEq, nA, nM, nS, nE, nL, nD]; try simp only [qa, zY]
  exact qfo h
theorem qqz {f : FuncId} (h : ∀ a b c, Am.Fn Try.prog f [.int .i64 a, .int .i64 b, .int .i64 c] [] (fun v H' => v = .bool (decide (b ≤ a ∧ a ≤ c)) ∧ H' = [])) : Am.Callee Try.prog f (ql yi) :=
  Am.Callee.plain fun xs v he => by
    unfold yi at he
    split at he
    · cases he; exact ⟨rfl, rfl, h _ _ _⟩
    · cases he
theorem qfy {f : FuncId} (h : ∀ n i, ku n → ku i → Am.Fn Try.prog f [.int .i64 n, .int .i64 i] [] (fun v H' => v = .int .i64 (Xq n i) ∧ H' = [])) : Am.Callee Try.prog f (ql X5) :=
  Am.Callee.plain fun xs v he => by
    unfold X5 at he
    split at he
    · obtain ⟨h1, he⟩ := qk he
      cases he; exact ⟨rfl, rfl, h _ _ h1.1 h1.2⟩
    · cases he
def B1 : zk := ((((zk.none.put 71 (ql yi)).put 66 (ql yi)).put 169 (ql X5)).put 165 (ql X5))
theorem qld : qu Try.prog B1 := ((((qu.none.put (qqz qzr)).put (qqz qte)).put (qfy qlt)).put (qfy qjv))
theorem qf1 : B1 71 = some (ql yi) := rfl
theorem Kg : B1 66 = some (ql yi) := rfl
theorem qct {p : Int} {k : Nat} (h1 : 2 ≤ k) (hk : k < 100) (h2 : (k : Int) < p) (h3 : p.tmod k = 0) : yg p = false := by
  unfold yg
  rw [Bool.and_eq_false_iff]
  right
  rw [List.all_eq_false]
  exact ⟨k, List.mem_range.2 hk, by simp [h1, h2, h3]⟩
theorem qgm {p : Int} (h : 2 ≤ p ∧ p ≤ 97) (h3 : ∀ j : Nat, 2 ≤ j → (j : Int) < p → p.tmod j ≠ 0) : yg p = true := by
  unfold yg
  rw [Bool.and_eq_true]
  refine ⟨decide_eq_true h, List.all_eq_true.2 fun j hj => ?_⟩
  by_cases h5 : 2 ≤ j
  · by_cases h6 : (j : Int) < p
    · have := h3 j h5 h6; simp [h5, h6, this]
    · simp [h6]
  · simp [h5]
theorem qb4 {p : Int} (h : ¬(2 ≤ p ∧ p ≤ 97)) : yg p = false := by
  unfold yg; rw [decide_eq_false h, Bool.false_and]
theorem qj1 (p : Int) : Am.Fn Try.prog 137 [.int .i64 p] [] (fun v H' => v = .bool (yg p) ∧ H' = []) := by
  refine Am.Fn.xu (R := fun v => v = _) qld mixed qjn (by simp) (by simp) ?_
  simp (maxSteps := 3000000) only [qaf, qa, zZ, ↓qt, ↓reduceIte, reduceCtorEq, nA, nM, nS, nE, nL, nD]; try simp only [qa, zY]
  refine WA.jh qld (fun s => ∃ k : Nat, s = ⟨[(3, .int .i64 k), (0, .int .i64 p)], []⟩ ∧ 2 ≤ k ∧ k ≤ 100 ∧ ∀ j : Nat, 2 ≤ j → j < k → (j : Int) < p → p.tmod j ≠ 0) (fun s => match get s.env 3 with | .int _ k => (100 - k).toNat | _ => 0) ⟨_, qx.qy [3, 0], 2, rfl, by omega, by omega, by intros; omega⟩ ?_
  rintro s ⟨k, rfl, h1, h2, h3⟩
  simp (maxSteps := 3000000) only [Um, Uc, qf1, Kg, yi, qa, zZ, ↓qt, ↓reduceIte, reduceCtorEq, nA, nM, nS, nE, nL, nD]; try simp only [qa, zY]
  refine ⟨fun h4 => ⟨fun h5 => ⟨by omega, fun h6 => ?_, fun h6 => ⟨_, qx.qy [3, 0], ⟨k + 1, ?_, by omega, by omega, ?_⟩, ?_⟩⟩, fun h5 => ?_⟩, fun h4 => ?_⟩
  · exact (qct h1 (by omega) h4 h6).symm
  · simp only [qy, zn, reduceIte, reduceCtorEq, Nat.reduceEqDiff]
    have : qm .i64 ((k : Int) + 1) = ((k + 1 : Nat) : Int) := by rw [wrap64 (by omega) (by omega)]; rfl
    rw [this]
  · intro j h7 h8 h9
    by_cases h10 : j = k
    · subst h10; exact h6
    · exact h3 j h7 (by omega) h9
  · simp only [qy, zn, reduceIte, reduceCtorEq, Nat.reduceEqDiff]
    have : qm .i64 ((k : Int) + 1) = ((k + 1 : Nat) : Int) := by rw [wrap64 (by omega) (by omega)]; rfl
    rw [this]; omega
  · rw [qb4 (by omega)]; simp; omega
  · by_cases h : 2 ≤ p ∧ p ≤ 97
    · rw [qgm h fun j a b => h3 j a (by omega) b]; simp [h]
    · rw [qb4 h]; simp [h]
theorem qlc : ((List.range 98).all fun p => (List.range 11).all fun k => !decide (p < k * k ∧ 2 ≤ p) || !((List.range k).all fun j => !decide (2 ≤ j) || p % j != 0) || (List.range p).all fun j => !decide (2 ≤ j) || p % j != 0) = true := by decide +kernel
theorem qo7 {p : Int} {k : Nat} (h : 2 ≤ p ∧ p ≤ 97) (hk : k ≤ 10) (hkp : p < (k : Int) * k) (h3 : ∀ j : Nat, 2 ≤ j → j < k → p.tmod j ≠ 0) : yg p = true := by
  obtain ⟨q, rfl⟩ : ∃ q : Nat, p = q := ⟨p.toNat, by omega⟩
  have e : ∀ j : Nat, ((q : Int).tmod j = 0) ↔ q % j = 0 := fun j => by
    rw [← Int.ofNat_tmod]; omega
  have h4 := List.all_eq_true.1 (List.all_eq_true.1 qlc q (List.mem_range.2 (by omega))) k (List.mem_range.2 (by omega))
  have h5 : q < k * k := by
    have : ((k * k : Nat) : Int) = (k : Int) * k := by simp
    omega
  simp only [Bool.or_eq_true, Bool.not_eq_true', decide_eq_false_iff_not] at h4
  rcases h4 with (h4 | h4) | h4
  · exact absurd ⟨h5, by omega⟩ h4
  · exfalso
    rw [List.all_eq_false] at h4
    obtain ⟨j, hj, h6⟩ := h4
    have hj := List.mem_range.1 hj
    apply h6
    by_cases h7 : 2 ≤ j
    · have := h3 j h7 hj
      rw [Ne, e] at this
      simp [this]
    · simp [h7]
  · refine qgm h fun j h6 h7 => ?_
    rw [Ne, e]
    have := List.all_eq_true.1 h4 j (List.mem_range.2 (by omega))
    simpa [h6] using this
theorem qna (p : Int) : Am.Fn Try.prog 120 [.int .i64 p] [] (fun v H' => v = .bool (yg p) ∧ H' = []) := by
  refine Am.Fn.xu (R := fun v => v = _) qld mixed qlw (by simp) (by simp) ?_
  simp (maxSteps := 3000000) only [qdk, qf1, Kg, yi, qa, zZ, ↓qt, ↓reduceIte, reduceCtorEq, nA, nM, nS, nE, nL, nD]; try simp only [qa, zY]
  refine ⟨fun h => (qb4 h).symm, fun h => ?_⟩
  refine WA.jh qld (fun s => ∃ k : Nat, s = ⟨[(3, .int .i64 k), (0, .int .i64 p)], []⟩ ∧ 2 ≤ k ∧ k ≤ 10 ∧ ∀ j : Nat, 2 ≤ j → j < k → p.tmod j ≠ 0) (fun s => match get s.env 3 with | .int _ k => (100 - k).toNat | _ => 0) ⟨_, qx.qy [3, 0], 2, rfl, by omega, by omega, by intros; omega⟩ ?_
  rintro s ⟨k, rfl, h1, h2, h3⟩
  have hw : qm .i64 ((k : Int) + 1) = ((k + 1 : Nat) : Int) := by rw [wrap64 (by omega) (by omega)]; rfl
  have hm : qm .i64 ((k : Int) * k) = ((k * k : Nat) : Int) := by
    have : k * k ≤ 10 * 10 := Nat.mul_le_mul h2 h2
    rw [← Int.natCast_mul]; exact Qr (by omega)
  simp (maxSteps := 3000000) only [U7, Gi, hm, hw, qy, qa, zZ, ↓qt, ↓reduceIte, reduceCtorEq, nA, nM, nS, nE, nL, nD]; try simp only [qa, zY]
  have hkk : k < 10 ∨ k = 10 := by omega
  refine ⟨fun h4 => ⟨by omega, fun h6 => ?_, fun h6 => ⟨_, qx.qy [3, 0], ⟨k + 1, rfl, by omega, ?_, ?_⟩, ?_⟩⟩, fun h4 => ?_⟩
  · have : k * 2 ≤ k * k := Nat.mul_le_mul_left k h1
    exact (qct h1 (by omega) (by omega) h6).symm
  · rcases hkk with e | e
    · omega
    · subst e; omega
  · intro j h7 h8
    by_cases h10 : j = k
    · subst h10; exact h6
    · exact h3 j h7 (by omega)
  · simp only [qy, zn, reduceIte, reduceCtorEq, Nat.reduceEqDiff]
    omega
  · rw [qo7 h h2 (by rw [← Int.natCast_mul]; omega) h3]
theorem qey {f : FuncId} (h : ∀ p, Am.Fn Try.prog f [.int .i64 p] [] (fun v H' => v = .bool (yg p) ∧ H' = [])) : Am.Callee Try.prog f (ql jf) :=
  Am.Callee.plain fun xs v he => by
    unfold jf at he
    split at he
    · cases he; exact ⟨rfl, rfl, h _⟩
    · cases he
theorem qwt : Am.Callee Try.prog 76 (ql vp) :=
  Am.Callee.plain fun xs v he => by
    unfold vp at he
    split at he
    · obtain ⟨h1, he⟩ := qk he
      cases he; exact ⟨rfl, rfl, qv0 _ _ h1⟩
    · cases he
theorem qpi : Am.Callee Try.prog 70 (ql j3) :=
  Am.Callee.plain fun xs v he => by
    unfold j3 at he
    split at he
    · obtain ⟨h1, he⟩ := qk he
      cases he; exact ⟨rfl, rfl, qpq _ _ h1⟩
    · cases he
def B2 : zk := ((((B1.put 120 (ql jf)).put 137 (ql jf)).put 76 (ql vp)).put 70 (ql j3))
theorem q1v : qu Try.prog B2 := ((((qld.put (qey qna)).put (qey qj1)).put (qwt)).put (qpi))
theorem y0 {p : Int} (h : yg p = true) : 2 ≤ p ∧ p ≤ 97 := by
  unfold yg at h
  rw [Bool.and_eq_true] at h
  exact of_decide_eq_true h.1
def B3 : zk := B2
theorem qza : qu Try.prog B3 := q1v
end Go.Proofs.Ytfhckbbgmblhbaa
namespace Go.Proofs.Ytfhckbbgmblhbaa
open Go.Am Go.Dia
open Nat renaming reduceAdd → nA, reduceMul → nM, reduceSub → nS, reduceEqDiff → nE, reduceLT → nL, reduceLeDiff → nD, reduceBEq → nB
open Int renaming reduceEq → iE, reduceNe → iN, reduceBEq → iB, reduceBNe → iC, reduceLT → iL, reduceLE → iD, reduceAdd → iA, reduceSub → iS, reduceMul → iM
set_option linter.unusedSimpArgs false
set_option linter.unusedVariables false
set_option maxRecDepth 4000
def G2 : AC := .seq (.region [oI 2 0]) (.seq (.region [oM 3 0,o0 4 (.vf (.t 3)),oF 5 0 4,oL 6 5,oM 2 6]) .ret)
theorem qg8 : zl Try.prog 168 = some ⟨7, G2, [.slot 2]⟩ := by kernel_rfl
def Xz : AC := .seq (.region [oP 12 .lss 11 10]) (.seq (.cond 12 .skip (.exit 0)) (.seq (.block 1 (.seq (.region [oM 13 11,oM 5 13]) (.seq (.draw false [oM 14 3,oM 15 0,oM 16 3,oM 17 5,o0 19 (.vf (.t 15)),oF 20 1 19,oM 25 5,oC 18 169 [.t 16,.t 17],o0 21 (.xd 16 1 (.t 20) (.t 18)),oL 22 21,o0 23 (.conv .i64 (.t 22)),oC 24 169 [.t 14,.t 23],oP 26 .gtr 24 25]) (.cond 26 (.region [oM 27 4,o0 28 (.Qh 1 [.int .u8 0] [(0,1,(.c (.int .u8 40)))]),o0 29 (.append 1 1 (.t 27) (.t 28)),oM 4 29]) (.region [oM 30 4,o0 31 (.Qh 1 [.int .u8 0] [(0,1,(.c (.int .u8 41)))]),o0 32 (.append 1 1 (.t 30) (.t 31)),oM 4 32]))))) (.region [oK 33 .add 11 1,oM 11 33])))
def Xw : AC := .seq (.region [oM 34 4,o0 35 (.b2s (.t 34)),oM 2 35]) .ret
def W8 : AC := .seq (.region [o0 2 (.mov (.c (.str [])))]) (.seq (.region [oM 6 0,oC 7 168 [.t 6],o0 8 (.Qh 0 [] []),oM 3 7,oM 4 8]) (.seq (.seq (.region [oM 9 3,o0 10 (.bin .mul (.c (.int .i64 2)) (.t 9)),oI 11 0]) (.block 0 (.loop Xz))) Xw))
theorem qcd : zl Try.prog 142 = some ⟨36, W8, [.slot 2]⟩ := by kernel_rfl
def By : AC := .seq (.seq (.region [oM 7 4,oF 8 0 1,oL 9 8,o0 10 (.bin .mul (.c (.int .i64 2)) (.t 9)),oP 11 .lss 7 10]) (.cond 11 .skip (.exit 0))) (.seq (.block 1 (.seq (.region [oF 14 0 1,oL 15 14,oM 16 4,oC 17 165 [.t 15,.t 16],oM 5 17]) (.seq (.draw false [oF 18 0 1,oL 19 18,oM 20 5,oF 21 1 1,o0 22 (.xd 16 1 (.t 21) (.t 20)),oL 23 22,o0 24 (.conv .i64 (.t 23)),oM 26 4,oC 25 165 [.t 19,.t 24],oP 27 .gtr 25 26]) (.cond 27 (.region [oM 28 3,o0 29 (.Qh 1 [.int .u8 0] [(0,1,(.c (.int .u8 40)))]),o0 30 (.append 1 1 (.t 28) (.t 29)),oM 3 30]) (.region [oM 31 3,o0 32 (.Qh 1 [.int .u8 0] [(0,1,(.c (.int .u8 41)))]),o0 33 (.append 1 1 (.t 31) (.t 32)),oM 3 33]))))) (.region [oM 12 4,oK 13 .add 12 1,oM 4 13]))
def Be : AC := .seq (.region [oM 34 3,o0 35 (.b2s (.t 34)),oM 2 35]) .ret
def qdo : AC := .seq (.region [o0 1 (.box (.t 0)),o0 2 (.mov (.c (.str [])))]) (.seq (.region [o0 6 (.Qh 0 [] []),oM 3 6]) (.seq (.seq (.region [oI 4 0]) (.block 0 (.loop By))) Be))
theorem qk1 : zl Try.prog 150 = some ⟨36, qdo, [.slot 2]⟩ := by kernel_rfl
def okD (m : List Nat) : Prop := m.length = 16 ∧ ∀ x, x ∈ m → x < 256
theorem okD.get {m : List Nat} (h : okD m) (i : Nat) : m.getD i 0 < 256 := by
  rw [List.getD_eq_getElem?_getD]
  cases e : m[i]? with
  | none => simp
  | some x => exact h.2 x (List.mem_of_getElem? e)
def bytesOf : List AV → Option (List Nat)
  | [] => some []
  | .int .u8 x :: r => if 0 ≤ x ∧ x < 256 then (match bytesOf r with
    | some l => some (x.toNat :: l)
    | none => none) else none
  | _ => none
theorem Vn : ∀ {m : List Nat}, (∀ x, x ∈ m → x < 256) → bytesOf (u8s m) = some m
  | [], _ => rfl
  | x :: m, h => by
    have h1 := Vn (m := m) fun y hy => h y (List.mem_cons_of_mem _ hy)
    have h2 := h x (by simp)
    simp only [u8s, List.map_cons, bytesOf] at h1 ⊢
    rw [if_pos (by omega), h1]
    simp
theorem Q4 : ∀ {l : List AV} {m : List Nat}, bytesOf l = some m → l = u8s m ∧ ∀ x, x ∈ m → x < 256
  | [], m, h => by cases h; exact ⟨rfl, by simp⟩
  | a :: l, m, h => by
    cases a <;> (try (simp only [bytesOf, reduceCtorEq] at h; done))
    rename_i k x
    cases k <;> (try (simp only [bytesOf, reduceCtorEq] at h; done))
    simp only [bytesOf] at h
    split at h
    · rename_i hx
      split at h
      · rename_i r hr
        cases h
        obtain ⟨h1, h2⟩ := Q4 hr
        refine ⟨?_, fun y hy => ?_⟩
        · simp only [u8s, List.map_cons, List.cons.injEq, AV.int.injEq, true_and]
          exact ⟨by omega, h1⟩
        · rcases List.mem_cons.1 hy with rfl | hy
          · omega
          · exact h2 y hy
      · cases h
    · cases h
def wv : List AV → Option (Int × List Nat)
  | .int .i64 n :: r => match bytesOf r with
    | some m => if m.length = 16 then some (n, m) else none
    | none => none
  | _ => none
theorem za {n : Int} {m : List Nat} (h : okD m) : wv (dia n m) = some (n, m) := by
  simp only [dia, wv, Vn h.2, h.1, if_true]
theorem z6 {l : List AV} {n : Int} {m : List Nat} (h : wv l = some (n, m)) : l = dia n m ∧ okD m := by
  unfold wv at h
  split at h
  · split at h
    · rename_i hm
      obtain ⟨h1, h2⟩ := Q4 hm
      split at h
      · rename_i h3; cases h; exact ⟨by rw [h1]; rfl, h3, h2⟩
      · cases h
    · cases h
  · cases h
theorem q1j (n : Int) : Am.Fn Try.prog 168 [.ptr 0 0] [.ro [.int .i64 n]] (fun v H' => v = .int .i64 n ∧ H' = [.ro [.int .i64 n]]) := by
  refine Am.Fn.xu (R := fun v => v = _) qza mixed qg8 (by simp) (by intro j o h; cases j <;> simp at h; subst h; exact ⟨trivial, trivial⟩) ?_
  simp (maxSteps := 3000000) only [G2, rd, List.getElem?_cons_zero, qa, zZ, ↓qt, ↓reduceIte, reduceCtorEq, nA, nM, nS, nE, nL, nD]; try simp only [qa, zY]
  exact ⟨_, rfl⟩
def g_n : List AV → List AV → Option AV
  | [.int .i64 n], [] => some (.int .i64 n)
  | _, _ => none
theorem q1u : Am.Callee Try.prog 168 (Ug 1 g_n) :=
  Am.Callee.read fun l xs v hl he => by
    unfold g_n at he
    split at he
    · cases he; exact ⟨rfl, rfl, rfl, q1j _⟩
    · cases he
theorem qr4 {n : Int} {m : List Nat} : List.take 1 (List.drop 0 (dia n m)) = [.int .i64 n] := rfl
def B4 : zk := (B3.put 168 (Ug 1 g_n))
theorem qm7 : qu Try.prog B4 := (qza.put (q1u))
theorem Xj : B4 169 = some (ql X5) := rfl
theorem Zn : B4 165 = some (ql X5) := rfl
theorem Qt : B4 168 = some (Ug 1 g_n) := rfl
theorem qf7 {n k : Nat} (h : k < 2 * n) : Xq n k = (place n k : Nat) := by
  unfold Xq place; split <;> split <;> omega
theorem Yr {n x k : Nat} : ((k : Int) < Xq n x) ↔ (k < place n x) := by
  unfold Xq place; split <;> split <;> omega
theorem Qa {x : Nat} (h : x < 1000) : ku (x : Int) := by unfold ku; omega
theorem vh {l : List AV} (h : AV.zh l = true) : ∀ (j : Nat) (o : AO), [AO.ro l][j]? = some o → o.under [AO.ro l].length := by
  intro j o e
  cases j with
  | zero => simp only [List.getElem?_cons_zero, Option.some.injEq] at e; subst e; exact qi _ _ h
  | succ j => simp at e
def Y1 (n : Nat) (m : List Nat) : List Nat := (List.range (2 * n)).map fun k => if k < place n (m.getD (place n k) 0) then 40 else 41
theorem qn5 (n : Nat) (m : List Nat) : (Y1 n m).map (fun x => UInt8.ofNat x) = wk n m := by
  simp only [Y1, wk, List.map_map]
  refine List.map_congr_left fun k _ => ?_
  simp only [Function.comp]
  split <;> rfl
theorem ga (n : Nat) (m : List Nat) : (Y1 n m).length = 2 * n := by simp [Y1]
theorem qmr {n : Nat} {m : List Nat} {k : Nat} (h : k < 2 * n) : (Y1 n m).take (k + 1) = (Y1 n m).take k ++ [if k < place n (m.getD (place n k) 0) then 40 else 41] := by
  rw [List.take_add_one]
  congr 1
  simp [Y1, h]
theorem qm0 {l : List AV} {k : Nat} (h : l.length ≤ k) : List.take k (List.drop 0 l) = l := by rw [List.drop_zero, List.take_of_length_le h]
theorem qug (n : Nat) (m : List Nat) (hn : n ≤ 8) (hm : okD m) : Am.Fn Try.prog 142 [.ptr 0 0] [.ro (dia n m)] (fun v H' => v = .str (wk n m) ∧ H' = [.ro (dia n m)]) := by
  refine Am.Fn.xu (R := fun v => v = _) qm7 mixed qcd (by simp) (vh (qg _ _)) ?_
  have h2n : qm .i64 (2 * (n : Int)) = ((2 * n : Nat) : Int) := by rw [wrap64 (by omega) (by omega)]; simp
  simp (maxSteps := 3000000) only [W8, Xj, Zn, Qt, g_n, X5, rd, List.getElem?_cons_zero, qr4, qf, hm.1, h2n, u7, qa, zZ, ↓qt, ↓reduceIte, reduceCtorEq, nA, nM, nS, nE, nL, nD]; try simp only [qa, zY]
  refine WA.jh qm7 (fun s => ∃ k : Nat, s = ⟨[(11, .int .i64 k), (10, .int .i64 ((2 * n : Nat) : Int)), (4, .slc 1 0 k false 0), (3, .int .i64 n), (0, .ptr 0 0)], [.ro (dia n m), .vec 1 (u8s ((Y1 n m).take k))]⟩ ∧ k ≤ 2 * n)
    (fun s => match get s.env 11 with | .int _ k => (100 - k).toNat | _ => 0) ⟨_, qx.trans (qx.qy [11, 10, 4, 3, 0]) (qx.vec 1 0 1 (by decide) rfl rfl ?_ ?_), 0, ?_, by omega⟩ ?_
  · simp only [qy, zn, zV, ↓reduceIte, nE, reduceCtorEq, nB]
  · simp only [zV, ↓reduceIte, nE, reduceCtorEq, nB]
  · simp only [qy, zn, List.take_zero, zV, ↓reduceIte, nE, reduceCtorEq, nB]; rfl
  rintro s ⟨k, rfl, hk⟩
  have hw : qm .i64 ((k : Int) + 1) = ((k + 1 : Nat) : Int) := by rw [wrap64 (by omega) (by omega)]; rfl
  simp (maxSteps := 3000000) only [Xz, Xw, hw, Xj, Zn, Qt, g_n, X5, rd, List.getElem?_cons_zero, List.getElem?_cons_succ, u7, src, qa, zZ, ↓qt, ↓reduceIte, reduceCtorEq, nA, nM, nS, nE, nL, nD]; try simp only [qa, zY]
  refine ⟨fun h => ?_, fun h => ?_⟩
  · have hk' : k < 2 * n := by omega
    have hp := ze hk'
    have hg := hm.get (place n k)
    have h1 : qm .i64 ((m.getD (place n k) 0 : Nat) : Int) = (m.getD (place n k) 0 : Nat) := Qr (by omega)
    have hlt : (List.take k (Y1 n m)).length = k := by rw [List.length_take, ga]; omega
    have hap : ∀ c : Nat, c = (if k < place n (m.getD (place n k) 0) then 40 else 41) → List.take k (u8s (List.take k (Y1 n m))) ++ [AV.int .u8 (c : Int)] = u8s (List.take (k + 1) (Y1 n m)) := by
      intro c hc
      rw [List.take_of_length_le (by rw [xq, hlt]; exact Nat.le_refl _), qmr hk', ← hc, ← qfg]; rfl
    simp (maxSteps := 3000000) only [qf7 hk', h1, qa, zZ, ↓qt, ↓reduceIte, reduceCtorEq, nA, nM, nS, nE, nL, nD]; try simp only [qa, zY]
    refine ⟨⟨Qa (by omega), Qa (by omega)⟩, ⟨by omega, by omega⟩, by rw [hm.1]; omega, ⟨Qa (by omega), Qa (by omega)⟩, fun h2 => ?_, fun h2 => ?_⟩
    · have e := hap 40 (by rw [if_pos (Yr.1 h2)])
      simp only [Int.cast_ofNat_Int] at e
      refine ⟨by decide, ⟨by rw [xq, hlt]; exact Nat.le_refl _, by decide, by omega⟩, _, qx.xf [0, 3] [11, 10, 4, 3, 0] ⟨by decide, ?_⟩ ?_, ⟨k + 1, ?_, by omega⟩, ?_⟩
      · simp only [over, List.take_zero, List.length_cons, List.length_nil, List.drop_succ_cons, List.drop_nil, List.take_succ_cons, List.drop_zero, e, zK, ↓reduceIte, reduceCtorEq, nE, nB, nA]
      · simp only [zK, ↓reduceIte, reduceCtorEq, nE, nB, nA]
      · simp only [over, List.take_zero, List.length_cons, List.length_nil, List.drop_succ_cons, List.drop_nil, List.take_succ_cons, List.drop_zero, e, zL, ↓reduceIte, reduceCtorEq, nE, nA]
      · simp only [zL, ↓reduceIte, reduceCtorEq, nE, nA]
        omega
    · have e := hap 41 (by rw [if_neg fun h => h2 (Yr.2 h)])
      simp only [Int.cast_ofNat_Int] at e
      refine ⟨by decide, ⟨by rw [xq, hlt]; exact Nat.le_refl _, by decide, by omega⟩, _, qx.xf [0, 3] [11, 10, 4, 3, 0] ⟨by decide, ?_⟩ ?_, ⟨k + 1, ?_, by omega⟩, ?_⟩
      · simp only [over, List.take_zero, List.length_cons, List.length_nil, List.drop_succ_cons, List.drop_nil, List.take_succ_cons, List.drop_zero, e, zK, ↓reduceIte, reduceCtorEq, nE, nB, nA]
      · simp only [zK, ↓reduceIte, reduceCtorEq, nE, nB, nA]
      · simp only [over, List.take_zero, List.length_cons, List.length_nil, List.drop_succ_cons, List.drop_nil, List.take_succ_cons, List.drop_zero, e, zL, ↓reduceIte, reduceCtorEq, nE, nA]
      · simp only [zL, ↓reduceIte, reduceCtorEq, nE, nA]
        omega
  · have hkn : k = 2 * n := by omega
    have hall : List.take k (Y1 n m) = Y1 n m := by rw [List.take_of_length_le]; rw [ga]; omega
    rw [hall, qm0 (by rw [xq, ga]; omega), Ge, zc, qn5]
    simp (maxSteps := 3000000) only [List.set_cons_zero, List.set_cons_succ, qa, zZ, ↓qt, ↓reduceIte, reduceCtorEq, nA, nM, nS, nE, nL, nD]; try simp only [qa, zY]
    exact ⟨by rw [xq, ga]; omega, _, rfl⟩
theorem qlg (n : Nat) (m : List Nat) (hn : n ≤ 8) (hm : okD m) : Am.Fn Try.prog 150 [.agg (dia n m)] [] (fun v H' => v = .str (wk n m) ∧ H' = []) := by
  refine Am.Fn.xu (R := fun v => v = _) qm7 mixed qk1 (by simp) (by simp) ?_
  have h2n : qm .i64 (2 * (n : Int)) = ((2 * n : Nat) : Int) := by rw [wrap64 (by omega) (by omega)]; simp
  simp (maxSteps := 3000000) only [qdo, u7, qa, zZ, ↓qt, ↓reduceIte, reduceCtorEq, nA, nM, nS, nE, nL, nD]; try simp only [qa, zY]
  refine WA.jh qm7 (fun s => ∃ k : Nat, s = ⟨[(4, .int .i64 k), (3, .slc 1 0 k false 0), (1, .ptr 0 0)], [.cells (dia n m), .vec 1 (u8s ((Y1 n m).take k))]⟩ ∧ k ≤ 2 * n)
    (fun s => match get s.env 4 with | .int _ k => (100 - k).toNat | _ => 0) ⟨_, qx.trans (qx.qy [4, 3, 1]) (qx.vec 1 0 1 (by decide) rfl rfl ?_ ?_), 0, ?_, by omega⟩ ?_
  · simp only [qy, zn, zV, ↓reduceIte, nE, reduceCtorEq, nB]
  · simp only [zV, ↓reduceIte, nE, reduceCtorEq, nB]
  · simp only [qy, zn, List.take_zero, zV, ↓reduceIte, nE, reduceCtorEq, nB]; rfl
  rintro s ⟨k, rfl, hk⟩
  have hw : qm .i64 ((k : Int) + 1) = ((k + 1 : Nat) : Int) := by rw [wrap64 (by omega) (by omega)]; rfl
  simp (maxSteps := 3000000) only [By, Be, hw, h2n, Qo, Xj, Zn, Qt, g_n, X5, rd, List.getElem?_cons_zero, List.getElem?_cons_succ, u7, src, qa, zZ, ↓qt, ↓reduceIte, reduceCtorEq, nA, nM, nS, nE, nL, nD]; try simp only [qa, zY]
  refine ⟨fun h => ?_, fun h => ?_⟩
  · have hk' : k < 2 * n := by omega
    have hp := ze hk'
    have hg := hm.get (place n k)
    have h1 : qm .i64 ((m.getD (place n k) 0 : Nat) : Int) = (m.getD (place n k) 0 : Nat) := Qr (by omega)
    have hlt : (List.take k (Y1 n m)).length = k := by rw [List.length_take, ga]; omega
    have hap : ∀ c : Nat, c = (if k < place n (m.getD (place n k) 0) then 40 else 41) → List.take k (u8s (List.take k (Y1 n m))) ++ [AV.int .u8 (c : Int)] = u8s (List.take (k + 1) (Y1 n m)) := by
      intro c hc
      rw [List.take_of_length_le (by rw [xq, hlt]; exact Nat.le_refl _), qmr hk', ← hc, ← qfg]; rfl
    simp (maxSteps := 3000000) only [qf7 hk', h1, qa, zZ, ↓qt, ↓reduceIte, reduceCtorEq, nA, nM, nS, nE, nL, nD]; try simp only [qa, zY]
    refine ⟨⟨Qa (by omega), Qa (by omega)⟩, ⟨by omega, by omega⟩, by rw [hm.1]; omega, ⟨Qa (by omega), Qa (by omega)⟩, fun h2 => ?_, fun h2 => ?_⟩
    · have e := hap 40 (by rw [if_pos (Yr.1 h2)])
      simp only [Int.cast_ofNat_Int] at e
      refine ⟨by decide, ⟨by rw [xq, hlt]; exact Nat.le_refl _, by decide, by omega⟩, _, qx.xf [0, 3] [4, 3, 1] ⟨by decide, ?_⟩ ?_, ⟨k + 1, ?_, by omega⟩, ?_⟩
      · simp only [over, List.take_zero, List.length_cons, List.length_nil, List.drop_succ_cons, List.drop_nil, List.take_succ_cons, List.drop_zero, e, zK, ↓reduceIte, reduceCtorEq, nE, nB, nA]
      · simp only [zK, ↓reduceIte, reduceCtorEq, nE, nB, nA]
      · simp only [over, List.take_zero, List.length_cons, List.length_nil, List.drop_succ_cons, List.drop_nil, List.take_succ_cons, List.drop_zero, e, zL, ↓reduceIte, reduceCtorEq, nE, nA]
      · simp only [zL, ↓reduceIte, reduceCtorEq, nE, nA]
        omega
    · have e := hap 41 (by rw [if_neg fun h => h2 (Yr.2 h)])
      simp only [Int.cast_ofNat_Int] at e
      refine ⟨by decide, ⟨by rw [xq, hlt]; exact Nat.le_refl _, by decide, by omega⟩, _, qx.xf [0, 3] [4, 3, 1] ⟨by decide, ?_⟩ ?_, ⟨k + 1, ?_, by omega⟩, ?_⟩
      · simp only [over, List.take_zero, List.length_cons, List.length_nil, List.drop_succ_cons, List.drop_nil, List.take_succ_cons, List.drop_zero, e, zK, ↓reduceIte, reduceCtorEq, nE, nB, nA]
      · simp only [zK, ↓reduceIte, reduceCtorEq, nE, nB, nA]
      · simp only [over, List.take_zero, List.length_cons, List.length_nil, List.drop_succ_cons, List.drop_nil, List.take_succ_cons, List.drop_zero, e, zL, ↓reduceIte, reduceCtorEq, nE, nA]
      · simp only [zL, ↓reduceIte, reduceCtorEq, nE, nA]
        omega
  · have hkn : k = 2 * n := by omega
    have hall : List.take k (Y1 n m) = Y1 n m := by rw [List.take_of_length_le]; rw [ga]; omega
    rw [hall, qm0 (by rw [xq, ga]; omega), Ge, zc, qn5]
    simp (maxSteps := 3000000) only [List.set_cons_zero, List.set_cons_succ, qa, zZ, ↓qt, ↓reduceIte, reduceCtorEq, nA, nM, nS, nE, nL, nD]; try simp only [qa, zY]
    rw [xq, ga]; omega
end Go.Proofs.Ytfhckbbgmblhbaa
namespace Go.Proofs.Ytfhckbbgmblhbaa
open Go.Am Go.Dia
open Nat renaming reduceAdd → nA, reduceMul → nM, reduceSub → nS, reduceEqDiff → nE, reduceLT → nL, reduceLeDiff → nD, reduceBEq → nB
open Int renaming reduceEq → iE, reduceNe → iN, reduceBEq → iB, reduceBNe → iC, reduceLT → iL, reduceLE → iD, reduceAdd → iA, reduceSub → iS, reduceMul → iM
set_option linter.unusedSimpArgs false
set_option linter.unusedVariables false
set_option maxRecDepth 4000
set_option maxHeartbeats 4000000
def qez : List AV → List AV → Option AV := fun l xs => match wv l, xs with
  | some (n, m), [] => chk (0 ≤ n ∧ n ≤ 8) (some (.str (wk n.toNat m)))
  | _, _ => none
theorem qub : Am.Callee Try.prog 142 (Ug 17 qez) :=
  Am.Callee.read fun l xs v hl he => by
    unfold qez at he
    split at he
    · rename_i n m hd
      obtain ⟨h1, he⟩ := qk he
      cases he
      obtain ⟨rfl, hm⟩ := z6 hd
      obtain ⟨k, rfl⟩ : ∃ k : Nat, n = k := ⟨n.toNat, by omega⟩
      exact ⟨qg _ _, rfl, rfl, by rw [Int.toNat_natCast]; exact qug k m (by omega) hm⟩
    · cases he
def uq : List AV → Option AV
  | [.agg l] => match wv l with
    | some (n, m) => chk (0 ≤ n ∧ n ≤ 8) (some (.str (wk n.toNat m)))
    | none => none
  | _ => none
theorem qnc : Am.Callee Try.prog 150 (ql uq) :=
  Am.Callee.plain fun xs v he => by
    unfold uq at he
    split at he
    · split at he
      · rename_i n m hd
        obtain ⟨h1, he⟩ := qk he
        cases he
        obtain ⟨rfl, hm⟩ := z6 hd
        obtain ⟨k, rfl⟩ : ∃ k : Nat, n = k := ⟨n.toNat, by omega⟩
        exact ⟨by simp only [AV.zh, AV.zp, qg, Bool.and_self], rfl, by rw [Int.toNat_natCast]; exact qlg k m (by omega) hm⟩
      · cases he
    · cases he
def B5 : zk := ((B4.put 142 (Ug 17 qez)).put 150 (ql uq))
theorem q1g : qu Try.prog B5 := ((qm7.put (qub)).put (qnc))
def B6 : zk := B5
theorem q09 : qu Try.prog B6 := q1g
def v7 (n : Nat) (m : List Nat) (i k : Nat) : Bool := decide (Kk n m i < Kk n m k ∧ Kk n m k < Ke n m i ∧ Ke n m i < Ke n m k)
def B7 : zk := B6
theorem q1p : qu Try.prog B7 := q09
theorem qfl : ∀ (k : Nat) (l : List Nat), l.Nodup → (∀ i, i ∈ l → i < k) → l.length ≤ k
  | 0, [], _, _ => Nat.le_refl _
  | 0, a :: l, _, h => absurd (h a (by simp)) (by omega)
  | k + 1, l, hn, h => by
    by_cases hk : k ∈ l
    · have h1 := qfl k (l.erase k) (hn.erase k) fun i hi => by
        have h2 := h i (List.mem_of_mem_erase hi)
        have h3 : i ≠ k := by rintro rfl; exact (List.Nodup.not_mem_erase hn) hi
        omega
      rw [List.length_erase_of_mem hk] at h1; omega
    · have h1 := qfl k l hn fun i hi => by
        have h2 := h i hi
        have h3 : i ≠ k := by rintro rfl; exact hk hi
        omega
      omega
end Go.Proofs.Ytfhckbbgmblhbaa
namespace Go.Proofs.Ytfhckbbgmblhbaa
open Go.Am Go.Dia
open Nat renaming reduceAdd → nA, reduceMul → nM, reduceSub → nS, reduceEqDiff → nE, reduceLT → nL, reduceLeDiff → nD, reduceBEq → nB
open Int renaming reduceEq → iE, reduceNe → iN, reduceBEq → iB, reduceBNe → iC, reduceLT → iL, reduceLE → iD, reduceAdd → iA, reduceSub → iS, reduceMul → iM
set_option linter.unusedSimpArgs false
set_option linter.unusedVariables false
set_option maxRecDepth 4000
set_option maxHeartbeats 1000000
def B8 : zk := B7
theorem q1d : qu Try.prog B8 := q1p
theorem zb {n : Int} {m : List Nat} (h : m.length = 16) : List.take 17 (dia n m) = dia n m := by
  rw [List.take_of_length_le]; rw [qf, h]; exact Nat.le_refl _
def B9 : zk := B8
theorem qvl : qu Try.prog B9 := q1d
def V9 : AC := .seq (.seq (.region [oM 5 4,oK 6 .lss 5 16]) (.cond 6 .skip (.exit 0))) (.seq (.block 1 (.region [oM 9 4,oM 10 4,o0 11 (.xd 16 1 (.t 1) (.t 10)),oL 12 11,o0 13 (.xd 16 1 (.t 3) (.t 9)),oT 13 12])) (.region [oM 7 4,oK 8 .add 7 1,oM 4 8]))
def W9 : AC := .seq (.region [oN 14 16 3,oS 16 2 14]) .ret
def Gx : AC := .seq (.region [o0 1 (.box (.t 0)),o0 2 (.alloc [.int .u8 0,.int .u8 0,.int .u8 0,.int .u8 0,.int .u8 0,.int .u8 0,.int .u8 0,.int .u8 0,.int .u8 0,.int .u8 0,.int .u8 0,.int .u8 0,.int .u8 0,.int .u8 0,.int .u8 0,.int .u8 0])]) (.seq (.region [o0 3 (.alloc [.int .u8 0,.int .u8 0,.int .u8 0,.int .u8 0,.int .u8 0,.int .u8 0,.int .u8 0,.int .u8 0,.int .u8 0,.int .u8 0,.int .u8 0,.int .u8 0,.int .u8 0,.int .u8 0,.int .u8 0,.int .u8 0])]) (.seq (.seq (.region [oI 4 0]) (.block 0 (.loop V9))) W9))
theorem qhp : zl Try.prog 92 = some ⟨15, Gx, [.bg 2 16]⟩ := by kernel_rfl
def W4 : AC := .seq (.seq (.region [oM 6 5,oK 7 .lss 6 16]) (.cond 7 .skip (.exit 0))) (.seq (.block 1 (.seq (.draw false [oM 10 5,o0 11 (.xd 16 1 (.t 2) (.t 10)),oL 12 11,oM 13 5,o0 14 (.xd 16 1 (.t 3) (.t 13)),oL 15 14,oP 16 .neq 12 15]) (.cond 16 (.seq (.region [oB 4 false]) .ret) .skip))) (.region [oM 8 5,oK 9 .add 8 1,oM 5 9]))
def Ww : AC := .seq (.region [oB 4 true]) .ret
def G9 : AC := .seq (.region [o0 2 (.box (.t 0)),o0 3 (.box (.t 1)),oB 4 false]) (.seq (.seq (.region [oI 5 0]) (.block 0 (.loop W4))) Ww)
theorem qhe : zl Try.prog 186 = some ⟨17, G9, [.slot 4]⟩ := by kernel_rfl
def Kd : AC := .seq (.region [o0 2 (.box (.t 0)),o0 3 (.box (.t 1)),oB 4 false]) (.seq (.seq (.region [oF 5 0 2,oL 6 5,oF 7 0 3,oL 8 7,oP 9 .neq 6 8]) (.cond 9 (.seq (.region [oB 4 false]) .ret) .skip)) (.seq (.seq (.region [oF 10 1 2,oN 11 16 10,oF 12 1 3,oN 13 16 12,oC 14 186 [.t 11,.t 13],o0 15 (.un .not (.t 14))]) (.cond 15 (.seq (.region [oB 4 false]) .ret) .skip)) (.seq (.region [oB 4 true]) .ret)))
theorem qhd : zl Try.prog 160 = some ⟨16, Kd, [.slot 4]⟩ := by kernel_rfl
def qfj : AC := .seq (.region [o0 2 (.box (.t 0)),o0 3 (.box (.t 1)),oB 4 false]) (.seq (.seq (.region [oF 5 0 2,oN 6 17 5,oF 7 0 3,oN 8 17 7,oC 9 160 [.t 6,.t 8],o0 10 (.un .not (.t 9))]) (.cond 10 (.seq (.region [oB 4 false]) .ret) .skip)) (.seq (.seq (.region [oF 11 17 2,oL 12 11,oF 13 17 3,oL 14 13,oP 15 .neq 12 14]) (.cond 15 (.seq (.region [oB 4 false]) .ret) .skip)) (.seq (.region [oB 4 true]) .ret)))
theorem qoe : zl Try.prog 116 = some ⟨16, qfj, [.slot 4]⟩ := by kernel_rfl
theorem qyh : [AV.int .u8 0, .int .u8 0, .int .u8 0, .int .u8 0, .int .u8 0, .int .u8 0, .int .u8 0, .int .u8 0, .int .u8 0, .int .u8 0, .int .u8 0, .int .u8 0, .int .u8 0, .int .u8 0, .int .u8 0, .int .u8 0] = u8s (List.replicate 16 0) := rfl
theorem qt5 {m m' : List Nat} (h : m.length = 16) (h' : m'.length = 16) : over (u8s m) 0 (u8s m') = u8s m' := qai (by rw [xq, xq, h, h'])
theorem qyn {m : List Nat} (h : m.length = 16) : List.take 16 (List.drop 0 (u8s m)) = u8s m := by
  rw [List.drop_zero, List.take_of_length_le]; rw [xq, h]; exact Nat.le_refl _
theorem take_set {m : List Nat} {k : Nat} (hm : m.length = 16) (hk : k < 16) : (m.take k ++ List.replicate (16 - k) 0).set k (m.getD k 0) = m.take (k + 1) ++ List.replicate (16 - (k + 1)) 0 := by
  rw [List.set_append_right _ _ (by simp; omega)]
  have h1 : k - (m.take k).length = 0 := by simp; omega
  have h2 : 16 - k = (16 - (k + 1)) + 1 := by omega
  rw [h1, h2, List.replicate_succ, List.set_cons_zero, List.take_add_one, List.append_assoc]
  congr 1
  have h3 : m[k]? = some (m.getD k 0) := by rw [List.getD_eq_getElem?_getD, List.getElem?_eq_getElem (by omega)]; rfl
  rw [h3]; rfl
theorem qhk (m : List Nat) (hm : okD m) : Am.Fn Try.prog 92 [.agg (u8s m)] [] (fun v H' => v = .agg (u8s m) ∧ H' = []) := by
  refine Am.Fn.xu (R := fun v => v = _) qvl mixed qhp (by simp) (by simp) ?_
  have hml := hm.1
  simp (maxSteps := 3000000) only [Gx, qyh, qa, zZ, ↓qt, ↓reduceIte, reduceCtorEq, nA, nM, nS, nE, nL, nD]; try simp only [qa, zY]
  refine WA.jh qvl (fun s => ∃ k : Nat, s = ⟨[(4, .int .i64 k), (3, .ptr 2 0), (2, .ptr 1 0), (1, .ptr 0 0)], [.cells (u8s m), .cells (u8s (List.replicate 16 0)), .cells (u8s (m.take k ++ List.replicate (16 - k) 0))]⟩ ∧ k ≤ 16)
    (fun s => match get s.env 4 with | .int _ k => (100 - k).toNat | _ => 0) ⟨_, qx.qy [4, 3, 2, 1], 0, rfl, by omega⟩ ?_
  rintro s ⟨k, rfl, hk⟩
  have hw : qm .i64 ((k : Int) + 1) = ((k + 1 : Nat) : Int) := by rw [wrap64 (by omega) (by omega)]; rfl
  have hl : (m.take k ++ List.replicate (16 - k) 0).length = 16 := by simp; omega
  simp (maxSteps := 3000000) only [V9, W9, hw, hml, hl, rd, wrt, wrl, AO.Wn, List.getElem?_cons_zero, List.getElem?_cons_succ, List.set_cons_zero, List.set_cons_succ, qy7, xq, qyn hl, qt5 j5 hl, List.length_replicate, qwj, yy, qa, zZ, ↓qt, ↓reduceIte, reduceCtorEq, nA, nM, nS, nE, nL, nD]; try simp only [qa, zY]
  refine ⟨fun h => ⟨⟨by omega, by omega⟩, by omega, ⟨by omega, by omega⟩, ⟨by omega, rfl⟩, _, qx.qy [4, 3, 2, 1], ⟨k + 1, ?_, by omega⟩, ?_⟩, fun h => ?_⟩
  · simp only [take_set hml (show k < 16 from by omega), zL, ↓reduceIte, reduceCtorEq, nE, nA]
  · simp only [zL, ↓reduceIte, reduceCtorEq, nE, nA]; omega
  · have hk16 : k = 16 := by omega
    subst hk16
    have e : List.take 16 m ++ List.replicate (16 - 16) 0 = m := by rw [List.take_of_length_le (by omega)]; simp
    rw [e]
def Yw : List AV → Option AV
  | [.agg l] => match bytesOf l with
    | some m => chk (m.length = 16) (some (.agg l))
    | none => none
  | _ => none
theorem qgx : Am.Callee Try.prog 92 (ql Yw) :=
  Am.Callee.plain fun xs v he => by
    unfold Yw at he
    split at he
    · split at he
      · rename_i l m hd
        obtain ⟨h1, he⟩ := qk he
        cases he
        obtain ⟨rfl, h2⟩ := Q4 hd
        exact ⟨by simp only [AV.zh, AV.zp, yy, Bool.and_self], by simp only [AV.zp, yy], qhk m ⟨h1, h2⟩⟩
      · cases he
    · cases he
def B10 : zk := (B9.put 92 (ql Yw))
theorem qpo : qu Try.prog B10 := (qvl.put (qgx))
theorem qgv (m m' : List Nat) (hm : okD m) (hm' : okD m') : Am.Fn Try.prog 186 [.agg (u8s m), .agg (u8s m')] [] (fun v H' => v = .bool (decide (m = m')) ∧ H' = []) := by
  refine Am.Fn.xu (R := fun v => v = _) qpo mixed qhe (by simp) (by simp) ?_
  have hml := hm.1
  have hml' := hm'.1
  simp (maxSteps := 3000000) only [G9, qa, zZ, ↓qt, ↓reduceIte, reduceCtorEq, nA, nM, nS, nE, nL, nD]; try simp only [qa, zY]
  refine WA.jh qpo (fun s => ∃ k : Nat, s = ⟨[(5, .int .i64 k), (3, .ptr 1 0), (2, .ptr 0 0)], [.cells (u8s m), .cells (u8s m')]⟩ ∧ k ≤ 16 ∧ ∀ i, i < k → m.getD i 0 = m'.getD i 0)
    (fun s => match get s.env 5 with | .int _ k => (100 - k).toNat | _ => 0) ⟨_, qx.qy [5, 3, 2], 0, rfl, by omega, by intros; omega⟩ ?_
  rintro s ⟨k, rfl, hk, hc⟩
  have hw : qm .i64 ((k : Int) + 1) = ((k + 1 : Nat) : Int) := by rw [wrap64 (by omega) (by omega)]; rfl
  simp (maxSteps := 3000000) only [W4, Ww, hw, hml, hml', rd, List.getElem?_cons_zero, List.getElem?_cons_succ, qa, zZ, ↓qt, ↓reduceIte, reduceCtorEq, nA, nM, nS, nE, nL, nD]; try simp only [qa, zY]
  refine ⟨fun h => ⟨⟨by omega, by omega⟩, by omega, ⟨by omega, by omega⟩, by omega, fun h2 => ?_, fun h2 => ⟨_, qx.qy [5, 3, 2], ⟨k + 1, rfl, by omega, fun i hi => ?_⟩, ?_⟩⟩, fun h => ?_⟩
  · symm; rw [decide_eq_false_iff_not]; rintro rfl; exact h2 rfl
  · by_cases e : i = k
    · subst e; omega
    · exact hc i (by omega)
  · simp only [zL, ↓reduceIte, reduceCtorEq, nE, nA]; omega
  · symm; rw [decide_eq_true_eq]
    exact qjx hml hml' fun i hi => hc i (by omega)
def Zl : List AV → Option AV
  | [.agg l, .agg l'] => match bytesOf l, bytesOf l' with
    | some m, some m' => chk (m.length = 16 ∧ m'.length = 16) (some (.bool (decide (m = m'))))
    | _, _ => none
  | _ => none
theorem qhn : Am.Callee Try.prog 186 (ql Zl) :=
  Am.Callee.plain fun xs v he => by
    unfold Zl at he
    split at he
    · split at he
      · rename_i m m' hd hd'
        obtain ⟨h1, he⟩ := qk he
        cases he
        obtain ⟨rfl, h2⟩ := Q4 hd
        obtain ⟨rfl, h2'⟩ := Q4 hd'
        exact ⟨by simp only [AV.zh, AV.zp, yy, Bool.and_self], rfl, qgv m m' ⟨h1.1, h2⟩ ⟨h1.2, h2'⟩⟩
      · cases he
    · cases he
def B11 : zk := (B10.put 186 (ql Zl))
theorem qw3 : qu Try.prog B11 := (qpo.put (qhn))
theorem Kv : B11 92 = some (ql Yw) := rfl
theorem Kr : B11 186 = some (ql Zl) := rfl
theorem qhu (n n' : Int) (m m' : List Nat) (hm : okD m) (hm' : okD m') : Am.Fn Try.prog 160 [.agg (dia n m), .agg (dia n' m')] [] (fun v H' => v = .bool (decide (n = n' ∧ m = m')) ∧ H' = []) := by
  refine Am.Fn.xu (R := fun v => v = _) qw3 mixed qhd (by simp) (by simp) ?_
  have hml := hm.1
  have hml' := hm'.1
  simp (maxSteps := 3000000) only [Kd, Kv, Kr, Yw, Zl, qi2 hml, qi2 hml', Vn hm.2, Vn hm'.2, hml, hml', qf, rd, List.getElem?_cons_zero, List.getElem?_cons_succ, qa, zZ, ↓qt, ↓reduceIte, reduceCtorEq, nA, nM, nS, nE, nL, nD]; try simp only [qa, zY]
  refine ⟨fun h => ?_, fun h => ⟨fun h2 => ?_, fun h2 => ?_⟩⟩
  · symm; rw [decide_eq_false_iff_not]; exact fun e => h e.1
  · symm; rw [decide_eq_false_iff_not]; exact fun e => h2 e.2
  · symm; rw [decide_eq_true_eq]; exact ⟨h, h2⟩
def trm (t : Int × List Nat × Int) : List AV := dia t.1 t.2.1 ++ [.int .i64 t.2.2]
def qq (ts : List (Int × List Nat × Int)) : List AV := ts.flatMap trm
def okT (ts : List (Int × List Nat × Int)) : Prop := ∀ t, t ∈ ts → okD t.2.1
theorem qbu : ∀ (a b : List AV), AV.zh a = true → AV.zh b = true → AV.zh (a ++ b) = true
  | [], b, _, h => h
  | x :: a, b, h, h' => by
    simp only [AV.zh, Bool.and_eq_true, List.cons_append] at h ⊢
    exact ⟨h.1, qbu a b h.2 h'⟩
theorem yz (t : Int × List Nat × Int) : AV.zh (trm t) = true := qbu _ _ (qg _ _) rfl
theorem qb : ∀ (ts : List (Int × List Nat × Int)), AV.zh (qq ts) = true
  | [] => rfl
  | t :: ts => by simp only [qq, List.flatMap_cons]; exact qbu _ _ (yz t) (qb ts)
theorem z8 {t : Int × List Nat × Int} (h : okD t.2.1) : (trm t).length = 18 := by simp [trm, qf, h.1]
theorem qw : ∀ {ts : List (Int × List Nat × Int)}, okT ts → (qq ts).length = ts.length * 18
  | [], _ => rfl
  | t :: ts, h => by
    simp only [qq, List.flatMap_cons, List.length_append, z8 (h t (by simp)), List.length_cons]
    have := qw (ts := ts) fun u hu => h u (List.mem_cons_of_mem _ hu)
    unfold qq at this
    rw [this]; omega
theorem kj : ∀ {ts : List (Int × List Nat × Int)} {i : Nat}, okT ts → (h : i < ts.length) → List.take 18 (List.drop (i * 18) (qq ts)) = trm ts[i]
  | t :: ts, 0, h, hi => by
    simp only [qq, List.flatMap_cons, Nat.zero_mul, List.drop_zero, List.getElem_cons_zero]
    rw [List.take_append_of_le_length (by rw [z8 (h t (by simp))]; exact Nat.le_refl _), List.take_of_length_le (by rw [z8 (h t (by simp))]; exact Nat.le_refl _)]
  | t :: ts, i + 1, h, hi => by
    have h1 := kj (ts := ts) (i := i) (fun u hu => h u (List.mem_cons_of_mem _ hu)) (by simpa using hi)
    simp only [qq, List.flatMap_cons, List.getElem_cons_succ] at h1 ⊢
    rw [List.drop_append, List.drop_of_length_le (by rw [z8 (h t (by simp))]; omega), List.nil_append, z8 (h t (by simp)), ← h1]
    congr 2; omega
theorem Y0 {t : Int × List Nat × Int} (h : okD t.2.1) : List.take 17 (List.drop 0 (trm t)) = dia t.1 t.2.1 := by
  rw [List.drop_zero, trm, List.take_append_of_le_length (by rw [qf, h.1]; exact Nat.le_refl _), zb h.1]
theorem b9 {t : Int × List Nat × Int} (h : okD t.2.1) : (trm t)[17]? = some (.int .i64 t.2.2) := by
  rw [trm, List.getElem?_append_right (by rw [qf, h.1]; exact Nat.le_refl _), qf, h.1]; rfl
def Xa : List AV → Option AV
  | [.agg l, .agg l'] => match wv l, wv l' with
    | some (n, m), some (n', m') => some (.bool (decide (n = n' ∧ m = m')))
    | _, _ => none
  | _ => none
theorem qhc : Am.Callee Try.prog 160 (ql Xa) :=
  Am.Callee.plain fun xs v he => by
    unfold Xa at he
    split at he
    · split at he
      · rename_i n m n' m' hd hd'
        cases he
        obtain ⟨rfl, h2⟩ := z6 hd
        obtain ⟨rfl, h2'⟩ := z6 hd'
        exact ⟨by simp only [AV.zh, AV.zp, qg, Bool.and_self], rfl, qhu n n' m m' h2 h2'⟩
      · cases he
    · cases he
def B12 : zk := (B11.put 160 (ql Xa))
theorem qwq : qu Try.prog B12 := (qw3.put (qhc))
theorem Kw : B12 92 = some (ql Yw) := rfl
theorem K4 : B12 186 = some (ql Zl) := rfl
theorem Ky : B12 160 = some (ql Xa) := rfl
theorem qpy (t u : Int × List Nat × Int) (ht : okD t.2.1) (hu : okD u.2.1) : Am.Fn Try.prog 116 [.agg (trm t), .agg (trm u)] [] (fun v H' => v = .bool (decide (t = u)) ∧ H' = []) := by
  refine Am.Fn.xu (R := fun v => v = _) qwq mixed qoe (by simp) (by simp) ?_
  have h1 := z8 ht
  have h2 := z8 hu
  simp (maxSteps := 3000000) only [qfj, Kw, K4, Ky, Yw, Zl, Xa, Y0 ht, Y0 hu, b9 ht, b9 hu, h1, h2, za ht, za hu, rd, List.getElem?_cons_zero, List.getElem?_cons_succ, qa, zZ, ↓qt, ↓reduceIte, reduceCtorEq, nA, nM, nS, nE, nL, nD]; try simp only [qa, zY]
  have he : t = u ↔ (t.1 = u.1 ∧ t.2.1 = u.2.1) ∧ t.2.2 = u.2.2 := by
    obtain ⟨a, b, c⟩ := t
    obtain ⟨a', b', c'⟩ := u
    simp only [Prod.mk.injEq, and_assoc]
  refine ⟨fun h => ?_, fun h => ⟨fun h2 => ?_, fun h2 => ?_⟩⟩
  · symm; rw [decide_eq_false_iff_not, he]; exact fun e => h e.1
  · symm; rw [decide_eq_false_iff_not, he]; exact fun e => h2 e.2
  · symm; rw [decide_eq_true_eq, he]; exact ⟨h, h2⟩
def qfv (l : List AV) : Option (Int × List Nat × Int) := match wv (l.take 17), l.drop 17 with
  | some (n, m), [.int .i64 f] => some (n, m, f)
  | _, _ => none
theorem qbs {t : Int × List Nat × Int} (h : okD t.2.1) : qfv (trm t) = some t := by
  have h1 := Y0 h
  rw [List.drop_zero] at h1
  have h2 : (trm t).drop 17 = [.int .i64 t.2.2] := by
    rw [trm, List.drop_append, List.drop_of_length_le (by rw [qf, h.1]; exact Nat.le_refl _), qf, h.1]; rfl
  unfold qfv
  rw [h1, h2, za h]
theorem K3 {l : List AV} {t : Int × List Nat × Int} (h : qfv l = some t) : l = trm t ∧ okD t.2.1 := by
  unfold qfv at h
  split at h
  · rename_i n m f h1 h2
    cases h
    obtain ⟨h3, h4⟩ := z6 h1
    refine ⟨?_, h4⟩
    rw [← List.take_append_drop 17 l, h3, h2]; rfl
  · cases h
def Jg : List AV → Option AV
  | [.agg l, .agg l'] => match qfv l, qfv l' with
    | some t, some u => some (.bool (decide (t = u)))
    | _, _ => none
  | _ => none
theorem qp5 : Am.Callee Try.prog 116 (ql Jg) :=
  Am.Callee.plain fun xs v he => by
    unfold Jg at he
    split at he
    · split at he
      · rename_i t u hd hd'
        cases he
        obtain ⟨rfl, h2⟩ := K3 hd
        obtain ⟨rfl, h2'⟩ := K3 hd'
        exact ⟨by simp only [AV.zh, AV.zp, yz, Bool.and_self], rfl, qpy t u h2 h2'⟩
      · cases he
    · cases he
def B13 : zk := (B12.put 116 (ql Jg))
theorem qoo : qu Try.prog B13 := (qwq.put (qp5))
theorem qd2 : B13 116 = some (ql Jg) := rfl
def Jr : AC := .seq (.seq (.region [oM 11 5,oM 12 0,o0 13 (.len .slc (.t 12)),oP 14 .lss 11 13]) (.cond 14 .skip (.exit 0))) (.seq (.block 1 (.seq (.draw false [oM 17 0,oM 18 5,oX 19 18 17 18,oN 20 18 19,oM 21 1,oM 22 5,oX 23 18 21 22,oN 24 18 23,oC 25 116 [.t 20,.t 24],o0 26 (.un .not (.t 25))]) (.cond 26 (.seq (.region [oB 4 false]) .ret) .skip))) (.region [oM 15 5,oK 16 .add 15 1,oM 5 16]))
def U2 : AC := .seq (.region [oB 4 true]) .ret
def qdp : AC := .seq (.region [oB 4 false]) (.seq (.seq (.region [oM 6 0,o0 7 (.len .slc (.t 6)),oM 8 1,o0 9 (.len .slc (.t 8)),oP 10 .neq 7 9]) (.cond 10 (.seq (.region [oB 4 false]) .ret) .skip)) (.seq (.seq (.region [oI 5 0]) (.block 0 (.loop Jr))) U2))
theorem qk0 : zl Try.prog 51 = some ⟨27, qdp, [.slot 4]⟩ := by kernel_rfl
def Kb : AC := .seq (.region [o0 2 (.box (.t 0)),o0 3 (.box (.t 1)),oB 4 false]) (.seq (.seq (.region [oF 5 0 2,oL 6 5,oF 7 0 3,oL 8 7,oP 9 .neq 6 8]) (.cond 9 (.seq (.region [oB 4 false]) .ret) .skip)) (.seq (.seq (.region [oF 10 1 2,oL 11 10,oF 12 1 3,oL 13 12,oP 14 .neq 11 13]) (.cond 14 (.seq (.region [oB 4 false]) .ret) .skip)) (.seq (.seq (.region [oF 15 2 2,oL 16 15,oF 17 2 3,oL 18 17,oP 19 .neq 16 18]) (.cond 19 (.seq (.region [oB 4 false]) .ret) .skip)) (.seq (.seq (.region [oF 20 3 2,oL 21 20,oF 22 3 3,oL 23 22,oC 24 51 [.t 21,.t 23],o0 25 (.un .not (.t 24))]) (.cond 25 (.seq (.region [oB 4 false]) .ret) .skip)) (.seq (.region [oB 4 true]) .ret)))))
theorem qg6 : zl Try.prog 18 = some ⟨26, Kb, [.slot 4]⟩ := by kernel_rfl
def kv : Nat → List AV → Option (List (Int × List Nat × Int))
  | 0, _ => some []
  | k + 1, l => match qfv (l.take 18), kv k (l.drop 18) with
    | some t, some ts => some (t :: ts)
    | _, _ => none
theorem qie : ∀ {ts : List (Int × List Nat × Int)} {x : List AV}, okT ts → kv ts.length (qq ts ++ x) = some ts
  | [], _, _ => rfl
  | t :: ts, x, h => by
    have h1 := qie (ts := ts) (x := x) fun u hu => h u (List.mem_cons_of_mem _ hu)
    have h2 := z8 (h t (by simp))
    simp only [qq, List.flatMap_cons, List.length_cons, kv, List.append_assoc] at h1 ⊢
    rw [List.take_append_of_le_length (by omega), List.take_of_length_le (by omega), qbs (h t (by simp)), List.drop_append, List.drop_of_length_le (by omega), h2, List.nil_append]
    simp only [Nat.sub_self, List.drop_zero, h1]
theorem z7 {ts : List (Int × List Nat × Int)} (h : okT ts) : kv ts.length (qq ts) = some ts := by
  have := qie (x := []) h
  rwa [List.append_nil] at this
theorem ju : ∀ {k : Nat} {l : List AV} {ts : List (Int × List Nat × Int)}, kv k l = some ts → ts.length = k ∧ okT ts ∧ l.take (k * 18) = qq ts ∧ k * 18 ≤ l.length
  | 0, l, ts, h => by cases h; exact ⟨rfl, by simp [okT], by simp [qq], by omega⟩
  | k + 1, l, ts, h => by
    simp only [kv] at h
    split at h
    · rename_i t us ht hus
      cases h
      obtain ⟨h1, h2, h3, h4⟩ := ju hus
      obtain ⟨h5, h6⟩ := K3 ht
      have h7 := z8 h6
      have h8 : 18 ≤ l.length := by
        have := congrArg List.length h5
        rw [h7, List.length_take] at this; omega
      rw [List.length_drop] at h4
      refine ⟨by simp [h1], fun u hu => ?_, ?_, by omega⟩
      · rcases List.mem_cons.1 hu with rfl | hu
        · exact h6
        · exact h2 u hu
      · rw [show (k + 1) * 18 = 18 + k * 18 from by omega, List.take_add, h5, h3]; rfl
    · cases h
def two (b b' : Nat) : Ren := fun j => if j = 0 then some (b, 0) else if j = 1 then some (b', 0) else none
theorem Callee.ro2 {f : FuncId} {g : BE} (h : ∀ hp xs v hp', g hp xs = some (v, hp') → ∃ (l l' : List AV) (b b' : Nat) (ys : List AV), hp' = hp ∧ (∃ L, rd hp b = some L ∧ l.length ≤ L.length ∧ L.take l.length = l) ∧ (∃ L, rd hp b' = some L ∧ l'.length ≤ L.length ∧ L.take l'.length = l') ∧
    AV.zh l = true ∧ AV.zh l' = true ∧ xs = AV.zg (two b b') ys ∧ xs.all jg = true ∧ AV.qp 2 ys ∧ v.zp = true ∧ Am.Fn Try.prog f ys [.ro l, .ro l'] fun v' H' => v' = v ∧ H' = [.ro l, .ro l']) : Am.Callee Try.prog f g := by
  intro hp xs v hp' he
  obtain ⟨l, l', b, b', ys, rfl, ⟨L, hL, h1, h2⟩, ⟨L', hL', h1', h2'⟩, h3, h3', h4, h5, h6, h7, h8⟩ := h hp xs v hp' he
  refine ⟨[.ro l, .ro l'], ys, _, two b b', [(b, 0), (b', 0)], h8, h4, h5, ⟨fun j hj => ?_, rfl, fun j o c hj hb => ?_, fun j k bj bk oj ok hj hk hoj hok hw => ?_⟩, ?_, h6, ?_⟩
  · match j, hj with
    | 0, _ => rfl
    | 1, _ => rfl
  · match j, hj, hb with
    | 0, hj, hb =>
      cases hj; cases hb
      exact ⟨L, hL, by omega, by rw [List.drop_zero, qc _ _ h3]; exact h2⟩
    | 1, hj, hb =>
      cases hj; cases hb
      exact ⟨L', hL', by omega, by rw [List.drop_zero, qc _ _ h3']; exact h2'⟩
    | j + 2, hj, hb => simp at hj
  · match j, hoj with
    | 0, hoj => cases hoj; cases hw
    | 1, hoj => cases hoj; cases hw
    | j + 2, hoj => simp at hoj
  · intro j o hj
    match j, hj with
    | 0, hj => cases hj; exact qi _ _ h3
    | 1, hj => cases hj; exact qi _ _ h3'
    | j + 2, hj => simp at hj
  · rintro v' H' ⟨rfl, rfl⟩
    exact ⟨Z1 _ _ h7, by simp [after, upd, AO.wr]⟩
theorem Qg {l l' : List AV} (h : AV.zh l = true) (h' : AV.zh l' = true) : ∀ (j : Nat) (o : AO), [AO.ro l, AO.ro l'][j]? = some o → o.under [AO.ro l, AO.ro l'].length := by
  intro j o e
  match j, e with
  | 0, e => cases e; exact qi _ _ h
  | 1, e => cases e; exact qi _ _ h'
  | j + 2, e => simp at e
theorem qml (a b : List (Int × List Nat × Int)) (ha : okT a) (hb : okT b) (hal : a.length ≤ 2000000) :
    Am.Fn Try.prog 51 [.slc 0 0 a.length false 0, .slc 1 0 b.length false 0] [.ro (qq a), .ro (qq b)] (fun v H' => v = .bool (decide (a = b)) ∧ H' = [.ro (qq a), .ro (qq b)]) := by
  refine Am.Fn.xu (R := fun v => v = _) qoo mixed qk0 (by simp) (Qg (qb _) (qb _)) ?_
  simp (maxSteps := 3000000) only [qdp, qa, zZ, ↓qt, ↓reduceIte, reduceCtorEq, nA, nM, nS, nE, nL, nD]; try simp only [qa, zY]
  refine ⟨fun h => ⟨⟨_, rfl⟩, ?_⟩, fun h => ?_⟩
  · symm; rw [decide_eq_false_iff_not]; rintro rfl; exact h rfl
  have hlen : a.length = b.length := by omega
  refine WA.jh qoo (fun s => ∃ k : Nat, s = ⟨[(5, .int .i64 k), (0, .slc 0 0 a.length false 0), (1, .slc 1 0 b.length false 0)], [.ro (qq a), .ro (qq b)]⟩ ∧ k ≤ a.length ∧ ∀ i, i < k → a[i]? = b[i]?)
    (fun s => match get s.env 5 with | .int _ k => (2000000 - k).toNat | _ => 0) ⟨_, qx.qy [5, 0, 1], 0, rfl, by omega, by intros; omega⟩ ?_
  rintro s ⟨k, rfl, hk, hc⟩
  have hw : qm .i64 ((k : Int) + 1) = ((k + 1 : Nat) : Int) := by rw [wrap64 (by omega) (by omega)]; rfl
  have hla := qw ha
  have hlb := qw hb
  by_cases hlt : k < a.length
  · have hga := kj ha hlt
    have hgb := kj hb (i := k) (by omega)
    have hoa := ha a[k] (List.getElem_mem hlt)
    have hob := hb b[k] (List.getElem_mem (by omega))
    simp (maxSteps := 3000000) only [Jr, hw, qd2, Jg, hla, hlb, hga, hgb, qbs hoa, qbs hob, rd, List.getElem?_cons_zero, List.getElem?_cons_succ, qa, zZ, ↓qt, ↓reduceIte, reduceCtorEq, nA, nM, nS, nE, nL, nD]; try simp only [qa, zY]
    refine ⟨fun _ => ⟨⟨⟨by omega, by omega⟩, by omega⟩, by omega, ⟨⟨by omega, by omega⟩, by omega⟩, by omega, fun h2 => ⟨⟨_, rfl⟩, ?_⟩, fun h2 => ⟨_, qx.qy [5, 0, 1], ⟨k + 1, rfl, by omega, fun i hi => ?_⟩, ?_⟩⟩, fun h => absurd (by omega) h⟩
    · symm; rw [decide_eq_false_iff_not]; rintro rfl; exact h2 rfl
    · by_cases e : i = k
      · subst e; rw [List.getElem?_eq_getElem hlt, List.getElem?_eq_getElem (by omega), h2]
      · exact hc i (by omega)
    · simp only [zL, ↓reduceIte, reduceCtorEq, nE, nA]; omega
  · simp (maxSteps := 3000000) only [Jr, U2, hw, qa, zZ, ↓qt, ↓reduceIte, reduceCtorEq, nA, nM, nS, nE, nL, nD]; try simp only [qa, zY]
    refine ⟨fun h => absurd h (by omega), fun _ => ⟨⟨_, rfl⟩, ?_⟩⟩
    symm; rw [decide_eq_true_eq]
    refine List.ext_getElem? fun i => ?_
    by_cases e : i < a.length
    · exact hc i (by omega)
    · rw [List.getElem?_eq_none (by omega), List.getElem?_eq_none (by omega)]
def Wg : BE := fun hp xs => match xs with
  | [.slc b 0 k false 0, .slc b' 0 k' false 0] => match rd hp b, rd hp b' with
    | some L, some L' => match kv k L, kv k' L' with
      | some ts, some ts' => chk (k ≤ 2000000) (some (.bool (decide (ts = ts')), hp))
      | _, _ => none
    | _, _ => none
  | _ => none
theorem qnz : Am.Callee Try.prog 51 Wg := Callee.ro2 fun hp xs v hp' he => by
  unfold Wg at he
  split at he
  · rename_i b k b' k'
    split at he
    · rename_i L L' hL hL'
      split at he
      · rename_i ts ts' h1 h1'
        obtain ⟨h0, he⟩ := qk he
        simp only [Option.some.injEq, Prod.mk.injEq] at he
        obtain ⟨rfl, rfl⟩ := he
        obtain ⟨e1, e2, e3, e4⟩ := ju h1
        obtain ⟨f1, f2, f3, f4⟩ := ju h1'
        have g1 := qw e2
        have g2 := qw f2
        refine ⟨qq ts, qq ts', b, b', [.slc 0 0 ts.length false 0, .slc 1 0 ts'.length false 0], rfl, ⟨L, hL, by omega, by rw [g1, e1]; exact e3⟩, ⟨L', hL', by omega, by rw [g2, f1]; exact f3⟩, qb _, qb _, ?_, rfl, ?_, rfl, qml ts ts' e2 f2 (by omega)⟩
        · simp only [AV.zg, AV.ren, two, if_true, e1, f1, Nat.zero_add]
          rfl
        · exact ⟨by simp [AV.under], by simp [AV.under], trivial⟩
      · cases he
    · cases he
  · cases he
def B14 : zk := (B13.put 51 (Wg))
theorem qty : qu Try.prog B14 := (qoo.put (qnz))
theorem qd8 : B14 116 = some (ql Jg) := rfl
theorem qb9 : B14 51 = some (Wg) := rfl
def elemV (p c n : Int) (b k : Nat) : AV := .agg [.int .i64 p, .int .i64 c, .int .i64 n, .slc b 0 k false 0]
theorem qg9 (p c n p' c' n' : Int) (a b : List (Int × List Nat × Int)) (ha : okT a) (hb : okT b) (hal : a.length ≤ 2000000) :
    Am.Fn Try.prog 18 [elemV p c n 0 a.length, elemV p' c' n' 1 b.length] [.ro (qq a), .ro (qq b)] (fun v H' => v = .bool (decide ((p = p' ∧ c = c' ∧ n = n') ∧ a = b)) ∧ H' = [.ro (qq a), .ro (qq b)]) := by
  refine Am.Fn.xu (R := fun v => v = _) qty mixed qg6 (by simp) (Qg (qb _) (qb _)) ?_
  simp (maxSteps := 3000000) only [Kb, elemV, qd8, qb9, Jg, Wg, z7 ha, z7 hb, rd, List.getElem?_cons_zero, List.getElem?_cons_succ, qa, zZ, ↓qt, ↓reduceIte, reduceCtorEq, nA, nM, nS, nE, nL, nD]; try simp only [qa, zY]
  have hf : ¬((p = p' ∧ c = c' ∧ n = n') ∧ a = b) → false = decide ((p = p' ∧ c = c' ∧ n = n') ∧ a = b) := fun h => by
    symm; rw [decide_eq_false_iff_not]; exact h
  refine ⟨fun h => ⟨⟨_, rfl⟩, hf fun e => h e.1.1⟩, fun h => ⟨fun h2 => ⟨⟨_, rfl⟩, hf fun e => h2 e.1.2.1⟩, fun h2 => ⟨fun h3 => ⟨⟨_, rfl⟩, hf fun e => h3 e.1.2.2⟩, fun h3 => ⟨hal, fun h4 => ⟨⟨_, rfl⟩, hf fun e => h4 e.2⟩, fun h4 => ⟨⟨_, rfl⟩, ?_⟩⟩⟩⟩⟩
  symm; rw [decide_eq_true_eq]; exact ⟨⟨h, h2, h3⟩, h4⟩
def uf : BE := fun hp xs => match xs with
  | [.agg [.int .i64 p, .int .i64 c, .int .i64 n, .slc b 0 k false 0], .agg [.int .i64 p', .int .i64 c', .int .i64 n', .slc b' 0 k' false 0]] => match rd hp b, rd hp b' with
    | some L, some L' => match kv k L, kv k' L' with
      | some ts, some ts' => chk (k ≤ 2000000) (some (.bool (decide ((p = p' ∧ c = c' ∧ n = n') ∧ ts = ts')), hp))
      | _, _ => none
    | _, _ => none
  | _ => none
theorem qhj : Am.Callee Try.prog 18 uf := Callee.ro2 fun hp xs v hp' he => by
  unfold uf at he
  split at he
  · rename_i p c n b k p' c' n' b' k'
    split at he
    · rename_i L L' hL hL'
      split at he
      · rename_i ts ts' h1 h1'
        obtain ⟨h0, he⟩ := qk he
        simp only [Option.some.injEq, Prod.mk.injEq] at he
        obtain ⟨rfl, rfl⟩ := he
        obtain ⟨e1, e2, e3, e4⟩ := ju h1
        obtain ⟨f1, f2, f3, f4⟩ := ju h1'
        have g1 := qw e2
        have g2 := qw f2
        refine ⟨qq ts, qq ts', b, b', [elemV p c n 0 ts.length, elemV p' c' n' 1 ts'.length], rfl, ⟨L, hL, by omega, by rw [g1, e1]; exact e3⟩, ⟨L', hL', by omega, by rw [g2, f1]; exact f3⟩, qb _, qb _, ?_, rfl, ?_, rfl, qg9 p c n p' c' n' ts ts' e2 f2 (by omega)⟩
        · simp only [elemV, AV.zg, AV.ren, two, if_true, e1, f1, Nat.zero_add]
          rfl
        · exact ⟨⟨trivial, trivial, trivial, by simp [AV.under], trivial⟩, ⟨trivial, trivial, trivial, by simp [AV.under], trivial⟩, trivial⟩
      · cases he
    · cases he
  · cases he
def B15 : zk := (B14.put 18 (uf))
theorem K9 : qu Try.prog B15 := (qty.put (qhj))
def Zs : AC := .seq (.seq (.region [oM 21 6,oK 22 .lss 21 16]) (.cond 22 .skip (.exit 2))) (.seq (.block 3 (.seq (.region [oM 25 0,oM 26 5,oM 27 6,oM 28 1,o0 29 (.conv .u8 (.t 28)),oX 30 18 25 26,oF 31 0 30,oF 32 1 31,o0 33 (.xd 16 1 (.t 32) (.t 27)),oT 33 29]) (.region [oM 34 1,oK 35 .add 34 1,oM 1 35]))) (.region [oM 23 6,oK 24 .add 23 1,oM 6 24]))
def W7 : AC := .seq (.region [oM 36 0,oM 37 5,oM 38 1,oX 39 18 36 37,oF 40 17 39,oT 40 38]) (.region [oM 41 1,oK 42 .add 41 1,oM 1 42])
def Wa : AC := .region [oM 11 5,oK 12 .add 11 1,oM 5 12]
def Zu : AC := .seq (.seq (.region [oM 7 5,oM 8 0,o0 9 (.len .slc (.t 8)),oP 10 .lss 7 9]) (.cond 10 .skip (.exit 0))) (.seq (.block 1 (.seq (.region [oM 13 0,oM 14 5,oM 15 1,oX 16 18 13 14,oF 17 0 16,oF 18 0 17,oT 18 15]) (.seq (.region [oM 19 1,oK 20 .add 19 1,oM 1 20]) (.seq (.seq (.region [oI 6 0]) (.block 2 (.loop Zs))) W7)))) Wa)
def Wh : AC := .seq (.region [oM 43 1,oM 4 43]) .ret
def G6 : AC := .seq (.region [oI 4 0]) (.seq (.seq (.region [oI 5 0]) (.block 0 (.loop Zu))) Wh)
theorem qg0 : zl Try.prog 64 = some ⟨44, G6, [.slot 4]⟩ := by kernel_rfl
def Ul : AC := .seq (.region [o0 2 (.box (.t 0)),oI 4 0]) (.seq (.region [oF 5 3 2,oL 6 5,oM 7 1,oC 8 64 [.t 6,.t 7],oM 1 8]) (.seq (.region [oM 9 1,oM 4 9]) .ret))
theorem qd5 : zl Try.prog 30 = some ⟨10, Ul, [.slot 4]⟩ := by kernel_rfl
def Zm : AC := .seq (.seq (.region [oM 23 6,oK 24 .lss 23 16]) (.cond 24 .skip (.exit 2))) (.seq (.block 3 (.seq (.seq (.region [oM 27 0,oM 28 5,oM 29 6,oX 30 18 27 28,oF 31 0 30,oF 32 1 31,o0 33 (.xd 16 1 (.t 32) (.t 29)),oL 34 33,oM 35 1,o0 36 (.conv .u8 (.t 35)),oP 37 .neq 34 36]) (.cond 37 (.seq (.region [oI 4 (-1)]) .ret) .skip)) (.region [oM 38 1,oK 39 .add 38 1,oM 1 39]))) (.region [oM 25 6,oK 26 .add 25 1,oM 6 26]))
def We : AC := .seq (.seq (.region [oM 40 0,oM 41 5,oX 42 18 40 41,oF 43 17 42,oL 44 43,oM 45 1,oP 46 .neq 44 45]) (.cond 46 (.seq (.region [oI 4 (-1)]) .ret) .skip)) (.region [oM 47 1,oK 48 .add 47 1,oM 1 48])
def Wx : AC := .region [oM 11 5,oK 12 .add 11 1,oM 5 12]
def Zt : AC := .seq (.seq (.region [oM 7 5,oM 8 0,o0 9 (.len .slc (.t 8)),oP 10 .lss 7 9]) (.cond 10 .skip (.exit 0))) (.seq (.block 1 (.seq (.seq (.region [oM 13 0,oM 14 5,oX 15 18 13 14,oF 16 0 15,oF 17 0 16,oL 18 17,oM 19 1,oP 20 .neq 18 19]) (.cond 20 (.seq (.region [oI 4 (-1)]) .ret) .skip)) (.seq (.region [oM 21 1,oK 22 .add 21 1,oM 1 22]) (.seq (.seq (.region [oI 6 0]) (.block 2 (.loop Zm))) We)))) Wx)
def Ws : AC := .seq (.region [oM 49 1,oM 4 49]) .ret
def G5 : AC := .seq (.region [oI 4 0]) (.seq (.seq (.region [oI 5 0]) (.block 0 (.loop Zt))) Ws)
theorem qhb : zl Try.prog 65 = some ⟨50, G5, [.slot 4]⟩ := by kernel_rfl
def Uf : AC := .seq (.region [o0 2 (.box (.t 0)),oI 4 0]) (.seq (.region [oF 5 3 2,oL 6 5,oM 7 1,oC 8 65 [.t 6,.t 7],oM 1 8]) (.seq (.seq (.region [oM 9 1,oK 10 .lss 9 0]) (.cond 10 (.seq (.region [oI 4 (-1)]) .ret) .skip)) (.seq (.region [oM 11 1,oM 4 11]) .ret)))
theorem qd6 : zl Try.prog 31 = some ⟨12, Uf, [.slot 4]⟩ := by kernel_rfl
def qao (k : Nat) : List Nat := (List.range 16).map fun j => (k + j) % 256
def qgi (k : Nat) : Int × List Nat × Int := (((k : Nat) : Int), qao (k + 1), ((k + 17 : Nat) : Int))
def marks (n k : Nat) : List (Int × List Nat × Int) := (List.range n).map fun i => qgi (k + 18 * i)
theorem qfx (k : Nat) : okD (qao k) := ⟨by simp [qao], fun x hx => by
  simp only [qao, List.mem_map] at hx
  obtain ⟨j, _, rfl⟩ := hx
  exact Nat.mod_lt _ (by decide)⟩
theorem Wq (n k : Nat) : okT (marks n k) := fun t ht => by
  simp only [marks, List.mem_map] at ht
  obtain ⟨j, _, rfl⟩ := ht
  exact qfx _
theorem zq (n k : Nat) : (marks n k).length = n := by simp [marks]
theorem Gm {n k i : Nat} (h : i < n) : (marks n k)[i]'(by rw [zq]; exact h) = qgi (k + 18 * i) := by simp [marks]
theorem qrt {k j : Nat} (h : j < 16) : (qao k).getD j 0 = (k + j) % 256 := by simp [qao, List.getD_eq_getElem?_getD, h]
theorem qiw {x : Nat} : qm .u8 (x : Int) = ((x % 256 : Nat) : Int) := by
  simp only [qm, IntKind.wrap, IntKind.signed, IntKind.bits]
  simp
theorem qeq {ts : List (Int × List Nat × Int)} {i j : Nat} {v : AV} {t' : Int × List Nat × Int} (h : okT ts) (hi : i < ts.length) (hj : j < 18) (hv : (trm ts[i]).set j v = trm t') : (qq ts).set (i * 18 + j) v = qq (ts.set i t') := by
  induction ts generalizing i with
  | nil => simp at hi
  | cons t ts ih =>
    have h1 := z8 (h t (by simp))
    cases i with
    | zero =>
      simp only [List.getElem_cons_zero] at hv
      simp only [qq, List.flatMap_cons, Nat.zero_mul, Nat.zero_add, List.set_cons_zero]
      rw [List.set_append_left _ _ (by omega), hv]
    | succ i =>
      simp only [List.getElem_cons_succ] at hv
      have h2 := ih (fun u hu => h u (List.mem_cons_of_mem _ hu)) (by simpa using hi) hv
      simp only [qq, List.flatMap_cons, List.set_cons_succ] at h2 ⊢
      rw [List.set_append_right _ _ (by omega), h1, show (i + 1) * 18 + j - 18 = i * 18 + j from by omega, h2]
theorem qvm {t : Int × List Nat × Int} {x : Int} : (trm t).set 0 (.int .i64 x) = trm (x, t.2) := rfl
theorem qtz {t : Int × List Nat × Int} {j x : Nat} (h : okD t.2.1) (hj : j < 16) : (trm t).set (1 + j) (.int .u8 (x : Int)) = trm (t.1, t.2.1.set j x, t.2.2) := by
  simp only [trm]
  rw [List.set_append_left _ _ (by rw [qf, h.1]; omega), qav]
theorem qsb {t : Int × List Nat × Int} {x : Int} (h : okD t.2.1) : (trm t).set 17 (.int .i64 x) = trm (t.1, t.2.1, x) := by
  simp only [trm]
  rw [List.set_append_right _ _ (by rw [qf, h.1]; omega), qf, h.1]; rfl
def part (k : Nat) (m : List Nat) (j : Nat) : List Nat := (List.range 16).map fun t => if t < j then (k + t) % 256 else m.getD t 0
theorem qsq {k : Nat} {m : List Nat} (h : m.length = 16) : part k m 0 = m := by
  refine qjx (by simp [part]) h fun i hi => ?_
  simp [part, List.getD_eq_getElem?_getD, hi]
theorem qxe {k : Nat} {m : List Nat} : part k m 16 = qao k := by
  simp only [part, qao]
  refine List.map_congr_left fun t ht => ?_
  rw [if_pos (List.mem_range.1 ht)]
theorem qta {k j : Nat} {m : List Nat} (hj : j < 16) : (part k m j).set j ((k + j) % 256) = part k m (j + 1) := by
  refine qjx (by simp [part]) (by simp [part]) fun i hi => ?_
  rw [kh]
  have hl : (part k m j).length = 16 := by simp [part]
  by_cases e : j = i
  · subst e
    rw [if_pos ⟨rfl, by omega⟩]
    simp [part, List.getD_eq_getElem?_getD, hi]
  · rw [if_neg (fun h => e h.1)]
    simp only [part, List.getD_eq_getElem?_getD, List.getElem?_map, List.getElem?_range hi, Option.map_some, Option.getD_some]
    by_cases h1 : i < j
    · rw [if_pos h1, if_pos (by omega)]
    · rw [if_neg h1, if_neg (by omega)]
theorem qf5 {k j : Nat} {m : List Nat} (h : okD m) : okD (part k m j) := ⟨by simp [part], fun x hx => by
  simp only [part, List.mem_map] at hx
  obtain ⟨t, _, rfl⟩ := hx
  split
  · exact Nat.mod_lt _ (by decide)
  · exact h.get t⟩
theorem qb5 {s : Nat} {l : List AV} (h : AV.zh l = true) : ∀ (j : Nat) (o : AO), [AO.vec s l][j]? = some o → o.under [AO.vec s l].length := by
  intro j o e
  cases j with
  | zero => simp only [List.getElem?_cons_zero, Option.some.injEq] at e; subst e; exact qi _ _ h
  | succ j => simp at e
theorem qht (ts : List (Int × List Nat × Int)) (k : Nat) (ht : okT ts) (hk : k ≤ 100000000) (hl : ts.length ≤ 2000000) :
    Am.Fn Try.prog 64 [.slc 0 0 ts.length false 0, .int .i64 k] [.vec 18 (qq ts)] (fun v H' => v = .int .i64 ((k + 18 * ts.length : Nat) : Int) ∧ H' = [.vec 18 (qq (marks ts.length k))]) := by
  refine Am.Fn.ofB K9 mixed qg0 (by simp) (qb5 (qb _)) ?_
  simp (maxSteps := 3000000) only [G6, qa, zZ, ↓qt, ↓reduceIte, reduceCtorEq, nA, nM, nS, nE, nL, nD]; try simp only [qa, zY]
  refine WA.jh K9 (fun s => ∃ i : Nat, ∃ us, s = ⟨[(5, .int .i64 i), (1, .int .i64 ((k + 18 * i : Nat) : Int)), (0, .slc 0 0 ts.length false 0)], [.vec 18 (qq us)]⟩ ∧ i ≤ ts.length ∧ us = marks i k ++ ts.drop i)
    (fun s => match get s.env 5 with | .int _ x => ts.length - x.toNat | _ => 0) ⟨_, qx.qy [5, 1, 0], 0, ts, rfl, by omega, by simp [marks]⟩ ?_
  rintro s ⟨i, us, rfl, hi, hus⟩
  have hul : us.length = ts.length := by rw [hus, List.length_append, zq, List.length_drop]; omega
  have huo : okT us := by
    rw [hus]; intro t h
    rcases List.mem_append.1 h with h | h
    · exact Wq _ _ t h
    · exact ht t (List.mem_of_mem_drop h)
  have hutl := qw huo
  have hw : qm .i64 ((i : Int) + 1) = ((i + 1 : Nat) : Int) := by rw [wrap64 (by omega) (by omega)]; rfl
  have hw1 : qm .i64 (((k + 18 * i : Nat) : Int) + 1) = ((k + 18 * i + 1 : Nat) : Int) := by rw [wrap64 (by omega) (by omega)]; rfl
  by_cases hlt : i < ts.length
  · have h0 : (qq us).set (i * 18) (.int .i64 ((k + 18 * i : Nat) : Int)) = qq (us.set i (((k + 18 * i : Nat) : Int), us[i].2)) := by
      have := qeq (j := 0) huo (by omega) (by decide) (qvm (t := us[i]) (x := ((k + 18 * i : Nat) : Int)))
      exact this
    simp (maxSteps := 3000000) only [Zu, hw, hw1, hutl, h0, rd, wrt, wrl, AO.Wn, List.getElem?_cons_zero, List.set_cons_zero, qa, zZ, ↓qt, ↓reduceIte, reduceCtorEq, nA, nM, nS, nE, nL, nD]; try simp only [qa, zY]
    refine ⟨fun _ => ⟨⟨⟨by omega, by omega⟩, by omega⟩, ⟨by omega, rfl⟩, ?_⟩, fun h => absurd (by omega) h⟩
    have hlu : i < us.length := by omega
    generalize hm : us[i].2.1 = m at *
    generalize hf : us[i].2.2 = f at *
    have hmo : okD m := by rw [← hm]; exact huo _ (List.getElem_mem hlu)
    have huf : (us.set i (((k + 18 * i : Nat) : Int), us[i].2)) = us.set i (((k + 18 * i : Nat) : Int), m, f) := by rw [← hm, ← hf]
    rw [huf]
    have hV : ∀ x : Int × List Nat × Int, okD x.2.1 → okT (us.set i x) := fun x hx t h => by
      rcases List.mem_or_eq_of_mem_set h with h | h
      · exact huo t h
      · rw [h]; exact hx
    refine WA.jh K9 (fun s => ∃ j : Nat, s = ⟨[(6, .int .i64 j), (5, .int .i64 i), (1, .int .i64 ((k + 18 * i + 1 + j : Nat) : Int)), (0, .slc 0 0 ts.length false 0)], [.vec 18 (qq (us.set i (((k + 18 * i : Nat) : Int), part (k + 18 * i + 1) m j, f)))]⟩ ∧ j ≤ 16)
      (fun s => match get s.env 6 with | .int _ k => (100 - k).toNat | _ => 0) ⟨_, qx.qy [6, 5, 1, 0], 0, ?_, by omega⟩ ?_
    · simp only [qsq hmo.1, zL, ↓reduceIte, reduceCtorEq, nE, nA]
      rfl
    rintro s ⟨j, rfl, hj⟩
    have hwj : qm .i64 ((j : Int) + 1) = ((j + 1 : Nat) : Int) := by rw [wrap64 (by omega) (by omega)]; rfl
    have hwq : qm .i64 (((k + 18 * i + 1 + j : Nat) : Int) + 1) = ((k + 18 * i + 1 + j + 1 : Nat) : Int) := by rw [wrap64 (by omega) (by omega)]; rfl
    have hVo := hV (((k + 18 * i : Nat) : Int), part (k + 18 * i + 1) m j, f) (qf5 hmo)
    have hVl := qw hVo
    rw [List.length_set] at hVl
    by_cases hj16 : j < 16
    · have hst : (qq (us.set i (((k + 18 * i : Nat) : Int), part (k + 18 * i + 1) m j, f))).set (i * 18 + 1 + j) (.int .u8 (((k + 18 * i + 1 + j) % 256 : Nat) : Int)) = qq (us.set i (((k + 18 * i : Nat) : Int), part (k + 18 * i + 1) m (j + 1), f)) := by
        have h1 := qeq (i := i) (j := 1 + j) (v := .int .u8 (((k + 18 * i + 1 + j) % 256 : Nat) : Int)) (t' := (((k + 18 * i : Nat) : Int), (part (k + 18 * i + 1) m j).set j ((k + 18 * i + 1 + j) % 256), f)) hVo (by rw [List.length_set]; omega) (by omega) (by
          rw [List.getElem_set_self]; exact qtz (qf5 hmo) hj16)
        rw [List.set_set, qta hj16] at h1
        rw [show i * 18 + 1 + j = i * 18 + (1 + j) from by omega]; exact h1
      simp (maxSteps := 3000000) only [Zs, hwj, hwq, hVl, qiw, hst, rd, wrt, wrl, AO.Wn, List.getElem?_cons_zero, List.set_cons_zero, qa, zZ, ↓qt, ↓reduceIte, reduceCtorEq, nA, nM, nS, nE, nL, nD]; try simp only [qa, zY]
      refine ⟨fun _ => ⟨⟨⟨by omega, by omega⟩, by omega⟩, ⟨by omega, by omega⟩, ⟨by omega, rfl⟩, _, qx.qy [6, 5, 1, 0], ⟨j + 1, ?_, by omega⟩, ?_⟩, fun h => absurd (by omega) h⟩
      · simp only [zL, ↓reduceIte, reduceCtorEq, nE, nA]
        rfl
      · simp only [zL, ↓reduceIte, reduceCtorEq, nE, nA]; omega
    · have hj' : j = 16 := by omega
      subst hj'
      have hst : (qq (us.set i (((k + 18 * i : Nat) : Int), part (k + 18 * i + 1) m 16, f))).set (i * 18 + 17) (.int .i64 ((k + 18 * i + 1 + 16 : Nat) : Int)) = qq (us.set i (qgi (k + 18 * i))) := by
        have h1 := qeq (i := i) (j := 17) (v := .int .i64 ((k + 18 * i + 1 + 16 : Nat) : Int)) (t' := (((k + 18 * i : Nat) : Int), part (k + 18 * i + 1) m 16, ((k + 18 * i + 1 + 16 : Nat) : Int))) hVo (by rw [List.length_set]; omega) (by omega) (by
          rw [List.getElem_set_self]; exact qsb (qf5 hmo))
        rw [List.set_set, qxe] at h1
        exact h1
      simp (maxSteps := 3000000) only [Zs, W7, Wa, hw, hwj, hwq, hVl, hst, rd, wrt, wrl, AO.Wn, List.getElem?_cons_zero, List.set_cons_zero, qa, zZ, ↓qt, ↓reduceIte, reduceCtorEq, nA, nM, nS, nE, nL, nD]; try simp only [qa, zY]
      refine ⟨fun h => absurd h (by omega), fun _ => ⟨⟨⟨by omega, by omega⟩, by omega⟩, ⟨by omega, rfl⟩, _, qx.qy [5, 1, 0], ⟨i + 1, us.set i (qgi (k + 18 * i)), ?_, by omega, ?_⟩, ?_⟩⟩
      · simp only [zL, ↓reduceIte, reduceCtorEq, nE, nA]
        rw [show k + 18 * i + 1 + 16 + 1 = k + 18 * (i + 1) from by omega]
      · rw [hus]
        refine List.ext_getElem (by simp [zq]; omega) fun x hx1 hx2 => ?_
        simp only [List.getElem_set]
        by_cases e : i = x
        · subst e
          rw [if_pos rfl, List.getElem_append_left (by rw [zq]; omega), Gm (by omega)]
        · rw [if_neg e]
          by_cases h2 : x < i
          · rw [List.getElem_append_left (by rw [zq]; omega), List.getElem_append_left (by rw [zq]; omega), Gm (by omega), Gm (by omega)]
          · rw [List.getElem_append_right (by rw [zq]; omega), List.getElem_append_right (by rw [zq]; omega)]
            simp only [zq, List.getElem_drop]
            congr 1; omega
      · simp only [Int.toNat_natCast, zL, ↓reduceIte, reduceCtorEq, nE, nA]; omega
  · have hi' : i = ts.length := by omega
    subst hi'
    simp (maxSteps := 3000000) only [Zu, Wh, hw, hw1, rd, wrt, wrl, AO.Wn, List.getElem?_cons_zero, List.set_cons_zero, qa, zZ, ↓qt, ↓reduceIte, reduceCtorEq, nA, nM, nS, nE, nL, nD]; try simp only [qa, zY]
    refine ⟨fun h => absurd h (by omega), fun _ => ?_⟩
    refine Ret.xf [0] ⟨⟨Nat.le_refl 1, rfl, by decide⟩, ?_⟩ (rs := [.int .i64 ((k + 18 * ts.length : Nat) : Int)]) rfl rfl (by simp [zt]) ?_ ⟨?_, ?_⟩
    · simp only [qd _ _ (qb _), zK, ↓reduceIte, reduceCtorEq, nE, nB, nA]
    · intro j l; cases j <;> simp [q7, AO.ren]
    · simp only [zt]
      simp only [zL, ↓reduceIte, reduceCtorEq, nE, nA]
    · simp only [qc _ _ (qb _), zL, ↓reduceIte, reduceCtorEq, nE, nA]
      rw [hus, List.drop_length, List.append_nil]
theorem qhh (n k : Nat) (hk : k ≤ 100000000) (hl : n ≤ 2000000) :
    Am.Fn Try.prog 65 [.slc 0 0 n false 0, .int .i64 k] [.ro (qq (marks n k))] (fun v H' => v = .int .i64 ((k + 18 * n : Nat) : Int) ∧ H' = [.ro (qq (marks n k))]) := by
  refine Am.Fn.xu (R := fun v => v = _) K9 mixed qhb (by simp) (vh (qb _)) ?_
  simp (maxSteps := 3000000) only [G5, qa, zZ, ↓qt, ↓reduceIte, reduceCtorEq, nA, nM, nS, nE, nL, nD]; try simp only [qa, zY]
  refine WA.jh K9 (fun s => ∃ i : Nat, s = ⟨[(5, .int .i64 i), (1, .int .i64 ((k + 18 * i : Nat) : Int)), (0, .slc 0 0 n false 0)], [.ro (qq (marks n k))]⟩ ∧ i ≤ n)
    (fun s => match get s.env 5 with | .int _ x => n - x.toNat | _ => 0) ⟨_, qx.qy [5, 1, 0], 0, rfl, by omega⟩ ?_
  rintro s ⟨i, rfl, hi⟩
  have hml := qw (Wq n k)
  rw [zq] at hml
  have hw : qm .i64 ((i : Int) + 1) = ((i + 1 : Nat) : Int) := by rw [wrap64 (by omega) (by omega)]; rfl
  have hw1 : qm .i64 (((k + 18 * i : Nat) : Int) + 1) = ((k + 18 * i + 1 : Nat) : Int) := by rw [wrap64 (by omega) (by omega)]; rfl
  by_cases hlt : i < n
  · have hcell : ∀ j, j < 18 → (qq (marks n k))[i * 18 + j]? = (trm (qgi (k + 18 * i)))[j]? := fun j hj => by
      have h1 := kj (Wq n k) (i := i) (by rw [zq]; exact hlt)
      rw [Gm hlt] at h1
      rw [← h1, List.getElem?_take_of_lt hj, List.getElem?_drop]
    have hc0 : (qq (marks n k))[i * 18]? = some (.int .i64 ((k + 18 * i : Nat) : Int)) := hcell 0 (by decide)
    simp (maxSteps := 3000000) only [Zt, hw, hw1, hml, hc0, rd, List.getElem?_cons_zero, qa, zZ, ↓qt, ↓reduceIte, reduceCtorEq, nA, nM, nS, nE, nL, nD]; try simp only [qa, zY]
    refine ⟨fun _ => ⟨⟨⟨by omega, by omega⟩, by omega⟩, ?_⟩, fun h => absurd (by omega) h⟩
    refine WA.jh K9 (fun s => ∃ j : Nat, s = ⟨[(6, .int .i64 j), (5, .int .i64 i), (1, .int .i64 ((k + 18 * i + 1 + j : Nat) : Int)), (0, .slc 0 0 n false 0)], [.ro (qq (marks n k))]⟩ ∧ j ≤ 16)
      (fun s => match get s.env 6 with | .int _ k => (100 - k).toNat | _ => 0) ⟨_, qx.qy [6, 5, 1, 0], 0, rfl, by omega⟩ ?_
    rintro s ⟨j, rfl, hj⟩
    have hwj : qm .i64 ((j : Int) + 1) = ((j + 1 : Nat) : Int) := by rw [wrap64 (by omega) (by omega)]; rfl
    have hwq : qm .i64 (((k + 18 * i + 1 + j : Nat) : Int) + 1) = ((k + 18 * i + 1 + j + 1 : Nat) : Int) := by rw [wrap64 (by omega) (by omega)]; rfl
    by_cases hj16 : j < 16
    · have hcj : (qq (marks n k))[i * 18 + 1 + j]? = some (.int .u8 (((k + 18 * i + 1 + j) % 256 : Nat) : Int)) := by
        have hmk : (qgi (k + 18 * i)).2.1.length = 16 := (qfx _).1
        rw [show i * 18 + 1 + j = i * 18 + (1 + j) from by omega, hcell _ (by omega), trm, List.getElem?_append_left (by rw [qf, hmk]; omega)]
        rw [Vx (by rw [hmk]; exact hj16)]
        rw [show (qgi (k + 18 * i)).2.1 = qao (k + 18 * i + 1) from rfl, qrt hj16]
      simp (maxSteps := 3000000) only [Zm, hwj, hwq, hml, hcj, qiw, rd, List.getElem?_cons_zero, qa, zZ, ↓qt, ↓reduceIte, reduceCtorEq, nA, nM, nS, nE, nL, nD]; try simp only [qa, zY]
      refine ⟨fun _ => ⟨⟨⟨by omega, by omega⟩, by omega⟩, ⟨by omega, by omega⟩, _, qx.qy [6, 5, 1, 0], ⟨j + 1, ?_, by omega⟩, ?_⟩, fun h => absurd (by omega) h⟩
      · simp only [zL, ↓reduceIte, reduceCtorEq, nE, nA]
        rfl
      · simp only [zL, ↓reduceIte, reduceCtorEq, nE, nA]; omega
    · have hj' : j = 16 := by omega
      subst hj'
      have hcf : (qq (marks n k))[i * 18 + 17]? = some (.int .i64 ((k + 18 * i + 1 + 16 : Nat) : Int)) := by
        rw [hcell 17 (by decide), b9 (qfx _)]; rfl
      simp (maxSteps := 3000000) only [Zm, We, Wx, hw, hwj, hwq, hml, hcf, rd, List.getElem?_cons_zero, qa, zZ, ↓qt, ↓reduceIte, reduceCtorEq, nA, nM, nS, nE, nL, nD]; try simp only [qa, zY]
      refine ⟨fun h => absurd h (by omega), fun _ => ⟨⟨⟨by omega, by omega⟩, by omega⟩, _, qx.qy [5, 1, 0], ⟨i + 1, ?_, by omega⟩, ?_⟩⟩
      · simp only [zL, ↓reduceIte, reduceCtorEq, nE, nA]
        rw [show k + 18 * i + 1 + 16 + 1 = k + 18 * (i + 1) from by omega]
      · simp only [Int.toNat_natCast, zL, ↓reduceIte, reduceCtorEq, nE, nA]; omega
  · have hi' : i = n := by omega
    subst hi'
    simp (maxSteps := 3000000) only [Zt, Ws, hw, hw1, rd, List.getElem?_cons_zero, qa, zZ, ↓qt, ↓reduceIte, reduceCtorEq, nA, nM, nS, nE, nL, nD]; try simp only [qa, zY]
    exact ⟨fun h => absurd h (by omega), fun _ => ⟨_, rfl⟩⟩
def one (b : Nat) : Ren := fun j => if j = 0 then some (b, 0) else none
theorem Callee.wr1 {f : FuncId} {g : BE} (h : ∀ hp xs v hp', g hp xs = some (v, hp') → ∃ (sz : Nat) (l l' : List AV) (b : Nat) (ys : List AV), hp[b]? = some (.vec sz l) ∧ hp' = hp.set b (.vec sz l') ∧
    AV.zh l = true ∧ AV.zh l' = true ∧ xs = AV.zg (one b) ys ∧ xs.all jg = true ∧ AV.qp 1 ys ∧ v.zp = true ∧ Am.Fn Try.prog f ys [.vec sz l] fun v' H' => v' = v ∧ H' = [.vec sz l']) : Am.Callee Try.prog f g := by
  intro hp xs v hp' he
  obtain ⟨sz, l, l', b, ys, hb, rfl, h3, h3', h4, h5, h6, h7, h8⟩ := h hp xs v hp' he
  refine ⟨[.vec sz l], ys, _, one b, [(b, 0)], h8, h4, h5, ⟨fun j hj => ?_, rfl, fun j o c hj hc => ?_, fun j k bj bk oj ok hj hk hoj hok hw hl hjk => ?_⟩, ?_, h6, ?_⟩
  · match j, hj with
    | 0, _ => rfl
  · match j, hj, hc with
    | 0, hj, hc =>
      cases hj; cases hc
      exact ⟨rfl, by simp only [AO.ren, qc _ _ h3]; exact hb⟩
    | j + 1, hj, hc => simp at hj
  · match j, k, hoj, hok with
    | 0, 0, _, _ => rfl
    | 0, k + 1, _, hok => simp at hok
    | j + 1, _, hoj, _ => simp at hoj
  · intro j o hj
    match j, hj with
    | 0, hj => cases hj; exact qi _ _ h3
    | j + 1, hj => simp at hj
  · rintro v' H' ⟨rfl, rfl⟩
    refine ⟨Z1 _ _ h7, ?_⟩
    simp only [after, upd, AO.wr, if_true, AO.ren, qc _ _ h3', List.length_cons, List.length_nil, List.drop_succ_cons, List.drop_nil, List.map_nil, List.append_nil]
theorem Callee.ro1 {f : FuncId} {g : BE} (h : ∀ hp xs v hp', g hp xs = some (v, hp') → ∃ (l : List AV) (b : Nat) (ys : List AV), hp' = hp ∧ (∃ L, rd hp b = some L ∧ l.length ≤ L.length ∧ L.take l.length = l) ∧
    AV.zh l = true ∧ xs = AV.zg (one b) ys ∧ xs.all jg = true ∧ AV.qp 1 ys ∧ v.zp = true ∧ Am.Fn Try.prog f ys [.ro l] fun v' H' => v' = v ∧ H' = [.ro l]) : Am.Callee Try.prog f g := by
  intro hp xs v hp' he
  obtain ⟨l, b, ys, rfl, ⟨L, hL, h1, h2⟩, h3, h4, h5, h6, h7, h8⟩ := h hp xs v hp' he
  refine ⟨[.ro l], ys, _, one b, [(b, 0)], h8, h4, h5, ⟨fun j hj => ?_, rfl, fun j o c hj hb => ?_, fun j k bj bk oj ok hj hk hoj hok hw => ?_⟩, ?_, h6, ?_⟩
  · match j, hj with
    | 0, _ => rfl
  · match j, hj, hb with
    | 0, hj, hb =>
      cases hj; cases hb
      exact ⟨L, hL, by omega, by rw [List.drop_zero, qc _ _ h3]; exact h2⟩
    | j + 1, hj, hb => simp at hj
  · match j, hoj with
    | 0, hoj => cases hoj; cases hw
    | j + 1, hoj => simp at hoj
  · intro j o hj
    match j, hj with
    | 0, hj => cases hj; exact qi _ _ h3
    | j + 1, hj => simp at hj
  · rintro v' H' ⟨rfl, rfl⟩
    exact ⟨Z1 _ _ h7, by simp [after, upd, AO.wr]⟩
def Qi : BE := fun hp xs => match xs with
  | [.slc b 0 n false 0, .int .i64 k] => match hp[b]? with
    | some (.vec 18 l) => match kv n l with
      | some ts => chk (l.length = n * 18 ∧ 0 ≤ k ∧ k ≤ 100000000 ∧ n ≤ 2000000) (some (.int .i64 ((k.toNat + 18 * n : Nat) : Int), hp.set b (.vec 18 (qq (marks n k.toNat)))))
      | none => none
    | _ => none
  | _ => none
theorem qhv : Am.Callee Try.prog 64 Qi := Callee.wr1 fun hp xs v hp' he => by
  unfold Qi at he
  split at he
  · rename_i b n k
    split at he
    · rename_i l hb
      split at he
      · rename_i ts hts
        obtain ⟨h0, he⟩ := qk he
        simp only [Option.some.injEq, Prod.mk.injEq] at he
        obtain ⟨rfl, rfl⟩ := he
        obtain ⟨e1, e2, e3, e4⟩ := ju hts
        have hl : l = qq ts := by rw [← e3, List.take_of_length_le (by omega)]
        subst hl
        obtain ⟨k, rfl⟩ : ∃ j : Nat, k = j := ⟨k.toNat, by omega⟩
        rw [Int.toNat_natCast]
        refine ⟨18, qq ts, _, b, [.slc 0 0 ts.length false 0, .int .i64 k], hb, rfl, qb _, qb _, ?_, rfl, ⟨by simp [AV.under], trivial, trivial⟩, rfl, ?_⟩
        · simp only [AV.zg, AV.ren, one, if_true, e1, Nat.zero_add]
        · have := qht ts k e2 (by omega) (by omega)
          rw [e1] at this ⊢
          exact this
      · cases he
    · cases he
  · cases he
def Qd : BE := fun hp xs => match xs with
  | [.slc b 0 n false 0, .int .i64 k] => match rd hp b with
    | some L => match kv n L with
      | some ts => chk (ts = marks n k.toNat ∧ 0 ≤ k ∧ k ≤ 100000000 ∧ n ≤ 2000000) (some (.int .i64 ((k.toNat + 18 * n : Nat) : Int), hp))
      | none => none
    | _ => none
  | _ => none
theorem qhl : Am.Callee Try.prog 65 Qd := Callee.ro1 fun hp xs v hp' he => by
  unfold Qd at he
  split at he
  · rename_i b n k
    split at he
    · rename_i L hL
      split at he
      · rename_i ts hts
        obtain ⟨h0, he⟩ := qk he
        simp only [Option.some.injEq, Prod.mk.injEq] at he
        obtain ⟨rfl, rfl⟩ := he
        obtain ⟨e1, e2, e3, e4⟩ := ju hts
        obtain ⟨k, rfl⟩ : ∃ j : Nat, k = j := ⟨k.toNat, by omega⟩
        rw [Int.toNat_natCast] at h0 ⊢
        obtain ⟨rfl, h0⟩ := h0
        have g1 := qw e2
        refine ⟨qq (marks n k), b, [.slc 0 0 n false 0, .int .i64 k], rfl, ⟨L, hL, by rw [g1, zq]; omega, by rw [g1, zq]; exact e3⟩, qb _, ?_, rfl, ⟨by simp [AV.under], trivial, trivial⟩, rfl, qhh n k (by omega) (by omega)⟩
        simp only [AV.zg, AV.ren, one, if_true, Nat.zero_add]
      · cases he
    · cases he
  · cases he
def B16 : zk := ((B15.put 64 (Qi)).put 65 (Qd))
theorem qpt : qu Try.prog B16 := ((K9.put (qhv)).put (qhl))
theorem J5 : B16 64 = some (Qi) := rfl
theorem Jy : B16 65 = some (Qd) := rfl
theorem qdx (p c n : Int) (ts : List (Int × List Nat × Int)) (k : Nat) (ht : okT ts) (hk : k ≤ 100000000) (hl : ts.length ≤ 2000000) :
    Am.Fn Try.prog 30 [elemV p c n 0 ts.length, .int .i64 k] [.vec 18 (qq ts)] (fun v H' => v = .int .i64 ((k + 18 * ts.length : Nat) : Int) ∧ H' = [.vec 18 (qq (marks ts.length k))]) := by
  refine Am.Fn.ofB qpt mixed qd5 (by simp) (qb5 (qb _)) ?_
  have h1 := qw ht
  simp (maxSteps := 3000000) only [Ul, elemV, J5, Jy, Qd, Qi, z7 ht, h1, rd, List.getElem?_cons_zero, List.getElem?_cons_succ, qa, zZ, ↓qt, ↓reduceIte, reduceCtorEq, nA, nM, nS, nE, nL, nD]; try simp only [qa, zY]
  refine ⟨⟨by omega, by omega, hl⟩, ?_⟩
  refine Ret.xf [0] ⟨⟨Nat.le_refl 1, rfl, by decide⟩, ?_⟩ (rs := [.int .i64 ((k + 18 * ts.length : Nat) : Int)]) rfl rfl (by simp [zt]) ?_ ⟨?_, ?_⟩
  · simp only [qd _ _ (qb _), zK, ↓reduceIte, reduceCtorEq, nE, nB, nA]
  · intro j l; cases j <;> simp [q7, AO.ren]
  · simp only [zt]
    simp only [zL, ↓reduceIte, reduceCtorEq, nE, nA]
  · simp only [qc _ _ (qb _), zL, ↓reduceIte, reduceCtorEq, nE, nA]
theorem qdy (p c m : Int) (n k : Nat) (hk : k ≤ 100000000) (hl : n ≤ 2000000) :
    Am.Fn Try.prog 31 [elemV p c m 0 n, .int .i64 k] [.ro (qq (marks n k))] (fun v H' => v = .int .i64 ((k + 18 * n : Nat) : Int) ∧ H' = [.ro (qq (marks n k))]) := by
  refine Am.Fn.xu (R := fun v => v = _) qpt mixed qd6 (by simp) (vh (qb _)) ?_
  have h1 : kv n (qq (marks n k)) = some (marks n k) := by have := z7 (Wq n k); rwa [zq] at this
  simp (maxSteps := 3000000) only [Uf, elemV, J5, Jy, Qd, Qi, h1, rd, List.getElem?_cons_zero, List.getElem?_cons_succ, qa, zZ, ↓qt, ↓reduceIte, reduceCtorEq, nA, nM, nS, nE, nL, nD]; try simp only [qa, zY]
  exact ⟨⟨by omega, by omega, hl⟩, fun h => absurd h (by omega), fun _ => ⟨_, rfl⟩⟩
def vt : BE := fun hp xs => match xs with
  | [.agg [.int .i64 p, .int .i64 c, .int .i64 m, .slc b 0 n false 0], .int .i64 k] => match hp[b]? with
    | some (.vec 18 l) => match kv n l with
      | some ts => chk (l.length = n * 18 ∧ 0 ≤ k ∧ k ≤ 100000000 ∧ n ≤ 2000000) (some (.int .i64 ((k.toNat + 18 * n : Nat) : Int), hp.set b (.vec 18 (qq (marks n k.toNat)))))
      | none => none
    | _ => none
  | _ => none
theorem qd1 : Am.Callee Try.prog 30 vt := Callee.wr1 fun hp xs v hp' he => by
  unfold vt at he
  split at he
  · rename_i p c m b n k
    split at he
    · rename_i l hb
      split at he
      · rename_i ts hts
        obtain ⟨h0, he⟩ := qk he
        simp only [Option.some.injEq, Prod.mk.injEq] at he
        obtain ⟨rfl, rfl⟩ := he
        obtain ⟨e1, e2, e3, e4⟩ := ju hts
        have hl : l = qq ts := by rw [← e3, List.take_of_length_le (by omega)]
        subst hl
        obtain ⟨k, rfl⟩ : ∃ j : Nat, k = j := ⟨k.toNat, by omega⟩
        rw [Int.toNat_natCast]
        refine ⟨18, qq ts, _, b, [elemV p c m 0 ts.length, .int .i64 k], hb, rfl, qb _, qb _, ?_, rfl, ⟨⟨trivial, trivial, trivial, by simp [AV.under], trivial⟩, trivial, trivial⟩, rfl, ?_⟩
        · simp only [elemV, AV.zg, AV.ren, one, if_true, e1, Nat.zero_add]
        · have := qdx p c m ts k e2 (by omega) (by omega)
          rw [e1] at this ⊢
          exact this
      · cases he
    · cases he
  · cases he
def vu : BE := fun hp xs => match xs with
  | [.agg [.int .i64 p, .int .i64 c, .int .i64 m, .slc b 0 n false 0], .int .i64 k] => match rd hp b with
    | some L => match kv n L with
      | some ts => chk (ts = marks n k.toNat ∧ 0 ≤ k ∧ k ≤ 100000000 ∧ n ≤ 2000000) (some (.int .i64 ((k.toNat + 18 * n : Nat) : Int), hp))
      | none => none
    | _ => none
  | _ => none
theorem qd0 : Am.Callee Try.prog 31 vu := Callee.ro1 fun hp xs v hp' he => by
  unfold vu at he
  split at he
  · rename_i p c m b n k
    split at he
    · rename_i L hL
      split at he
      · rename_i ts hts
        obtain ⟨h0, he⟩ := qk he
        simp only [Option.some.injEq, Prod.mk.injEq] at he
        obtain ⟨rfl, rfl⟩ := he
        obtain ⟨e1, e2, e3, e4⟩ := ju hts
        obtain ⟨k, rfl⟩ : ∃ j : Nat, k = j := ⟨k.toNat, by omega⟩
        rw [Int.toNat_natCast] at h0 ⊢
        obtain ⟨rfl, h0⟩ := h0
        have g1 := qw e2
        refine ⟨qq (marks n k), b, [elemV p c m 0 n, .int .i64 k], rfl, ⟨L, hL, by rw [g1, zq]; omega, by rw [g1, zq]; exact e3⟩, qb _, ?_, rfl, ⟨⟨trivial, trivial, trivial, by simp [AV.under], trivial⟩, trivial, trivial⟩, rfl, qdy p c m n k (by omega) (by omega)⟩
        simp only [elemV, AV.zg, AV.ren, one, if_true, Nat.zero_add]
      · cases he
    · cases he
  · cases he
def B17 : zk := ((B16.put 30 (vt)).put 31 (vu))
theorem q0r : qu Try.prog B17 := ((qpt.put (qd1)).put (qd0))
def B18 : zk := B17
theorem q0l : qu Try.prog B18 := q0r
def B19 : zk := B18
theorem q0e : qu Try.prog B19 := q0l
def B20 : zk := B19
theorem q0m : qu Try.prog B20 := q0e
def B21 : zk := B20
theorem qz2 : qu Try.prog B21 := q0m
def B22 : zk := B21
theorem qn8 : qu Try.prog B22 := qz2
theorem qd4 : B22 70 = some (ql j3) := rfl
theorem qbx : B22 150 = some (ql uq) := rfl
def j1 : AC := .seq (.seq (.region [oM 25 9,oM 26 10,oP 27 .lss 25 26]) (.cond 27 .skip (.exit 0))) (.block 1 (.seq (.region [oM 28 9,oM 29 10,oP 30 .add 28 29,oK 31 .quo 30 2,oM 12 31]) (.seq (.region [oM 32 1,oM 33 12,oX 34 18 32 33,oF 35 0 34,oN 36 17 35,oC 37 150 [.t 36],oM 38 11,oP 39 .lss 37 38]) (.cond 39 (.region [oM 40 12,oK 41 .add 40 1,oM 9 41]) (.region [oM 42 12,oM 10 42])))))
def vr : AC := .seq (.seq (.region [oM 61 0,oM 62 1,oM 63 9,oX 64 18 62 63,oF 65 17 64,oL 66 65,oM 67 3,oP 68 .add 66 67,oC 69 70 [.t 61,.t 68],oM 14 69]) (.seq (.region [oM 70 14,oK 71 .neq 70 0]) (.cond 71 (.region [oM 72 13,oN 73 17 6,oM 74 14,o0 75 (.build [.int .i64 0,.int .u8 0,.int .u8 0,.int .u8 0,.int .u8 0,.int .u8 0,.int .u8 0,.int .u8 0,.int .u8 0,.int .u8 0,.int .u8 0,.int .u8 0,.int .u8 0,.int .u8 0,.int .u8 0,.int .u8 0,.int .u8 0,.int .i64 0] [(0,17,.t 73),(17,1,.t 74)]),o0 76 (.Qh 1 [.int .i64 0,.int .u8 0,.int .u8 0,.int .u8 0,.int .u8 0,.int .u8 0,.int .u8 0,.int .u8 0,.int .u8 0,.int .u8 0,.int .u8 0,.int .u8 0,.int .u8 0,.int .u8 0,.int .u8 0,.int .u8 0,.int .u8 0,.int .i64 0] [(0,18,.t 75)]),o0 77 (.append 18 32 (.t 72) (.t 76)),oM 13 77]) .skip))) (.seq (.region [oM 78 13,oM 79 1,oM 80 9,oK 81 .add 80 1,o0 82 (.qbd 18 (.t 79) (some (.t 81)) none),o0 83 (.append 18 32 (.t 78) (.t 82)),oM 8 83]) .ret)
def yf : AC := .cond 60 vr .skip
def yd : AC := .seq (.region [oM 84 13,oN 85 17 6,oM 86 3,o0 87 (.build [.int .i64 0,.int .u8 0,.int .u8 0,.int .u8 0,.int .u8 0,.int .u8 0,.int .u8 0,.int .u8 0,.int .u8 0,.int .u8 0,.int .u8 0,.int .u8 0,.int .u8 0,.int .u8 0,.int .u8 0,.int .u8 0,.int .u8 0,.int .i64 0] [(0,17,.t 85),(17,1,.t 86)]),o0 88 (.Qh 1 [.int .i64 0,.int .u8 0,.int .u8 0,.int .u8 0,.int .u8 0,.int .u8 0,.int .u8 0,.int .u8 0,.int .u8 0,.int .u8 0,.int .u8 0,.int .u8 0,.int .u8 0,.int .u8 0,.int .u8 0,.int .u8 0,.int .u8 0,.int .i64 0] [(0,18,.t 87)]),o0 89 (.append 18 32 (.t 84) (.t 88)),oM 13 89]) (.seq (.region [oM 90 13,oM 91 1,oM 92 9,o0 93 (.qbd 18 (.t 91) (some (.t 92)) none),o0 94 (.append 18 32 (.t 90) (.t 93)),oM 8 94]) .ret)
def ye : AC := .seq (.region [o0 43 (.Qh 0 [] []),oM 44 1,oM 45 9,o0 46 (.qbd 18 (.t 44) none (some (.t 45))),o0 47 (.append 18 32 (.t 43) (.t 46)),oM 13 47]) (.seq (.seq (.draw false [oM 48 9,oM 49 1,o0 50 (.len .slc (.t 49)),oP 51 .lss 48 50,oM 52 51,oG 53 52 true (.mov (.t 1)),oG 54 52 true (.mov (.t 9)),oG 55 52 true (.Jd 18 (.t 53) (.t 54)),oG 56 52 true (.G0 0 (.t 55)),oG 57 52 true (.Xs 17 (.t 56)),oG 58 52 true (.Xs 17 (.t 6)),oG 59 52 true (.eqs false [.int,.int,.int,.int,.int,.int,.int,.int,.int,.int,.int,.int,.int,.int,.int,.int,.int] (.t 57) (.t 58)),o0 60 (.pick (.t 52) (.t 59) (.c (.bool false)))]) yf) yd)
def Yv : AC := .seq (.region [o0 6 (.box (.t 2)),o0 8 (.mov (.c (.v (.slice none 0 0))))]) (.seq (.region [oM 15 0,oM 16 3,oC 17 70 [.t 15,.t 16],oM 3 17]) (.seq (.seq (.region [oM 18 3,oK 19 .eql 18 0]) (.cond 19 (.seq (.region [oM 20 1,oM 8 20]) .ret) .skip)) (.seq (.region [oM 21 1,o0 22 (.len .slc (.t 21)),oN 23 17 6,oC 24 150 [.t 23],oI 9 0,oM 10 22,oM 11 24]) (.seq (.block 0 (.loop j1)) ye))))
theorem qgh : zl Try.prog 100 = some ⟨95, Yv, [.slot 8]⟩ := by kernel_rfl
theorem wc : [AV.int .i64 0, .int .u8 0, .int .u8 0, .int .u8 0, .int .u8 0, .int .u8 0, .int .u8 0, .int .u8 0, .int .u8 0, .int .u8 0, .int .u8 0, .int .u8 0, .int .u8 0, .int .u8 0, .int .u8 0, .int .u8 0, .int .u8 0, .int .i64 0] = trm (0, List.replicate 16 0, 0) := rfl
theorem wh (t : Int × List Nat × Int) : (trm t).length = t.2.1.length + 2 := by simp [trm, qf]
theorem Q8 {t : Int × List Nat × Int} {n : Int} {m : List Nat} (h : t.2.1.length = 16) (h' : m.length = 16) : over (trm t) 0 (dia n m) = trm (n, m, t.2.2) := by
  simp only [over, trm, List.take_zero, List.nil_append, Nat.zero_add, qf, h']
  rw [List.drop_append, List.drop_of_length_le (by rw [qf, h]; exact Nat.le_refl _), qf, h]; rfl
theorem Zr {t : Int × List Nat × Int} {f : Int} (h : t.2.1.length = 16) : over (trm t) 17 [.int .i64 f] = trm (t.1, t.2.1, f) := by
  simp only [over, trm]
  rw [List.take_append_of_le_length (by rw [qf, h]; exact Nat.le_refl _), List.take_of_length_le (by rw [qf, h]; exact Nat.le_refl _), List.drop_of_length_le (by simp [qf, h]), List.append_nil]
theorem kd {t u : Int × List Nat × Int} (h : t.2.1.length = 16) (h' : u.2.1.length = 16) : over (trm t) 0 (trm u) = trm u := qai (by rw [wh, wh, h, h'])
theorem bx {t : Int × List Nat × Int} (h : t.2.1.length = 16) : List.take 18 (trm t) = trm t := by rw [List.take_of_length_le]; rw [wh, h]; exact Nat.le_refl _
theorem jo (t : Int × List Nat × Int) : (trm t).all AV.one = true := by simp [trm, j7, AV.one]
theorem qdn : ((0 : Nat) : Int) = 0 := rfl
theorem qrj : ((1 : Nat) : Int) = 1 := rfl
def qvr (p : Int) (n : Nat) (m : List Nat) (k : Int) (v : AV) (H' : List AO) : Prop := if k.emod p = 0 then v = .slc 0 0 0 true 0 ∧ H' = [.ro []] else v = .slc 1 0 1 false 0 ∧ H' = [.ro [], .vec 18 (qq [((n : Int), m, k.emod p)])]
theorem qkw (p : Int) (n : Nat) (m : List Nat) (k : Int) (hp : 0 < p ∧ p ≤ 1000000) (hn : n ≤ 8) (hm : okD m) :
    Am.Fn Try.prog 100 [.int .i64 p, .slc 0 0 0 true 0, .agg (dia n m), .int .i64 k] [.ro []] (qvr p n m k) := by
  refine Am.Fn.ofB qn8 mixed qgh (by simp) (vh rfl) ?_
  have hml := hm.1
  simp (maxSteps := 3000000) only [Yv, qd4, qbx, j3, uq, qxn hml, hml, qf, za hm, rd, List.getElem?_cons_zero, List.getElem?_cons_succ, qa, zZ, ↓qt, ↓reduceIte, reduceCtorEq, nA, nM, nS, nE, nL, nD]; try simp only [qa, zY]
  refine ⟨hp, fun h => ?_, fun h => ⟨⟨by omega, by omega⟩, ?_⟩⟩
  · refine Ret.xf [0] ⟨⟨Nat.le_refl 1, rfl, by decide⟩, ?_⟩ (rs := [.slc 0 0 0 true 0]) rfl (by rfl) (by simp [zt]) ?_ ?_
    · simp only [zK, ↓reduceIte, reduceCtorEq, nE, nB, nA]
    · intro j l; cases j <;> simp [q7, AO.ren]
    · unfold qvr
      rw [if_pos h]
      simp only [zt]
      simp only [zL, ↓reduceIte, reduceCtorEq, nE, nA]
      exact ⟨trivial, trivial⟩
  · refine WA.jh qn8 (fun s => s = ⟨[(11, .str (wk n m)), (10, .int .i64 0), (9, .int .i64 0), (6, .ptr 1 0), (0, .int .i64 p), (1, .slc 0 0 0 true 0), (3, .int .i64 (k.emod p))], [.ro [], .cells (dia n m)]⟩) (fun _ => 0) ⟨_, qx.qy [11, 10, 9, 6, 0, 1, 3], rfl⟩ ?_
    rintro s rfl
    have hdl : (dia (n : Int) m).length = 17 := by rw [qf, hml]
    have hz : (List.replicate 16 0 : List Nat).length = 16 := rfl
    have e1 : over (trm (0, List.replicate 16 0, 0)) 0 (dia (n : Int) m) = trm ((n : Int), m, 0) := Q8 (t := (0, List.replicate 16 0, 0)) hz hml
    have e2 : ∀ f : Int, over (trm ((n : Int), m, 0)) 17 [.int .i64 f] = trm ((n : Int), m, f) := fun f => Zr (t := ((n : Int), m, 0)) hml
    have e3 : ∀ f : Int, over (trm (0, List.replicate 16 0, 0)) 0 (trm ((n : Int), m, f)) = trm ((n : Int), m, f) := fun f => kd (t := (0, List.replicate 16 0, 0)) hz hml
    have e4 : ∀ f : Int, List.take 18 (trm ((n : Int), m, f)) = trm ((n : Int), m, f) := fun f => bx (t := ((n : Int), m, f)) hml
    simp (maxSteps := 3000000) only [j1, ye, u7, src, lim, bn, Option.map_some, Option.map_none, rd, List.getElem?_cons_zero, List.getElem?_cons_succ, List.set_cons_zero, List.set_cons_succ, qdn, qrj, Int.lt_irrefl, Int.le_refl, Nat.zero_mul, Int.toNat_zero, List.take_zero, List.drop_zero, List.all_nil, qa, zZ, ↓qt, ↓reduceIte, reduceCtorEq, nA, nM, nS, nE, nL, nD]; try simp only [qa, zY]
    simp (maxSteps := 3000000) only [yf, yd, wc, wh, e1, e2, e3, e4, jo, hml, hz, zb hml, qf, u7, src, lim, bn, Option.map_some, Option.map_none, rd, List.getElem?_cons_zero, List.getElem?_cons_succ, List.set_cons_zero, List.set_cons_succ, qdn, qrj, Int.lt_irrefl, Int.le_refl, Nat.zero_mul, Int.toNat_zero, List.take_zero, List.drop_zero, List.all_nil, qa, zZ, ↓qt, ↓reduceIte, reduceCtorEq, nA, nM, nS, nE, nL, nD]; try simp only [qa, zY]
    refine Ret.xf [0, 6] ⟨⟨by simp, rfl, by decide⟩, ?_⟩ (rs := [.slc 6 0 1 false 0]) rfl (by rfl) (by simp [zt]) ?_ ?_
    · simp only [qd _ _ (yz _), zK, ↓reduceIte, reduceCtorEq, nE, nB, nA]
    · intro j l; match j with
      | 0 => intro _; exact ⟨[], rfl⟩
      | 1 => simp [q7, AO.ren]
      | j + 2 => simp [q7]
    · unfold qvr
      rw [if_neg h]
      simp only [zt]
      simp only [qc _ _ (yz _), zL, ↓reduceIte, reduceCtorEq, nE, nA]
      exact ⟨trivial, by simp only [qq, List.flatMap_cons, List.flatMap_nil, List.append_nil]⟩
def qon : BE := fun hp xs => match xs with
  | [.int .i64 p, .slc b 0 0 true 0, .agg l, .int .i64 k] => match rd hp b, wv l with
    | some _, some (n, m) => chk ((0 < p ∧ p ≤ 1000000) ∧ 0 ≤ n ∧ n ≤ 8) (if k.emod p = 0 then some (.slc b 0 0 true 0, hp) else some (.slc hp.length 0 1 false 0, hp ++ [.vec 18 (qq [(n, m, k.emod p)])]))
    | _, _ => none
  | _ => none
theorem q0s : Am.Callee Try.prog 100 qon := by
  intro hp xs v hp' he
  unfold qon at he
  split at he
  · rename_i p b l k
    split at he
    · rename_i L n m hL hd
      obtain ⟨h0, he⟩ := qk he
      obtain ⟨rfl, hm⟩ := z6 hd
      obtain ⟨n, rfl⟩ : ∃ j : Nat, n = j := ⟨n.toNat, by omega⟩
      refine ⟨[.ro []], [.int .i64 p, .slc 0 0 0 true 0, .agg (dia n m), .int .i64 k], qvr p n m k, one b, [(b, 0)], qkw p n m k h0.1 (by omega) hm, ?_, rfl, ⟨fun j hj => ?_, rfl, fun j o c hj hb => ?_, fun j k bj bk oj ok hj hk hoj hok hw => ?_⟩, ?_, ⟨trivial, by simp [AV.under], qi _ _ (qg _ _), trivial, trivial⟩, ?_⟩
      · simp only [AV.zg, AV.ren, one, if_true, Nat.zero_add, qc _ _ (qg _ _)]
      · match j, hj with
        | 0, _ => rfl
      · match j, hj, hb with
        | 0, hj, hb =>
          cases hj; cases hb
          exact ⟨L, hL, by simp, by simp [AV.zg]⟩
        | j + 1, hj, hb => simp at hj
      · match j, hoj with
        | 0, hoj => cases hoj; cases hw
        | j + 1, hoj => simp at hoj
      · intro j o hj
        match j, hj with
        | 0, hj => cases hj; trivial
        | j + 1, hj => simp at hj
      · intro v' H' hr
        unfold qvr at hr
        split at he
        · rename_i hk
          rw [if_pos hk] at hr
          obtain ⟨rfl, rfl⟩ := hr
          simp only [Option.some.injEq, Prod.mk.injEq] at he
          obtain ⟨rfl, rfl⟩ := he
          exact ⟨by simp [AV.ren, Ren.ext, one], by simp [after, upd, AO.wr]⟩
        · rename_i hk
          rw [if_neg hk] at hr
          obtain ⟨rfl, rfl⟩ := hr
          simp only [Option.some.injEq, Prod.mk.injEq] at he
          obtain ⟨rfl, rfl⟩ := he
          exact ⟨by simp [AV.ren, Ren.ext], by simp [after, upd, AO.wr, AO.ren, qc _ _ (qb _)]⟩
    · cases he
  · cases he
def B23 : zk := (B22.put 100 (qon))
theorem q01 : qu Try.prog B23 := (qn8.put (q0s))
end Go.Proofs.Ytfhckbbgmblhbaa

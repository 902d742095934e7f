/- Contracts of functions of the program, and plain laws, part 1: each text of this part is proved without further condition. -/
import Derived.Test.YtfhckbbgmblhbaaAmC
import Derived.Test.YtfhckbbgmblhbaaProg
import Derived.KernelRfl
namespace Go.Proofs.Ytfhckbbgmblhbaa
open Go.Am
open Nat renaming reduceAdd → nA, reduceMul → nM, reduceSub → nS, reduceEqDiff → nE, reduceLT → nL, reduceLeDiff → nD, reduceBEq → nB
open Int renaming reduceEq → iE, reduceNe → iN, reduceBEq → iB, reduceBNe → iC, reduceLT → iL, reduceLE → iD, reduceAdd → iA, reduceSub → iS, reduceMul → iM
set_option linter.unusedSimpArgs false
set_option linter.unusedVariables false
set_option maxRecDepth 4000
theorem mixed : Try.prog.follows .mixedOrders = true := by kernel_rfl
def Jx (n i : Int) : Int := if i < n then i else 3 * n - 1 - i
def bu (x : Int) : Prop := -1000000 ≤ x ∧ x ≤ 1000000
instance (x : Int) : Decidable (bu x) := by unfold bu; infer_instance
def z7 (p : Int) : Bool := decide (2 ≤ p ∧ p ≤ 97) && (List.range 100).all fun k => !(decide (2 ≤ k) && decide ((k : Int) < p) && decide (p.tmod k = 0))
def qz3 : AC := .seq (.region [oB 6 false]) (.seq (.region [oM 7 0,oM 8 1,oP 9 .geq 7 8,oM 10 9,oG 11 10 true (.mov (.t 0)),oG 12 10 true (.mov (.t 2)),oG 13 10 true (.bin .leq (.t 11) (.t 12)),o0 14 (.pick (.t 10) (.t 13) (.c (.bool false))),oM 6 14]) .ret)
theorem q7f : zl Try.prog 71 = some ⟨15, qz3, [.slot 6]⟩ := by kernel_rfl
def qmc : AC := .seq (.region [oB 6 false]) (.seq (.region [oM 7 0,oM 8 1,oP 9 .geq 7 8,oM 10 9,oG 11 10 true (.mov (.t 0)),oG 12 10 true (.mov (.t 2)),oG 13 10 true (.bin .leq (.t 11) (.t 12)),o0 14 (.pick (.t 10) (.t 13) (.c (.bool false))),oM 6 14]) .ret)
theorem qx0 : zl Try.prog 66 = some ⟨15, qmc, [.slot 6]⟩ := by kernel_rfl
def qgf : AC := .seq (.region [oI 4 0]) (.seq (.seq (.region [oM 5 1,oM 6 0,oP 7 .lss 5 6]) (.cond 7 (.seq (.region [oM 8 1,oM 4 8]) .ret) .skip)) (.seq (.region [oM 9 0,o0 10 (.bin .mul (.c (.int .i64 3)) (.t 9)),oK 11 .sub 10 1,oM 12 1,oP 13 .sub 11 12,oM 4 13]) .ret))
theorem qrr : zl Try.prog 169 = some ⟨14, qgf, [.slot 4]⟩ := by kernel_rfl
def qdn : AC := .seq (.region [oI 4 0]) (.seq (.seq (.region [oM 5 1,oM 6 0,oP 7 .lss 5 6]) (.cond 7 (.seq (.region [oM 8 1,oM 4 8]) .ret) .skip)) (.seq (.region [oM 9 0,o0 10 (.bin .mul (.c (.int .i64 3)) (.t 9)),oK 11 .sub 10 1,oM 12 1,oP 13 .sub 11 12,oM 4 13]) .ret))
theorem qof : zl Try.prog 165 = some ⟨14, qdn, [.slot 4]⟩ := by kernel_rfl
def qpg : AC := .seq (.region [oI 4 0]) (.seq (.region [oM 5 0,oM 6 1,oP 7 .rem 5 6,oM 8 1,oP 9 .add 7 8,oM 10 1,oP 11 .rem 9 10,oM 4 11]) .ret)
theorem q1p : zl Try.prog 76 = some ⟨12, qpg, [.slot 4]⟩ := by kernel_rfl
def qi4 : AC := .seq (.region [oI 4 0]) (.seq (.region [oM 5 1,oM 6 0,oP 7 .rem 5 6,oM 8 0,oP 9 .add 7 8,oM 10 0,oP 11 .rem 9 10,oM 4 11]) .ret)
theorem qtv : zl Try.prog 70 = some ⟨12, qi4, [.slot 4]⟩ := by kernel_rfl
def Gl : AC := .seq (.seq (.region [oM 4 3,oM 5 0,oP 6 .lss 4 5,oM 7 6,oG 8 7 true (.mov (.t 3)),oG 9 7 true (.bin .lss (.t 8) (.c (.int .i64 100))),o0 10 (.pick (.t 7) (.t 9) (.c (.bool false)))]) (.cond 10 .skip (.exit 0))) (.seq (.block 1 (.seq (.region [oM 13 0,oM 14 3,oP 15 .rem 13 14,oK 16 .eql 15 0]) (.cond 16 (.seq (.region [oB 2 false]) .ret) .skip))) (.region [oM 11 3,oK 12 .add 11 1,oM 3 12]))
def Gq : AC := .seq (.region [oM 17 0,oC 18 66 [.t 17,(.c (.int .i64 2)),(.c (.int .i64 97))],oM 2 18]) .ret
def qc4 : AC := .seq (.region [oB 2 false]) (.seq (.seq (.region [oI 3 2]) (.block 0 (.loop Gl))) Gq)
theorem qno : zl Try.prog 137 = some ⟨19, qc4, [.slot 2]⟩ := by kernel_rfl
def K3 : AC := .seq (.seq (.region [oM 7 3,oM 8 3,oP 9 .mul 7 8,oM 10 0,oP 11 .leq 9 10]) (.cond 11 .skip (.exit 0))) (.seq (.block 1 (.seq (.region [oM 14 0,oM 15 3,oP 16 .rem 14 15,oK 17 .eql 16 0]) (.cond 17 (.seq (.region [oB 2 false]) .ret) .skip))) (.region [oM 12 3,oK 13 .add 12 1,oM 3 13]))
def qab : AC := .seq (.region [oB 2 true]) .ret
def qfw : AC := .seq (.region [oB 2 false]) (.seq (.seq (.region [oM 4 0,oC 5 71 [.t 4,(.c (.int .i64 2)),(.c (.int .i64 97))],o0 6 (.un .not (.t 5))]) (.cond 6 (.seq (.region [oB 2 false]) .ret) .skip)) (.seq (.seq (.region [oI 3 2]) (.block 0 (.loop K3))) qab))
theorem qou : zl Try.prog 120 = some ⟨18, qfw, [.slot 2]⟩ := by kernel_rfl
def qgv : AC := .seq (.region [oB 4 false]) (.seq (.region [oM 5 0,oC 6 120 [.t 5],oM 7 6,oG 8 7 true (.mov (.t 1)),oG 9 7 true (.mov (.t 0)),oG 10 7 true (.bin .sub (.t 9) (.c (.int .i64 1))),⟨some 11,some (7,true),.call (.c (.fn 71 [] [])) [.t 8,(.c (.int .i64 0)),.t 10]⟩,o0 12 (.pick (.t 7) (.t 11) (.c (.bool false))),oM 4 12]) .ret)
theorem qpz : zl Try.prog 94 = some ⟨13, qgv, [.slot 4]⟩ := by kernel_rfl
def wc : List AV → Option AV
  | [.int .i64 a, .int .i64 b, .int .i64 c] => some (.bool (decide (b ≤ a ∧ a ≤ c)))
  | _ => none
def jy : List AV → Option AV
  | [.int .i64 n, .int .i64 i] => chk (bu n ∧ bu i) (some (.int .i64 (Jx n i)))
  | _ => none
def J3 : List AV → Option AV
  | [.int .i64 n, .int .i64 p] => chk (0 < p ∧ p ≤ 1000000) (some (.int .i64 (n.emod p)))
  | _ => none
def Vf : List AV → Option AV
  | [.int .i64 p, .int .i64 n] => chk (0 < p ∧ p ≤ 1000000) (some (.int .i64 (n.emod p)))
  | _ => none
def ya : List AV → Option AV
  | [.int .i64 p] => some (.bool (z7 p))
  | _ => none
def Ze : List AV → Option AV
  | [.int .i64 p, .int .i64 c] => some (.bool (z7 p && decide (0 ≤ c ∧ c ≤ p - 1)))
  | _ => none
theorem qsa {a b c : Int} : (b ≤ a → decide (a ≤ c) = decide (b ≤ a ∧ a ≤ c)) ∧ (¬b ≤ a → false = decide (b ≤ a ∧ a ≤ c)) :=
  ⟨fun h => by simp [h], fun h => by simp [h]⟩
theorem q8n (a b c : Int) : Am.Fn Try.prog 71 [.int .i64 a, .int .i64 b, .int .i64 c] [] (fun v H' => v = .bool (decide (b ≤ a ∧ a ≤ c)) ∧ H' = []) := by
  refine Am.Fn.xf (R := fun v => v = _) qp.none mixed q7f (by simp) (by simp) ?_
  simp (maxSteps := 3000000) only [qz3, qa, zZ, ↓qq, ↓reduceIte, reduceCtorEq, nA, nM, nS, nE, nL, nD]; try simp only [qa, zY]
  exact qsa
theorem qwn (a b c : Int) : Am.Fn Try.prog 66 [.int .i64 a, .int .i64 b, .int .i64 c] [] (fun v H' => v = .bool (decide (b ≤ a ∧ a ≤ c)) ∧ H' = []) := by
  refine Am.Fn.xf (R := fun v => v = _) qp.none mixed qx0 (by simp) (by simp) ?_
  simp (maxSteps := 3000000) only [qmc, qa, zZ, ↓qq, ↓reduceIte, reduceCtorEq, nA, nM, nS, nE, nL, nD]; try simp only [qa, zY]
  exact qsa
theorem qgc {n i : Int} (hn : bu n) (hi : bu i) : (i < n → AV.int .i64 i = AV.int .i64 (Jx n i)) ∧
    (¬i < n → AV.int .i64 (qo .i64 (qo .i64 (qo .i64 (3 * n) - 1) - i)) = AV.int .i64 (Jx n i)) := by
  unfold bu at hn hi
  refine ⟨fun h => by simp [Jx, h], fun h => ?_⟩
  rw [wrap64 (n := 3 * n) (by omega) (by omega), wrap64 (n := 3 * n - 1) (by omega) (by omega), wrap64 (by omega) (by omega)]
  simp [Jx, h]
theorem qqn (n i : Int) (hn : bu n) (hi : bu i) : Am.Fn Try.prog 169 [.int .i64 n, .int .i64 i] [] (fun v H' => v = .int .i64 (Jx n i) ∧ H' = []) := by
  refine Am.Fn.xf (R := fun v => v = _) qp.none mixed qrr (by simp) (by simp) ?_
  simp (maxSteps := 3000000) only [qgf, qa, zZ, ↓qq, ↓reduceIte, reduceCtorEq, nA, nM, nS, nE, nL, nD]; try simp only [qa, zY]
  exact qgc hn hi
theorem qn9 (n i : Int) (hn : bu n) (hi : bu i) : Am.Fn Try.prog 165 [.int .i64 n, .int .i64 i] [] (fun v H' => v = .int .i64 (Jx n i) ∧ H' = []) := by
  refine Am.Fn.xf (R := fun v => v = _) qp.none mixed qof (by simp) (by simp) ?_
  simp (maxSteps := 3000000) only [qdn, qa, zZ, ↓qq, ↓reduceIte, reduceCtorEq, nA, nM, nS, nE, nL, nD]; try simp only [qa, zY]
  exact qgc hn hi
theorem qiu {n p : Int} (h : 0 < p ∧ p ≤ 1000000) : ¬p = 0 ∧ ¬p = 0 ∧ AV.int .i64 ((qo .i64 (n.tmod p + p)).tmod p) = AV.int .i64 (n.emod p) := by
  refine ⟨by omega, by omega, ?_⟩
  have h1 : n.tmod p < p := Int.tmod_lt_of_pos n h.1
  have h2 : -p < n.tmod p := by
    have := Int.lt_tmod_of_pos n h.1
    omega
  rw [wrap64 (by omega) (by omega), Int.tmod_eq_emod_of_nonneg (by omega), Int.add_emod_right]
  congr 1
  rw [Int.tmod_eq_emod]
  split
  · rw [show ((0 : Nat) : Int) = 0 from rfl, Int.sub_zero]; exact Int.emod_emod_of_dvd n (Int.dvd_refl p)
  · rw [show (p.natAbs : Int) = p from by omega, Int.sub_emod_right]
    exact Int.emod_emod_of_dvd n (Int.dvd_refl p)
theorem q2a (n p : Int) (h : 0 < p ∧ p ≤ 1000000) : Am.Fn Try.prog 76 [.int .i64 n, .int .i64 p] [] (fun v H' => v = .int .i64 (n.emod p) ∧ H' = []) := by
  refine Am.Fn.xf (R := fun v => v = _) qp.none mixed q1p (by simp) (by simp) ?_
  simp (maxSteps := 3000000) only [qpg, qa, zZ, ↓qq, ↓reduceIte, reduceCtorEq, nA, nM, nS, nE, nL, nD]; try simp only [qa, zY]
  exact qiu h
theorem qtu (n p : Int) (h : 0 < p ∧ p ≤ 1000000) : Am.Fn Try.prog 70 [.int .i64 p, .int .i64 n] [] (fun v H' => v = .int .i64 (n.emod p) ∧ H' = []) := by
  refine Am.Fn.xf (R := fun v => v = _) qp.none mixed qtv (by simp) (by simp) ?_
  simp (maxSteps := 3000000) only [qi4, qa, zZ, ↓qq, ↓reduceIte, reduceCtorEq, nA, nM, nS, nE, nL, nD]; try simp only [qa, zY]
  exact qiu h
theorem quz {f : FuncId} (h : ∀ a b c, Am.Fn Try.prog f [.int .i64 a, .int .i64 b, .int .i64 c] [] (fun v H' => v = .bool (decide (b ≤ a ∧ a ≤ c)) ∧ H' = [])) : Am.Callee Try.prog f (qj wc) :=
  Am.Callee.plain fun xs v he => by
    unfold wc at he
    split at he
    · cases he; exact ⟨rfl, rfl, h _ _ _⟩
    · cases he
theorem qj0 {f : FuncId} (h : ∀ n i, bu n → bu i → Am.Fn Try.prog f [.int .i64 n, .int .i64 i] [] (fun v H' => v = .int .i64 (Jx n i) ∧ H' = [])) : Am.Callee Try.prog f (qj jy) :=
  Am.Callee.plain fun xs v he => by
    unfold jy at he
    split at he
    · obtain ⟨h1, he⟩ := ql he
      cases he; exact ⟨rfl, rfl, h _ _ h1.1 h1.2⟩
    · cases he
def B1 : zc := ((((zc.none.put 71 (qj wc)).put 66 (qj wc)).put 169 (qj jy)).put 165 (qj jy))
theorem qr5 : qp Try.prog B1 := ((((qp.none.put (quz q8n)).put (quz qwn)).put (qj0 qqn)).put (qj0 qn9))
theorem qh2 : B1 71 = some (qj wc) := rfl
theorem qa8 : B1 66 = some (qj wc) := rfl
theorem qgy {p : Int} {k : Nat} (h1 : 2 ≤ k) (hk : k < 100) (h2 : (k : Int) < p) (h3 : p.tmod k = 0) : z7 p = false := by
  unfold z7
  rw [Bool.and_eq_false_iff]
  right
  rw [List.all_eq_false]
  exact ⟨k, List.mem_range.2 hk, by simp [h1, h2, h3]⟩
theorem qh3 {p : Int} (h : 2 ≤ p ∧ p ≤ 97) (h3 : ∀ j : Nat, 2 ≤ j → (j : Int) < p → p.tmod j ≠ 0) : z7 p = true := by
  unfold z7
  rw [Bool.and_eq_true]
  refine ⟨decide_eq_true h, List.all_eq_true.2 fun j hj => ?_⟩
  by_cases h5 : 2 ≤ j
  · by_cases h6 : (j : Int) < p
    · have := h3 j h5 h6; simp [h5, h6, this]
    · simp [h6]
  · simp [h5]
theorem qet {p : Int} (h : ¬(2 ≤ p ∧ p ≤ 97)) : z7 p = false := by
  unfold z7; rw [decide_eq_false h, Bool.false_and]
theorem qnl (p : Int) : Am.Fn Try.prog 137 [.int .i64 p] [] (fun v H' => v = .bool (z7 p) ∧ H' = []) := by
  refine Am.Fn.xf (R := fun v => v = _) qr5 mixed qno (by simp) (by simp) ?_
  simp (maxSteps := 3000000) only [qc4, qa, zZ, ↓qq, ↓reduceIte, reduceCtorEq, nA, nM, nS, nE, nL, nD]; try simp only [qa, zY]
  refine WA.xr qr5 (fun s => ∃ k : Nat, s = ⟨[(3, .int .i64 k), (0, .int .i64 p)], []⟩ ∧ 2 ≤ k ∧ k ≤ 100 ∧ ∀ j : Nat, 2 ≤ j → j < k → (j : Int) < p → p.tmod j ≠ 0) (fun s => match get s.env 3 with | .int _ k => (100 - k).toNat | _ => 0) ⟨_, qw.qx [3, 0], 2, rfl, by omega, by omega, by intros; omega⟩ ?_
  rintro s ⟨k, rfl, h1, h2, h3⟩
  simp (maxSteps := 3000000) only [Gl, Gq, qh2, qa8, wc, qa, zZ, ↓qq, ↓reduceIte, reduceCtorEq, nA, nM, nS, nE, nL, nD]; try simp only [qa, zY]
  refine ⟨fun h4 => ⟨fun h5 => ⟨by omega, fun h6 => ?_, fun h6 => ⟨_, qw.qx [3, 0], ⟨k + 1, ?_, by omega, by omega, ?_⟩, ?_⟩⟩, fun h5 => ?_⟩, fun h4 => ?_⟩
  · exact (qgy h1 (by omega) h4 h6).symm
  · simp only [qx, zs, reduceIte, reduceCtorEq, Nat.reduceEqDiff]
    have : qo .i64 ((k : Int) + 1) = ((k + 1 : Nat) : Int) := by rw [wrap64 (by omega) (by omega)]; rfl
    rw [this]
  · intro j h7 h8 h9
    by_cases h10 : j = k
    · subst h10; exact h6
    · exact h3 j h7 (by omega) h9
  · simp only [qx, zs, reduceIte, reduceCtorEq, Nat.reduceEqDiff]
    have : qo .i64 ((k : Int) + 1) = ((k + 1 : Nat) : Int) := by rw [wrap64 (by omega) (by omega)]; rfl
    rw [this]; omega
  · rw [qet (by omega)]; simp; omega
  · by_cases h : 2 ≤ p ∧ p ≤ 97
    · rw [qh3 h fun j a b => h3 j a (by omega) b]; simp [h]
    · rw [qet h]; simp [h]
theorem qr2 : ((List.range 98).all fun p => (List.range 11).all fun k => !decide (p < k * k ∧ 2 ≤ p) || !((List.range k).all fun j => !decide (2 ≤ j) || p % j != 0) || (List.range p).all fun j => !decide (2 ≤ j) || p % j != 0) = true := by decide +kernel
theorem qs7 {p : Int} {k : Nat} (h : 2 ≤ p ∧ p ≤ 97) (hk : k ≤ 10) (hkp : p < (k : Int) * k) (h3 : ∀ j : Nat, 2 ≤ j → j < k → p.tmod j ≠ 0) : z7 p = true := by
  obtain ⟨q, rfl⟩ : ∃ q : Nat, p = q := ⟨p.toNat, by omega⟩
  have e : ∀ j : Nat, ((q : Int).tmod j = 0) ↔ q % j = 0 := fun j => by
    rw [← Int.ofNat_tmod]; omega
  have h4 := List.all_eq_true.1 (List.all_eq_true.1 qr2 q (List.mem_range.2 (by omega))) k (List.mem_range.2 (by omega))
  have h5 : q < k * k := by
    have : ((k * k : Nat) : Int) = (k : Int) * k := by simp
    omega
  simp only [Bool.or_eq_true, Bool.not_eq_true', decide_eq_false_iff_not] at h4
  rcases h4 with (h4 | h4) | h4
  · exact absurd ⟨h5, by omega⟩ h4
  · exfalso
    rw [List.all_eq_false] at h4
    obtain ⟨j, hj, h6⟩ := h4
    have hj := List.mem_range.1 hj
    apply h6
    by_cases h7 : 2 ≤ j
    · have := h3 j h7 hj
      rw [Ne, e] at this
      simp [this]
    · simp [h7]
  · refine qh3 h fun j h6 h7 => ?_
    rw [Ne, e]
    have := List.all_eq_true.1 h4 j (List.mem_range.2 (by omega))
    simpa [h6] using this
theorem qqf (p : Int) : Am.Fn Try.prog 120 [.int .i64 p] [] (fun v H' => v = .bool (z7 p) ∧ H' = []) := by
  refine Am.Fn.xf (R := fun v => v = _) qr5 mixed qou (by simp) (by simp) ?_
  simp (maxSteps := 3000000) only [qfw, qh2, qa8, wc, qa, zZ, ↓qq, ↓reduceIte, reduceCtorEq, nA, nM, nS, nE, nL, nD]; try simp only [qa, zY]
  refine ⟨fun h => (qet h).symm, fun h => ?_⟩
  refine WA.xr qr5 (fun s => ∃ k : Nat, s = ⟨[(3, .int .i64 k), (0, .int .i64 p)], []⟩ ∧ 2 ≤ k ∧ k ≤ 10 ∧ ∀ j : Nat, 2 ≤ j → j < k → p.tmod j ≠ 0) (fun s => match get s.env 3 with | .int _ k => (100 - k).toNat | _ => 0) ⟨_, qw.qx [3, 0], 2, rfl, by omega, by omega, by intros; omega⟩ ?_
  rintro s ⟨k, rfl, h1, h2, h3⟩
  have hw : qo .i64 ((k : Int) + 1) = ((k + 1 : Nat) : Int) := by rw [wrap64 (by omega) (by omega)]; rfl
  have hm : qo .i64 ((k : Int) * k) = ((k * k : Nat) : Int) := by
    have : k * k ≤ 10 * 10 := Nat.mul_le_mul h2 h2
    rw [← Int.natCast_mul]; exact ji (by omega)
  simp (maxSteps := 3000000) only [K3, qab, hm, hw, qx, qa, zZ, ↓qq, ↓reduceIte, reduceCtorEq, nA, nM, nS, nE, nL, nD]; try simp only [qa, zY]
  have hkk : k < 10 ∨ k = 10 := by omega
  refine ⟨fun h4 => ⟨by omega, fun h6 => ?_, fun h6 => ⟨_, qw.qx [3, 0], ⟨k + 1, rfl, by omega, ?_, ?_⟩, ?_⟩⟩, fun h4 => ?_⟩
  · have : k * 2 ≤ k * k := Nat.mul_le_mul_left k h1
    exact (qgy h1 (by omega) (by omega) h6).symm
  · rcases hkk with e | e
    · omega
    · subst e; omega
  · intro j h7 h8
    by_cases h10 : j = k
    · subst h10; exact h6
    · exact h3 j h7 (by omega)
  · simp only [qx, zs, reduceIte, reduceCtorEq, Nat.reduceEqDiff]
    omega
  · rw [qs7 h h2 (by rw [← Int.natCast_mul]; omega) h3]
theorem qjr {f : FuncId} (h : ∀ p, Am.Fn Try.prog f [.int .i64 p] [] (fun v H' => v = .bool (z7 p) ∧ H' = [])) : Am.Callee Try.prog f (qj ya) :=
  Am.Callee.plain fun xs v he => by
    unfold ya at he
    split at he
    · cases he; exact ⟨rfl, rfl, h _⟩
    · cases he
theorem qyw : Am.Callee Try.prog 76 (qj J3) :=
  Am.Callee.plain fun xs v he => by
    unfold J3 at he
    split at he
    · obtain ⟨h1, he⟩ := ql he
      cases he; exact ⟨rfl, rfl, q2a _ _ h1⟩
    · cases he
theorem qsw : Am.Callee Try.prog 70 (qj Vf) :=
  Am.Callee.plain fun xs v he => by
    unfold Vf at he
    split at he
    · obtain ⟨h1, he⟩ := ql he
      cases he; exact ⟨rfl, rfl, qtu _ _ h1⟩
    · cases he
def B2 : zc := ((((B1.put 120 (qj ya)).put 137 (qj ya)).put 76 (qj J3)).put 70 (qj Vf))
theorem q6c : qp Try.prog B2 := ((((qr5.put (qjr qqf)).put (qjr qnl)).put (qyw)).put (qsw))
theorem qsx : B2 71 = some (qj wc) := rfl
theorem qk7 : B2 66 = some (qj wc) := rfl
theorem qg3 : B2 120 = some (qj ya) := rfl
theorem gu {p : Int} (h : z7 p = true) : 2 ≤ p ∧ p ≤ 97 := by
  unfold z7 at h
  rw [Bool.and_eq_true] at h
  exact of_decide_eq_true h.1
theorem qqy (p c : Int) : Am.Fn Try.prog 94 [.int .i64 p, .int .i64 c] [] (fun v H' => v = .bool (z7 p && decide (0 ≤ c ∧ c ≤ p - 1)) ∧ H' = []) := by
  refine Am.Fn.xf (R := fun v => v = _) q6c mixed qpz (by simp) (by simp) ?_
  simp (maxSteps := 3000000) only [qgv, qsx, qk7, qg3, wc, ya, qa, zZ, ↓qq, ↓reduceIte, reduceCtorEq, nA, nM, nS, nE, nL, nD]; try simp only [qa, zY]
  refine ⟨fun h => ?_, fun h => ?_⟩
  · have := gu h
    rw [h, wrap64 (by omega) (by omega)]; rfl
  · rw [h]; rfl
theorem qpy : Am.Callee Try.prog 94 (qj Ze) :=
  Am.Callee.plain fun xs v he => by
    unfold Ze at he
    split at he
    · cases he; exact ⟨rfl, rfl, qqy _ _⟩
    · cases he
def B3 : zc := (B2.put 94 (qj Ze))
theorem q6f : qp Try.prog B3 := (q6c.put (qpy))
end Go.Proofs.Ytfhckbbgmblhbaa
namespace Go.Proofs.Ytfhckbbgmblhbaa
open Go.Am Go.Dia
open Nat renaming reduceAdd → nA, reduceMul → nM, reduceSub → nS, reduceEqDiff → nE, reduceLT → nL, reduceLeDiff → nD, reduceBEq → nB
open Int renaming reduceEq → iE, reduceNe → iN, reduceBEq → iB, reduceBNe → iC, reduceLT → iL, reduceLE → iD, reduceAdd → iA, reduceSub → iS, reduceMul → iM
set_option linter.unusedSimpArgs false
set_option linter.unusedVariables false
set_option maxRecDepth 4000
def qbc : AC := .seq (.region [oI 2 0]) (.seq (.region [oM 3 0,o0 4 (.jx (.t 3)),oF 5 0 4,oL 6 5,oM 2 6]) .ret)
theorem qkp : zl Try.prog 168 = some ⟨7, qbc, [.slot 2]⟩ := by kernel_rfl
def Vm : AC := .seq (.region [oP 12 .lss 11 10]) (.seq (.cond 12 .skip (.exit 0)) (.seq (.block 1 (.seq (.region [oM 13 11,oM 5 13]) (.seq (.draw false [oM 14 3,oM 15 0,oM 16 3,oM 17 5,o0 19 (.jx (.t 15)),oF 20 1 19,oM 25 5,oC 18 169 [.t 16,.t 17],o0 21 (.xa 16 1 (.t 20) (.t 18)),oL 22 21,o0 23 (.conv .i64 (.t 22)),oC 24 169 [.t 14,.t 23],oP 26 .gtr 24 25]) (.cond 26 (.region [oM 27 4,o0 28 (.um 1 [.int .u8 0] [(0,1,(.c (.int .u8 40)))]),o0 29 (.append 1 1 (.t 27) (.t 28)),oM 4 29]) (.region [oM 30 4,o0 31 (.um 1 [.int .u8 0] [(0,1,(.c (.int .u8 41)))]),o0 32 (.append 1 1 (.t 30) (.t 31)),oM 4 32]))))) (.region [oK 33 .add 11 1,oM 11 33])))
def Vl : AC := .seq (.region [oM 34 4,o0 35 (.b2s (.t 34)),oM 2 35]) .ret
def Um : AC := .seq (.region [o0 2 (.mov (.c (.str [])))]) (.seq (.region [oM 6 0,oC 7 168 [.t 6],o0 8 (.um 0 [] []),oM 3 7,oM 4 8]) (.seq (.seq (.region [oM 9 3,o0 10 (.bin .mul (.c (.int .i64 2)) (.t 9)),oI 11 0]) (.block 0 (.loop Vm))) Vl))
theorem qfn : zl Try.prog 142 = some ⟨36, Um, [.slot 2]⟩ := by kernel_rfl
def Kq : AC := .seq (.seq (.region [oM 7 4,oF 8 0 1,oL 9 8,o0 10 (.bin .mul (.c (.int .i64 2)) (.t 9)),oP 11 .lss 7 10]) (.cond 11 .skip (.exit 0))) (.seq (.block 1 (.seq (.region [oF 14 0 1,oL 15 14,oM 16 4,oC 17 165 [.t 15,.t 16],oM 5 17]) (.seq (.draw false [oF 18 0 1,oL 19 18,oM 20 5,oF 21 1 1,o0 22 (.xa 16 1 (.t 21) (.t 20)),oL 23 22,o0 24 (.conv .i64 (.t 23)),oM 26 4,oC 25 165 [.t 19,.t 24],oP 27 .gtr 25 26]) (.cond 27 (.region [oM 28 3,o0 29 (.um 1 [.int .u8 0] [(0,1,(.c (.int .u8 40)))]),o0 30 (.append 1 1 (.t 28) (.t 29)),oM 3 30]) (.region [oM 31 3,o0 32 (.um 1 [.int .u8 0] [(0,1,(.c (.int .u8 41)))]),o0 33 (.append 1 1 (.t 31) (.t 32)),oM 3 33]))))) (.region [oM 12 4,oK 13 .add 12 1,oM 4 13]))
def K9 : AC := .seq (.region [oM 34 3,o0 35 (.b2s (.t 34)),oM 2 35]) .ret
def qfq : AC := .seq (.region [o0 1 (.box (.t 0)),o0 2 (.mov (.c (.str [])))]) (.seq (.region [o0 6 (.um 0 [] []),oM 3 6]) (.seq (.seq (.region [oI 4 0]) (.block 0 (.loop Kq))) K9))
theorem qru : zl Try.prog 150 = some ⟨36, qfq, [.slot 2]⟩ := by kernel_rfl
def okD (m : List Nat) : Prop := m.length = 16 ∧ ∀ x, x ∈ m → x < 256
theorem okD.get {m : List Nat} (h : okD m) (i : Nat) : m.getD i 0 < 256 := by
  rw [List.getD_eq_getElem?_getD]
  cases e : m[i]? with
  | none => simp
  | some x => exact h.2 x (List.mem_of_getElem? e)
def bytesOf : List AV → Option (List Nat)
  | [] => some []
  | .int .u8 x :: r => if 0 ≤ x ∧ x < 256 then (match bytesOf r with
    | some l => some (x.toNat :: l)
    | none => none) else none
  | _ => none
theorem qak : ∀ {m : List Nat}, (∀ x, x ∈ m → x < 256) → bytesOf (u8s m) = some m
  | [], _ => rfl
  | x :: m, h => by
    have h1 := qak (m := m) fun y hy => h y (List.mem_cons_of_mem _ hy)
    have h2 := h x (by simp)
    simp only [u8s, List.map_cons, bytesOf] at h1 ⊢
    rw [if_pos (by omega), h1]
    simp
theorem U6 : ∀ {l : List AV} {m : List Nat}, bytesOf l = some m → l = u8s m ∧ ∀ x, x ∈ m → x < 256
  | [], m, h => by cases h; exact ⟨rfl, by simp⟩
  | a :: l, m, h => by
    cases a <;> (try (simp only [bytesOf, reduceCtorEq] at h; done))
    rename_i k x
    cases k <;> (try (simp only [bytesOf, reduceCtorEq] at h; done))
    simp only [bytesOf] at h
    split at h
    · rename_i hx
      split at h
      · rename_i r hr
        cases h
        obtain ⟨h1, h2⟩ := U6 hr
        refine ⟨?_, fun y hy => ?_⟩
        · simp only [u8s, List.map_cons, List.cons.injEq, AV.int.injEq, true_and]
          exact ⟨by omega, h1⟩
        · rcases List.mem_cons.1 hy with rfl | hy
          · omega
          · exact h2 y hy
      · cases h
    · cases h
def vi : List AV → Option (Int × List Nat)
  | .int .i64 n :: r => match bytesOf r with
    | some m => if m.length = 16 then some (n, m) else none
    | none => none
  | _ => none
theorem qy {n : Int} {m : List Nat} (h : okD m) : vi (dia n m) = some (n, m) := by
  simp only [dia, vi, qak h.2, h.1, if_true]
theorem zi {l : List AV} {n : Int} {m : List Nat} (h : vi l = some (n, m)) : l = dia n m ∧ okD m := by
  unfold vi at h
  split at h
  · split at h
    · rename_i hm
      obtain ⟨h1, h2⟩ := U6 hm
      split at h
      · rename_i h3; cases h; exact ⟨by rw [h1]; rfl, h3, h2⟩
      · cases h
    · cases h
  · cases h
theorem q9p (n : Int) : Am.Fn Try.prog 168 [.ptr 0 0] [.ro [.int .i64 n]] (fun v H' => v = .int .i64 n ∧ H' = [.ro [.int .i64 n]]) := by
  refine Am.Fn.xf (R := fun v => v = _) q6f mixed qkp (by simp) (by intro j o h; cases j <;> simp at h; subst h; exact ⟨trivial, trivial⟩) ?_
  simp (maxSteps := 3000000) only [qbc, rd, List.getElem?_cons_zero, qa, zZ, ↓qq, ↓reduceIte, reduceCtorEq, nA, nM, nS, nE, nL, nD]; try simp only [qa, zY]
  exact ⟨_, rfl⟩
def g_n : List AV → List AV → Option AV
  | [.int .i64 n], [] => some (.int .i64 n)
  | _, _ => none
theorem q9m : Am.Callee Try.prog 168 (Xp 1 g_n) :=
  Am.Callee.read fun l xs v hl he => by
    unfold g_n at he
    split at he
    · cases he; exact ⟨rfl, rfl, rfl, q9p _⟩
    · cases he
theorem qmh {n : Int} {m : List Nat} : List.take 1 (List.drop 0 (dia n m)) = [.int .i64 n] := rfl
def B4 : zc := (B3.put 168 (Xp 1 g_n))
theorem qoo : qp Try.prog B4 := (q6f.put (q9m))
theorem Jy : B4 169 = some (qj jy) := rfl
theorem X1 : B4 165 = some (qj jy) := rfl
theorem Z4 : B4 168 = some (Xp 1 g_n) := rfl
theorem kj {n k : Nat} (h : k < 2 * n) : Jx n k = (place n k : Nat) := by
  unfold Jx place; split <;> split <;> omega
theorem Bs {n x k : Nat} : ((k : Int) < Jx n x) ↔ (k < place n x) := by
  unfold Jx place; split <;> split <;> omega
theorem xu {x : Nat} (h : x < 1000) : bu (x : Int) := by unfold bu; omega
theorem Jm {l : List AV} (h : AV.zg l = true) : ∀ (j : Nat) (o : AO), [AO.ro l][j]? = some o → o.under [AO.ro l].length := by
  intro j o e
  cases j with
  | zero => simp only [List.getElem?_cons_zero, Option.some.injEq] at e; subst e; exact qk _ _ h
  | succ j => simp at e
def Bb (n : Nat) (m : List Nat) : List Nat := (List.range (2 * n)).map fun k => if k < place n (m.getD (place n k) 0) then 40 else 41
theorem qo6 (n : Nat) (m : List Nat) : (Bb n m).map (fun x => UInt8.ofNat x) = ja n m := by
  simp only [Bb, ja, List.map_map]
  refine List.map_congr_left fun k _ => ?_
  simp only [Function.comp]
  split <;> rfl
theorem kq (n : Nat) (m : List Nat) : (Bb n m).length = 2 * n := by simp [Bb]
theorem qor {n : Nat} {m : List Nat} {k : Nat} (h : k < 2 * n) : (Bb n m).take (k + 1) = (Bb n m).take k ++ [if k < place n (m.getD (place n k) 0) then 40 else 41] := by
  rw [List.take_add_one]
  congr 1
  simp [Bb, h]
theorem qse {l : List AV} {k : Nat} (h : l.length ≤ k) : List.take k (List.drop 0 l) = l := by rw [List.drop_zero, List.take_of_length_le h]
theorem qyz (n : Nat) (m : List Nat) (hn : n ≤ 8) (hm : okD m) : Am.Fn Try.prog 142 [.ptr 0 0] [.ro (dia n m)] (fun v H' => v = .str (ja n m) ∧ H' = [.ro (dia n m)]) := by
  refine Am.Fn.xf (R := fun v => v = _) qoo mixed qfn (by simp) (Jm (qd _ _)) ?_
  have h2n : qo .i64 (2 * (n : Int)) = ((2 * n : Nat) : Int) := by rw [wrap64 (by omega) (by omega)]; simp
  simp (maxSteps := 3000000) only [Um, Jy, X1, Z4, g_n, jy, rd, List.getElem?_cons_zero, qmh, qc, hm.1, h2n, vx, qa, zZ, ↓qq, ↓reduceIte, reduceCtorEq, nA, nM, nS, nE, nL, nD]; try simp only [qa, zY]
  refine WA.xr qoo (fun s => ∃ k : Nat, s = ⟨[(11, .int .i64 k), (10, .int .i64 ((2 * n : Nat) : Int)), (4, .slc 1 0 k false 0), (3, .int .i64 n), (0, .ptr 0 0)], [.ro (dia n m), .vec 1 (u8s ((Bb n m).take k))]⟩ ∧ k ≤ 2 * n)
    (fun s => match get s.env 11 with | .int _ k => (100 - k).toNat | _ => 0) ⟨_, qw.trans (qw.qx [11, 10, 4, 3, 0]) (qw.vec 1 0 1 (by decide) rfl rfl ?_ ?_), 0, ?_, by omega⟩ ?_
  · simp only [qx, zs, zV, ↓reduceIte, nE, reduceCtorEq, nB]
  · simp only [zV, ↓reduceIte, nE, reduceCtorEq, nB]
  · simp only [qx, zs, List.take_zero, zV, ↓reduceIte, nE, reduceCtorEq, nB]; rfl
  rintro s ⟨k, rfl, hk⟩
  have hw : qo .i64 ((k : Int) + 1) = ((k + 1 : Nat) : Int) := by rw [wrap64 (by omega) (by omega)]; rfl
  simp (maxSteps := 3000000) only [Vm, Vl, hw, Jy, X1, Z4, g_n, jy, rd, List.getElem?_cons_zero, List.getElem?_cons_succ, vx, src, qa, zZ, ↓qq, ↓reduceIte, reduceCtorEq, nA, nM, nS, nE, nL, nD]; try simp only [qa, zY]
  refine ⟨fun h => ?_, fun h => ?_⟩
  · have hk' : k < 2 * n := by omega
    have hp := q7 hk'
    have hg := hm.get (place n k)
    have h1 : qo .i64 ((m.getD (place n k) 0 : Nat) : Int) = (m.getD (place n k) 0 : Nat) := ji (by omega)
    have hlt : (List.take k (Bb n m)).length = k := by rw [List.length_take, kq]; omega
    have hap : ∀ c : Nat, c = (if k < place n (m.getD (place n k) 0) then 40 else 41) → List.take k (u8s (List.take k (Bb n m))) ++ [AV.int .u8 (c : Int)] = u8s (List.take (k + 1) (Bb n m)) := by
      intro c hc
      rw [List.take_of_length_le (by rw [xh, hlt]; exact Nat.le_refl _), qor hk', ← hc, ← qjg]; rfl
    simp (maxSteps := 3000000) only [kj hk', h1, qa, zZ, ↓qq, ↓reduceIte, reduceCtorEq, nA, nM, nS, nE, nL, nD]; try simp only [qa, zY]
    refine ⟨⟨xu (by omega), xu (by omega)⟩, ⟨by omega, by omega⟩, by rw [hm.1]; omega, ⟨xu (by omega), xu (by omega)⟩, fun h2 => ?_, fun h2 => ?_⟩
    · have e := hap 40 (by rw [if_pos (Bs.1 h2)])
      simp only [Int.cast_ofNat_Int] at e
      refine ⟨by decide, ⟨by rw [xh, hlt]; exact Nat.le_refl _, by decide, by omega⟩, _, qw.x7 [0, 3] [11, 10, 4, 3, 0] ⟨by decide, ?_⟩ ?_, ⟨k + 1, ?_, by omega⟩, ?_⟩
      · simp only [over, List.take_zero, List.length_cons, List.length_nil, List.drop_succ_cons, List.drop_nil, List.take_succ_cons, List.drop_zero, e, zK, ↓reduceIte, reduceCtorEq, nE, nB, nA]
      · simp only [zK, ↓reduceIte, reduceCtorEq, nE, nB, nA]
      · simp only [over, List.take_zero, List.length_cons, List.length_nil, List.drop_succ_cons, List.drop_nil, List.take_succ_cons, List.drop_zero, e, zL, ↓reduceIte, reduceCtorEq, nE, nA]
      · simp only [zL, ↓reduceIte, reduceCtorEq, nE, nA]
        omega
    · have e := hap 41 (by rw [if_neg fun h => h2 (Bs.2 h)])
      simp only [Int.cast_ofNat_Int] at e
      refine ⟨by decide, ⟨by rw [xh, hlt]; exact Nat.le_refl _, by decide, by omega⟩, _, qw.x7 [0, 3] [11, 10, 4, 3, 0] ⟨by decide, ?_⟩ ?_, ⟨k + 1, ?_, by omega⟩, ?_⟩
      · simp only [over, List.take_zero, List.length_cons, List.length_nil, List.drop_succ_cons, List.drop_nil, List.take_succ_cons, List.drop_zero, e, zK, ↓reduceIte, reduceCtorEq, nE, nB, nA]
      · simp only [zK, ↓reduceIte, reduceCtorEq, nE, nB, nA]
      · simp only [over, List.take_zero, List.length_cons, List.length_nil, List.drop_succ_cons, List.drop_nil, List.take_succ_cons, List.drop_zero, e, zL, ↓reduceIte, reduceCtorEq, nE, nA]
      · simp only [zL, ↓reduceIte, reduceCtorEq, nE, nA]
        omega
  · have hkn : k = 2 * n := by omega
    have hall : List.take k (Bb n m) = Bb n m := by rw [List.take_of_length_le]; rw [kq]; omega
    rw [hall, qse (by rw [xh, kq]; omega), Kk, zh, qo6]
    simp (maxSteps := 3000000) only [List.set_cons_zero, List.set_cons_succ, qa, zZ, ↓qq, ↓reduceIte, reduceCtorEq, nA, nM, nS, nE, nL, nD]; try simp only [qa, zY]
    exact ⟨by rw [xh, kq]; omega, _, rfl⟩
theorem qre (n : Nat) (m : List Nat) (hn : n ≤ 8) (hm : okD m) : Am.Fn Try.prog 150 [.agg (dia n m)] [] (fun v H' => v = .str (ja n m) ∧ H' = []) := by
  refine Am.Fn.xf (R := fun v => v = _) qoo mixed qru (by simp) (by simp) ?_
  have h2n : qo .i64 (2 * (n : Int)) = ((2 * n : Nat) : Int) := by rw [wrap64 (by omega) (by omega)]; simp
  simp (maxSteps := 3000000) only [qfq, vx, qa, zZ, ↓qq, ↓reduceIte, reduceCtorEq, nA, nM, nS, nE, nL, nD]; try simp only [qa, zY]
  refine WA.xr qoo (fun s => ∃ k : Nat, s = ⟨[(4, .int .i64 k), (3, .slc 1 0 k false 0), (1, .ptr 0 0)], [.cells (dia n m), .vec 1 (u8s ((Bb n m).take k))]⟩ ∧ k ≤ 2 * n)
    (fun s => match get s.env 4 with | .int _ k => (100 - k).toNat | _ => 0) ⟨_, qw.trans (qw.qx [4, 3, 1]) (qw.vec 1 0 1 (by decide) rfl rfl ?_ ?_), 0, ?_, by omega⟩ ?_
  · simp only [qx, zs, zV, ↓reduceIte, nE, reduceCtorEq, nB]
  · simp only [zV, ↓reduceIte, nE, reduceCtorEq, nB]
  · simp only [qx, zs, List.take_zero, zV, ↓reduceIte, nE, reduceCtorEq, nB]; rfl
  rintro s ⟨k, rfl, hk⟩
  have hw : qo .i64 ((k : Int) + 1) = ((k + 1 : Nat) : Int) := by rw [wrap64 (by omega) (by omega)]; rfl
  simp (maxSteps := 3000000) only [Kq, K9, hw, h2n, y7, Jy, X1, Z4, g_n, jy, rd, List.getElem?_cons_zero, List.getElem?_cons_succ, vx, src, qa, zZ, ↓qq, ↓reduceIte, reduceCtorEq, nA, nM, nS, nE, nL, nD]; try simp only [qa, zY]
  refine ⟨fun h => ?_, fun h => ?_⟩
  · have hk' : k < 2 * n := by omega
    have hp := q7 hk'
    have hg := hm.get (place n k)
    have h1 : qo .i64 ((m.getD (place n k) 0 : Nat) : Int) = (m.getD (place n k) 0 : Nat) := ji (by omega)
    have hlt : (List.take k (Bb n m)).length = k := by rw [List.length_take, kq]; omega
    have hap : ∀ c : Nat, c = (if k < place n (m.getD (place n k) 0) then 40 else 41) → List.take k (u8s (List.take k (Bb n m))) ++ [AV.int .u8 (c : Int)] = u8s (List.take (k + 1) (Bb n m)) := by
      intro c hc
      rw [List.take_of_length_le (by rw [xh, hlt]; exact Nat.le_refl _), qor hk', ← hc, ← qjg]; rfl
    simp (maxSteps := 3000000) only [kj hk', h1, qa, zZ, ↓qq, ↓reduceIte, reduceCtorEq, nA, nM, nS, nE, nL, nD]; try simp only [qa, zY]
    refine ⟨⟨xu (by omega), xu (by omega)⟩, ⟨by omega, by omega⟩, by rw [hm.1]; omega, ⟨xu (by omega), xu (by omega)⟩, fun h2 => ?_, fun h2 => ?_⟩
    · have e := hap 40 (by rw [if_pos (Bs.1 h2)])
      simp only [Int.cast_ofNat_Int] at e
      refine ⟨by decide, ⟨by rw [xh, hlt]; exact Nat.le_refl _, by decide, by omega⟩, _, qw.x7 [0, 3] [4, 3, 1] ⟨by decide, ?_⟩ ?_, ⟨k + 1, ?_, by omega⟩, ?_⟩
      · simp only [over, List.take_zero, List.length_cons, List.length_nil, List.drop_succ_cons, List.drop_nil, List.take_succ_cons, List.drop_zero, e, zK, ↓reduceIte, reduceCtorEq, nE, nB, nA]
      · simp only [zK, ↓reduceIte, reduceCtorEq, nE, nB, nA]
      · simp only [over, List.take_zero, List.length_cons, List.length_nil, List.drop_succ_cons, List.drop_nil, List.take_succ_cons, List.drop_zero, e, zL, ↓reduceIte, reduceCtorEq, nE, nA]
      · simp only [zL, ↓reduceIte, reduceCtorEq, nE, nA]
        omega
    · have e := hap 41 (by rw [if_neg fun h => h2 (Bs.2 h)])
      simp only [Int.cast_ofNat_Int] at e
      refine ⟨by decide, ⟨by rw [xh, hlt]; exact Nat.le_refl _, by decide, by omega⟩, _, qw.x7 [0, 3] [4, 3, 1] ⟨by decide, ?_⟩ ?_, ⟨k + 1, ?_, by omega⟩, ?_⟩
      · simp only [over, List.take_zero, List.length_cons, List.length_nil, List.drop_succ_cons, List.drop_nil, List.take_succ_cons, List.drop_zero, e, zK, ↓reduceIte, reduceCtorEq, nE, nB, nA]
      · simp only [zK, ↓reduceIte, reduceCtorEq, nE, nB, nA]
      · simp only [over, List.take_zero, List.length_cons, List.length_nil, List.drop_succ_cons, List.drop_nil, List.take_succ_cons, List.drop_zero, e, zL, ↓reduceIte, reduceCtorEq, nE, nA]
      · simp only [zL, ↓reduceIte, reduceCtorEq, nE, nA]
        omega
  · have hkn : k = 2 * n := by omega
    have hall : List.take k (Bb n m) = Bb n m := by rw [List.take_of_length_le]; rw [kq]; omega
    rw [hall, qse (by rw [xh, kq]; omega), Kk, zh, qo6]
    simp (maxSteps := 3000000) only [List.set_cons_zero, List.set_cons_succ, qa, zZ, ↓qq, ↓reduceIte, reduceCtorEq, nA, nM, nS, nE, nL, nD]; try simp only [qa, zY]
    rw [xh, kq]; omega
end Go.Proofs.Ytfhckbbgmblhbaa
namespace Go.Proofs.Ytfhckbbgmblhbaa
open Go.Am Go.Dia
open Nat renaming reduceAdd → nA, reduceMul → nM, reduceSub → nS, reduceEqDiff → nE, reduceLT → nL, reduceLeDiff → nD, reduceBEq → nB
open Int renaming reduceEq → iE, reduceNe → iN, reduceBEq → iB, reduceBNe → iC, reduceLT → iL, reduceLE → iD, reduceAdd → iA, reduceSub → iS, reduceMul → iM
set_option linter.unusedSimpArgs false
set_option linter.unusedVariables false
set_option maxRecDepth 4000
set_option maxHeartbeats 4000000
def qgp : AC := .seq (.region [o0 2 (.box (.t 0)),oI 4 0,oI 5 0]) (.seq (.draw true [oF 8 0 2,oL 9 8,oM 10 1,oF 12 0 2,oL 13 12,oM 14 1,oF 15 1 2,o0 16 (.xa 16 1 (.t 15) (.t 14)),oL 17 16,o0 18 (.conv .i64 (.t 17)),oC 11 165 [.t 9,.t 10],oC 19 165 [.t 13,.t 18],oM 6 11,oM 7 19]) (.seq (.region [oM 20 6,oM 21 7,o0 22 (.Vc true (.t 20) (.t 21)),oM 23 6,oM 24 7,o0 25 (.Vc false (.t 23) (.t 24)),oM 4 22,oM 5 25]) .ret))
theorem qqs : zl Try.prog 145 = some ⟨26, qgp, [.slot 4, .slot 5]⟩ := by kernel_rfl
def qd2 : AC := .seq (.seq (.region [oM 17 4,oK 18 .lss 17 16]) (.cond 18 .skip (.exit 0))) (.seq (.block 1 (.seq (.region [oM 21 4,oF 22 1 1,o0 23 (.xa 16 1 (.t 22) (.t 21)),oL 24 23,o0 25 (.conv .i64 (.t 24)),oM 5 25]) (.seq (.seq (.region [oM 26 4,oM 27 3,o0 28 (.bin .mul (.c (.int .i64 2)) (.t 27)),oP 29 .geq 26 28]) (.cond 29 (.seq (.seq (.region [oM 30 5,oK 31 .neq 30 0]) (.cond 31 (.seq (.region [oB 2 false]) .ret) .skip)) (.exit 1)) .skip)) (.seq (.region [oM 32 5,oM 33 3,o0 34 (.bin .mul (.c (.int .i64 2)) (.t 33)),oP 35 .geq 32 34,oM 36 35,oG 37 36 false (.mov (.t 5)),oG 38 36 false (.mov (.t 4)),oG 39 36 false (.bin .eql (.t 37) (.t 38)),o0 40 (.pick (.t 36) (.c (.bool true)) (.t 39)),oM 41 40,oG 42 41 false (.mov (.t 5)),oG 43 41 false (.qbb 1 (.t 1)),oG 44 41 false (.xa 16 1 (.t 43) (.t 42)),oG 45 41 false (.Yj (.t 44)),oG 46 41 false (.conv .i64 (.t 45)),oG 47 41 false (.mov (.t 4)),oG 48 41 false (.bin .neq (.t 46) (.t 47)),o0 49 (.pick (.t 41) (.c (.bool true)) (.t 48))]) (.cond 49 (.seq (.region [oB 2 false]) .ret) .skip))))) (.region [oM 19 4,oK 20 .add 19 1,oM 4 20]))
def qdo : AC := .seq (.seq (.region [oM 62 9,oM 63 3,o0 64 (.bin .mul (.c (.int .i64 2)) (.t 63)),oP 65 .lss 62 64]) (.cond 65 .skip (.exit 4))) (.seq (.block 5 (.seq (.region [oN 69 17 1,oM 70 9,oC 71 145 [.t 69,.t 70],oM 68 71,oE 72 0 68,oE 73 1 68,oM 10 72,oM 11 73]) (.seq (.region [oM 74 7,oM 75 10,oP 76 .lss 74 75,oM 77 76,oG 78 77 true (.mov (.t 10)),oG 79 77 true (.mov (.t 8)),oG 80 77 true (.bin .lss (.t 78) (.t 79)),o0 81 (.pick (.t 77) (.t 80) (.c (.bool false))),oM 82 81,oG 83 82 true (.mov (.t 8)),oG 84 82 true (.mov (.t 11)),oG 85 82 true (.bin .lss (.t 83) (.t 84)),o0 86 (.pick (.t 82) (.t 85) (.c (.bool false)))]) (.cond 86 (.seq (.region [oB 2 false]) .ret) .skip)))) (.region [oM 66 9,oK 67 .add 66 1,oM 9 67]))
def qdm : AC := .region [oM 54 6,oK 55 .add 54 1,oM 6 55]
def qd7 : AC := .seq (.seq (.region [oM 50 6,oM 51 3,o0 52 (.bin .mul (.c (.int .i64 2)) (.t 51)),oP 53 .lss 50 52]) (.cond 53 .skip (.exit 2))) (.seq (.block 3 (.seq (.region [oN 57 17 1,oM 58 6,oC 59 145 [.t 57,.t 58],oM 56 59,oE 60 0 56,oE 61 1 56,oM 7 60,oM 8 61]) (.seq (.region [oI 9 0]) (.block 4 (.loop qdo))))) qdm)
def qdk : AC := .seq (.region [oB 2 true]) .ret
def qeh : AC := .seq (.seq (.region [oI 6 0]) (.block 2 (.loop qd7))) qdk
def qlv : AC := .seq (.region [o0 1 (.box (.t 0)),oB 2 false]) (.seq (.region [oF 12 0 1,oL 13 12,oM 3 13]) (.seq (.seq (.region [oM 14 3,oC 15 66 [.t 14,(.c (.int .i64 1)),(.c (.int .i64 8))],o0 16 (.un .not (.t 15))]) (.cond 16 (.seq (.region [oB 2 false]) .ret) .skip)) (.seq (.seq (.region [oI 4 0]) (.block 0 (.loop qd2))) qeh)))
theorem qx5 : zl Try.prog 91 = some ⟨87, qlv, [.slot 2]⟩ := by kernel_rfl
def Q5 : List AV → List AV → Option AV := fun l xs => match vi l, xs with
  | some (n, m), [] => chk (0 ≤ n ∧ n ≤ 8) (some (.str (ja n.toNat m)))
  | _, _ => none
theorem q0o : Am.Callee Try.prog 142 (Xp 17 Q5) :=
  Am.Callee.read fun l xs v hl he => by
    unfold Q5 at he
    split at he
    · rename_i n m hd
      obtain ⟨h1, he⟩ := ql he
      cases he
      obtain ⟨rfl, hm⟩ := zi hd
      obtain ⟨k, rfl⟩ : ∃ k : Nat, n = k := ⟨n.toNat, by omega⟩
      exact ⟨qd _ _, rfl, rfl, by rw [Int.toNat_natCast]; exact qyz k m (by omega) hm⟩
    · cases he
def qc5 : List AV → Option AV
  | [.agg l] => match vi l with
    | some (n, m) => chk (0 ≤ n ∧ n ≤ 8) (some (.str (ja n.toNat m)))
    | none => none
  | _ => none
theorem qp4 : Am.Callee Try.prog 150 (qj qc5) :=
  Am.Callee.plain fun xs v he => by
    unfold qc5 at he
    split at he
    · split at he
      · rename_i n m hd
        obtain ⟨h1, he⟩ := ql he
        cases he
        obtain ⟨rfl, hm⟩ := zi hd
        obtain ⟨k, rfl⟩ : ∃ k : Nat, n = k := ⟨n.toNat, by omega⟩
        exact ⟨by simp only [AV.zg, AV.zq, qd, Bool.and_self], rfl, by rw [Int.toNat_natCast]; exact qre k m (by omega) hm⟩
      · cases he
    · cases he
def B5 : zc := ((B4.put 142 (Xp 17 Q5)).put 150 (qj qc5))
theorem q6a : qp Try.prog B5 := ((qoo.put (q0o)).put (qp4))
theorem qkk : B5 66 = some (qj wc) := rfl
theorem qe6 : B5 165 = some (qj jy) := rfl
theorem qqc (n i : Nat) (m : List Nat) (hn : n ≤ 8) (hm : okD m) (hi : i < 2 * n) (ht : m.getD i 0 < 2 * n) :
    Am.Fn Try.prog 145 [.agg (dia n m), .int .i64 i] [] (fun v H' => v = .tup [.int .i64 (Yk n m i : Nat), .int .i64 (W9 n m i : Nat)] ∧ H' = []) := by
  refine Am.Fn.xf (R := fun v => v = _) q6a mixed qqs (by simp) (by simp) ?_
  have hg := hm.get i
  have h1 : qo .i64 ((m.getD i 0 : Nat) : Int) = (m.getD i 0 : Nat) := ji (by omega)
  have hl : i < m.length := by rw [hm.1]; omega
  simp (maxSteps := 3000000) only [qgp, qkk, qe6, wc, jy, rd, List.getElem?_cons_zero, List.getElem?_cons_succ, y7, Vt hl, Int.toNat_natCast, Nat.mul_one, h1, kj hi, kj ht, and_self, List.append_cancel_left_eq, List.self_eq_append_right, exists_eq, AV.tup.injEq, List.cons.injEq, AV.int.injEq, qa, zZ, ↓qq, ↓reduceIte, reduceCtorEq, nA, nM, nS, nE, nL, nD]; try simp only [qa, zY]
  refine ⟨⟨by omega, by omega⟩, hl, ⟨xu (by omega), xu (by omega)⟩, ⟨xu (by omega), xu (by omega)⟩, ?_, ?_⟩
  · unfold Yk; split <;> omega
  · unfold W9; split <;> omega
def qca : List AV → Option AV
  | [.agg l, .int .i64 i] => match vi l with
    | some (n, m) => chk ((0 ≤ n ∧ n ≤ 8) ∧ (0 ≤ i ∧ i < 2 * n) ∧ m.getD i.toNat 0 < 2 * n.toNat) (some (.tup [.int .i64 (Yk n.toNat m i.toNat : Nat), .int .i64 (W9 n.toNat m i.toNat : Nat)]))
    | none => none
  | _ => none
theorem qq6 : Am.Callee Try.prog 145 (qj qca) :=
  Am.Callee.plain fun xs v he => by
    unfold qca at he
    split at he
    · split at he
      · rename_i i _ n m hd
        obtain ⟨h1, he⟩ := ql he
        cases he
        obtain ⟨rfl, hm⟩ := zi hd
        obtain ⟨k, rfl⟩ : ∃ k : Nat, n = k := ⟨n.toNat, by omega⟩
        obtain ⟨j, rfl⟩ : ∃ j : Nat, i = j := ⟨i.toNat, by omega⟩
        simp only [Int.toNat_natCast] at h1 ⊢
        exact ⟨by simp only [AV.zg, AV.zq, qd, Bool.and_self], rfl, qqc k j m (by omega) hm (by omega) h1.2.2⟩
      · cases he
    · cases he
def B6 : zc := (B5.put 145 (qj qca))
theorem qp5 : qp Try.prog B6 := (q6a.put (qq6))
theorem Yr : B6 66 = some (qj wc) := rfl
theorem Xw : B6 165 = some (qj jy) := rfl
theorem J5 : B6 145 = some (qj qca) := rfl
theorem q57 {n : Int} {m : List Nat} (h : ¬(1 ≤ n ∧ n ≤ 8)) : isS n.toNat m = false := by
  unfold isS; rw [decide_eq_false (by omega)]; rfl
def qa9 (n : Nat) (m : List Nat) (i : Nat) : Bool := if 2 * n ≤ i then m.getD i 0 == 0 else decide (m.getD i 0 < 2 * n ∧ m.getD i 0 ≠ i ∧ m.getD (m.getD i 0) 0 = i)
theorem qqp {n i : Nat} {m : List Nat} (h : 2 * n ≤ i) : qa9 n m i = (m.getD i 0 == 0) := if_pos h
theorem qc9 {n i : Nat} {m : List Nat} (h : ¬2 * n ≤ i) : qa9 n m i = decide (m.getD i 0 < 2 * n ∧ m.getD i 0 ≠ i ∧ m.getD (m.getD i 0) 0 = i) := if_neg h
def jl (n : Nat) (m : List Nat) (i k : Nat) : Bool := decide (Yk n m i < Yk n m k ∧ Yk n m k < W9 n m i ∧ W9 n m i < W9 n m k)
theorem qhf {n : Nat} {m : List Nat} {i : Nat} (hi : i < 16) (h : qa9 n m i = false) : isS n m = false := by
  unfold isS
  rw [Bool.and_eq_false_iff]; right
  rw [Bool.and_eq_false_iff]; left
  unfold q1z
  rw [List.all_eq_false]
  exact ⟨i, List.mem_range.2 hi, by unfold qa9 at h; rw [h]; simp⟩
theorem q44 {n : Nat} {m : List Nat} {i k : Nat} (hi : i < 2 * n) (hk : k < 2 * n) (h : jl n m i k = true) : isS n m = false := by
  unfold isS
  rw [Bool.and_eq_false_iff]; right
  rw [Bool.and_eq_false_iff]; right
  unfold qvr
  rw [List.all_eq_false]
  refine ⟨i, List.mem_range.2 hi, ?_⟩
  rw [Bool.not_eq_true, List.all_eq_false]
  exact ⟨k, List.mem_range.2 hk, by unfold jl at h; rw [h]; simp⟩
theorem q3o {n : Nat} {m : List Nat} (hn : 1 ≤ n ∧ n ≤ 8) (h1 : ∀ i, i < 16 → qa9 n m i = true) (h2 : ∀ i, i < 2 * n → ∀ k, k < 2 * n → jl n m i k = false) : isS n m = true := by
  unfold isS
  rw [decide_eq_true hn, Bool.true_and, Bool.and_eq_true]
  refine ⟨List.all_eq_true.2 fun i hi => ?_, List.all_eq_true.2 fun i hi => List.all_eq_true.2 fun k hk => ?_⟩
  · exact h1 i (List.mem_range.1 hi)
  · have := h2 i (List.mem_range.1 hi) k (List.mem_range.1 hk)
    unfold jl at this; rw [this]; rfl
theorem qxu (n : Int) (m : List Nat) (hm : okD m) : Am.Fn Try.prog 91 [.agg (dia n m)] [] (fun v H' => v = .bool (isS n.toNat m) ∧ H' = []) := by
  refine Am.Fn.xf (R := fun v => v = _) qp5 mixed qx5 (by simp) (by simp) ?_
  simp (maxSteps := 3000000) only [qlv, Yr, Xw, J5, qca, wc, jy, rd, List.getElem?_cons_zero, List.getElem?_cons_succ, y7, qa, zZ, ↓qq, ↓reduceIte, reduceCtorEq, nA, nM, nS, nE, nL, nD]; try simp only [qa, zY]
  refine ⟨fun h => (q57 h).symm, fun h => ?_⟩
  obtain ⟨n, rfl⟩ : ∃ k : Nat, n = k := ⟨n.toNat, by omega⟩
  simp only [Int.toNat_natCast]
  have hn : 1 ≤ n ∧ n ≤ 8 := by omega
  have h2n : qo .i64 (2 * (n : Int)) = ((2 * n : Nat) : Int) := by rw [wrap64 (by omega) (by omega)]; simp
  refine WA.xr qp5 (fun s => ∃ k : Nat, s = ⟨[(4, .int .i64 k), (3, .int .i64 n), (1, .ptr 0 0)], [.cells (dia n m)]⟩ ∧ k ≤ 16 ∧ ∀ i, i < k → qa9 n m i = true)
    (fun s => match get s.env 4 with | .int _ k => (100 - k).toNat | _ => 0) ⟨_, qw.qx [4, 3, 1], 0, rfl, by omega, by intros; omega⟩ ?_
  rintro s ⟨k, rfl, hk, hc⟩
  have hw : qo .i64 ((k : Int) + 1) = ((k + 1 : Nat) : Int) := by rw [wrap64 (by omega) (by omega)]; rfl
  have hg := hm.get k
  have h1 : qo .i64 ((m.getD k 0 : Nat) : Int) = (m.getD k 0 : Nat) := ji (by omega)
  have hml := hm.1
  simp (maxSteps := 3000000) only [qd2, hw, h2n, h1, hml, rd, List.getElem?_cons_zero, List.getElem?_cons_succ, qa, zZ, ↓qq, ↓reduceIte, reduceCtorEq, nA, nM, nS, nE, nL, nD]; try simp only [qa, zY]
  have hnext : qa9 n m k = true → ∀ i, i < k + 1 → qa9 n m i = true := fun hk1 i hi => by
    by_cases e : i = k
    · subst e; exact hk1
    · exact hc i (by omega)
  have htt := hm.get (m.getD k 0)
  refine ⟨fun h3 => ⟨⟨by omega, by omega⟩, by omega, fun h4 => ⟨fun h5 => ?_, fun h5 => ⟨_, qw.qx [4, 3, 1], ⟨k + 1, rfl, by omega, hnext ?_⟩, ?_⟩⟩,
    fun h4 => ⟨fun h5 => ⟨fun h6 => ⟨⟨by omega, by omega⟩, by omega, fun h7 => ?_, fun h7 => ⟨_, qw.qx [4, 3, 1], ⟨k + 1, rfl, by omega, hnext ?_⟩, ?_⟩⟩, fun h6 => ?_⟩, fun h5 => ?_⟩⟩, fun h3 => ?_⟩
  · refine (qhf (i := k) (by omega) ?_).symm
    rw [qqp (by omega)]; exact beq_eq_false_iff_ne.2 (by omega)
  · rw [qqp (by omega)]; exact beq_iff_eq.2 (by omega)
  · simp only [zL, ↓reduceIte, reduceCtorEq, nE, nA]; omega
  · refine (qhf (i := k) (by omega) ?_).symm
    rw [ji (by omega)] at h7
    rw [qc9 (by omega)]; exact decide_eq_false (by omega)
  · rw [ji (by omega)] at h7
    rw [qc9 (by omega)]; exact decide_eq_true (by omega)
  · simp only [zL, ↓reduceIte, reduceCtorEq, nE, nA]; omega
  · refine (qhf (i := k) (by omega) ?_).symm
    rw [qc9 (by omega)]; exact decide_eq_false (by omega)
  · refine (qhf (i := k) (by omega) ?_).symm
    rw [qc9 (by omega)]; exact decide_eq_false (by omega)
  have hc' : ∀ i, i < 16 → qa9 n m i = true := fun i hi => hc i (by omega)
  have hto : ∀ i, i < 2 * n → m.getD i 0 < 2 * n := fun i hi => by
    have := hc' i (by omega)
    unfold qa9 at this; rw [if_neg (by omega)] at this
    exact (of_decide_eq_true this).1
  clear hc hnext hw
  simp (maxSteps := 3000000) only [qeh, qa, zZ, ↓qq, ↓reduceIte, reduceCtorEq, nA, nM, nS, nE, nL, nD]; try simp only [qa, zY]
  refine WA.xr qp5 (fun s => ∃ i : Nat, s = ⟨[(6, .int .i64 i), (3, .int .i64 n), (1, .ptr 0 0)], [.cells (dia n m)]⟩ ∧ i ≤ 2 * n ∧ ∀ i', i' < i → ∀ k, k < 2 * n → jl n m i' k = false)
    (fun s => match get s.env 6 with | .int _ k => (100 - k).toNat | _ => 0) ⟨_, qw.qx [6, 3, 1], 0, rfl, by omega, by intros; omega⟩ ?_
  rintro s ⟨i, rfl, hi, hx⟩
  have hw : qo .i64 ((i : Int) + 1) = ((i + 1 : Nat) : Int) := by rw [wrap64 (by omega) (by omega)]; rfl
  simp (maxSteps := 3000000) only [qd7, Yr, Xw, J5, qca, wc, jy, hw, h2n, qy hm, vq hml, qc, hml, rd, List.getElem?_cons_zero, List.getElem?_cons_succ, qa, zZ, ↓qq, ↓reduceIte, reduceCtorEq, nA, nM, nS, nE, nL, nD]; try simp only [qa, zY]
  refine ⟨fun h3 => ⟨⟨⟨by omega, by omega⟩, ⟨by omega, by omega⟩, hto i (by omega)⟩, ?_⟩, fun h3 => ?_⟩
  · have hi2 : i < 2 * n := by omega
    refine WA.xr qp5 (fun s => ∃ j : Nat, s = ⟨[(9, .int .i64 j), (8, .int .i64 (W9 n m i : Nat)), (7, .int .i64 (Yk n m i : Nat)), (6, .int .i64 i), (3, .int .i64 n), (1, .ptr 0 0)], [.cells (dia n m)]⟩ ∧ j ≤ 2 * n ∧ ∀ j', j' < j → jl n m i j' = false)
      (fun s => match get s.env 9 with | .int _ k => (100 - k).toNat | _ => 0) ⟨_, qw.qx [9, 8, 7, 6, 3, 1], 0, rfl, by omega, by intros; omega⟩ ?_
    rintro s ⟨j, rfl, hj, hy⟩
    have hw' : qo .i64 ((j : Int) + 1) = ((j + 1 : Nat) : Int) := by rw [wrap64 (by omega) (by omega)]; rfl
    simp (maxSteps := 3000000) only [qdo, qdm, Yr, Xw, J5, qca, wc, jy, hw, hw', h2n, qy hm, vq hml, qc, hml, rd, List.getElem?_cons_zero, List.getElem?_cons_succ, qa, zZ, ↓qq, ↓reduceIte, reduceCtorEq, nA, nM, nS, nE, nL, nD]; try simp only [qa, zY]
    have hny : jl n m i j = false → ∀ j', j' < j + 1 → jl n m i j' = false := fun hk1 j' hi => by
      by_cases e : j' = j
      · subst e; exact hk1
      · exact hy j' (by omega)
    refine ⟨fun h4 => ⟨⟨⟨by omega, by omega⟩, ⟨by omega, by omega⟩, hto j (by omega)⟩, fun h5 => ⟨fun h6 => ⟨fun h7 => (q44 hi2 (by omega : j < 2 * n) (decide_eq_true (by omega))).symm, fun h7 => ?_⟩, fun h6 => ?_⟩, fun h5 => ?_⟩, fun h4 => ⟨_, qw.qx [6, 3, 1], ⟨i + 1, rfl, by omega, ?_⟩, ?_⟩⟩
    · refine ⟨_, qw.qx [9, 8, 7, 6, 3, 1], ⟨j + 1, rfl, by omega, hny (decide_eq_false (by omega))⟩, ?_⟩
      simp only [zL, ↓reduceIte, reduceCtorEq, nE, nA]; omega
    · refine ⟨_, qw.qx [9, 8, 7, 6, 3, 1], ⟨j + 1, rfl, by omega, hny (decide_eq_false (by omega))⟩, ?_⟩
      simp only [zL, ↓reduceIte, reduceCtorEq, nE, nA]; omega
    · refine ⟨_, qw.qx [9, 8, 7, 6, 3, 1], ⟨j + 1, rfl, by omega, hny (decide_eq_false (by omega))⟩, ?_⟩
      simp only [zL, ↓reduceIte, reduceCtorEq, nE, nA]; omega
    · intro i' hi' k hk
      by_cases e : i' = i
      · subst e; exact hy k (by omega)
      · exact hx i' (by omega) k hk
    · simp only [zL, ↓reduceIte, reduceCtorEq, nE, nA]; omega
  · simp (maxSteps := 3000000) only [qdk, qa, zZ, ↓qq, ↓reduceIte, reduceCtorEq, nA, nM, nS, nE, nL, nD]; try simp only [qa, zY]
    exact (q3o hn hc' fun i' hi' => hx i' (by omega)).symm
def yd : List AV → Option AV
  | [.agg l] => match vi l with
    | some (n, m) => some (.bool (isS n.toNat m))
    | none => none
  | _ => none
theorem qwy : Am.Callee Try.prog 91 (qj yd) :=
  Am.Callee.plain fun xs v he => by
    unfold yd at he
    split at he
    · split at he
      · rename_i n m hd
        cases he
        obtain ⟨rfl, hm⟩ := zi hd
        exact ⟨by simp only [AV.zg, AV.zq, qd, Bool.and_self], rfl, qxu n m hm⟩
      · cases he
    · cases he
def B7 : zc := (B6.put 91 (qj yd))
theorem qoy : qp Try.prog B7 := (qp5.put (qwy))
theorem qha : B7 169 = some (qj jy) := rfl
def Ge : AC := .seq (.region [oP 15 .lss 14 13]) (.seq (.cond 15 .skip (.exit 0)) (.seq (.block 1 (.seq (.region [oM 16 14,oM 6 16]) (.block 2 (.seq (.region [oM 37 0,oM 38 6,o0 39 (.qg5 (.t 37) (.t 38)),o0 40 (.bin .eql (.t 39) (.c (.int .u8 40))),oM 36 40]) (.cond 36 (.region [oM 41 5,oM 42 6,o0 43 (.um 1 [.int .i64 0] [(0,1,.t 42)]),o0 44 (.append 1 8 (.t 41) (.t 43)),oM 5 44]) (.seq (.region [oM 46 0,oM 47 6,o0 48 (.qg5 (.t 46) (.t 47)),o0 49 (.bin .neq (.t 48) (.c (.int .u8 41))),oM 50 49,oG 51 50 false (.mov (.t 5)),oG 52 50 false (.len .slc (.t 51)),oG 53 50 false (.bin .eql (.t 52) (.c (.int .i64 0))),o0 54 (.pick (.t 50) (.c (.bool true)) (.t 53)),oM 45 54]) (.cond 45 (.seq (.region [o0 2 (.mov (.c (.v (.slice none 0 0)))),oB 3 false]) .ret) (.seq (.region [oM 17 5,oM 18 5,o0 19 (.len .slc (.t 18)),oK 20 .sub 19 1,oX 21 1 17 20,oL 22 21,oM 7 22]) (.seq (.region [oM 23 5,oM 24 5,o0 25 (.len .slc (.t 24)),oK 26 .sub 25 1,o0 27 (.qf3 1 (.t 23) none (some (.t 26))),oM 5 27]) (.region [oM 28 4,oM 29 7,oM 30 4,oM 31 6,oM 32 6,oM 33 7,oX 34 1 28 29,oT 34 32,oX 35 1 30 31,oT 35 33])))))))))) (.region [oK 55 .add 14 1,oM 14 55])))
def Gk : AC := .seq (.region [oM 56 4,oM 57 5,o0 58 (.len .slc (.t 57)),oK 59 .eql 58 0,oM 2 56,oM 3 59]) .ret
def qd8 : AC := .seq (.region [o0 2 (.mov (.c (.v (.slice none 0 0)))),oB 3 false]) (.seq (.region [oM 8 0,o0 9 (.len .str (.t 8)),o0 10 (.ky 1 8 [.int .i64 0] (.t 9) (.t 9)),o0 11 (.um 0 [] []),oM 4 10,oM 5 11]) (.seq (.seq (.region [oM 12 0,o0 13 (.len .str (.t 12)),oI 14 0]) (.block 0 (.loop Ge))) Gk))
theorem qm7 : zl Try.prog 179 = some ⟨60, qd8, [.slot 2, .slot 3]⟩ := by kernel_rfl
def qbu : AC := .seq (.region [oP 13 .lss 12 11]) (.seq (.cond 13 .skip (.exit 0)) (.seq (.block 1 (.seq (.region [oM 14 12,oX 15 1 10 12,oL 16 15,oM 6 14,oM 7 16]) (.region [oM 17 0,oM 18 6,oC 19 169 [.t 17,.t 18],oM 20 0,oM 21 7,oC 22 169 [.t 20,.t 21],o0 23 (.conv .u8 (.t 22)),oF 24 1 5,o0 25 (.xa 16 1 (.t 24) (.t 19)),oT 25 23]))) (.region [oK 26 .add 12 1,oM 12 26])))
def qbv : AC := .seq (.region [oN 27 17 5,oS 17 4 27]) .ret
def qh1 : AC := .seq (.region [oD 4]) (.seq (.region [oM 8 0,o0 9 (.build [.int .i64 0,.int .u8 0,.int .u8 0,.int .u8 0,.int .u8 0,.int .u8 0,.int .u8 0,.int .u8 0,.int .u8 0,.int .u8 0,.int .u8 0,.int .u8 0,.int .u8 0,.int .u8 0,.int .u8 0,.int .u8 0,.int .u8 0] [(0,1,.t 8)]),oD 5,oS 17 5 9]) (.seq (.seq (.region [oM 10 1,o0 11 (.len .slc (.t 10)),oI 12 0]) (.block 0 (.loop qbu))) qbv))
theorem qtx : zl Try.prog 180 = some ⟨28, qh1, [.yn 4 17]⟩ := by kernel_rfl
def G2 : List AV → Option (List Nat)
  | [] => some []
  | .int .i64 x :: r => if 0 ≤ x then (match G2 r with
    | some l => some (x.toNat :: l)
    | none => none) else none
  | _ => none
theorem qfy : ∀ {m : List Nat}, G2 (uk m) = some m
  | [] => rfl
  | x :: m => by
    have h1 := qfy (m := m)
    simp only [uk, List.map_cons, G2] at h1 ⊢
    rw [if_pos (by omega), h1]
    simp
theorem qfs : ∀ {l : List AV} {m : List Nat}, G2 l = some m → l = uk m
  | [], m, h => by cases h; rfl
  | a :: l, m, h => by
    cases a <;> (try (simp only [G2, reduceCtorEq] at h; done))
    rename_i k x
    cases k <;> (try (simp only [G2, reduceCtorEq] at h; done))
    simp only [G2] at h
    split at h
    · split at h
      · rename_i r hr
        cases h
        rw [qfs hr]
        simp only [uk, List.map_cons, List.cons.injEq, AV.int.injEq, true_and, and_true]
        omega
      · cases h
    · cases h
def Jv (s : List UInt8) : AV × List AO := match parts s s.length with
  | none => (.tup [.v (.slice none 0 0), .bool false], [])
  | some (out, st) => (.tup [.slc 0 0 s.length true s.length, .bool ((st.length : Int) == 0)], [.cells (uk out)])
theorem qap {x : UInt8} {c : Nat} (hc : c < 256) : ((x.toNat : Int) = c) ↔ x = UInt8.ofNat c := by
  constructor
  · intro h
    apply UInt8.toNat_inj.1
    rw [UInt8.toNat_ofNat']; omega
  · intro h; rw [h, UInt8.toNat_ofNat']; omega
theorem qcn {s : List UInt8} {k : Nat} (h : parts s k = none) : ∀ j, k ≤ j → parts s j = none
  | 0, hj => by rw [← Nat.le_zero.1 hj]; exact h
  | j + 1, hj => by
    by_cases e : k = j + 1
    · rw [← e]; exact h
    · simp only [parts, qcn h j (by omega)]
theorem Kb : ∀ (k : Nat) (l : List Nat), l.Nodup → (∀ i, i ∈ l → i < k) → l.length ≤ k
  | 0, [], _, _ => Nat.le_refl _
  | 0, a :: l, _, h => absurd (h a (by simp)) (by omega)
  | k + 1, l, hn, h => by
    by_cases hk : k ∈ l
    · have h1 := Kb k (l.erase k) (hn.erase k) fun i hi => by
        have h2 := h i (List.mem_of_mem_erase hi)
        have h3 : i ≠ k := by rintro rfl; exact (List.Nodup.not_mem_erase hn) hi
        omega
      rw [List.length_erase_of_mem hk] at h1; omega
    · have h1 := Kb k l hn fun i hi => by
        have h2 := h i hi
        have h3 : i ≠ k := by rintro rfl; exact hk hi
        omega
      omega
theorem qm2 (s : List UInt8) (hs : s.length ≤ 1000) : Am.Fn Try.prog 179 [.str s] [] (fun v H' => v = (Jv s).1 ∧ H' = (Jv s).2) := by
  refine Am.Fn.ofB qoy mixed qm7 (by simp) (by simp) ?_
  simp (maxSteps := 3000000) only [qd8, vx, qqd, qa, zZ, ↓qq, ↓reduceIte, reduceCtorEq, nA, nM, nS, nE, nL, nD]; try simp only [qa, zY]
  refine ⟨⟨by omega, by omega, by omega⟩, ?_⟩
  refine WA.xr qoy (fun t => ∃ (k : Nat) (out st cl : List Nat), t = ⟨[(14, .int .i64 k), (13, .int .i64 s.length), (5, .slc 1 0 st.length false 0), (4, .slc 0 0 s.length true s.length), (0, .str s)], [.cells (uk out), .vec 1 (uk cl)]⟩ ∧
      k ≤ s.length ∧ parts s k = some (out, st) ∧ out.length = s.length ∧ st.length ≤ cl.length ∧ cl.take st.length = st.reverse ∧ (∀ i, i ∈ st → i < k))
    (fun s => match get s.env 14 with | .int _ k => (1000 - k).toNat | _ => 0) ⟨_, qw.trans (qw.qx [14, 13, 5, 4, 0]) (qw.vec 1 0 1 (by decide) rfl rfl ?_ ?_), 0, List.replicate s.length 0, [], [], ?_, by omega, rfl, by simp, by simp, rfl, by simp⟩ ?_
  · simp only [qx, zs, zV, ↓reduceIte, nE, reduceCtorEq, nB]
  · simp only [zV, ↓reduceIte, nE, reduceCtorEq, nB]
  · simp only [qx, zs, zV, ↓reduceIte, nE, reduceCtorEq, nB]; rfl
  rintro t ⟨k, out, st, cl, rfl, hk, hp, hl, hcl, htk, hlt⟩
  have hw : qo .i64 ((k : Int) + 1) = ((k + 1 : Nat) : Int) := by rw [wrap64 (by omega) (by omega)]; rfl
  simp (maxSteps := 3000000) only [Ge, hw, rd, List.getElem?_cons_zero, List.getElem?_cons_succ, vx, src, lim, Option.map_some, Option.map_none, qgs, wrt, wrl, AO.gp, List.set_cons_zero, List.set_cons_succ, qa, zZ, ↓qq, ↓reduceIte, reduceCtorEq, nA, nM, nS, nE, nL, nD]; try simp only [qa, zY]
  refine ⟨fun h1 => ⟨⟨by omega, by omega⟩, fun h2 => ?_, fun h2 => ⟨⟨by omega, by omega⟩, fun h3 => ⟨fun h4 => ?_, fun h4 => ?_⟩, fun h3 => ?_⟩⟩, fun h1 => ?_⟩
  · have h2' : s.getD k 0 = 40 := (qap (by decide)).1 h2
    have happ : List.take st.length (uk cl) ++ [AV.int .i64 (k : Int)] = uk (k :: st).reverse := by
      rw [qlt, htk, List.reverse_cons, ← qfp]; rfl
    refine ⟨by simp [over], ⟨by rw [uq]; exact hcl, by simp [over, AV.one], ?_⟩, _, qw.x7 [0, 3] [14, 13, 5, 4, 0] ⟨by decide, ?_⟩ ?_, ⟨k + 1, out, k :: st, (k :: st).reverse, ?_, by omega, ?_, hl, by simp, ?_, ?_⟩, ?_⟩
    · have : st.length ≤ 1000 := by
        have := V3 k out st hk hp
        have h5 : st.Nodup := this.2.1.imp fun h => by omega
        have h6 := Kb k st h5 hlt
        omega
      omega
    · simp only [over, List.take_zero, List.length_cons, List.length_nil, List.drop_succ_cons, List.drop_nil, List.take_succ_cons, List.drop_zero, happ, zK, ↓reduceIte, reduceCtorEq, nE, nB, nA]
    · simp only [zK, ↓reduceIte, reduceCtorEq, nE, nB, nA]
    · simp only [over, List.take_zero, List.length_cons, List.length_nil, List.drop_succ_cons, List.drop_nil, List.take_succ_cons, List.drop_zero, happ, zL, ↓reduceIte, reduceCtorEq, nE, nA]
    · simp only [parts, hp, h2', if_true]
    · rw [List.take_of_length_le (by simp)]
    · intro i hi
      rcases List.mem_cons.1 hi with rfl | hi
      · omega
      · have := hlt i hi; omega
    · simp only [zL, ↓reduceIte, reduceCtorEq, nE, nA]; omega
  · have h2' : ¬ s.getD k 0 = 40 := fun h => h2 ((qap (c := 40) (by decide)).2 h)
    have hst : st = [] := List.length_eq_zero_iff.1 (by omega)
    have hnone : parts s (k + 1) = none := by
      simp only [parts, hp, hst, if_neg h2']
      split <;> rfl
    have hr : Jv s = (.tup [.v (.slice none 0 0), .bool false], []) := by
      unfold Jv; rw [qcn hnone s.length (by omega)]
    rw [hr]
    refine Ret.here [] ⟨by decide, by simp⟩ (rs := [.v (.slice none 0 0), .bool false]) (by simp (maxSteps := 3000000) only [qa, zZ, ↓qq, ↓reduceIte, reduceCtorEq, nA, nM, nS, nE, nL, nD]; try simp only [qa, zY]) rfl (by simp [xl]) (by simp [zo]) ⟨?_, rfl⟩
    simp [xl, AV.ren, AV.zp]
  · have h2' : ¬ s.getD k 0 = 40 := fun h => h2 ((qap (c := 40) (by decide)).2 h)
    have h3' : s.getD k 0 = 41 := (qap (c := 41) (by decide)).1 h3
    cases st with
    | nil => simp at h4
    | cons tp st' =>
    have hlen : qo .i64 (((tp :: st').length : Nat) - 1 : Int) = (st'.length : Nat) := by
      have : (tp :: st').length ≤ 1000 := by
        have := V3 k out _ hk hp
        have h5 : (tp :: st').Nodup := this.2.1.imp fun h => by omega
        have h6 := Kb k _ h5 hlt
        omega
      rw [wrap64 (by simp only [List.length_cons] at *; omega) (by simp only [List.length_cons] at *; omega)]
      simp
    have htop : cl.getD st'.length 0 = tp := by
      have h5 : (cl.take (tp :: st').length)[st'.length]? = cl[st'.length]? := List.getElem?_take_of_lt (by simp)
      rw [htk, List.reverse_cons, List.getElem?_append_right (by simp)] at h5
      rw [List.getD_eq_getElem?_getD, ← h5]; simp
    have htpk := hlt tp (by simp)
    simp only [hlen, Int.toNat_natCast, htop, Nat.sub_zero, q1g, uq, List.length_set]
    simp only [List.length_cons] at hcl ⊢
    refine ⟨⟨⟨by omega, by omega⟩, by omega⟩, by omega, ⟨by omega, by omega⟩, by omega, ⟨⟨by omega, by omega⟩, by omega⟩, ⟨by omega, rfl⟩, ⟨⟨by omega, by omega⟩, by omega⟩, ⟨by omega, rfl⟩,
      _, qw.qx [14, 13, 5, 4, 0], ⟨k + 1, (out.set tp k).set k tp, st', cl, ?_, by omega, ?_, by simp [hl], by omega, ?_, ?_⟩, ?_⟩
    · simp only [zL, ↓reduceIte, reduceCtorEq, nE, nA]
    · simp only [parts, hp, if_neg h2', if_pos h3']
    · have h5 := congrArg (List.take st'.length) htk
      rw [List.take_take, List.reverse_cons, List.take_append_of_le_length (by simp), List.take_of_length_le (l := st'.reverse) (by simp)] at h5
      rw [← h5]; congr 1; simp only [List.length_cons]; omega
    · intro i hi
      have := hlt i (List.mem_cons_of_mem _ hi); omega
    · simp only [zL, ↓reduceIte, reduceCtorEq, nE, nA]; omega
  · have h2' : ¬ s.getD k 0 = 40 := fun h => h2 ((qap (c := 40) (by decide)).2 h)
    have h3' : ¬ s.getD k 0 = 41 := fun h => by
      have := (qap (x := s.getD k 0) (c := 41) (by decide)).2 h
      simp_all
    have hnone : parts s (k + 1) = none := by
      simp only [parts, hp, if_neg h2', if_neg h3']
    have hr : Jv s = (.tup [.v (.slice none 0 0), .bool false], []) := by
      unfold Jv; rw [qcn hnone s.length (by omega)]
    rw [hr]
    refine Ret.here [] ⟨by decide, by simp⟩ (rs := [.v (.slice none 0 0), .bool false]) (by simp (maxSteps := 3000000) only [qa, zZ, ↓qq, ↓reduceIte, reduceCtorEq, nA, nM, nS, nE, nL, nD]; try simp only [qa, zY]) rfl (by simp [xl]) (by simp [zo]) ⟨?_, rfl⟩
    simp [xl, AV.ren, AV.zp]
  · have hkl : k = s.length := by omega
    subst hkl
    simp (maxSteps := 3000000) only [Gk, qa, zZ, ↓qq, ↓reduceIte, reduceCtorEq, nA, nM, nS, nE, nL, nD]; try simp only [qa, zY]
    have hr : Jv s = (.tup [.slc 0 0 s.length true s.length, .bool ((st.length : Int) == 0)], [.cells (uk out)]) := by
      unfold Jv; rw [hp]
    rw [hr]
    refine Ret.here [0] ⟨by decide, ?_⟩ (rs := [.slc 0 0 s.length true s.length, .bool ((st.length : Int) == 0)]) (by simp (maxSteps := 3000000) only [qa, zZ, ↓qq, ↓reduceIte, reduceCtorEq, nA, nM, nS, nE, nL, nD]; try simp only [qa, zY]) rfl (by simp [xl]) ?_ ⟨?_, ?_⟩
    · simp only [zK, ↓reduceIte, reduceCtorEq, nE, nB, nA]
    · intro j l; cases j <;> simp [zo, AO.ren]
    · simp only [xl]
      simp only [zL, ↓reduceIte, reduceCtorEq, nE, nA]
    · simp only [zL, ↓reduceIte, reduceCtorEq, nE, nA]
def j5 : List AV → Option (AV × List AO)
  | [.str s] => chk (s.length ≤ 1000) (some (Jv s))
  | _ => none
theorem qnd : Am.Callee Try.prog 179 (gq j5) :=
  Am.Callee.new fun xs v H he => by
    unfold j5 at he
    split at he
    · rename_i s
      obtain ⟨h1, he⟩ := ql he
      have e1 : v = (Jv s).1 := by rw [Option.some.inj he]
      have e2 : H = (Jv s).2 := by rw [Option.some.inj he]
      rw [e1, e2]
      exact ⟨rfl, qm2 s h1⟩
    · cases he
theorem qth (n : Nat) (out : List Nat) (hn : n ≤ 8) (hl : out.length = 2 * n) (ho : ∀ k, k < 2 * n → out.getD k 0 < 2 * n) :
    Am.Fn Try.prog 180 [.int .i64 n, .slc 0 0 (2 * n) true (2 * n)] [.ro (uk out)] (fun v H' => v = .agg (dia n (vy n out (2 * n))) ∧ H' = [.ro (uk out)]) := by
  refine Am.Fn.xf (R := fun v => v = _) qoy mixed qtx (by simp) (Jm (yk _)) ?_
  simp (maxSteps := 3000000) only [qh1, vx, rd, wrt, wrl, AO.gp, List.getElem?_cons_zero, List.getElem?_cons_succ, List.set_cons_zero, List.set_cons_succ, zk, kc, zn qt qt, qc, List.length_replicate, za, qa, zZ, ↓qq, ↓reduceIte, reduceCtorEq, nA, nM, nS, nE, nL, nD]; try simp only [qa, zY]
  refine WA.xr qoy (fun t => ∃ k : Nat, t = ⟨[(12, .int .i64 k), (11, .int .i64 (2 * n : Nat)), (10, .slc 0 0 (2 * n) true (2 * n)), (5, .ptr 2 0), (4, .ptr 1 0), (0, .int .i64 n)], [.ro (uk out), .cells (dia 0 (List.replicate 16 0)), .cells (dia n (vy n out k))]⟩ ∧ k ≤ 2 * n)
    (fun s => match get s.env 12 with | .int _ k => (1000 - k).toNat | _ => 0) ⟨_, qw.qx [12, 11, 10, 5, 4, 0], 0, rfl, by omega⟩ ?_
  rintro t ⟨k, rfl, hk⟩
  have hw : qo .i64 ((k : Int) + 1) = ((k + 1 : Nat) : Int) := by rw [wrap64 (by omega) (by omega)]; rfl
  have hj := w9 n out k
  simp (maxSteps := 3000000) only [qbu, qha, jy, hw, rd, List.getElem?_cons_zero, List.getElem?_cons_succ, uq, hl, wrt, wrl, AO.gp, List.set_cons_zero, List.set_cons_succ, qa, zZ, ↓qq, ↓reduceIte, reduceCtorEq, nA, nM, nS, nE, nL, nD]; try simp only [qa, zY]
  refine ⟨fun h => ?_, fun h => ?_⟩
  · have hk' : k < 2 * n := by omega
    have h1 := ho k hk'
    have h2 := q7 h1
    have h3 := q7 hk'
    simp only [kj hk', kj h1, Int.toNat_natCast, Yx (show place n (out.getD k 0) < 256 from by omega), Bt, qc, hj]
    refine ⟨⟨⟨by omega, by omega⟩, by omega⟩, by omega, ⟨xu (by omega), xu (by omega)⟩, ⟨xu (by omega), xu (by omega)⟩, ⟨by omega, by omega⟩, ⟨by omega, rfl⟩, _, qw.qx [12, 11, 10, 5, 4, 0], ⟨k + 1, ?_, by omega⟩, ?_⟩
    · simp only [zL, ↓reduceIte, reduceCtorEq, nE, nA]; rfl
    · simp only [zL, ↓reduceIte, reduceCtorEq, nE, nA]; omega
  · have hkn : k = 2 * n := by omega
    subst hkn
    simp (maxSteps := 3000000) only [qbv, rd, wrt, wrl, AO.gp, List.getElem?_cons_zero, List.getElem?_cons_succ, List.set_cons_zero, List.set_cons_succ, qc, hj, vq hj, zn qt hj, za, List.length_replicate, qd, qa, zZ, ↓qq, ↓reduceIte, reduceCtorEq, nA, nM, nS, nE, nL, nD]; try simp only [qa, zY]
    exact ⟨_, rfl⟩
def yq : List AV → List AV → Option AV := fun l xs => match G2 l, xs with
  | some out, [.int .i64 n, .slc 0 0 k true c] => chk ((0 ≤ n ∧ n ≤ 8) ∧ k = 2 * n.toNat ∧ c = k ∧ out.length = k ∧ (List.range k).all (fun i => decide (out.getD i 0 < k)) = true) (some (.agg (dia n (vy n.toNat out k))))
  | _, _ => none
theorem qtc : Am.Callee Try.prog 180 (g9 1 1 yq) :=
  Am.Callee.g9 fun l pre post len ex c v hp hl he => by
    unfold yq at he
    split at he
    · rename_i out n k c' hd hx
      obtain ⟨⟨h1, h2, h3, h4, h5⟩, he⟩ := ql he
      cases he
      obtain ⟨a, rfl⟩ : ∃ a, pre = [a] := List.length_eq_one_iff.1 hp
      simp only [List.cons_append, List.nil_append, List.cons.injEq, AV.slc.injEq, true_and] at hx
      obtain ⟨rfl, ⟨rfl, rfl, rfl⟩, rfl⟩ := hx
      have := qfs hd
      subst this
      obtain ⟨j, rfl⟩ : ∃ j : Nat, n = j := ⟨n.toNat, by omega⟩
      simp only [Int.toNat_natCast] at h2 ⊢
      subst h3; subst h2
      refine ⟨yk _, rfl, rfl, by simp only [AV.zq, qd], qth j out (by omega) h4 fun k hk => ?_⟩
      have := List.all_eq_true.1 h5 k (List.mem_range.2 hk)
      exact of_decide_eq_true this
    · cases he
end Go.Proofs.Ytfhckbbgmblhbaa
namespace Go.Proofs.Ytfhckbbgmblhbaa
open Go.Am Go.Dia
open Nat renaming reduceAdd → nA, reduceMul → nM, reduceSub → nS, reduceEqDiff → nE, reduceLT → nL, reduceLeDiff → nD, reduceBEq → nB
open Int renaming reduceEq → iE, reduceNe → iN, reduceBEq → iB, reduceBNe → iC, reduceLT → iL, reduceLE → iD, reduceAdd → iA, reduceSub → iS, reduceMul → iM
set_option linter.unusedSimpArgs false
set_option linter.unusedVariables false
set_option maxRecDepth 4000
set_option maxHeartbeats 1000000
def U3 : AC := .seq (.region [oD 2,oB 3 false]) (.seq (.seq (.region [oM 6 0,o0 7 (.len .str (.t 6)),oK 8 .rem 7 2,oK 9 .neq 8 0,oM 10 9,oG 11 10 false (.mov (.t 0)),oG 12 10 false (.len .str (.t 11)),⟨some 13,some (10,false),.call (.c (.fn 71 [] [])) [.t 12,(.c (.int .i64 2)),(.c (.int .i64 16))]⟩,oG 14 10 false (.un .not (.t 13)),o0 15 (.pick (.t 10) (.c (.bool true)) (.t 14))]) (.cond 15 (.seq (.region [o0 16 (.build [.int .i64 0,.int .u8 0,.int .u8 0,.int .u8 0,.int .u8 0,.int .u8 0,.int .u8 0,.int .u8 0,.int .u8 0,.int .u8 0,.int .u8 0,.int .u8 0,.int .u8 0,.int .u8 0,.int .u8 0,.int .u8 0,.int .u8 0] []),oS 17 2 16,oB 3 false]) .ret) .skip)) (.seq (.region [oM 18 0,oC 19 179 [.t 18],oM 17 19,oE 20 0 17,oE 21 1 17,oM 4 20,oM 5 21]) (.seq (.seq (.region [oM 22 5,o0 23 (.un .not (.t 22))]) (.cond 23 (.seq (.region [o0 24 (.build [.int .i64 0,.int .u8 0,.int .u8 0,.int .u8 0,.int .u8 0,.int .u8 0,.int .u8 0,.int .u8 0,.int .u8 0,.int .u8 0,.int .u8 0,.int .u8 0,.int .u8 0,.int .u8 0,.int .u8 0,.int .u8 0,.int .u8 0] []),oS 17 2 24,oB 3 false]) .ret) .skip)) (.seq (.region [oM 25 0,o0 26 (.len .str (.t 25)),oK 27 .quo 26 2,oM 28 4,oC 29 180 [.t 27,.t 28],oS 17 2 29,oB 3 true]) .ret))))
theorem qzs : zl Try.prog 152 = some ⟨30, U3, [.yn 2 17, .slot 3]⟩ := by kernel_rfl
def Ut : AC := .seq (.region [oK 14 .lss 13 16]) (.seq (.cond 14 .skip (.exit 0)) (.seq (.block 1 (.seq (.region [oM 15 13,o0 16 (.qg9 16 1 false (.t 12) (.t 13)),oM 3 15,oM 4 16]) (.seq (.region [oM 17 3,oC 18 168 [.t 1],o0 19 (.bin .mul (.c (.int .i64 2)) (.t 18)),oP 20 .geq 17 19,oM 21 20,oG 22 21 true (.mov (.t 4)),oG 23 21 true (.bin .neq (.t 22) (.c (.int .u8 0))),o0 24 (.pick (.t 21) (.t 23) (.c (.bool false))),oM 25 24,oG 26 25 false (.mov (.t 3)),⟨some 27,some (25,false),.call (.c (.fn 168 [] [])) [.t 1]⟩,oG 28 25 false (.bin .mul (.c (.int .i64 2)) (.t 27)),oG 29 25 false (.bin .lss (.t 26) (.t 28)),oG 30 25 false (.mov (.t 29)),oG 31 30 true (.mov (.t 4)),oG 32 30 true (.conv .i64 (.t 31)),⟨some 33,some (30,true),.call (.c (.fn 168 [] [])) [.t 1]⟩,oG 34 30 true (.bin .mul (.c (.int .i64 2)) (.t 33)),oG 35 30 true (.bin .geq (.t 32) (.t 34)),oG 36 25 false (.pick (.t 30) (.t 35) (.c (.bool false))),o0 37 (.pick (.t 25) (.c (.bool true)) (.t 36))]) (.cond 37 (.seq (.region [oB 2 false]) .ret) .skip)))) (.region [oK 38 .add 13 1,oM 13 38])))
def Y8 : AC := .seq (.region [oC 40 142 [.t 1],oC 41 152 [.t 40],oM 39 41,oE 42 0 39,oE 43 1 39,oD 5,oS 17 5 42,oM 6 43]) (.seq (.region [oM 44 6,oM 45 44,oG 46 45 true (.V4 17 (.t 5)),oG 47 45 true (.V4 17 (.t 1)),oG 48 45 true (.eqs false [.int,.int,.int,.int,.int,.int,.int,.int,.int,.int,.int,.int,.int,.int,.int,.int,.int] (.t 46) (.t 47)),o0 49 (.pick (.t 45) (.t 48) (.c (.bool false))),oM 2 49]) .ret)
def qbt : AC := .seq (.region [o0 1 (.box (.t 0)),oB 2 false]) (.seq (.seq (.region [oF 7 0 1,oL 8 7,oC 9 71 [.t 8,(.c (.int .i64 1)),(.c (.int .i64 8))],o0 10 (.un .not (.t 9))]) (.cond 10 (.seq (.region [oB 2 false]) .ret) .skip)) (.seq (.seq (.region [oF 11 1 1,oN 12 16 11,oI 13 0]) (.block 0 (.loop Ut))) Y8))
theorem qkq : zl Try.prog 141 = some ⟨50, qbt, [.slot 2]⟩ := by kernel_rfl
def B8 : zc := ((B7.put 179 (gq j5)).put 180 (g9 1 1 yq))
theorem q6m : qp Try.prog B8 := ((qoy.put (qnd)).put (qtc))
theorem yf : B8 168 = some (Xp 1 g_n) := rfl
theorem vf : B8 142 = some (Xp 17 Q5) := rfl
theorem Wg : B8 71 = some (qj wc) := rfl
theorem yz : B8 179 = some (gq j5) := rfl
theorem kp : B8 180 = some (g9 1 1 yq) := rfl
def Vj (s : List UInt8) : AV := match vg s with
  | some (n, m) => .tup [.agg (dia n m), .bool true]
  | none => .tup [.agg (dia 0 (List.replicate 16 0)), .bool false]
theorem qn {n : Int} {m : List Nat} (h : m.length = 16) : List.take 17 (dia n m) = dia n m := by
  rw [List.take_of_length_le]; rw [qc, h]; exact Nat.le_refl _
theorem q3a (b n c m : Nat) (x : Bool) : AV.ren (J4 m) (.tup [.slc b 0 n true c, .bool x]) = .tup [.slc (m + b) 0 n true c, .bool x] := rfl
theorem q8l (m : Nat) (x : Bool) : AV.ren (J4 m) (.tup [.v (.slice none 0 0), .bool x]) = .tup [.v (.slice none 0 0), .bool x] := rfl
theorem q1r (s : List UInt8) (hs : s.length ≤ 1000000) : Am.Fn Try.prog 152 [.str s] [] (fun v H' => v = Vj s ∧ H' = []) := by
  refine Am.Fn.xf (R := fun v => v = _) q6m mixed qzs (by simp) (by simp) ?_
  have htm : (s.length : Int).tmod 2 = ((s.length % 2 : Nat) : Int) := (Int.ofNat_tmod s.length 2).symm
  by_cases hc : s.length % 2 = 0 ∧ 2 ≤ s.length ∧ s.length ≤ 16
  case neg =>
    have hr : Vj s = .tup [.agg (dia 0 (List.replicate 16 0)), .bool false] := by
      unfold Vj vg; rw [if_neg hc]
    have hb : ((2 : Int) = 0) = False := eq_false (by decide)
    by_cases hpar : s.length % 2 = 0
    · have hx : ((s.length : Int).tmod 2 = 0) = True := eq_true (by omega)
      have hy : (2 ≤ (s.length : Int) ∧ (s.length : Int) ≤ 16) = False := eq_false (by omega)
      simp (maxSteps := 3000000) only [U3, yf, vf, Wg, yz, kp, wc, yq, g_n, j5, Q5, hr, hb, hx, hy, vx, rd, wrt, wrl, AO.gp, List.getElem?_cons_zero, List.getElem?_cons_succ, List.set_cons_zero, List.set_cons_succ, zk, zn qt qt, qc, List.length_replicate, za, vq qt, qn qt, qd, Nat.le_refl, qa, zZ, ↓qq, ↓reduceIte, reduceCtorEq, nA, nM, nS, nE, nL, nD]; try simp only [qa, zY]
    · have hx : ((s.length : Int).tmod 2 = 0) = False := eq_false (by omega)
      simp (maxSteps := 3000000) only [U3, yf, vf, Wg, yz, kp, wc, yq, g_n, j5, Q5, hr, hb, hx, vx, rd, wrt, wrl, AO.gp, List.getElem?_cons_zero, List.getElem?_cons_succ, List.set_cons_zero, List.set_cons_succ, zk, zn qt qt, qc, List.length_replicate, za, vq qt, qn qt, qd, Nat.le_refl, qa, zZ, ↓qq, ↓reduceIte, reduceCtorEq, nA, nM, nS, nE, nL, nD]; try simp only [qa, zY]
  case pos =>
    have h4 : qo .i64 ((s.length : Int).tdiv 2) = ((s.length / 2 : Nat) : Int) := by
      rw [show (s.length : Int).tdiv 2 = ((s.length / 2 : Nat) : Int) from (Int.ofNat_tdiv s.length 2).symm]; exact ji (by omega)
    have hb : ((2 : Int) = 0) = False := eq_false (by decide)
    have hcs : parts s s.length = none ∨ ∃ out st, parts s s.length = some (out, st) := by
      cases parts s s.length with
      | none => exact .inl rfl
      | some r => exact .inr ⟨r.1, r.2, rfl⟩
    rcases hcs with hp | ⟨out, st, hp⟩
    · skip
      have hr : Vj s = .tup [.agg (dia 0 (List.replicate 16 0)), .bool false] := by
        unfold Vj vg; rw [if_pos hc, hp]
      have hpr : Jv s = (.tup [.v (.slice none 0 0), .bool false], []) := by unfold Jv; rw [hp]
      simp (maxSteps := 3000000) only [U3, yf, vf, Wg, yz, kp, wc, yq, g_n, j5, Q5, vx, rd, wrt, wrl, AO.gp, List.getElem?_cons_zero, List.getElem?_cons_succ, List.set_cons_zero, List.set_cons_succ, List.take_zero, List.take_succ_cons, List.drop_succ_cons, List.drop_zero, zk, zn qt qt, qc, List.length_replicate, za, vq qt, qn qt, qd, Nat.le_refl, hr, hpr, q8l, vx, rd, wrt, wrl, AO.gp, List.getElem?_cons_zero, List.getElem?_cons_succ, List.set_cons_zero, List.set_cons_succ, List.take_zero, List.take_succ_cons, List.drop_succ_cons, List.drop_zero, zk, zn qt qt, qc, List.length_replicate, za, vq qt, qn qt, qd, Nat.le_refl, qa, zZ, ↓qq, ↓reduceIte, reduceCtorEq, nA, nM, nS, nE, nL, nD]; try simp only [qa, zY]
      refine ⟨by decide, fun _ => ⟨fun _ => trivial, fun _ => by omega⟩, fun _ => trivial⟩
    · cases st with
      | cons a st =>
        have hr : Vj s = .tup [.agg (dia 0 (List.replicate 16 0)), .bool false] := by
          unfold Vj vg; rw [if_pos hc, hp]
        have h5 : ((((a :: st).length : Nat) : Int) == 0) = false := by
          rw [beq_eq_false_iff_ne, List.length_cons]; omega
        have hpr : Jv s = (.tup [.slc 0 0 s.length true s.length, .bool false], [.cells (uk out)]) := by unfold Jv; rw [hp]; simp only [h5]
        simp (maxSteps := 3000000) only [U3, yf, vf, Wg, yz, kp, wc, yq, g_n, j5, Q5, vx, rd, wrt, wrl, AO.gp, List.getElem?_cons_zero, List.getElem?_cons_succ, List.set_cons_zero, List.set_cons_succ, List.take_zero, List.take_succ_cons, List.drop_succ_cons, List.drop_zero, zk, zn qt qt, qc, List.length_replicate, za, vq qt, qn qt, qd, Nat.le_refl, hr, hpr, q3a, Kv, qb _ _ (yk _), vx, rd, wrt, wrl, AO.gp, List.getElem?_cons_zero, List.getElem?_cons_succ, List.set_cons_zero, List.set_cons_succ, List.take_zero, List.take_succ_cons, List.drop_succ_cons, List.drop_zero, zk, zn qt qt, qc, List.length_replicate, za, vq qt, qn qt, qd, Nat.le_refl, qa, zZ, ↓qq, ↓reduceIte, reduceCtorEq, nA, nM, nS, nE, nL, nD]; try simp only [qa, zY]
        refine ⟨by decide, fun _ => ⟨fun _ => trivial, fun _ => by omega⟩, fun _ => trivial⟩
      | nil =>
        have hr : Vj s = .tup [.agg (dia (s.length / 2 : Nat) (vy (s.length / 2) out s.length)), .bool true] := by
          unfold Vj vg; rw [if_pos hc, hp]
        have hn : s.length = 2 * (s.length / 2) := by omega
        obtain ⟨a1, a2, a3, a4, a5, a6, a7⟩ := V3 s.length out [] (Nat.le_refl _) hp
        have h6 : (List.range s.length).all (fun i => decide (out.getD i 0 < s.length)) = true := List.all_eq_true.2 fun i hi => decide_eq_true (a4 i (List.mem_range.1 hi) (by simp)).1
        have hj := w9 (s.length / 2) out s.length
        have hpr : Jv s = (.tup [.slc 0 0 s.length true s.length, .bool true], [.cells (uk out)]) := by unfold Jv; rw [hp]; rfl
        have htk : List.take s.length (uk out) = uk out := by rw [List.take_of_length_le]; rw [uq, a1]; exact Nat.le_refl _
        simp (maxSteps := 3000000) only [U3, yf, vf, Wg, yz, kp, wc, yq, g_n, j5, Q5, vx, rd, wrt, wrl, AO.gp, List.getElem?_cons_zero, List.getElem?_cons_succ, List.set_cons_zero, List.set_cons_succ, List.take_zero, List.take_succ_cons, List.drop_succ_cons, List.drop_zero, zk, zn qt qt, qc, List.length_replicate, za, vq qt, qn qt, qd, Nat.le_refl, hr, hpr, h4, h6, hb, htk, qfy, q3a, Kv, qb _ _ (yk _), uq, a1, hj, zn qt hj, vq hj, qn hj, vx, rd, wrt, wrl, AO.gp, List.getElem?_cons_zero, List.getElem?_cons_succ, List.set_cons_zero, List.set_cons_succ, List.take_zero, List.take_succ_cons, List.drop_succ_cons, List.drop_zero, zk, zn qt qt, qc, List.length_replicate, za, vq qt, qn qt, qd, Nat.le_refl, qa, zZ, ↓qq, ↓reduceIte, reduceCtorEq, nA, nM, nS, nE, nL, nD]; try simp only [qa, zY]
        refine ⟨fun _ => ⟨fun h => absurd ⟨by omega, by omega⟩ h, fun _ => ⟨by omega, ⟨by omega, by omega⟩, by omega⟩⟩, fun h => absurd (by omega) h⟩
def qcp : List AV → Option AV
  | [.str s] => chk (s.length ≤ 1000000) (some (Vj s))
  | _ => none
theorem qsp (s : List UInt8) : (Vj s).zq = true := by
  unfold Vj; split <;> simp only [AV.zq, AV.zg, qd, Bool.and_self]
theorem q06 : Am.Callee Try.prog 152 (qj qcp) :=
  Am.Callee.plain fun xs v he => by
    unfold qcp at he
    split at he
    · obtain ⟨h1, he⟩ := ql he
      cases he; exact ⟨rfl, qsp _, q1r _ h1⟩
    · cases he
def B9 : zc := (B8.put 152 (qj qcp))
theorem qr6 : qp Try.prog B9 := (q6m.put (q06))
theorem Z0 : B9 168 = some (Xp 1 g_n) := rfl
theorem kn : B9 142 = some (Xp 17 Q5) := rfl
theorem qcq : B9 71 = some (qj wc) := rfl
theorem Xy : B9 179 = some (gq j5) := rfl
theorem Wn : B9 180 = some (g9 1 1 yq) := rfl
theorem Bk : B9 152 = some (qj qcp) := rfl
theorem qav : xb = .v (.tuple #[]) := rfl
theorem Bf : (#[] : Array Value).size = 0 := rfl
theorem q3n {n : Int} {m : List Nat} (h : ¬(1 ≤ n ∧ n ≤ 8)) : isI n.toNat m = false := by
  unfold isI; rw [decide_eq_false (by omega)]; rfl
def rng (n : Nat) (m : List Nat) (i : Nat) : Bool := if 2 * n ≤ i then m.getD i 0 == 0 else decide (m.getD i 0 < 2 * n)
theorem q0c {n : Nat} {m : List Nat} {i : Nat} (hi : i < 16) (h : rng n m i = false) : isI n m = false := by
  unfold isI
  rw [Bool.and_eq_false_iff]; right
  rw [Bool.and_eq_false_iff]; left
  unfold qnu
  rw [List.all_eq_false]
  exact ⟨i, List.mem_range.2 hi, by unfold rng at h; rw [h]; simp⟩
theorem q4z {n : Nat} {m : List Nat} (hn : 1 ≤ n ∧ n ≤ 8) (h1 : ∀ i, i < 16 → rng n m i = true) : isI n m = (vg (ja n m) == some (n, m)) := by
  unfold isI
  have : qnu n m = true := List.all_eq_true.2 fun i hi => h1 i (List.mem_range.1 hi)
  rw [decide_eq_true hn, this, Bool.true_and, Bool.true_and]
theorem qoe {s : List UInt8} {n : Nat} {m : List Nat} (h : vg s = some (n, m)) : m.length = 16 := by
  unfold vg at h
  split at h
  · split at h
    · cases h; exact w9 _ _ _
    · cases h
  · cases h
theorem qke (n : Int) (m : List Nat) (hm : okD m) : Am.Fn Try.prog 141 [.agg (dia n m)] [] (fun v H' => v = .bool (isI n.toNat m) ∧ H' = []) := by
  refine Am.Fn.xf (R := fun v => v = _) qr6 mixed qkq (by simp) (by simp) ?_
  have hml := hm.1
  simp (maxSteps := 3000000) only [qbt, Z0, kn, qcq, Xy, Wn, Bk, wc, yq, g_n, j5, qcp, Q5, hml, ql8 hml, qc, rd, List.getElem?_cons_zero, List.getElem?_cons_succ, qa, zZ, ↓qq, ↓reduceIte, reduceCtorEq, nA, nM, nS, nE, nL, nD]; try simp only [qa, zY]
  refine ⟨fun h => (q3n h).symm, fun h => ?_⟩
  obtain ⟨n, rfl⟩ : ∃ k : Nat, n = k := ⟨n.toNat, by omega⟩
  simp only [Int.toNat_natCast]
  have hn : 1 ≤ n ∧ n ≤ 8 := by omega
  have h2n : qo .i64 (2 * (n : Int)) = ((2 * n : Nat) : Int) := by rw [wrap64 (by omega) (by omega)]; simp
  refine WA.xr qr6 (fun s => ∃ k : Nat, s = ⟨[(13, .int .i64 k), (12, .agg (u8s m)), (1, .ptr 0 0)], [.cells (dia n m)]⟩ ∧ k ≤ 16 ∧ ∀ i, i < k → rng n m i = true)
    (fun s => match get s.env 13 with | .int _ k => (100 - k).toNat | _ => 0) ⟨_, qw.qx [13, 12, 1], 0, rfl, by omega, by intros; omega⟩ ?_
  rintro s ⟨k, rfl, hk, hc⟩
  have hw : qo .i64 ((k : Int) + 1) = ((k + 1 : Nat) : Int) := by rw [wrap64 (by omega) (by omega)]; rfl
  have hg := hm.get k
  have h1 : qo .i64 ((m.getD k 0 : Nat) : Int) = (m.getD k 0 : Nat) := ji (by omega)
  simp (maxSteps := 3000000) only [Ut, qav, Bf, Z0, kn, qcq, Xy, Wn, Bk, wc, yq, g_n, j5, qcp, Q5, hw, h2n, h1, hml, qmh, qc, rd, List.getElem?_cons_zero, List.getElem?_cons_succ, qa, zZ, ↓qq, ↓reduceIte, reduceCtorEq, nA, nM, nS, nE, nL, nD]; try simp only [qa, zY]
  have hnext : rng n m k = true → ∀ i, i < k + 1 → rng n m i = true := fun hk1 i hi => by
    by_cases e : i = k
    · subst e; exact hk1
    · exact hc i (by omega)
  have hhi : 2 * n ≤ k → rng n m k = (m.getD k 0 == 0) := fun h => if_pos h
  have hlo : ¬2 * n ≤ k → rng n m k = decide (m.getD k 0 < 2 * n) := fun h => if_neg h
  refine ⟨fun h3 => ⟨⟨by omega, by omega⟩, by omega, fun h4 => ⟨fun h5 => ⟨fun h6 => absurd h6 (by omega), fun h6 => ⟨_, qw.qx [13, 12, 1], ⟨k + 1, rfl, by omega, hnext ?_⟩, ?_⟩⟩, fun h5 => ?_⟩,
    fun h4 => ⟨fun h5 => ⟨fun h6 => ?_, fun h6 => ⟨_, qw.qx [13, 12, 1], ⟨k + 1, rfl, by omega, hnext ?_⟩, ?_⟩⟩, fun h5 => absurd (by omega) h5⟩⟩, fun h3 => ?_⟩
  · rw [hhi (by omega)]; exact beq_iff_eq.2 (by omega)
  · simp only [zL, ↓reduceIte, reduceCtorEq, nE, nA]; omega
  · exact (q0c (i := k) (by omega) (by rw [hhi (by omega)]; exact beq_eq_false_iff_ne.2 (by omega))).symm
  · exact (q0c (i := k) (by omega) (by rw [hlo (by omega)]; exact decide_eq_false (by omega))).symm
  · rw [hlo (by omega)]; exact decide_eq_true (by omega)
  · simp only [zL, ↓reduceIte, reduceCtorEq, nE, nA]; omega
  have hyes := q4z (m := m) hn fun i hi => hc i (by omega)
  simp (maxSteps := 3000000) only [Y8, qav, Bf, Z0, kn, qcq, Xy, Wn, Bk, wc, yq, g_n, j5, qcp, Q5, hml, qy hm, qc, vq hml, qn hml, Int.toNat_natCast, rd, List.getElem?_cons_zero, List.getElem?_cons_succ, bo, qa, zZ, ↓qq, ↓reduceIte, reduceCtorEq, nA, nM, nS, nE, nL, nD]; try simp only [qa, zY]
  refine ⟨⟨by omega, by omega⟩, by omega, ?_⟩
  have hcs : vg (ja n m) = none ∨ ∃ n' m', vg (ja n m) = some (n', m') := by
    cases vg (ja n m) with
    | none => exact .inl rfl
    | some r => exact .inr ⟨r.1, r.2, rfl⟩
  rcases hcs with hrd | ⟨n', m', hrd⟩
  · skip
    have hr : Vj (ja n m) = .tup [.agg (dia 0 (List.replicate 16 0)), .bool false] := by unfold Vj; rw [hrd]
    have hi : isI n m = false := by rw [hyes, hrd]; rfl
    simp (maxSteps := 3000000) only [hr, hi, zn qt qt, qav, Bf, List.getElem?_cons_zero, List.getElem?_cons_succ, rd, wrt, wrl, AO.gp, List.set_cons_zero, List.set_cons_succ, zk, qc, hml, qt, List.length_replicate, za, vq hml, vq qt, qa, zZ, ↓qq, ↓reduceIte, reduceCtorEq, nA, nM, nS, nE, nL, nD]; try simp only [qa, zY]
  · skip
    have hml' := qoe hrd
    have hr : Vj (ja n m) = .tup [.agg (dia n' m'), .bool true] := by unfold Vj; rw [hrd]
    have hi : isI n m = decide ((n' : Int) = n ∧ m' = m) := by
      rw [hyes, hrd, Bool.eq_iff_iff, beq_iff_eq, decide_eq_true_eq, Option.some.injEq, Prod.mk.injEq]; exact and_congr (by omega) Iff.rfl
    simp (maxSteps := 3000000) only [hr, hi, hml', zn qt hml', vq hml', Uz hml' hml, qav, Bf, List.getElem?_cons_zero, List.getElem?_cons_succ, rd, wrt, wrl, AO.gp, List.set_cons_zero, List.set_cons_succ, zk, qc, hml, qt, List.length_replicate, za, vq hml, vq qt, qa, zZ, ↓qq, ↓reduceIte, reduceCtorEq, nA, nM, nS, nE, nL, nD]; try simp only [qa, zY]
def U1 : AC := .seq (.seq (.region [oM 5 4,oK 6 .lss 5 16]) (.cond 6 .skip (.exit 0))) (.seq (.block 1 (.region [oM 9 4,oM 10 4,o0 11 (.xa 16 1 (.t 1) (.t 10)),oL 12 11,o0 13 (.xa 16 1 (.t 3) (.t 9)),oT 13 12])) (.region [oM 7 4,oK 8 .add 7 1,oM 4 8]))
def Y4 : AC := .seq (.region [oN 14 16 3,oS 16 2 14]) .ret
def qbg : AC := .seq (.region [o0 1 (.box (.t 0)),o0 2 (.alloc [.int .u8 0,.int .u8 0,.int .u8 0,.int .u8 0,.int .u8 0,.int .u8 0,.int .u8 0,.int .u8 0,.int .u8 0,.int .u8 0,.int .u8 0,.int .u8 0,.int .u8 0,.int .u8 0,.int .u8 0,.int .u8 0])]) (.seq (.region [o0 3 (.alloc [.int .u8 0,.int .u8 0,.int .u8 0,.int .u8 0,.int .u8 0,.int .u8 0,.int .u8 0,.int .u8 0,.int .u8 0,.int .u8 0,.int .u8 0,.int .u8 0,.int .u8 0,.int .u8 0,.int .u8 0,.int .u8 0])]) (.seq (.seq (.region [oI 4 0]) (.block 0 (.loop U1))) Y4))
theorem qk4 : zl Try.prog 92 = some ⟨15, qbg, [.yn 2 16]⟩ := by kernel_rfl
def qbx : AC := .seq (.region [o0 1 (.box (.t 0)),oD 2]) (.seq (.region [oD 3]) (.seq (.region [oF 4 0 1,oL 5 4,oF 6 0 3,oT 6 5]) (.seq (.region [oF 7 1 1,oN 8 16 7,oC 9 92 [.t 8],oF 10 1 3,oS 16 10 9]) (.seq (.region [oN 11 17 3,oS 17 2 11]) .ret))))
theorem qkn : zl Try.prog 39 = some ⟨12, qbx, [.yn 2 17]⟩ := by kernel_rfl
theorem q4s : [AV.int .u8 0, .int .u8 0, .int .u8 0, .int .u8 0, .int .u8 0, .int .u8 0, .int .u8 0, .int .u8 0, .int .u8 0, .int .u8 0, .int .u8 0, .int .u8 0, .int .u8 0, .int .u8 0, .int .u8 0, .int .u8 0] = u8s (List.replicate 16 0) := rfl
theorem q1x {m m' : List Nat} (h : m.length = 16) (h' : m'.length = 16) : over (u8s m) 0 (u8s m') = u8s m' := qc8 (by rw [xh, xh, h, h'])
theorem q3x {m : List Nat} (h : m.length = 16) : List.take 16 (List.drop 0 (u8s m)) = u8s m := by
  rw [List.drop_zero, List.take_of_length_le]; rw [xh, h]; exact Nat.le_refl _
theorem q1d {n n' : Int} {m : List Nat} : (dia n m).set 0 (.int .i64 n') = dia n' m := rfl
theorem qwl {n : Int} {m m' : List Nat} (h : m.length = 16) (h' : m'.length = 16) : over (dia n m) 1 (u8s m') = dia n m' := by
  simp only [over, dia, List.take_succ_cons, List.take_zero, List.cons_append, List.nil_append, List.drop_succ_cons]
  rw [xh, h', show 1 + 16 = 16 + 1 from rfl, List.drop_succ_cons, List.drop_of_length_le (by rw [xh, h]; exact Nat.le_refl _), List.append_nil]
theorem take_set {m : List Nat} {k : Nat} (hm : m.length = 16) (hk : k < 16) : (m.take k ++ List.replicate (16 - k) 0).set k (m.getD k 0) = m.take (k + 1) ++ List.replicate (16 - (k + 1)) 0 := by
  rw [List.set_append_right _ _ (by simp; omega)]
  have h1 : k - (m.take k).length = 0 := by simp; omega
  have h2 : 16 - k = (16 - (k + 1)) + 1 := by omega
  rw [h1, h2, List.replicate_succ, List.set_cons_zero, List.take_add_one, List.append_assoc]
  congr 1
  have h3 : m[k]? = some (m.getD k 0) := by rw [List.getD_eq_getElem?_getD, List.getElem?_eq_getElem (by omega)]; rfl
  rw [h3]; rfl
theorem qk8 (m : List Nat) (hm : okD m) : Am.Fn Try.prog 92 [.agg (u8s m)] [] (fun v H' => v = .agg (u8s m) ∧ H' = []) := by
  refine Am.Fn.xf (R := fun v => v = _) qr6 mixed qk4 (by simp) (by simp) ?_
  have hml := hm.1
  simp (maxSteps := 3000000) only [qbg, q4s, qa, zZ, ↓qq, ↓reduceIte, reduceCtorEq, nA, nM, nS, nE, nL, nD]; try simp only [qa, zY]
  refine WA.xr qr6 (fun s => ∃ k : Nat, s = ⟨[(4, .int .i64 k), (3, .ptr 2 0), (2, .ptr 1 0), (1, .ptr 0 0)], [.cells (u8s m), .cells (u8s (List.replicate 16 0)), .cells (u8s (m.take k ++ List.replicate (16 - k) 0))]⟩ ∧ k ≤ 16)
    (fun s => match get s.env 4 with | .int _ k => (100 - k).toNat | _ => 0) ⟨_, qw.qx [4, 3, 2, 1], 0, rfl, by omega⟩ ?_
  rintro s ⟨k, rfl, hk⟩
  have hw : qo .i64 ((k : Int) + 1) = ((k + 1 : Nat) : Int) := by rw [wrap64 (by omega) (by omega)]; rfl
  have hl : (m.take k ++ List.replicate (16 - k) 0).length = 16 := by simp; omega
  simp (maxSteps := 3000000) only [U1, Y4, hw, hml, hl, rd, wrt, wrl, AO.gp, List.getElem?_cons_zero, List.getElem?_cons_succ, List.set_cons_zero, List.set_cons_succ, q34, xh, q3x hl, q1x qt hl, List.length_replicate, qom, bf, qa, zZ, ↓qq, ↓reduceIte, reduceCtorEq, nA, nM, nS, nE, nL, nD]; try simp only [qa, zY]
  refine ⟨fun h => ⟨⟨by omega, by omega⟩, by omega, ⟨by omega, by omega⟩, ⟨by omega, rfl⟩, _, qw.qx [4, 3, 2, 1], ⟨k + 1, ?_, by omega⟩, ?_⟩, fun h => ?_⟩
  · simp only [take_set hml (show k < 16 from by omega), zL, ↓reduceIte, reduceCtorEq, nE, nA]
  · simp only [zL, ↓reduceIte, reduceCtorEq, nE, nA]; omega
  · have hk16 : k = 16 := by omega
    subst hk16
    have e : List.take 16 m ++ List.replicate (16 - 16) 0 = m := by rw [List.take_of_length_le (by omega)]; simp
    rw [e]
def qdq : List AV → Option AV
  | [.agg l] => match bytesOf l with
    | some m => chk (m.length = 16) (some (.agg l))
    | none => none
  | _ => none
theorem qkd : Am.Callee Try.prog 92 (qj qdq) :=
  Am.Callee.plain fun xs v he => by
    unfold qdq at he
    split at he
    · split at he
      · rename_i l m hd
        obtain ⟨h1, he⟩ := ql he
        cases he
        obtain ⟨rfl, h2⟩ := U6 hd
        exact ⟨by simp only [AV.zg, AV.zq, bf, Bool.and_self], by simp only [AV.zq, bf], qk8 m ⟨h1, h2⟩⟩
      · cases he
    · cases he
def B10 : zc := (B9.put 92 (qj qdq))
theorem qzk : qp Try.prog B10 := (qr6.put (qkd))
theorem qck : B10 92 = some (qj qdq) := rfl
theorem qk1 (n : Int) (m : List Nat) (hm : okD m) : Am.Fn Try.prog 39 [.agg (dia n m)] [] (fun v H' => v = .agg (dia n m) ∧ H' = []) := by
  refine Am.Fn.xf (R := fun v => v = _) qzk mixed qkn (by simp) (by simp) ?_
  have hml := hm.1
  simp (maxSteps := 3000000) only [qbx, qck, qdq, zk, hml, ql8 hml, qak hm.2, q1d, qwl qt hml, zn qt hml, vq hml, rd, wrt, wrl, AO.gp, List.getElem?_cons_zero, List.getElem?_cons_succ, List.set_cons_zero, List.set_cons_succ, qc, xh, List.length_replicate, qom, za, qd, AV.one, qa, zZ, ↓qq, ↓reduceIte, reduceCtorEq, nA, nM, nS, nE, nL, nD]; try simp only [qa, zY]
def qrz : List AV → Option AV
  | [.agg l] => match vi l with
    | some _ => some (.agg l)
    | none => none
  | _ => none
theorem qkt : Am.Callee Try.prog 39 (qj qrz) :=
  Am.Callee.plain fun xs v he => by
    unfold qrz at he
    split at he
    · split at he
      · rename_i l r hd
        obtain ⟨n, m⟩ := r
        cases he
        obtain ⟨rfl, h2⟩ := zi hd
        exact ⟨by simp only [AV.zg, AV.zq, qd, Bool.and_self], by simp only [AV.zq, qd], qk1 n m h2⟩
      · cases he
    · cases he
def B11 : zc := (B10.put 39 (qj qrz))
theorem q7t : qp Try.prog B11 := (qzk.put (qkt))
def trm (t : Int × List Nat × Int) : List AV := dia t.1 t.2.1 ++ [.int .i64 t.2.2]
def xc (ts : List (Int × List Nat × Int)) : List AV := ts.flatMap trm
def okT (ts : List (Int × List Nat × Int)) : Prop := ∀ t, t ∈ ts → okD t.2.1
theorem Ua : ∀ (a b : List AV), AV.zg a = true → AV.zg b = true → AV.zg (a ++ b) = true
  | [], b, _, h => h
  | x :: a, b, h, h' => by
    simp only [AV.zg, Bool.and_eq_true, List.cons_append] at h ⊢
    exact ⟨h.1, Ua a b h.2 h'⟩
theorem Q9 (t : Int × List Nat × Int) : AV.zg (trm t) = true := Ua _ _ (qd _ _) rfl
theorem qe : ∀ (ts : List (Int × List Nat × Int)), AV.zg (xc ts) = true
  | [] => rfl
  | t :: ts => by simp only [xc, List.flatMap_cons]; exact Ua _ _ (Q9 t) (qe ts)
theorem x6 {t : Int × List Nat × Int} (h : okD t.2.1) : (trm t).length = 18 := by simp [trm, qc, h.1]
theorem xe : ∀ {ts : List (Int × List Nat × Int)}, okT ts → (xc ts).length = ts.length * 18
  | [], _ => rfl
  | t :: ts, h => by
    simp only [xc, List.flatMap_cons, List.length_append, x6 (h t (by simp)), List.length_cons]
    have := xe (ts := ts) fun u hu => h u (List.mem_cons_of_mem _ hu)
    unfold xc at this
    rw [this]; omega
theorem Zr : ∀ {ts : List (Int × List Nat × Int)} {i : Nat}, okT ts → (h : i < ts.length) → List.take 18 (List.drop (i * 18) (xc ts)) = trm ts[i]
  | t :: ts, 0, h, hi => by
    simp only [xc, List.flatMap_cons, Nat.zero_mul, List.drop_zero, List.getElem_cons_zero]
    rw [List.take_append_of_le_length (by rw [x6 (h t (by simp))]; exact Nat.le_refl _), List.take_of_length_le (by rw [x6 (h t (by simp))]; exact Nat.le_refl _)]
  | t :: ts, i + 1, h, hi => by
    have h1 := Zr (ts := ts) (i := i) (fun u hu => h u (List.mem_cons_of_mem _ hu)) (by simpa using hi)
    simp only [xc, List.flatMap_cons, List.getElem_cons_succ] at h1 ⊢
    rw [List.drop_append, List.drop_of_length_le (by rw [x6 (h t (by simp))]; omega), List.nil_append, x6 (h t (by simp)), ← h1]
    congr 2; omega
theorem qec {t : Int × List Nat × Int} (h : okD t.2.1) : List.take 17 (List.drop 0 (trm t)) = dia t.1 t.2.1 := by
  rw [List.drop_zero, trm, List.take_append_of_le_length (by rw [qc, h.1]; exact Nat.le_refl _), qn h.1]
theorem Qx {t : Int × List Nat × Int} (h : okD t.2.1) : (trm t)[17]? = some (.int .i64 t.2.2) := by
  rw [trm, List.getElem?_append_right (by rw [qc, h.1]; exact Nat.le_refl _), qc, h.1]; rfl
def B12 : zc := B11
theorem q71 : qp Try.prog B12 := q7t
def qov (l : List AV) : Option (Int × List Nat × Int) := match vi (l.take 17), l.drop 17 with
  | some (n, m), [.int .i64 f] => some (n, m, f)
  | _, _ => none
theorem qxb {t : Int × List Nat × Int} (h : okD t.2.1) : qov (trm t) = some t := by
  have h1 := qec h
  rw [List.drop_zero] at h1
  have h2 : (trm t).drop 17 = [.int .i64 t.2.2] := by
    rw [trm, List.drop_append, List.drop_of_length_le (by rw [qc, h.1]; exact Nat.le_refl _), qc, h.1]; rfl
  unfold qov
  rw [h1, h2, qy h]
theorem qt6 {l : List AV} {t : Int × List Nat × Int} (h : qov l = some t) : l = trm t ∧ okD t.2.1 := by
  unfold qov at h
  split at h
  · rename_i n m f h1 h2
    cases h
    obtain ⟨h3, h4⟩ := zi h1
    refine ⟨?_, h4⟩
    rw [← List.take_append_drop 17 l, h3, h2]; rfl
  · cases h
def B13 : zc := B12
theorem q8i : qp Try.prog B13 := q71
def qa3 : Nat → List AV → Option (List (Int × List Nat × Int))
  | 0, _ => some []
  | k + 1, l => match qov (l.take 18), qa3 k (l.drop 18) with
    | some t, some ts => some (t :: ts)
    | _, _ => none
theorem qlb : ∀ {ts : List (Int × List Nat × Int)} {x : List AV}, okT ts → qa3 ts.length (xc ts ++ x) = some ts
  | [], _, _ => rfl
  | t :: ts, x, h => by
    have h1 := qlb (ts := ts) (x := x) fun u hu => h u (List.mem_cons_of_mem _ hu)
    have h2 := x6 (h t (by simp))
    simp only [xc, List.flatMap_cons, List.length_cons, qa3, List.append_assoc] at h1 ⊢
    rw [List.take_append_of_le_length (by omega), List.take_of_length_le (by omega), qxb (h t (by simp)), List.drop_append, List.drop_of_length_le (by omega), h2, List.nil_append]
    simp only [Nat.sub_self, List.drop_zero, h1]
theorem kr {ts : List (Int × List Nat × Int)} (h : okT ts) : qa3 ts.length (xc ts) = some ts := by
  have := qlb (x := []) h
  rwa [List.append_nil] at this
theorem kz : ∀ {k : Nat} {l : List AV} {ts : List (Int × List Nat × Int)}, qa3 k l = some ts → ts.length = k ∧ okT ts ∧ l.take (k * 18) = xc ts ∧ k * 18 ≤ l.length
  | 0, l, ts, h => by cases h; exact ⟨rfl, by simp [okT], by simp [xc], by omega⟩
  | k + 1, l, ts, h => by
    simp only [qa3] at h
    split at h
    · rename_i t us ht hus
      cases h
      obtain ⟨h1, h2, h3, h4⟩ := kz hus
      obtain ⟨h5, h6⟩ := qt6 ht
      have h7 := x6 h6
      have h8 : 18 ≤ l.length := by
        have := congrArg List.length h5
        rw [h7, List.length_take] at this; omega
      rw [List.length_drop] at h4
      refine ⟨by simp [h1], fun u hu => ?_, ?_, by omega⟩
      · rcases List.mem_cons.1 hu with rfl | hu
        · exact h6
        · exact h2 u hu
      · rw [show (k + 1) * 18 = 18 + k * 18 from by omega, List.take_add, h5, h3]; rfl
    · cases h
def two (b b' : Nat) : Ren := fun j => if j = 0 then some (b, 0) else if j = 1 then some (b', 0) else none
theorem qax {l l' : List AV} (h : AV.zg l = true) (h' : AV.zg l' = true) : ∀ (j : Nat) (o : AO), [AO.ro l, AO.ro l'][j]? = some o → o.under [AO.ro l, AO.ro l'].length := by
  intro j o e
  match j, e with
  | 0, e => cases e; exact qk _ _ h
  | 1, e => cases e; exact qk _ _ h'
  | j + 2, e => simp at e
def B14 : zc := B13
theorem q7q : qp Try.prog B14 := q8i
def elemV (p c n : Int) (b k : Nat) : AV := .agg [.int .i64 p, .int .i64 c, .int .i64 n, .slc b 0 k false 0]
def B15 : zc := B14
theorem q7j : qp Try.prog B15 := q7q
def part (k : Nat) (m : List Nat) (j : Nat) : List Nat := (List.range 16).map fun t => if t < j then (k + t) % 256 else m.getD t 0
def one (b : Nat) : Ren := fun j => if j = 0 then some (b, 0) else none
theorem Callee.wr1 {f : FuncId} {g : BE} (h : ∀ hp xs v hp', g hp xs = some (v, hp') → ∃ (sz : Nat) (l l' : List AV) (b : Nat) (ys : List AV), hp[b]? = some (.vec sz l) ∧ hp' = hp.set b (.vec sz l') ∧
    AV.zg l = true ∧ AV.zg l' = true ∧ xs = AV.zp (one b) ys ∧ xs.all jo = true ∧ AV.qv 1 ys ∧ v.zq = true ∧ Am.Fn Try.prog f ys [.vec sz l] fun v' H' => v' = v ∧ H' = [.vec sz l']) : Am.Callee Try.prog f g := by
  intro hp xs v hp' he
  obtain ⟨sz, l, l', b, ys, hb, rfl, h3, h3', h4, h5, h6, h7, h8⟩ := h hp xs v hp' he
  refine ⟨[.vec sz l], ys, _, one b, [(b, 0)], h8, h4, h5, ⟨fun j hj => ?_, rfl, fun j o c hj hc => ?_, fun j k bj bk oj ok hj hk hoj hok hw hl hjk => ?_⟩, ?_, h6, ?_⟩
  · match j, hj with
    | 0, _ => rfl
  · match j, hj, hc with
    | 0, hj, hc =>
      cases hj; cases hc
      exact ⟨rfl, by simp only [AO.ren, qb _ _ h3]; exact hb⟩
    | j + 1, hj, hc => simp at hj
  · match j, k, hoj, hok with
    | 0, 0, _, _ => rfl
    | 0, k + 1, _, hok => simp at hok
    | j + 1, _, hoj, _ => simp at hoj
  · intro j o hj
    match j, hj with
    | 0, hj => cases hj; exact qk _ _ h3
    | j + 1, hj => simp at hj
  · rintro v' H' ⟨rfl, rfl⟩
    refine ⟨Y5 _ _ h7, ?_⟩
    simp only [after, upd, AO.wr, if_true, AO.ren, qb _ _ h3', List.length_cons, List.length_nil, List.drop_succ_cons, List.drop_nil, List.map_nil, List.append_nil]
def B16 : zc := B15
theorem q70 : qp Try.prog B16 := q7j
def B17 : zc := B16
theorem q8h : qp Try.prog B17 := q70
end Go.Proofs.Ytfhckbbgmblhbaa

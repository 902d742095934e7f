/- Contracts: plain numbers. -/
import Derived.Test.YtkgoadglalpbfaaAmC
import Derived.Test.YtkgoadglalpbfaaProg
import Derived.KernelRfl
namespace Go.Proofs.Ytkgoadglalpbfaa
open Go.Am
open Nat renaming reduceAdd → nA, reduceMul → nM, reduceSub → nS, reduceEqDiff → nE, reduceLT → nL, reduceLeDiff → nD, reduceBEq → nB
open Int renaming reduceEq → iE, reduceNe → iN, reduceBEq → iB, reduceBNe → iC, reduceLT → iL, reduceLE → iD, reduceAdd → iA, reduceSub → iS, reduceMul → iM
set_option linter.unusedSimpArgs false
set_option linter.unusedVariables false
set_option maxRecDepth 4000
theorem mixed : Try.prog.follows .mixedOrders = true := by kernel_rfl
def Z0 (n i : Int) : Int := if i < n then i else 3 * n - 1 - i
def kp (x : Int) : Prop := -1000000 ≤ x ∧ x ≤ 1000000
instance (x : Int) : Decidable (kp x) := by unfold kp; infer_instance
def yu (p : Int) : Bool := decide (2 ≤ p ∧ p ≤ 97) && (List.range 100).all fun k => !(decide (2 ≤ k) && decide ((k : Int) < p) && decide (p.tmod k = 0))
def qts : AC := .seq (.region [oB 6 false]) (.seq (.region [oM 7 0,oM 8 1,oP 9 .geq 7 8,oM 10 9,oG 11 10 true (.mov (.t 0)),oG 12 10 true (.mov (.t 2)),oG 13 10 true (.bin .leq (.t 11) (.t 12)),o0 14 (.pick (.t 10) (.t 13) (.c (.bool false))),oM 6 14]) .ret)
theorem qwv : zy Try.prog 93 = some ⟨15, qts, [.slot 6]⟩ := by kernel_rfl
def qf0 : AC := .seq (.region [oB 6 false]) (.seq (.region [oM 7 0,oM 8 1,oP 9 .geq 7 8,oM 10 9,oG 11 10 true (.mov (.t 0)),oG 12 10 true (.mov (.t 2)),oG 13 10 true (.bin .leq (.t 11) (.t 12)),o0 14 (.pick (.t 10) (.t 13) (.c (.bool false))),oM 6 14]) .ret)
theorem qpu : zy Try.prog 60 = some ⟨15, qf0, [.slot 6]⟩ := by kernel_rfl
def qbc : AC := .seq (.region [oI 4 0]) (.seq (.seq (.region [oM 5 1,oM 6 0,oP 7 .lss 5 6]) (.cond 7 (.seq (.region [oM 8 1,oM 4 8]) .ret) .skip)) (.seq (.region [oM 9 0,o0 10 (.bin .mul (.c (.int .i64 3)) (.t 9)),oK 11 .sub 10 1,oM 12 1,oP 13 .sub 11 12,oM 4 13]) .ret))
theorem qky : zy Try.prog 132 = some ⟨14, qbc, [.slot 4]⟩ := by kernel_rfl
def Ku : AC := .seq (.region [oI 4 0]) (.seq (.seq (.region [oM 5 1,oM 6 0,oP 7 .lss 5 6]) (.cond 7 (.seq (.region [oM 8 1,oM 4 8]) .ret) .skip)) (.seq (.region [oM 9 0,o0 10 (.bin .mul (.c (.int .i64 3)) (.t 9)),oK 11 .sub 10 1,oM 12 1,oP 13 .sub 11 12,oM 4 13]) .ret))
theorem qhi : zy Try.prog 135 = some ⟨14, Ku, [.slot 4]⟩ := by kernel_rfl
def qks : AC := .seq (.region [oI 4 0]) (.seq (.region [oM 5 0,oM 6 1,oP 7 .rem 5 6,oM 8 1,oP 9 .add 7 8,oM 10 1,oP 11 .rem 9 10,oM 4 11]) .ret)
theorem qtd : zy Try.prog 103 = some ⟨12, qks, [.slot 4]⟩ := by kernel_rfl
def qdw : AC := .seq (.region [oI 4 0]) (.seq (.region [oM 5 1,oM 6 0,oP 7 .rem 5 6,oM 8 0,oP 9 .add 7 8,oM 10 0,oP 11 .rem 9 10,oM 4 11]) .ret)
theorem qm0 : zy Try.prog 108 = some ⟨12, qdw, [.slot 4]⟩ := by kernel_rfl
def Wv : AC := .seq (.seq (.region [oM 4 3,oM 5 0,oP 6 .lss 4 5,oM 7 6,oG 8 7 true (.mov (.t 3)),oG 9 7 true (.bin .lss (.t 8) (.c (.int .i64 100))),o0 10 (.pick (.t 7) (.t 9) (.c (.bool false)))]) (.cond 10 .skip (.exit 0))) (.seq (.block 1 (.seq (.region [oM 13 0,oM 14 3,oP 15 .rem 13 14,oK 16 .eql 15 0]) (.cond 16 (.seq (.region [oB 2 false]) .ret) .skip))) (.region [oM 11 3,oK 12 .add 11 1,oM 3 12]))
def W0 : AC := .seq (.region [oM 17 0,oC 18 60 [.t 17,(.c (.int .i64 2)),(.c (.int .i64 97))],oM 2 18]) .ret
def G1 : AC := .seq (.region [oB 2 false]) (.seq (.seq (.region [oI 3 2]) (.block 0 (.loop Wv))) W0)
theorem qhv : zy Try.prog 59 = some ⟨19, G1, [.slot 2]⟩ := by kernel_rfl
def Yv : AC := .seq (.seq (.region [oM 7 3,oM 8 3,oP 9 .mul 7 8,oM 10 0,oP 11 .leq 9 10]) (.cond 11 .skip (.exit 0))) (.seq (.block 1 (.seq (.region [oM 14 0,oM 15 3,oP 16 .rem 14 15,oK 17 .eql 16 0]) (.cond 17 (.seq (.region [oB 2 false]) .ret) .skip))) (.region [oM 12 3,oK 13 .add 12 1,oM 3 13]))
def Yw : AC := .seq (.region [oB 2 true]) .ret
def qbj : AC := .seq (.region [oB 2 false]) (.seq (.seq (.region [oM 4 0,oC 5 93 [.t 4,(.c (.int .i64 2)),(.c (.int .i64 97))],o0 6 (.un .not (.t 5))]) (.cond 6 (.seq (.region [oB 2 false]) .ret) .skip)) (.seq (.seq (.region [oI 3 2]) (.block 0 (.loop Yv))) Yw))
theorem qjh : zy Try.prog 112 = some ⟨18, qbj, [.slot 2]⟩ := by kernel_rfl
def qaz : AC := .seq (.region [oB 4 false]) (.seq (.region [oM 5 0,oC 6 112 [.t 5],oM 7 6,oG 8 7 true (.mov (.t 1)),oG 9 7 true (.mov (.t 0)),oG 10 7 true (.bin .sub (.t 9) (.c (.int .i64 1))),⟨some 11,some (7,true),.call (.c (.fn 93 [] [])) [.t 8,(.c (.int .i64 0)),.t 10]⟩,o0 12 (.pick (.t 7) (.t 11) (.c (.bool false))),oM 4 12]) .ret)
theorem qjd : zy Try.prog 64 = some ⟨13, qaz, [.slot 4]⟩ := by kernel_rfl
def vx : List AV → Option AV
  | [.int .i64 a, .int .i64 b, .int .i64 c] => some (.bool (decide (b ≤ a ∧ a ≤ c)))
  | _ => none
def yl : List AV → Option AV
  | [.int .i64 n, .int .i64 i] => chk (kp n ∧ kp i) (some (.int .i64 (Z0 n i)))
  | _ => none
def Y5 : List AV → Option AV
  | [.int .i64 n, .int .i64 p] => chk (0 < p ∧ p ≤ 1000000) (some (.int .i64 (n.emod p)))
  | _ => none
def Xw : List AV → Option AV
  | [.int .i64 p, .int .i64 n] => chk (0 < p ∧ p ≤ 1000000) (some (.int .i64 (n.emod p)))
  | _ => none
def we : List AV → Option AV
  | [.int .i64 p] => some (.bool (yu p))
  | _ => none
def wa : List AV → Option AV
  | [.int .i64 p, .int .i64 c] => some (.bool (yu p && decide (0 ≤ c ∧ c ≤ p - 1)))
  | _ => none
theorem qjx {a b c : Int} : (b ≤ a → decide (a ≤ c) = decide (b ≤ a ∧ a ≤ c)) ∧ (¬b ≤ a → false = decide (b ≤ a ∧ a ≤ c)) :=
  ⟨fun h => by simp [h], fun h => by simp [h]⟩
theorem qxk (a b c : Int) : Am.Fn Try.prog 93 [.int .i64 a, .int .i64 b, .int .i64 c] [] (fun v H' => v = .bool (decide (b ≤ a ∧ a ≤ c)) ∧ H' = []) := by
  refine Am.Fn.jw (R := fun v => v = _) ze.none mixed qwv (by simp) (by simp) ?_
  simp (maxSteps := 3000000) only [qts, qb, zZ, ↓qp, ↓reduceIte, reduceCtorEq, nA, nM, nS, nE, nL, nD]; try simp only [qb, zY]
  exact qjx
theorem qpf (a b c : Int) : Am.Fn Try.prog 60 [.int .i64 a, .int .i64 b, .int .i64 c] [] (fun v H' => v = .bool (decide (b ≤ a ∧ a ≤ c)) ∧ H' = []) := by
  refine Am.Fn.jw (R := fun v => v = _) ze.none mixed qpu (by simp) (by simp) ?_
  simp (maxSteps := 3000000) only [qf0, qb, zZ, ↓qp, ↓reduceIte, reduceCtorEq, nA, nM, nS, nE, nL, nD]; try simp only [qb, zY]
  exact qjx
theorem qba {n i : Int} (hn : kp n) (hi : kp i) : (i < n → AV.int .i64 i = AV.int .i64 (Z0 n i)) ∧
    (¬i < n → AV.int .i64 (q8 .i64 (q8 .i64 (q8 .i64 (3 * n) - 1) - i)) = AV.int .i64 (Z0 n i)) := by
  unfold kp at hn hi
  refine ⟨fun h => by simp [Z0, h], fun h => ?_⟩
  rw [wrap64 (n := 3 * n) (by omega) (by omega), wrap64 (n := 3 * n - 1) (by omega) (by omega), wrap64 (by omega) (by omega)]
  simp [Z0, h]
theorem qih (n i : Int) (hn : kp n) (hi : kp i) : Am.Fn Try.prog 132 [.int .i64 n, .int .i64 i] [] (fun v H' => v = .int .i64 (Z0 n i) ∧ H' = []) := by
  refine Am.Fn.jw (R := fun v => v = _) ze.none mixed qky (by simp) (by simp) ?_
  simp (maxSteps := 3000000) only [qbc, qb, zZ, ↓qp, ↓reduceIte, reduceCtorEq, nA, nM, nS, nE, nL, nD]; try simp only [qb, zY]
  exact qba hn hi
theorem qgl (n i : Int) (hn : kp n) (hi : kp i) : Am.Fn Try.prog 135 [.int .i64 n, .int .i64 i] [] (fun v H' => v = .int .i64 (Z0 n i) ∧ H' = []) := by
  refine Am.Fn.jw (R := fun v => v = _) ze.none mixed qhi (by simp) (by simp) ?_
  simp (maxSteps := 3000000) only [Ku, qb, zZ, ↓qp, ↓reduceIte, reduceCtorEq, nA, nM, nS, nE, nL, nD]; try simp only [qb, zY]
  exact qba hn hi
theorem qd6 {n p : Int} (h : 0 < p ∧ p ≤ 1000000) : ¬p = 0 ∧ ¬p = 0 ∧ AV.int .i64 ((q8 .i64 (n.tmod p + p)).tmod p) = AV.int .i64 (n.emod p) := by
  refine ⟨by omega, by omega, ?_⟩
  have h1 : n.tmod p < p := Int.tmod_lt_of_pos n h.1
  have h2 : -p < n.tmod p := by
    have := Int.lt_tmod_of_pos n h.1
    omega
  rw [wrap64 (by omega) (by omega), Int.tmod_eq_emod_of_nonneg (by omega), Int.add_emod_right]
  congr 1
  rw [Int.tmod_eq_emod]
  split
  · rw [show ((0 : Nat) : Int) = 0 from rfl, Int.sub_zero]; exact Int.emod_emod_of_dvd n (Int.dvd_refl p)
  · rw [show (p.natAbs : Int) = p from by omega, Int.sub_emod_right]
    exact Int.emod_emod_of_dvd n (Int.dvd_refl p)
theorem qq3 (n p : Int) (h : 0 < p ∧ p ≤ 1000000) : Am.Fn Try.prog 103 [.int .i64 n, .int .i64 p] [] (fun v H' => v = .int .i64 (n.emod p) ∧ H' = []) := by
  refine Am.Fn.jw (R := fun v => v = _) ze.none mixed qtd (by simp) (by simp) ?_
  simp (maxSteps := 3000000) only [qks, qb, zZ, ↓qp, ↓reduceIte, reduceCtorEq, nA, nM, nS, nE, nL, nD]; try simp only [qb, zY]
  exact qd6 h
theorem qlk (n p : Int) (h : 0 < p ∧ p ≤ 1000000) : Am.Fn Try.prog 108 [.int .i64 p, .int .i64 n] [] (fun v H' => v = .int .i64 (n.emod p) ∧ H' = []) := by
  refine Am.Fn.jw (R := fun v => v = _) ze.none mixed qm0 (by simp) (by simp) ?_
  simp (maxSteps := 3000000) only [qdw, qb, zZ, ↓qp, ↓reduceIte, reduceCtorEq, nA, nM, nS, nE, nL, nD]; try simp only [qb, zY]
  exact qd6 h
theorem qn4 {f : FuncId} (h : ∀ a b c, Am.Fn Try.prog f [.int .i64 a, .int .i64 b, .int .i64 c] [] (fun v H' => v = .bool (decide (b ≤ a ∧ a ≤ c)) ∧ H' = [])) : Am.Callee Try.prog f (qu vx) :=
  Am.Callee.plain fun xs v he => by
    unfold vx at he
    split at he
    · cases he; exact ⟨rfl, rfl, h _ _ _⟩
    · cases he
theorem qeb {f : FuncId} (h : ∀ n i, kp n → kp i → Am.Fn Try.prog f [.int .i64 n, .int .i64 i] [] (fun v H' => v = .int .i64 (Z0 n i) ∧ H' = [])) : Am.Callee Try.prog f (qu yl) :=
  Am.Callee.plain fun xs v he => by
    unfold yl at he
    split at he
    · obtain ⟨h1, he⟩ := qm he
      cases he; exact ⟨rfl, rfl, h _ _ h1.1 h1.2⟩
    · cases he
def B1 : z7 := ((((z7.none.put 93 (qu vx)).put 60 (qu vx)).put 132 (qu yl)).put 135 (qu yl))
theorem qi3 : ze Try.prog B1 := ((((ze.none.put (qn4 qxk)).put (qn4 qpf)).put (qeb qih)).put (qeb qgl))
theorem qdr : B1 93 = some (qu vx) := rfl
theorem Bk : B1 60 = some (qu vx) := rfl
theorem qa7 {p : Int} {k : Nat} (h1 : 2 ≤ k) (hk : k < 100) (h2 : (k : Int) < p) (h3 : p.tmod k = 0) : yu p = false := by
  unfold yu
  rw [Bool.and_eq_false_iff]
  right
  rw [List.all_eq_false]
  exact ⟨k, List.mem_range.2 hk, by simp [h1, h2, h3]⟩
theorem qd0 {p : Int} (h : 2 ≤ p ∧ p ≤ 97) (h3 : ∀ j : Nat, 2 ≤ j → (j : Int) < p → p.tmod j ≠ 0) : yu p = true := by
  unfold yu
  rw [Bool.and_eq_true]
  refine ⟨decide_eq_true h, List.all_eq_true.2 fun j hj => ?_⟩
  by_cases h5 : 2 ≤ j
  · by_cases h6 : (j : Int) < p
    · have := h3 j h5 h6; simp [h5, h6, this]
    · simp [h6]
  · simp [h5]
theorem qae {p : Int} (h : ¬(2 ≤ p ∧ p ≤ 97)) : yu p = false := by
  unfold yu; rw [decide_eq_false h, Bool.false_and]
theorem qgn (p : Int) : Am.Fn Try.prog 59 [.int .i64 p] [] (fun v H' => v = .bool (yu p) ∧ H' = []) := by
  refine Am.Fn.jw (R := fun v => v = _) qi3 mixed qhv (by simp) (by simp) ?_
  simp (maxSteps := 3000000) only [G1, qb, zZ, ↓qp, ↓reduceIte, reduceCtorEq, nA, nM, nS, nE, nL, nD]; try simp only [qb, zY]
  refine WA.j8 qi3 (fun s => ∃ k : Nat, s = ⟨[(3, .int .i64 k), (0, .int .i64 p)], []⟩ ∧ 2 ≤ k ∧ k ≤ 100 ∧ ∀ j : Nat, 2 ≤ j → j < k → (j : Int) < p → p.tmod j ≠ 0) (fun s => match get s.env 3 with | .int _ k => (100 - k).toNat | _ => 0) ⟨_, qz.zc [3, 0], 2, rfl, by omega, by omega, by intros; omega⟩ ?_
  rintro s ⟨k, rfl, h1, h2, h3⟩
  simp (maxSteps := 3000000) only [Wv, W0, qdr, Bk, vx, qb, zZ, ↓qp, ↓reduceIte, reduceCtorEq, nA, nM, nS, nE, nL, nD]; try simp only [qb, zY]
  refine ⟨fun h4 => ⟨fun h5 => ⟨by omega, fun h6 => ?_, fun h6 => ⟨_, qz.zc [3, 0], ⟨k + 1, ?_, by omega, by omega, ?_⟩, ?_⟩⟩, fun h5 => ?_⟩, fun h4 => ?_⟩
  · exact (qa7 h1 (by omega) h4 h6).symm
  · simp only [zc, z6, reduceIte, reduceCtorEq, Nat.reduceEqDiff]
    have : q8 .i64 ((k : Int) + 1) = ((k + 1 : Nat) : Int) := by rw [wrap64 (by omega) (by omega)]; rfl
    rw [this]
  · intro j h7 h8 h9
    by_cases h10 : j = k
    · subst h10; exact h6
    · exact h3 j h7 (by omega) h9
  · simp only [zc, z6, reduceIte, reduceCtorEq, Nat.reduceEqDiff]
    have : q8 .i64 ((k : Int) + 1) = ((k + 1 : Nat) : Int) := by rw [wrap64 (by omega) (by omega)]; rfl
    rw [this]; omega
  · rw [qae (by omega)]; simp; omega
  · by_cases h : 2 ≤ p ∧ p ≤ 97
    · rw [qd0 h fun j a b => h3 j a (by omega) b]; simp [h]
    · rw [qae h]; simp [h]
theorem qjv : ((List.range 98).all fun p => (List.range 11).all fun k => !decide (p < k * k ∧ 2 ≤ p) || !((List.range k).all fun j => !decide (2 ≤ j) || p % j != 0) || (List.range p).all fun j => !decide (2 ≤ j) || p % j != 0) = true := by decide +kernel
theorem qmm {p : Int} {k : Nat} (h : 2 ≤ p ∧ p ≤ 97) (hk : k ≤ 10) (hkp : p < (k : Int) * k) (h3 : ∀ j : Nat, 2 ≤ j → j < k → p.tmod j ≠ 0) : yu p = true := by
  obtain ⟨q, rfl⟩ : ∃ q : Nat, p = q := ⟨p.toNat, by omega⟩
  have e : ∀ j : Nat, ((q : Int).tmod j = 0) ↔ q % j = 0 := fun j => by
    rw [← Int.ofNat_tmod]; omega
  have h4 := List.all_eq_true.1 (List.all_eq_true.1 qjv q (List.mem_range.2 (by omega))) k (List.mem_range.2 (by omega))
  have h5 : q < k * k := by
    have : ((k * k : Nat) : Int) = (k : Int) * k := by simp
    omega
  simp only [Bool.or_eq_true, Bool.not_eq_true', decide_eq_false_iff_not] at h4
  rcases h4 with (h4 | h4) | h4
  · exact absurd ⟨h5, by omega⟩ h4
  · exfalso
    rw [List.all_eq_false] at h4
    obtain ⟨j, hj, h6⟩ := h4
    have hj := List.mem_range.1 hj
    apply h6
    by_cases h7 : 2 ≤ j
    · have := h3 j h7 hj
      rw [Ne, e] at this
      simp [this]
    · simp [h7]
  · refine qd0 h fun j h6 h7 => ?_
    rw [Ne, e]
    have := List.all_eq_true.1 h4 j (List.mem_range.2 (by omega))
    simpa [h6] using this
theorem qic (p : Int) : Am.Fn Try.prog 112 [.int .i64 p] [] (fun v H' => v = .bool (yu p) ∧ H' = []) := by
  refine Am.Fn.jw (R := fun v => v = _) qi3 mixed qjh (by simp) (by simp) ?_
  simp (maxSteps := 3000000) only [qbj, qdr, Bk, vx, qb, zZ, ↓qp, ↓reduceIte, reduceCtorEq, nA, nM, nS, nE, nL, nD]; try simp only [qb, zY]
  refine ⟨fun h => (qae h).symm, fun h => ?_⟩
  refine WA.j8 qi3 (fun s => ∃ k : Nat, s = ⟨[(3, .int .i64 k), (0, .int .i64 p)], []⟩ ∧ 2 ≤ k ∧ k ≤ 10 ∧ ∀ j : Nat, 2 ≤ j → j < k → p.tmod j ≠ 0) (fun s => match get s.env 3 with | .int _ k => (100 - k).toNat | _ => 0) ⟨_, qz.zc [3, 0], 2, rfl, by omega, by omega, by intros; omega⟩ ?_
  rintro s ⟨k, rfl, h1, h2, h3⟩
  have hw : q8 .i64 ((k : Int) + 1) = ((k + 1 : Nat) : Int) := by rw [wrap64 (by omega) (by omega)]; rfl
  have hm : q8 .i64 ((k : Int) * k) = ((k * k : Nat) : Int) := by
    have : k * k ≤ 10 * 10 := Nat.mul_le_mul h2 h2
    rw [← Int.natCast_mul]; exact yk (by omega)
  simp (maxSteps := 3000000) only [Yv, Yw, hm, hw, zc, qb, zZ, ↓qp, ↓reduceIte, reduceCtorEq, nA, nM, nS, nE, nL, nD]; try simp only [qb, zY]
  have hkk : k < 10 ∨ k = 10 := by omega
  refine ⟨fun h4 => ⟨by omega, fun h6 => ?_, fun h6 => ⟨_, qz.zc [3, 0], ⟨k + 1, rfl, by omega, ?_, ?_⟩, ?_⟩⟩, fun h4 => ?_⟩
  · have : k * 2 ≤ k * k := Nat.mul_le_mul_left k h1
    exact (qa7 h1 (by omega) (by omega) h6).symm
  · rcases hkk with e | e
    · omega
    · subst e; omega
  · intro j h7 h8
    by_cases h10 : j = k
    · subst h10; exact h6
    · exact h3 j h7 (by omega)
  · simp only [zc, z6, reduceIte, reduceCtorEq, Nat.reduceEqDiff]
    omega
  · rw [qmm h h2 (by rw [← Int.natCast_mul]; omega) h3]
theorem qd2 {f : FuncId} (h : ∀ p, Am.Fn Try.prog f [.int .i64 p] [] (fun v H' => v = .bool (yu p) ∧ H' = [])) : Am.Callee Try.prog f (qu we) :=
  Am.Callee.plain fun xs v he => by
    unfold we at he
    split at he
    · cases he; exact ⟨rfl, rfl, h _⟩
    · cases he
theorem qsb : Am.Callee Try.prog 103 (qu Y5) :=
  Am.Callee.plain fun xs v he => by
    unfold Y5 at he
    split at he
    · obtain ⟨h1, he⟩ := qm he
      cases he; exact ⟨rfl, rfl, qq3 _ _ h1⟩
    · cases he
theorem qly : Am.Callee Try.prog 108 (qu Xw) :=
  Am.Callee.plain fun xs v he => by
    unfold Xw at he
    split at he
    · obtain ⟨h1, he⟩ := qm he
      cases he; exact ⟨rfl, rfl, qlk _ _ h1⟩
    · cases he
def B2 : z7 := ((((B1.put 112 (qu we)).put 59 (qu we)).put 103 (qu Y5)).put 108 (qu Xw))
theorem qv6 : ze Try.prog B2 := ((((qi3.put (qd2 qic)).put (qd2 qgn)).put (qsb)).put (qly))
theorem ql5 : B2 93 = some (qu vx) := rfl
theorem qes : B2 60 = some (qu vx) := rfl
theorem qb7 : B2 112 = some (qu we) := rfl
theorem qif {p : Int} (h : yu p = true) : 2 ≤ p ∧ p ≤ 97 := by
  unfold yu at h
  rw [Bool.and_eq_true] at h
  exact of_decide_eq_true h.1
theorem qj2 (p c : Int) : Am.Fn Try.prog 64 [.int .i64 p, .int .i64 c] [] (fun v H' => v = .bool (yu p && decide (0 ≤ c ∧ c ≤ p - 1)) ∧ H' = []) := by
  refine Am.Fn.jw (R := fun v => v = _) qv6 mixed qjd (by simp) (by simp) ?_
  simp (maxSteps := 3000000) only [qaz, ql5, qes, qb7, vx, we, qb, zZ, ↓qp, ↓reduceIte, reduceCtorEq, nA, nM, nS, nE, nL, nD]; try simp only [qb, zY]
  refine ⟨fun h => ?_, fun h => ?_⟩
  · have := qif h
    rw [h, wrap64 (by omega) (by omega)]; rfl
  · rw [h]; rfl
theorem qj5 : Am.Callee Try.prog 64 (qu wa) :=
  Am.Callee.plain fun xs v he => by
    unfold wa at he
    split at he
    · cases he; exact ⟨rfl, rfl, qj2 _ _⟩
    · cases he
def B3 : z7 := (B2.put 64 (qu wa))
theorem qwd : ze Try.prog B3 := (qv6.put (qj5))
end Go.Proofs.Ytkgoadglalpbfaa

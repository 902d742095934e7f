/- Contracts: the reference's test of a diagram. -/
import Derived.Test.YtkgoadglalpbfaaE2
namespace Go.Proofs.Ytkgoadglalpbfaa
open Go.Am Go.Dia
open Nat renaming reduceAdd → nA, reduceMul → nM, reduceSub → nS, reduceEqDiff → nE, reduceLT → nL, reduceLeDiff → nD, reduceBEq → nB
open Int renaming reduceEq → iE, reduceNe → iN, reduceBEq → iB, reduceBNe → iC, reduceLT → iL, reduceLE → iD, reduceAdd → iA, reduceSub → iS, reduceMul → iM
set_option linter.unusedSimpArgs false
set_option linter.unusedVariables false
set_option maxRecDepth 4000
set_option maxHeartbeats 4000000
def qbt : AC := .seq (.region [o0 2 (.box (.t 0)),oI 4 0,oI 5 0]) (.seq (.draw true [oF 8 0 2,oL 9 8,oM 10 1,oF 12 0 2,oL 13 12,oM 14 1,oF 15 1 2,o0 16 (.ja 16 1 (.t 15) (.t 14)),oL 17 16,o0 18 (.conv .i64 (.t 17)),oC 11 135 [.t 9,.t 10],oC 19 135 [.t 13,.t 18],oM 6 11,oM 7 19]) (.seq (.region [oM 20 6,oM 21 7,o0 22 (.Zz true (.t 20) (.t 21)),oM 23 6,oM 24 7,o0 25 (.Zz false (.t 23) (.t 24)),oM 4 22,oM 5 25]) .ret))
theorem qj8 : zy Try.prog 107 = some ⟨26, qbt, [.slot 4, .slot 5]⟩ := by kernel_rfl
def Kr : AC := .seq (.seq (.region [oM 17 4,oK 18 .lss 17 16]) (.cond 18 .skip (.exit 0))) (.seq (.block 1 (.seq (.region [oM 21 4,oF 22 1 1,o0 23 (.ja 16 1 (.t 22) (.t 21)),oL 24 23,o0 25 (.conv .i64 (.t 24)),oM 5 25]) (.seq (.seq (.region [oM 26 4,oM 27 3,o0 28 (.bin .mul (.c (.int .i64 2)) (.t 27)),oP 29 .geq 26 28]) (.cond 29 (.seq (.seq (.region [oM 30 5,oK 31 .neq 30 0]) (.cond 31 (.seq (.region [oB 2 false]) .ret) .skip)) (.exit 1)) .skip)) (.seq (.region [oM 32 5,oM 33 3,o0 34 (.bin .mul (.c (.int .i64 2)) (.t 33)),oP 35 .geq 32 34,oM 36 35,oG 37 36 false (.mov (.t 5)),oG 38 36 false (.mov (.t 4)),oG 39 36 false (.bin .eql (.t 37) (.t 38)),o0 40 (.pick (.t 36) (.c (.bool true)) (.t 39)),oM 41 40,oG 42 41 false (.mov (.t 5)),oG 43 41 false (.ve 1 (.t 1)),oG 44 41 false (.ja 16 1 (.t 43) (.t 42)),oG 45 41 false (.vn (.t 44)),oG 46 41 false (.conv .i64 (.t 45)),oG 47 41 false (.mov (.t 4)),oG 48 41 false (.bin .neq (.t 46) (.t 47)),o0 49 (.pick (.t 41) (.c (.bool true)) (.t 48))]) (.cond 49 (.seq (.region [oB 2 false]) .ret) .skip))))) (.region [oM 19 4,oK 20 .add 19 1,oM 4 20]))
def Kz : AC := .seq (.seq (.region [oM 62 9,oM 63 3,o0 64 (.bin .mul (.c (.int .i64 2)) (.t 63)),oP 65 .lss 62 64]) (.cond 65 .skip (.exit 4))) (.seq (.block 5 (.seq (.region [oN 69 17 1,oM 70 9,oC 71 107 [.t 69,.t 70],oM 68 71,oE 72 0 68,oE 73 1 68,oM 10 72,oM 11 73]) (.seq (.region [oM 74 7,oM 75 10,oP 76 .lss 74 75,oM 77 76,oG 78 77 true (.mov (.t 10)),oG 79 77 true (.mov (.t 8)),oG 80 77 true (.bin .lss (.t 78) (.t 79)),o0 81 (.pick (.t 77) (.t 80) (.c (.bool false))),oM 82 81,oG 83 82 true (.mov (.t 8)),oG 84 82 true (.mov (.t 11)),oG 85 82 true (.bin .lss (.t 83) (.t 84)),o0 86 (.pick (.t 82) (.t 85) (.c (.bool false)))]) (.cond 86 (.seq (.region [oB 2 false]) .ret) .skip)))) (.region [oM 66 9,oK 67 .add 66 1,oM 9 67]))
def Kp : AC := .region [oM 54 6,oK 55 .add 54 1,oM 6 55]
def Gu : AC := .seq (.seq (.region [oM 50 6,oM 51 3,o0 52 (.bin .mul (.c (.int .i64 2)) (.t 51)),oP 53 .lss 50 52]) (.cond 53 .skip (.exit 2))) (.seq (.block 3 (.seq (.region [oN 57 17 1,oM 58 6,oC 59 107 [.t 57,.t 58],oM 56 59,oE 60 0 56,oE 61 1 56,oM 7 60,oM 8 61]) (.seq (.region [oI 9 0]) (.block 4 (.loop Kz))))) Kp)
def Ks : AC := .seq (.region [oB 2 true]) .ret
def G2 : AC := .seq (.seq (.region [oI 6 0]) (.block 2 (.loop Gu))) Ks
def qfu : AC := .seq (.region [o0 1 (.box (.t 0)),oB 2 false]) (.seq (.region [oF 12 0 1,oL 13 12,oM 3 13]) (.seq (.seq (.region [oM 14 3,oC 15 60 [.t 14,(.c (.int .i64 1)),(.c (.int .i64 8))],o0 16 (.un .not (.t 15))]) (.cond 16 (.seq (.region [oB 2 false]) .ret) .skip)) (.seq (.seq (.region [oI 4 0]) (.block 0 (.loop Kr))) G2)))
theorem qpz : zy Try.prog 58 = some ⟨87, qfu, [.slot 2]⟩ := by kernel_rfl
def vq : List AV → List AV → Option AV := fun l xs => match bg l, xs with
  | some (n, m), [] => chk (0 ≤ n ∧ n ≤ 8) (some (.str (xw n.toNat m)))
  | _, _ => none
theorem qse : Am.Callee Try.prog 100 (Zm 17 vq) :=
  Am.Callee.read fun l xs v hl he => by
    unfold vq at he
    split at he
    · rename_i n m hd
      obtain ⟨h1, he⟩ := qm he
      cases he
      obtain ⟨rfl, hm⟩ := xa hd
      obtain ⟨k, rfl⟩ : ∃ k : Nat, n = k := ⟨n.toNat, by omega⟩
      exact ⟨qh _ _, rfl, rfl, by rw [Int.toNat_natCast]; exact qso k m (by omega) hm⟩
    · cases he
def x9 : List AV → Option AV
  | [.agg l] => match bg l with
    | some (n, m) => chk (0 ≤ n ∧ n ≤ 8) (some (.str (xw n.toNat m)))
    | none => none
  | _ => none
theorem qkg : Am.Callee Try.prog 109 (qu x9) :=
  Am.Callee.plain fun xs v he => by
    unfold x9 at he
    split at he
    · split at he
      · rename_i n m hd
        obtain ⟨h1, he⟩ := qm he
        cases he
        obtain ⟨rfl, hm⟩ := xa hd
        obtain ⟨k, rfl⟩ : ∃ k : Nat, n = k := ⟨n.toNat, by omega⟩
        exact ⟨by simp only [AV.zs, AV.xb, qh, Bool.and_self], rfl, by rw [Int.toNat_natCast]; exact qio k m (by omega) hm⟩
      · cases he
    · cases he
def B5 : z7 := ((B4.put 100 (Zm 17 vq)).put 109 (qu x9))
theorem qv7 : ze Try.prog B5 := ((qjr.put (qse)).put (qkg))
theorem qem : B5 60 = some (qu vx) := rfl
theorem qap : B5 135 = some (qu yl) := rfl
theorem qi9 (n i : Nat) (m : List Nat) (hn : n ≤ 8) (hm : okD m) (hi : i < 2 * n) (ht : m.getD i 0 < 2 * n) :
    Am.Fn Try.prog 107 [.agg (dia n m), .int .i64 i] [] (fun v H' => v = .tup [.int .i64 (Jn n m i : Nat), .int .i64 (Jm n m i : Nat)] ∧ H' = []) := by
  refine Am.Fn.jw (R := fun v => v = _) qv7 mixed qj8 (by simp) (by simp) ?_
  have hg := hm.get i
  have h1 : q8 .i64 ((m.getD i 0 : Nat) : Int) = (m.getD i 0 : Nat) := yk (by omega)
  have hl : i < m.length := by rw [hm.1]; omega
  simp (maxSteps := 3000000) only [qbt, qem, qap, vx, yl, rd, List.getElem?_cons_zero, List.getElem?_cons_succ, vu, Xn hl, Int.toNat_natCast, Nat.mul_one, h1, Q1 hi, Q1 ht, and_self, List.append_cancel_left_eq, List.self_eq_append_right, exists_eq, AV.tup.injEq, List.cons.injEq, AV.int.injEq, qb, zZ, ↓qp, ↓reduceIte, reduceCtorEq, nA, nM, nS, nE, nL, nD]; try simp only [qb, zY]
  refine ⟨⟨by omega, by omega⟩, hl, ⟨vb (by omega), vb (by omega)⟩, ⟨vb (by omega), vb (by omega)⟩, ?_, ?_⟩
  · unfold Jn; split <;> omega
  · unfold Jm; split <;> omega
def Gl : List AV → Option AV
  | [.agg l, .int .i64 i] => match bg l with
    | some (n, m) => chk ((0 ≤ n ∧ n ≤ 8) ∧ (0 ≤ i ∧ i < 2 * n) ∧ m.getD i.toNat 0 < 2 * n.toNat) (some (.tup [.int .i64 (Jn n.toNat m i.toNat : Nat), .int .i64 (Jm n.toNat m i.toNat : Nat)]))
    | none => none
  | _ => none
theorem qj9 : Am.Callee Try.prog 107 (qu Gl) :=
  Am.Callee.plain fun xs v he => by
    unfold Gl at he
    split at he
    · split at he
      · rename_i i _ n m hd
        obtain ⟨h1, he⟩ := qm he
        cases he
        obtain ⟨rfl, hm⟩ := xa hd
        obtain ⟨k, rfl⟩ : ∃ k : Nat, n = k := ⟨n.toNat, by omega⟩
        obtain ⟨j, rfl⟩ : ∃ j : Nat, i = j := ⟨i.toNat, by omega⟩
        simp only [Int.toNat_natCast] at h1 ⊢
        exact ⟨by simp only [AV.zs, AV.xb, qh, Bool.and_self], rfl, qi9 k j m (by omega) hm (by omega) h1.2.2⟩
      · cases he
    · cases he
def B6 : z7 := (B5.put 107 (qu Gl))
theorem qi5 : ze Try.prog B6 := (qv7.put (qj9))
theorem J6 : B6 60 = some (qu vx) := rfl
theorem Zb : B6 135 = some (qu yl) := rfl
theorem Z8 : B6 107 = some (qu Gl) := rfl
theorem qu0 {n : Int} {m : List Nat} (h : ¬(1 ≤ n ∧ n ≤ 8)) : isS n.toNat m = false := by
  unfold isS; rw [decide_eq_false (by omega)]; rfl
def Bi (n : Nat) (m : List Nat) (i : Nat) : Bool := if 2 * n ≤ i then m.getD i 0 == 0 else decide (m.getD i 0 < 2 * n ∧ m.getD i 0 ≠ i ∧ m.getD (m.getD i 0) 0 = i)
theorem qkl {n i : Nat} {m : List Nat} (h : 2 * n ≤ i) : Bi n m i = (m.getD i 0 == 0) := if_pos h
theorem Kn {n i : Nat} {m : List Nat} (h : ¬2 * n ≤ i) : Bi n m i = decide (m.getD i 0 < 2 * n ∧ m.getD i 0 ≠ i ∧ m.getD (m.getD i 0) 0 = i) := if_neg h
def j5 (n : Nat) (m : List Nat) (i k : Nat) : Bool := decide (Jn n m i < Jn n m k ∧ Jn n m k < Jm n m i ∧ Jm n m i < Jm n m k)
theorem qcj {n : Nat} {m : List Nat} {i : Nat} (hi : i < 16) (h : Bi n m i = false) : isS n m = false := by
  unfold isS
  rw [Bool.and_eq_false_iff]; right
  rw [Bool.and_eq_false_iff]; left
  unfold qq6
  rw [List.all_eq_false]
  exact ⟨i, List.mem_range.2 hi, by unfold Bi at h; rw [h]; simp⟩
theorem qva {n : Nat} {m : List Nat} {i k : Nat} (hi : i < 2 * n) (hk : k < 2 * n) (h : j5 n m i k = true) : isS n m = false := by
  unfold isS
  rw [Bool.and_eq_false_iff]; right
  rw [Bool.and_eq_false_iff]; right
  unfold qn9
  rw [List.all_eq_false]
  refine ⟨i, List.mem_range.2 hi, ?_⟩
  rw [Bool.not_eq_true, List.all_eq_false]
  exact ⟨k, List.mem_range.2 hk, by unfold j5 at h; rw [h]; simp⟩
theorem quf {n : Nat} {m : List Nat} (hn : 1 ≤ n ∧ n ≤ 8) (h1 : ∀ i, i < 16 → Bi n m i = true) (h2 : ∀ i, i < 2 * n → ∀ k, k < 2 * n → j5 n m i k = false) : isS n m = true := by
  unfold isS
  rw [decide_eq_true hn, Bool.true_and, Bool.and_eq_true]
  refine ⟨List.all_eq_true.2 fun i hi => ?_, List.all_eq_true.2 fun i hi => List.all_eq_true.2 fun k hk => ?_⟩
  · exact h1 i (List.mem_range.1 hi)
  · have := h2 i (List.mem_range.1 hi) k (List.mem_range.1 hk)
    unfold j5 at this; rw [this]; rfl
theorem qpm (n : Int) (m : List Nat) (hm : okD m) : Am.Fn Try.prog 58 [.agg (dia n m)] [] (fun v H' => v = .bool (isS n.toNat m) ∧ H' = []) := by
  refine Am.Fn.jw (R := fun v => v = _) qi5 mixed qpz (by simp) (by simp) ?_
  simp (maxSteps := 3000000) only [qfu, J6, Zb, Z8, Gl, vx, yl, rd, List.getElem?_cons_zero, List.getElem?_cons_succ, vu, qb, zZ, ↓qp, ↓reduceIte, reduceCtorEq, nA, nM, nS, nE, nL, nD]; try simp only [qb, zY]
  refine ⟨fun h => (qu0 h).symm, fun h => ?_⟩
  obtain ⟨n, rfl⟩ : ∃ k : Nat, n = k := ⟨n.toNat, by omega⟩
  simp only [Int.toNat_natCast]
  have hn : 1 ≤ n ∧ n ≤ 8 := by omega
  have h2n : q8 .i64 (2 * (n : Int)) = ((2 * n : Nat) : Int) := by rw [wrap64 (by omega) (by omega)]; simp
  refine WA.j8 qi5 (fun s => ∃ k : Nat, s = ⟨[(4, .int .i64 k), (3, .int .i64 n), (1, .ptr 0 0)], [.cells (dia n m)]⟩ ∧ k ≤ 16 ∧ ∀ i, i < k → Bi n m i = true)
    (fun s => match get s.env 4 with | .int _ k => (100 - k).toNat | _ => 0) ⟨_, qz.zc [4, 3, 1], 0, rfl, by omega, by intros; omega⟩ ?_
  rintro s ⟨k, rfl, hk, hc⟩
  have hw : q8 .i64 ((k : Int) + 1) = ((k + 1 : Nat) : Int) := by rw [wrap64 (by omega) (by omega)]; rfl
  have hg := hm.get k
  have h1 : q8 .i64 ((m.getD k 0 : Nat) : Int) = (m.getD k 0 : Nat) := yk (by omega)
  have hml := hm.1
  simp (maxSteps := 3000000) only [Kr, hw, h2n, h1, hml, rd, List.getElem?_cons_zero, List.getElem?_cons_succ, qb, zZ, ↓qp, ↓reduceIte, reduceCtorEq, nA, nM, nS, nE, nL, nD]; try simp only [qb, zY]
  have hnext : Bi n m k = true → ∀ i, i < k + 1 → Bi n m i = true := fun hk1 i hi => by
    by_cases e : i = k
    · subst e; exact hk1
    · exact hc i (by omega)
  have htt := hm.get (m.getD k 0)
  refine ⟨fun h3 => ⟨⟨by omega, by omega⟩, by omega, fun h4 => ⟨fun h5 => ?_, fun h5 => ⟨_, qz.zc [4, 3, 1], ⟨k + 1, rfl, by omega, hnext ?_⟩, ?_⟩⟩,
    fun h4 => ⟨fun h5 => ⟨fun h6 => ⟨⟨by omega, by omega⟩, by omega, fun h7 => ?_, fun h7 => ⟨_, qz.zc [4, 3, 1], ⟨k + 1, rfl, by omega, hnext ?_⟩, ?_⟩⟩, fun h6 => ?_⟩, fun h5 => ?_⟩⟩, fun h3 => ?_⟩
  · refine (qcj (i := k) (by omega) ?_).symm
    rw [qkl (by omega)]; exact beq_eq_false_iff_ne.2 (by omega)
  · rw [qkl (by omega)]; exact beq_iff_eq.2 (by omega)
  · simp only [zL, ↓reduceIte, reduceCtorEq, nE, nA]; omega
  · refine (qcj (i := k) (by omega) ?_).symm
    rw [yk (by omega)] at h7
    rw [Kn (by omega)]; exact decide_eq_false (by omega)
  · rw [yk (by omega)] at h7
    rw [Kn (by omega)]; exact decide_eq_true (by omega)
  · simp only [zL, ↓reduceIte, reduceCtorEq, nE, nA]; omega
  · refine (qcj (i := k) (by omega) ?_).symm
    rw [Kn (by omega)]; exact decide_eq_false (by omega)
  · refine (qcj (i := k) (by omega) ?_).symm
    rw [Kn (by omega)]; exact decide_eq_false (by omega)
  have hc' : ∀ i, i < 16 → Bi n m i = true := fun i hi => hc i (by omega)
  have hto : ∀ i, i < 2 * n → m.getD i 0 < 2 * n := fun i hi => by
    have := hc' i (by omega)
    unfold Bi at this; rw [if_neg (by omega)] at this
    exact (of_decide_eq_true this).1
  clear hc hnext hw
  simp (maxSteps := 3000000) only [G2, qb, zZ, ↓qp, ↓reduceIte, reduceCtorEq, nA, nM, nS, nE, nL, nD]; try simp only [qb, zY]
  refine WA.j8 qi5 (fun s => ∃ i : Nat, s = ⟨[(6, .int .i64 i), (3, .int .i64 n), (1, .ptr 0 0)], [.cells (dia n m)]⟩ ∧ i ≤ 2 * n ∧ ∀ i', i' < i → ∀ k, k < 2 * n → j5 n m i' k = false)
    (fun s => match get s.env 6 with | .int _ k => (100 - k).toNat | _ => 0) ⟨_, qz.zc [6, 3, 1], 0, rfl, by omega, by intros; omega⟩ ?_
  rintro s ⟨i, rfl, hi, hx⟩
  have hw : q8 .i64 ((i : Int) + 1) = ((i + 1 : Nat) : Int) := by rw [wrap64 (by omega) (by omega)]; rfl
  simp (maxSteps := 3000000) only [Gu, J6, Zb, Z8, Gl, vx, yl, hw, h2n, zd hm, vz hml, qe, hml, rd, List.getElem?_cons_zero, List.getElem?_cons_succ, qb, zZ, ↓qp, ↓reduceIte, reduceCtorEq, nA, nM, nS, nE, nL, nD]; try simp only [qb, zY]
  refine ⟨fun h3 => ⟨⟨⟨by omega, by omega⟩, ⟨by omega, by omega⟩, hto i (by omega)⟩, ?_⟩, fun h3 => ?_⟩
  · have hi2 : i < 2 * n := by omega
    refine WA.j8 qi5 (fun s => ∃ j : Nat, s = ⟨[(9, .int .i64 j), (8, .int .i64 (Jm n m i : Nat)), (7, .int .i64 (Jn n m i : Nat)), (6, .int .i64 i), (3, .int .i64 n), (1, .ptr 0 0)], [.cells (dia n m)]⟩ ∧ j ≤ 2 * n ∧ ∀ j', j' < j → j5 n m i j' = false)
      (fun s => match get s.env 9 with | .int _ k => (100 - k).toNat | _ => 0) ⟨_, qz.zc [9, 8, 7, 6, 3, 1], 0, rfl, by omega, by intros; omega⟩ ?_
    rintro s ⟨j, rfl, hj, hy⟩
    have hw' : q8 .i64 ((j : Int) + 1) = ((j + 1 : Nat) : Int) := by rw [wrap64 (by omega) (by omega)]; rfl
    simp (maxSteps := 3000000) only [Kz, Kp, J6, Zb, Z8, Gl, vx, yl, hw, hw', h2n, zd hm, vz hml, qe, hml, rd, List.getElem?_cons_zero, List.getElem?_cons_succ, qb, zZ, ↓qp, ↓reduceIte, reduceCtorEq, nA, nM, nS, nE, nL, nD]; try simp only [qb, zY]
    have hny : j5 n m i j = false → ∀ j', j' < j + 1 → j5 n m i j' = false := fun hk1 j' hi => by
      by_cases e : j' = j
      · subst e; exact hk1
      · exact hy j' (by omega)
    refine ⟨fun h4 => ⟨⟨⟨by omega, by omega⟩, ⟨by omega, by omega⟩, hto j (by omega)⟩, fun h5 => ⟨fun h6 => ⟨fun h7 => (qva hi2 (by omega : j < 2 * n) (decide_eq_true (by omega))).symm, fun h7 => ?_⟩, fun h6 => ?_⟩, fun h5 => ?_⟩, fun h4 => ⟨_, qz.zc [6, 3, 1], ⟨i + 1, rfl, by omega, ?_⟩, ?_⟩⟩
    · refine ⟨_, qz.zc [9, 8, 7, 6, 3, 1], ⟨j + 1, rfl, by omega, hny (decide_eq_false (by omega))⟩, ?_⟩
      simp only [zL, ↓reduceIte, reduceCtorEq, nE, nA]; omega
    · refine ⟨_, qz.zc [9, 8, 7, 6, 3, 1], ⟨j + 1, rfl, by omega, hny (decide_eq_false (by omega))⟩, ?_⟩
      simp only [zL, ↓reduceIte, reduceCtorEq, nE, nA]; omega
    · refine ⟨_, qz.zc [9, 8, 7, 6, 3, 1], ⟨j + 1, rfl, by omega, hny (decide_eq_false (by omega))⟩, ?_⟩
      simp only [zL, ↓reduceIte, reduceCtorEq, nE, nA]; omega
    · intro i' hi' k hk
      by_cases e : i' = i
      · subst e; exact hy k (by omega)
      · exact hx i' (by omega) k hk
    · simp only [zL, ↓reduceIte, reduceCtorEq, nE, nA]; omega
  · simp (maxSteps := 3000000) only [Ks, qb, zZ, ↓qp, ↓reduceIte, reduceCtorEq, nA, nM, nS, nE, nL, nD]; try simp only [qb, zY]
    exact (quf hn hc' fun i' hi' => hx i' (by omega)).symm
def yd : List AV → Option AV
  | [.agg l] => match bg l with
    | some (n, m) => some (.bool (isS n.toNat m))
    | none => none
  | _ => none
theorem qpr : Am.Callee Try.prog 58 (qu yd) :=
  Am.Callee.plain fun xs v he => by
    unfold yd at he
    split at he
    · split at he
      · rename_i n m hd
        cases he
        obtain ⟨rfl, hm⟩ := xa hd
        exact ⟨by simp only [AV.zs, AV.xb, qh, Bool.and_self], rfl, qpm n m hm⟩
      · cases he
    · cases he
def B7 : z7 := (B6.put 58 (qu yd))
theorem qkp : ze Try.prog B7 := (qi5.put (qpr))
end Go.Proofs.Ytkgoadglalpbfaa

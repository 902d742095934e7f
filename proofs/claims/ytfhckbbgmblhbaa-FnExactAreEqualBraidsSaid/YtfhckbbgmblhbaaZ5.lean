/- Contracts of functions of the program, and plain laws, part 5: each text of this part is proved without further condition. -/
import Derived.Test.YtfhckbbgmblhbaaZ4
import Derived.Test.YtfhckbbgmblhbaaZ1
namespace Go.Proofs.Ytfhckbbgmblhbaa
open Go.Am Go.Dia
open Nat renaming reduceAdd → nA, reduceMul → nM, reduceSub → nS, reduceEqDiff → nE, reduceLT → nL, reduceLeDiff → nD, reduceBEq → nB
open Int renaming reduceEq → iE, reduceNe → iN, reduceBEq → iB, reduceBNe → iC, reduceLT → iL, reduceLE → iD, reduceAdd → iA, reduceSub → iS, reduceMul → iM
set_option linter.unusedSimpArgs false
set_option linter.unusedVariables false
set_option maxRecDepth 4000
set_option maxHeartbeats 1000000
theorem qb7 : ∀ {ks ks' : List LT} {a b a' b' : List AV} {r r' : Bool}, jc ks a b = some r → jc ks' a' b' = some r' → jc (ks ++ ks') (a ++ a') (b ++ b') = some (r && r')
  | [], ks', [], [], a', b', r, r', h, h' => by cases h; simpa using h'
  | k :: ks, ks', x :: a, y :: b, a', b', r, r', h, h' => by
    simp only [jc] at h
    split at h
    · rename_i u v hu hv
      cases h
      simp only [List.cons_append, jc, hu, qb7 hv h', Bool.and_assoc]
    · cases h
  | [], _, [], _ :: _, _, _, _, _, h, _ => by cases h
  | [], _, _ :: _, _, _, _, _, _, h, _ => by cases h
  | _ :: _, _, [], _, _, _, _, _, h, _ => by cases h
  | _ :: _, _, _ :: _, [], _, _, _, _, h, _ => by cases h
theorem Ka {t u : Int × List Nat × Int} (h : t.2.1.length = 16) (h' : u.2.1.length = 16) : jc [.int, .int, .int, .int, .int, .int, .int, .int, .int, .int, .int, .int, .int, .int, .int, .int, .int, .int] (trm t) (trm u) = some (decide (t = u)) := by
  have h1 := qb7 (Ue (n := t.1) (n' := u.1) h h') (ks' := [.int]) (a' := [.int .i64 t.2.2]) (b' := [.int .i64 u.2.2]) (r' := decide (t.2.2 = u.2.2)) (by simp only [jc, leq, if_true, Bool.and_true, Option.some.injEq]; by_cases h : t.2.2 = u.2.2 <;> simp [h])
  refine Eq.trans h1 ?_
  obtain ⟨a, b, c⟩ := t
  obtain ⟨a', b', c'⟩ := u
  simp only [Option.some.injEq, Prod.mk.injEq]
  by_cases h1 : a = a' <;> by_cases h2 : b = b' <;> by_cases h3 : c = c' <;> simp [h1, h2, h3]
theorem qga {a b : List (Int × List Nat × Int)} (hlen : a.length = b.length) {k : Nat} (hk : k < a.length) (hc : ∀ i, i < k → a[i]? = b[i]?) (he : a[k] = b[k]) : ∀ i, i < k + 1 → a[i]? = b[i]? := fun i hi => by
  by_cases e : i = k
  · subst e; rw [List.getElem?_eq_getElem hk, List.getElem?_eq_getElem (by omega), he]
  · exact hc i (by omega)
theorem qj4 {a b : List (Int × List Nat × Int)} (hlen : a.length = b.length) (hc : ∀ i, i < a.length → a[i]? = b[i]?) : a = b := by
  refine List.ext_getElem? fun i => ?_
  by_cases e : i < a.length
  · exact hc i e
  · rw [List.getElem?_eq_none (by omega), List.getElem?_eq_none (by omega)]
def vc : AC := .seq (.region [oP 14 .lss 13 12]) (.seq (.cond 14 .skip (.exit 0)) (.seq (.block 1 (.seq (.region [oM 15 13,oM 5 15]) (.seq (.draw false [oM 16 0,oM 17 5,oX 18 18 16 17,oN 19 18 18,oM 20 1,oM 21 5,oX 22 18 20 21,oN 23 18 22,o0 24 (.eqs true [.int,.int,.int,.int,.int,.int,.int,.int,.int,.int,.int,.int,.int,.int,.int,.int,.int,.int] (.t 19) (.t 23))]) (.cond 24 (.seq (.region [oB 4 false]) .ret) .skip)))) (.region [oK 25 .add 13 1,oM 13 25])))
def Qa : AC := .seq (.region [oB 4 true]) .ret
def bo : AC := .seq (.region [oB 4 false]) (.seq (.seq (.region [oM 6 0,o0 7 (.len .slc (.t 6)),oM 8 1,o0 9 (.len .slc (.t 8)),oP 10 .neq 7 9]) (.cond 10 (.seq (.region [oB 4 false]) .ret) .skip)) (.seq (.seq (.region [oM 11 0,o0 12 (.len .slc (.t 11)),oI 13 0]) (.block 0 (.loop vc))) Qa))
theorem Um : zn Try.prog 58 = some ⟨26, bo, [.slot 4]⟩ := by kernel_rfl
theorem qur (a b : List (Int × List Nat × Int)) (ha : okT a) (hb : okT b) (hl : a.length ≤ 1000000 ∧ b.length ≤ 1000000) :
    Am.Fn Try.prog 58 [.slc 0 0 a.length false 0, .slc 1 0 b.length false 0] [.ro (qv a), .ro (qv b)] (fun v H' => v = .bool (decide (a = b)) ∧ H' = [.ro (qv a), .ro (qv b)]) := by
  refine Am.Fn.jj (R := fun v => v = _) U6 mixed Um (by simp) (uy (qb _) (qb _)) ?_
  have hla := qy ha
  have hlb := qy hb
  by_cases hlen : a.length = b.length
  · have hq : ((a.length : Int) != (b.length : Int)) = false := by rw [hlen]; simp
    simp (maxSteps := 3000000) only [qg, zH, bo, hq, iE, iN, iB, iC, iL, iD, iA, iS, iM, qa, zZ, ↓qu, ↓reduceIte, reduceCtorEq, nA, nM, nS, nE, nL, nD]; try simp only [qa, zY]
    refine WA.j9 U6 (fun s => ∃ k : Nat, k ≤ a.length ∧ (∀ i, i < k → a[i]? = b[i]?) ∧ s = ⟨[(0, .slc 0 0 a.length false 0), (1, .slc 1 0 b.length false 0), (12, .int .i64 a.length), (13, .int .i64 k)], [.ro (qv a), .ro (qv b)]⟩)
      (fun s => match get s.env 13 with | .int _ x => a.length - x.toNat | _ => 0) ⟨_, qx.q7 [0, 1, 12, 13], 0, by omega, fun i h => absurd h (by omega), rfl⟩ ?_
    rintro s ⟨k, hk, hc, rfl⟩
    by_cases hlt : k < a.length
    · have hltb : k < b.length := by omega
      have hli : (k : Int) < (a.length : Int) := by omega
      have hli' : (k : Int) < (b.length : Int) := by omega
      have hk0 : (0 : Int) ≤ k := by omega
      have hw : qp .i64 ((k : Int) + 1) = ((k + 1 : Nat) : Int) := by rw [wrap64 (by omega) (by omega)]; rfl
      have hga := bn ha hlt
      have hgb := bn hb hltb
      have hoa := (ha a[k] (List.getElem_mem hlt)).1
      have hob := (hb b[k] (List.getElem_mem hltb)).1
      have z1 : k * 18 < a.length * 18 := by omega
      have z2 : k * 18 < b.length * 18 := by omega
      have z3 : k * 18 + 18 ≤ a.length * 18 := by omega
      have z4 : k * 18 + 18 ≤ b.length * 18 := by omega
      by_cases he : a[k] = b[k]
      · have hd : decide (a[k] = b[k]) = true := decide_eq_true he
        simp (maxSteps := 3000000) only [qg, zH, vc, hli, hli', hk0, hw, hla, hlb, hga, hgb, z1, z2, z3, z4, Ka hoa hob, hd, and_self, iE, iN, iB, iC, iL, iD, iA, iS, iM, qa, zZ, ↓qu, ↓reduceIte, reduceCtorEq, nA, nM, nS, nE, nL, nD]; try simp only [qa, zY]
        refine ⟨_, qx.q7 [0, 1, 12, 13], ⟨k + 1, by omega, qga hlen hlt hc he, rfl⟩, ?_⟩
        simp only [zL, ↓reduceIte, reduceCtorEq, nE, nA]; omega
      · have hd : decide (a[k] = b[k]) = false := decide_eq_false he
        simp (maxSteps := 3000000) only [qg, zH, vc, hli, hli', hk0, hw, hla, hlb, hga, hgb, z1, z2, z3, z4, Ka hoa hob, hd, and_self, iE, iN, iB, iC, iL, iD, iA, iS, iM, qa, zZ, ↓qu, ↓reduceIte, reduceCtorEq, nA, nM, nS, nE, nL, nD]; try simp only [qa, zY]
        exact ⟨⟨_, rfl⟩, (decide_eq_false fun h => by subst h; exact he rfl).symm⟩
    · have hli : ¬ (k : Int) < (a.length : Int) := by omega
      obtain rfl : k = a.length := by omega
      simp (maxSteps := 3000000) only [qg, zH, vc, Qa, hli, Int.lt_irrefl, iE, iN, iB, iC, iL, iD, iA, iS, iM, qa, zZ, ↓qu, ↓reduceIte, reduceCtorEq, nA, nM, nS, nE, nL, nD]; try simp only [qa, zY]
      exact ⟨⟨_, rfl⟩, (decide_eq_true (qj4 hlen hc)).symm⟩
  · have hq : ((a.length : Int) != (b.length : Int)) = true := by simp; omega
    simp (maxSteps := 3000000) only [qg, zH, bo, hq, iE, iN, iB, iC, iL, iD, iA, iS, iM, qa, zZ, ↓qu, ↓reduceIte, reduceCtorEq, nA, nM, nS, nE, nL, nD]; try simp only [qa, zY]
    exact ⟨⟨_, rfl⟩, (decide_eq_false fun h => by subst h; exact hlen rfl).symm⟩
def Qu : AC := .seq (.seq (.region [oM 13 5,oF 14 3 2,oL 15 14,o0 16 (.len .slc (.t 15)),oP 17 .lss 13 16]) (.cond 17 .skip (.exit 0))) (.seq (.block 1 (.seq (.draw false [oF 20 3 2,oL 21 20,oM 22 5,oX 23 18 21 22,oN 24 18 23,oF 25 3 3,oL 26 25,oM 27 5,oX 28 18 26 27,oN 29 18 28,o0 30 (.eqs true [.int,.int,.int,.int,.int,.int,.int,.int,.int,.int,.int,.int,.int,.int,.int,.int,.int,.int] (.t 24) (.t 29))]) (.cond 30 (.seq (.region [oB 4 false]) .ret) .skip))) (.region [oM 18 5,oK 19 .add 18 1,oM 5 19]))
def Uz : AC := .seq (.region [oB 4 true]) .ret
def U3 : AC := .seq (.region [o0 2 (.box (.t 0)),o0 3 (.box (.t 1)),oB 4 false]) (.seq (.seq (.region [oF 6 3 2,oL 7 6,o0 8 (.len .slc (.t 7)),oF 9 3 3,oL 10 9,o0 11 (.len .slc (.t 10)),oP 12 .neq 8 11]) (.cond 12 (.seq (.region [oB 4 false]) .ret) .skip)) (.seq (.seq (.region [oI 5 0]) (.block 0 (.loop Qu))) Uz))
theorem qkl : zn Try.prog 54 = some ⟨31, U3, [.slot 4]⟩ := by kernel_rfl
theorem qi3 (p c n p' c' n' : Int) (a b : List (Int × List Nat × Int)) (ha : okT a) (hb : okT b) (hl : a.length ≤ 1000000 ∧ b.length ≤ 1000000) :
    Am.Fn Try.prog 54 [elemV p c n 0 a.length, elemV p' c' n' 1 b.length] [.ro (qv a), .ro (qv b)] (fun v H' => v = .bool (decide (a = b)) ∧ H' = [.ro (qv a), .ro (qv b)]) := by
  refine Am.Fn.jj (R := fun v => v = _) U6 mixed qkl (by simp [elemV, AV.qn, AV.under]) (uy (qb _) (qb _)) ?_
  have hla := qy ha
  have hlb := qy hb
  by_cases hlen : a.length = b.length
  · have hq : ((a.length : Int) != (b.length : Int)) = false := by rw [hlen]; simp
    simp (maxSteps := 3000000) only [qg, zH, U3, elemV, hq, iE, iN, iB, iC, iL, iD, iA, iS, iM, qa, zZ, ↓qu, ↓reduceIte, reduceCtorEq, nA, nM, nS, nE, nL, nD]; try simp only [qa, zY]
    refine WA.j9 U6 (fun s => ∃ k : Nat, k ≤ a.length ∧ (∀ i, i < k → a[i]? = b[i]?) ∧ s = ⟨[(2, .ptr 2 0), (3, .ptr 3 0), (5, .int .i64 k)], [.ro (qv a), .ro (qv b), .cells [.int .i64 p, .int .i64 c, .int .i64 n, .slc 0 0 a.length false 0], .cells [.int .i64 p', .int .i64 c', .int .i64 n', .slc 1 0 b.length false 0]]⟩)
      (fun s => match get s.env 5 with | .int _ x => a.length - x.toNat | _ => 0) ⟨_, qx.q7 [2, 3, 5], 0, by omega, fun i h => absurd h (by omega), rfl⟩ ?_
    rintro s ⟨k, hk, hc, rfl⟩
    by_cases hlt : k < a.length
    · have hltb : k < b.length := by omega
      have hli : (k : Int) < (a.length : Int) := by omega
      have hli' : (k : Int) < (b.length : Int) := by omega
      have hk0 : (0 : Int) ≤ k := by omega
      have hw : qp .i64 ((k : Int) + 1) = ((k + 1 : Nat) : Int) := by rw [wrap64 (by omega) (by omega)]; rfl
      have hga := bn ha hlt
      have hgb := bn hb hltb
      have hoa := (ha a[k] (List.getElem_mem hlt)).1
      have hob := (hb b[k] (List.getElem_mem hltb)).1
      have z1 : k * 18 < a.length * 18 := by omega
      have z2 : k * 18 < b.length * 18 := by omega
      have z3 : k * 18 + 18 ≤ a.length * 18 := by omega
      have z4 : k * 18 + 18 ≤ b.length * 18 := by omega
      by_cases he : a[k] = b[k]
      · have hd : decide (a[k] = b[k]) = true := decide_eq_true he
        simp (maxSteps := 3000000) only [qg, zH, Qu, hli, hli', hk0, hw, hla, hlb, hga, hgb, z1, z2, z3, z4, Ka hoa hob, hd, and_self, iE, iN, iB, iC, iL, iD, iA, iS, iM, qa, zZ, ↓qu, ↓reduceIte, reduceCtorEq, nA, nM, nS, nE, nL, nD]; try simp only [qa, zY]
        refine ⟨_, qx.q7 [2, 3, 5], ⟨k + 1, by omega, qga hlen hlt hc he, rfl⟩, ?_⟩
        simp only [zL, ↓reduceIte, reduceCtorEq, nE, nA]; omega
      · have hd : decide (a[k] = b[k]) = false := decide_eq_false he
        simp (maxSteps := 3000000) only [qg, zH, Qu, hli, hli', hk0, hw, hla, hlb, hga, hgb, z1, z2, z3, z4, Ka hoa hob, hd, and_self, iE, iN, iB, iC, iL, iD, iA, iS, iM, qa, zZ, ↓qu, ↓reduceIte, reduceCtorEq, nA, nM, nS, nE, nL, nD]; try simp only [qa, zY]
        exact ⟨⟨_, rfl⟩, (decide_eq_false fun h => by subst h; exact he rfl).symm⟩
    · have hli : ¬ (k : Int) < (a.length : Int) := by omega
      obtain rfl : k = a.length := by omega
      simp (maxSteps := 3000000) only [qg, zH, Qu, Uz, hli, Int.lt_irrefl, iE, iN, iB, iC, iL, iD, iA, iS, iM, qa, zZ, ↓qu, ↓reduceIte, reduceCtorEq, nA, nM, nS, nE, nL, nD]; try simp only [qa, zY]
      exact ⟨⟨_, rfl⟩, (decide_eq_true (qj4 hlen hc)).symm⟩
  · have hq : ((a.length : Int) != (b.length : Int)) = true := by simp; omega
    simp (maxSteps := 3000000) only [qg, zH, U3, elemV, hq, iE, iN, iB, iC, iL, iD, iA, iS, iM, qa, zZ, ↓qu, ↓reduceIte, reduceCtorEq, nA, nM, nS, nE, nL, nD]; try simp only [qa, zY]
    exact ⟨⟨_, rfl⟩, (decide_eq_false fun h => by subst h; exact hlen rfl).symm⟩
def qch : BE := fun hp xs => match xs with
  | [.slc b 0 k false 0, .slc b' 0 k' false 0] => match rd hp b, rd hp b' with
    | some L, some L' => match Z2 k L, Z2 k' L' with
      | some ts, some ts' => chk (k ≤ 1000000 ∧ k' ≤ 1000000) (some (.bool (decide (ts = ts')), hp))
      | _, _ => none
    | _, _ => none
  | _ => none
theorem qzp : Am.Callee Try.prog 58 qch := Callee.ro2 fun hp xs v hp' he => by
  unfold qch at he
  split at he
  · rename_i b k b' k'
    split at he
    · rename_i L L' hL hL'
      split at he
      · rename_i ts ts' h1 h1'
        obtain ⟨h0, he⟩ := qk he
        simp only [Option.some.injEq, Prod.mk.injEq] at he
        obtain ⟨rfl, rfl⟩ := he
        obtain ⟨e1, e2, e3, e4⟩ := yo h1
        obtain ⟨f1, f2, f3, f4⟩ := yo h1'
        have g1 := qy e2
        have g2 := qy f2
        refine ⟨qv ts, qv ts', b, b', [.slc 0 0 ts.length false 0, .slc 1 0 ts'.length false 0], rfl, ⟨L, hL, by omega, by rw [g1, e1]; exact e3⟩, ⟨L', hL', by omega, by rw [g2, f1]; exact f3⟩, qb _, qb _, ?_, rfl, ?_, rfl, qur ts ts' e2 f2 (by omega)⟩
        · simp only [AV.zi, AV.ren, two, if_true, e1, f1, Nat.zero_add]
          rfl
        · exact ⟨by simp [AV.under], by simp [AV.under], trivial⟩
      · cases he
    · cases he
  · cases he
def Z5 : BE := fun hp xs => match xs with
  | [.agg [.int .i64 p, .int .i64 c, .int .i64 n, .slc b 0 k false 0], .agg [.int .i64 p', .int .i64 c', .int .i64 n', .slc b' 0 k' false 0]] => match rd hp b, rd hp b' with
    | some L, some L' => match Z2 k L, Z2 k' L' with
      | some ts, some ts' => chk (k ≤ 1000000 ∧ k' ≤ 1000000) (some (.bool (decide (ts = ts')), hp))
      | _, _ => none
    | _, _ => none
  | _ => none
theorem qwr : Am.Callee Try.prog 54 Z5 := Callee.ro2 fun hp xs v hp' he => by
  unfold Z5 at he
  split at he
  · rename_i p c n b k p' c' n' b' k'
    split at he
    · rename_i L L' hL hL'
      split at he
      · rename_i ts ts' h1 h1'
        obtain ⟨h0, he⟩ := qk he
        simp only [Option.some.injEq, Prod.mk.injEq] at he
        obtain ⟨rfl, rfl⟩ := he
        obtain ⟨e1, e2, e3, e4⟩ := yo h1
        obtain ⟨f1, f2, f3, f4⟩ := yo h1'
        have g1 := qy e2
        have g2 := qy f2
        refine ⟨qv ts, qv ts', b, b', [elemV p c n 0 ts.length, elemV p' c' n' 1 ts'.length], rfl, ⟨L, hL, by omega, by rw [g1, e1]; exact e3⟩, ⟨L', hL', by omega, by rw [g2, f1]; exact f3⟩, qb _, qb _, ?_, rfl, ?_, rfl, qi3 p c n p' c' n' ts ts' e2 f2 (by omega)⟩
        · simp only [elemV, AV.zi, AV.ren, two, if_true, e1, f1, Nat.zero_add]
          rfl
        · simp [elemV, AV.qn, AV.under]
      · cases he
    · cases he
  · cases he
def qhw (p x : Nat) : Nat → Nat
  | 0 => 1
  | k + 1 => qhw p x k * x % p
def qyg (a b : Bool) : Bool := cond a b (!b)
def qxj : Bool := (List.range 98).all fun p => !w8 p || (List.range p).all fun x => Nat.beq x 0 || (List.range p).all fun k => qyg (Nat.beq (k * x % p) 1) (Nat.beq k (qhw p x (p - 2)))
theorem qp7 : qxj = true := by kernel_rfl
theorem qf3 (p x : Nat) : ∀ k, yc p x k = (qhw p x k : Nat)
  | 0 => rfl
  | k + 1 => by
    show (yc p x k * x).emod p = ((qhw p x k * x % p : Nat) : Int)
    rw [qf3 p x k, Int.natCast_emod, Int.natCast_mul]; rfl
theorem qq2 {a b : Bool} (h : qyg a b = true) : a = b := by cases a <;> cases b <;> simp_all [qyg]
noncomputable def j2 (p x : Int) : Int := yc p x (p - 2).toNat
theorem V7 {p x : Int} (hp : w8 p = true) (hx : 1 ≤ x ∧ x ≤ p - 1) : (1 ≤ j2 p x ∧ j2 p x ≤ p - 1) ∧ ∀ k : Int, 0 ≤ k → k < p → ((k * x).emod p = 1 ↔ k = j2 p x) := by
  have hb := y6 hp
  obtain ⟨P, rfl⟩ : ∃ P : Nat, p = P := ⟨p.toNat, by omega⟩
  obtain ⟨X, rfl⟩ : ∃ X : Nat, x = X := ⟨x.toNat, by omega⟩
  have h1 := List.all_eq_true.1 qp7 P (List.mem_range.2 (by omega))
  rw [hp, Bool.not_true, Bool.false_or] at h1
  have h2 := List.all_eq_true.1 h1 X (List.mem_range.2 (by omega))
  have hX0 : Nat.beq X 0 = false := by
    cases h : Nat.beq X 0 with
    | false => rfl
    | true => have := Nat.eq_of_beq_eq_true h; omega
  rw [hX0, Bool.false_or] at h2
  have h3 : ∀ k : Nat, k < P → (k * X % P = 1 ↔ k = qhw P X (P - 2)) := fun k hk => by
    have h4 := qq2 (List.all_eq_true.1 h2 k (List.mem_range.2 hk))
    constructor
    · intro h
      rw [h] at h4
      exact Nat.eq_of_beq_eq_true (h4.symm.trans rfl)
    · intro h
      rw [h, Nat.beq_refl] at h4
      rw [h]
      exact Nat.eq_of_beq_eq_true h4
  have e1 : j2 P X = (qhw P X (P - 2) : Nat) := by
    unfold j2
    rw [qf3]
    congr 2
    omega
  have hv : qhw P X (P - 2) < P := by
    rcases Nat.eq_zero_or_pos (P - 2) with h | h
    · rw [h]; show 1 < P; omega
    · obtain ⟨j, hj⟩ : ∃ j, P - 2 = j + 1 := ⟨P - 3, by omega⟩
      rw [hj]
      exact Nat.mod_lt _ (by omega)
  have hv1 : 1 ≤ qhw P X (P - 2) := by
    have := (h3 _ hv).2 rfl
    rcases Nat.eq_zero_or_pos (qhw P X (P - 2)) with h | h
    · rw [h, Nat.zero_mul, Nat.zero_mod] at this; omega
    · exact h
  rw [e1]
  refine ⟨by omega, fun k hk hkp => ?_⟩
  obtain ⟨K, rfl⟩ : ∃ K : Nat, k = K := ⟨k.toNat, by omega⟩
  have h5 := h3 K (by omega)
  have h6 : ((K : Int) * X).emod P = ((K * X % P : Nat) : Int) := by rw [Int.natCast_emod, Int.natCast_mul]; rfl
  rw [h6]
  omega
theorem Ja : B95 75 = some (ql Qm) := rfl
theorem Xc : B95 70 = some (ql j6) := rfl
def qbz : AC := .seq (.region [oI 4 0]) (.seq (.region [oM 5 0,oM 6 1,oK 7 .sub 6 2,oM 8 1,oC 9 75 [.t 5,.t 7,.t 8],oM 4 9]) .ret)
theorem qka : zn Try.prog 72 = some ⟨10, qbz, [.slot 4]⟩ := by kernel_rfl
theorem qk7 (p x : Int) (hp : w8 p = true) (hx : 1 ≤ x ∧ x ≤ p - 1) : Am.Fn Try.prog 72 [.int .i64 x, .int .i64 p] [] (fun v H' => v = .int .i64 (j2 p x) ∧ H' = []) := by
  refine Am.Fn.jj (R := fun v => v = _) U6 mixed qka (by simp) (by simp) ?_
  have hb := y6 hp
  have hw : qp .i64 (p - 2) = p - 2 := wrap64 (by omega) (by omega)
  have c1 : 0 ≤ x ∧ x ≤ p - 1 := by omega
  have c2 : 0 ≤ p - 2 ∧ p - 2 ≤ 1000000 := by omega
  have e : yc p x (p - 2).toNat = j2 p x := rfl
  simp (maxSteps := 3000000) only [qg, zH, qbz, Ja, Xc, Qm, j6, hb, hw, c1, c2, e, and_self, iE, iN, iB, iC, iL, iD, iA, iS, iM, qa, zZ, ↓qu, ↓reduceIte, reduceCtorEq, nA, nM, nS, nE, nL, nD]; try simp only [qa, zY]
def Qp : AC := .seq (.seq (.region [oM 6 5,oM 7 0,oP 8 .lss 6 7]) (.cond 8 .skip (.exit 0))) (.seq (.block 1 (.seq (.region [oM 11 5,oM 12 0,oM 13 1,oC 14 70 [.t 12,.t 13],oP 15 .mul 11 14,oM 16 0,oP 17 .rem 15 16,oK 18 .eql 17 1]) (.cond 18 (.seq (.region [oM 19 5,oM 4 19]) .ret) .skip))) (.region [oM 9 5,oK 10 .add 9 1,oM 5 10]))
def Ky : AC := .seq (.region [oI 4 0]) .ret
def U1 : AC := .seq (.region [oI 4 0]) (.seq (.seq (.region [oI 5 1]) (.block 0 (.loop Qp))) Ky)
theorem qdz : zn Try.prog 67 = some ⟨20, U1, [.slot 4]⟩ := by kernel_rfl
theorem qeo (p x : Int) (hp : w8 p = true) (hx : 1 ≤ x ∧ x ≤ p - 1) : Am.Fn Try.prog 67 [.int .i64 p, .int .i64 x] [] (fun v H' => v = .int .i64 (j2 p x) ∧ H' = []) := by
  refine Am.Fn.jj (R := fun v => v = _) U6 mixed qdz (by simp) (by simp) ?_
  have hb := y6 hp
  obtain ⟨⟨hv1, hv2⟩, hch⟩ := V7 hp hx
  have hm : x.emod p = x := Int.emod_eq_of_lt (by omega) (by omega)
  have hp0 : 0 < p ∧ p ≤ 1000000 := by omega
  have hpne : p ≠ 0 := by omega
  simp (maxSteps := 3000000) only [qg, zH, U1, iE, iN, iB, iC, iL, iD, iA, iS, iM, qa, zZ, ↓qu, ↓reduceIte, reduceCtorEq, nA, nM, nS, nE, nL, nD]; try simp only [qa, zY]
  refine WA.j9 U6 (fun s => ∃ k : Nat, 1 ≤ k ∧ (k : Int) ≤ j2 p x ∧ s = ⟨[(0, .int .i64 p), (1, .int .i64 x), (5, .int .i64 k)], []⟩)
    (fun s => match get s.env 5 with | .int _ k => 100 - k.toNat | _ => 0) ⟨_, qx.q7 [0, 1, 5], 1, by omega, hv1, rfl⟩ ?_
  rintro s ⟨k, hk1, hk2, rfl⟩
  have hli : (k : Int) < p := by omega
  have h0 : 0 ≤ (k : Int) * x := Int.mul_nonneg (by omega) (by omega)
  have h1 : (k : Int) * x ≤ 96 * 96 := Int.mul_le_mul (by omega) (by omega) (by omega) (by omega)
  have hw1 : qp .i64 ((k : Int) * x) = (k : Int) * x := wrap64 (by omega) (by omega)
  have ht : Int.tmod ((k : Int) * x) p = ((k : Int) * x).emod p := Int.tmod_eq_emod_of_nonneg h0
  have hw : qp .i64 ((k : Int) + 1) = ((k + 1 : Nat) : Int) := by rw [wrap64 (by omega) (by omega)]; rfl
  have hc := hch k (by omega) hli
  by_cases he : (k : Int) = j2 p x
  · have h2 := hc.2 he
    simp (maxSteps := 3000000) only [qg, zH, Qp, Ja, Xc, Qm, j6, hli, hp0, hm, hw1, ht, hpne, h2, iE, iN, iB, iC, iL, iD, iA, iS, iM, qa, zZ, ↓qu, ↓reduceIte, reduceCtorEq, nA, nM, nS, nE, nL, nD]; try simp only [qa, zY]
    rw [he]
  · have h2 : ¬ ((k : Int) * x).emod p = 1 := fun h => he (hc.1 h)
    simp (maxSteps := 3000000) only [qg, zH, Qp, Ja, Xc, Qm, j6, hli, hp0, hm, hw1, ht, hpne, h2, hw, iE, iN, iB, iC, iL, iD, iA, iS, iM, qa, zZ, ↓qu, ↓reduceIte, reduceCtorEq, nA, nM, nS, nE, nL, nD]; try simp only [qa, zY]
    refine ⟨_, qx.q7 [0, 1, 5], ⟨k + 1, by omega, by omega, rfl⟩, ?_⟩
    simp only [zL, ↓reduceIte, reduceCtorEq, nE, nA]; omega
def okI (p x : Int) : Prop := w8 p = true ∧ 1 ≤ x ∧ x ≤ p - 1
instance (p x : Int) : Decidable (okI p x) := by unfold okI; infer_instance
noncomputable def vl : List AV → Option AV
  | [.int .i64 p, .int .i64 x] => chk (okI p x) (some (.int .i64 (j2 p x)))
  | _ => none
noncomputable def vn : List AV → Option AV
  | [.int .i64 x, .int .i64 p] => chk (okI p x) (some (.int .i64 (j2 p x)))
  | _ => none
theorem qx9 : Am.Callee Try.prog 67 (ql vl) := Am.Callee.plain fun xs v he => by
  unfold vl at he
  split at he
  · rename_i p x
    obtain ⟨⟨h1, h2⟩, he⟩ := qk he
    cases he
    exact ⟨rfl, rfl, qeo p x h1 h2⟩
  · cases he
theorem qxe : Am.Callee Try.prog 72 (ql vn) := Am.Callee.plain fun xs v he => by
  unfold vn at he
  split at he
  · rename_i x p
    obtain ⟨⟨h1, h2⟩, he⟩ := qk he
    cases he
    exact ⟨rfl, rfl, qk7 p x h1 h2⟩
  · cases he
noncomputable def qfk : zg := ((B95.put 67 (ql vl)).put 72 (ql vn))
theorem Ku : qo Try.prog qfk := ((U6.put (qx9)).put (qxe))
def brs : Nat → Nat → List (List UInt8)
  | 0, o => if o = 0 then [[]] else []
  | r + 1, o => (brs r (o + 1)).map (40 :: ·) ++ (if 0 < o then (brs r (o - 1)).map (41 :: ·) else [])
theorem qiz {s : List UInt8} {k : Nat} (h : parts s k = none) : ∀ j, parts s (k + j) = none
  | 0 => h
  | j + 1 => by
    show parts s ((k + j) + 1) = none
    simp only [parts, qiz h j]
theorem qfw {s : List UInt8} {o0 : List Nat} (hL : parts s s.length = some (o0, [])) : ∀ (r k : Nat) (out st : List Nat), k + r = s.length → parts s k = some (out, st) → s.drop k ∈ brs r st.length
  | 0, k, out, st, hk, h => by
    obtain rfl : k = s.length := by omega
    rw [hL] at h
    cases h
    rw [List.drop_length]
    simp [brs]
  | r + 1, k, out, st, hk, h => by
    have hlt : k < s.length := by omega
    have hd : s.drop k = s.getD k 0 :: s.drop (k + 1) := by
      rw [List.drop_eq_getElem_cons hlt, List.getD_eq_getElem?_getD, List.getElem?_eq_getElem hlt]; rfl
    cases h1 : parts s (k + 1) with
    | none =>
      have := qiz h1 (s.length - (k + 1))
      rw [show k + 1 + (s.length - (k + 1)) = s.length by omega, hL] at this
      cases this
    | some q =>
      obtain ⟨out', st'⟩ := q
      have ih := qfw hL r (k + 1) out' st' (by omega) h1
      rw [hd]
      simp only [parts, h] at h1
      simp only [brs, List.mem_append]
      split at h1
      · rename_i h40
        cases h1
        rw [h40]
        exact .inl (List.mem_map.2 ⟨_, ih, rfl⟩)
      · split at h1
        · rename_i h41
          rw [h41]
          split at h1
          · cases h1
          · cases h1
            rename_i i st'
            right
            rw [if_pos (by simp)]
            exact List.mem_map.2 ⟨_, by simpa using ih, rfl⟩
        · cases h1
theorem qra {n : Nat} {m : List Nat} (h : isS n m = true) (hm : m.length = 16) : wi n m ∈ brs (2 * n) 0 := by
  rw [Gu n m hm] at h
  simp only [isI, Bool.and_eq_true, beq_iff_eq] at h
  have h1 := h.2.2
  unfold K1 at h1
  split at h1
  · split at h1
    · rename_i out ho
      have := qfw ho (2 * n) 0 _ _ (by rw [kb]; omega) rfl
      simpa using this
    · cases h1
  · cases h1
theorem qft {α : Type} [DecidableEq α] : ∀ {l m : List α}, l.Nodup → (∀ x ∈ l, x ∈ m) → l.length ≤ m.length
  | [], m, _, _ => by simp
  | x :: l, m, h, hs => by
    have h1 := List.nodup_cons.1 h
    have hx := hs x (by simp)
    have ih := qft (m := m.erase x) h1.2 fun y hy => by
      have : y ≠ x := fun e => h1.1 (e ▸ hy)
      exact (List.mem_erase_of_ne this).2 (hs y (by simp [hy]))
    rw [List.length_erase_of_mem hx] at ih
    have := List.length_pos_of_mem hx
    simp only [List.length_cons]; omega
def qx6 : Bool := (List.range 7).all fun n => Nat.ble (brs (2 * n) 0).length 132
theorem qqo : qx6 = true := by kernel_rfl
theorem qsm {p n : Int} {L : List (Int × List Nat × Int)} (h : xf p n L) (hn : 0 ≤ n ∧ n ≤ 6) : L.length ≤ 132 := by
  have h1 : (L.map txt).Nodup := List.pairwise_map.2 (h.up.imp fun {a b} hlt e => by
    unfold ltT at hlt
    rw [e] at hlt
    have : Op.bytesLess (txt b) (txt b) = false := by
      generalize txt b = s
      induction s with
      | nil => rfl
      | cons x s ih => simp [Op.bytesLess, ih]
    rw [this] at hlt; cases hlt)
  have h2 := qft h1 (m := brs (2 * n.toNat) 0) fun x hx => by
    obtain ⟨t, ht, rfl⟩ := List.mem_map.1 hx
    have h3 := h.dia t ht
    have h4 := qra h3.2 (h.ok t ht).1
    unfold txt
    rwa [h3.1]
  rw [List.length_map] at h2
  have h3 := List.all_eq_true.1 qqo n.toNat (List.mem_range.2 (by omega))
  have h4 := Nat.le_of_ble_eq_true h3
  omega
def qhx (H : List AO) (X : AV) (w : List Int) : Prop :=
  (X = .v (.slice none 0 0) ∧ H = [] ∧ w = []) ∨ (X = .slc 0 0 0 true 0 ∧ H = [.dead] ∧ w = []) ∨ ∃ cap, X = .slc 0 0 w.length true cap ∧ w.length ≤ cap ∧ H = [.ro (xk w)]
def G1 : List AV → Option (List Int)
  | [] => some []
  | .int .i64 x :: l => match G1 l with
    | some w => some (x :: w)
    | none => none
  | _ => none
theorem yq : ∀ w, G1 (xk w) = some w
  | [] => rfl
  | x :: w => by
    have := yq w
    simp only [xk, List.map_cons] at this ⊢
    simp only [G1, this]
theorem yx : ∀ {l : List AV} {w : List Int}, G1 l = some w → l = xk w
  | [], w, h => by cases h; rfl
  | x :: l, w, h => by
    unfold G1 at h
    split at h
    · rename_i e; cases e
    · rename_i y l' e
      cases e
      split at h
      · rename_i w' hw
        cases h
        rw [yx hw]; rfl
      · cases h
    · cases h
def Bv (hp : List AO) (X : AV) : Option (List Int) := match X with
  | .v (.slice none 0 0) => some []
  | .slc b 0 n true cap => match hp[b]? with
    | some .dead => if n = 0 ∧ cap = 0 then some [] else none
    | some (.ro l) => match G1 l with
      | some w => if n = w.length ∧ n ≤ cap then some w else none
      | none => none
    | _ => none
  | _ => none
theorem qno {hp : List AO} {X : AV} {w : List Int} (h : Bv hp X = some w) : ∃ (bs : List (Nat × Nat)) (H : List AO) (X' : AV), qhx H X' w ∧ X'.ren (ofL bs) = X ∧ jm X = true ∧ Y3 hp (ofL bs) bs H ∧
    Jh bs H = true ∧ AO.Ki H.length H ∧ X'.under H.length ∧ (∀ o ∈ H, o.wr = false) ∧ (∀ bs', after ⟨[], hp⟩ (ofL bs) bs H (H ++ bs') = hp ++ bs'.map (AO.ren ((ofL bs).ext H.length hp.length))) := by
  unfold Bv at h
  split at h
  · cases h
    exact ⟨[], [], .v (.slice none 0 0), .inl ⟨rfl, rfl, rfl⟩, rfl, rfl, trivial, rfl, trivial, trivial, by simp, fun bs' => by simp [after, upd]⟩
  · rename_i b n cap
    split at h
    · rename_i hb
      split at h
      · rename_i h0
        cases h
        obtain ⟨rfl, rfl⟩ := h0
        refine ⟨[(b, 0)], [.dead], .slc 0 0 0 true 0, .inr (.inl ⟨rfl, rfl, rfl⟩), by simp [AV.ren, ofL], rfl, ⟨(List.getElem?_eq_some_iff.1 hb).1, trivial⟩, rfl, ⟨trivial, trivial⟩, by simp [AV.under], by simp [AO.wr], fun bs' => ?_⟩
        simp [after, upd, AO.wr]
      · cases h
    · rename_i l hb
      split at h
      · rename_i w' hw
        split at h
        · rename_i h0
          cases h
          have hl := yx hw
          subst hl
          obtain ⟨rfl, h0⟩ := h0
          refine ⟨[(b, 0)], [.ro (xk w)], .slc 0 0 w.length true cap, .inr (.inr ⟨cap, rfl, h0, rfl⟩), by simp [AV.ren, ofL], rfl, ⟨⟨xk w, by simp [rd, hb], by simp, by simp [qc _ _ (qq _)]⟩, trivial⟩, rfl, ⟨qj _ _ (qq _), trivial⟩, by simp [AV.under], by simp [AO.wr], fun bs' => ?_⟩
          simp [after, upd, AO.wr]
        · cases h
      · cases h
    · cases h
  · cases h
theorem qls {H : List AO} {X : AV} {w : List Int} (h : qhx H X w) : ∀ (j : Nat) (o' : AO), H[j]? = some o' → o'.under H.length := by
  intro j o' hj
  rcases h with ⟨_, rfl, _⟩ | ⟨_, rfl, _⟩ | ⟨cap, _, _, rfl⟩
  · simp at hj
  · cases j with
    | succ j => simp at hj
    | zero => cases hj; trivial
  · cases j with
    | succ j => simp at hj
    | zero => cases hj; exact qj _ _ (qq _)
theorem qsg {H : List AO} {X : AV} {w : List Int} (h : qhx H X w) (rest : List AO) : Bv (H ++ rest) X = some w := by
  rcases h with ⟨rfl, rfl, rfl⟩ | ⟨rfl, rfl, rfl⟩ | ⟨cap, rfl, hc, rfl⟩
  · rfl
  · rfl
  · simp only [Bv, List.cons_append, List.nil_append, List.getElem?_cons_zero, yq, hc, and_self, if_true]
theorem qgp : ∀ n, rep n [AV.int .i64 0] = xk (List.replicate n 0)
  | 0 => rfl
  | n + 1 => by rw [rep, qgp n, List.replicate_succ]; rfl
def uu : AC := .seq (.seq (.region [oM 8 4,oM 9 0,o0 10 (.len .slc (.t 9)),oP 11 .lss 8 10]) (.cond 11 .skip (.exit 0))) (.seq (.block 1 (.region [oM 14 3,oM 15 4,oM 16 0,oM 17 4,oX 18 1 16 17,oL 19 18,oX 20 1 14 15,oT 20 19])) (.region [oM 12 4,oK 13 .add 12 1,oM 4 13]))
def kg : AC := .seq (.region [oM 21 3,oM 2 21]) .ret
def Xr : AC := .seq (.region [o0 2 (.mov (.c (.v (.slice none 0 0))))]) (.seq (.region [oM 5 0,o0 6 (.len .slc (.t 5)),o0 7 (.Vg 1 8 [.int .i64 0] (.t 6) (.t 6)),oM 3 7]) (.seq (.seq (.region [oI 4 0]) (.block 0 (.loop uu))) kg))
theorem qhn : zn Try.prog 20 = some ⟨22, Xr, [.slot 2]⟩ := by kernel_rfl
theorem ql1 (H : List AO) (X : AV) (w : List Int) (h : qhx H X w) (hl : w.length ≤ 2000000) :
    Am.Fn Try.prog 20 [X] H (fun v H' => v = .slc H.length 0 w.length false 0 ∧ H' = H ++ [.vec 1 (xk w)]) := by
  refine Am.Fn.ofW G2 mixed qhn (by simp) (qls h) ?_
  rcases h with ⟨rfl, rfl, rfl⟩ | ⟨rfl, rfl, rfl⟩ | ⟨cap, rfl, hc, rfl⟩
  · simp (maxSteps := 3000000) only [qg, zH, Xr, iE, iN, iB, iC, iL, iD, iA, iS, iM, bf, qbw, List.length_nil, Int.toNat_zero, rep, qa, zZ, ↓qu, ↓reduceIte, reduceCtorEq, nA, nM, nS, nE, nL, nD]; try simp only [qa, zY]
    refine ⟨by decide, WA.j9 G2 (fun s => s = ⟨[(4, .int .i64 0), (3, .slc 0 0 0 true 0), (0, .v (.slice none 0 0))], [.cells []]⟩) (fun _ => 0) ⟨_, qx.q7 [4, 3, 0], rfl⟩ ?_⟩
    rintro s rfl
    simp (maxSteps := 3000000) only [qg, zH, uu, kg, iE, iN, iB, iC, iL, iD, iA, iS, iM, bf, qbw, List.length_nil, qa, zZ, ↓qu, ↓reduceIte, reduceCtorEq, nA, nM, nS, nE, nL, nD]; try simp only [qa, zY]
    refine ⟨_, qx.trans (qx.q7 [2]) (qx.vec 0 0 1 (by decide) rfl rfl rfl rfl), ?_⟩
    refine Ret.x6 [0] ⟨⟨by simp, rfl, by decide⟩, ?_⟩ (rs := [.slc 0 0 0 false 0]) rfl rfl (by simp [z7]) ?_ ⟨?_, ?_⟩
    · simp only [q7, zp, zV, ↓reduceIte, nE, reduceCtorEq, nB]
      simp only [zK, ↓reduceIte, reduceCtorEq, nE, nB, nA]
    · intro j l; match j with
      | 0 => simp [q9, V0, AO.zu, AO.ren]
      | j + 1 => simp [q9]
    · simp only [z7]
      simp only [zL, ↓reduceIte, reduceCtorEq, nE, nA]
    · rfl
  · simp (maxSteps := 3000000) only [qg, zH, Xr, iE, iN, iB, iC, iL, iD, iA, iS, iM, bf, qbw, List.length_nil, Int.toNat_zero, rep, qa, zZ, ↓qu, ↓reduceIte, reduceCtorEq, nA, nM, nS, nE, nL, nD]; try simp only [qa, zY]
    refine ⟨by decide, WA.j9 G2 (fun s => s = ⟨[(4, .int .i64 0), (3, .slc 1 0 0 true 0), (0, .slc 0 0 0 true 0)], [.dead, .cells []]⟩) (fun _ => 0) ⟨_, qx.q7 [4, 3, 0], rfl⟩ ?_⟩
    rintro s rfl
    simp (maxSteps := 3000000) only [qg, zH, uu, kg, iE, iN, iB, iC, iL, iD, iA, iS, iM, bf, qbw, List.length_nil, qa, zZ, ↓qu, ↓reduceIte, reduceCtorEq, nA, nM, nS, nE, nL, nD]; try simp only [qa, zY]
    refine ⟨_, qx.trans (qx.q7 [2]) (qx.vec 1 0 1 (by decide) rfl rfl rfl rfl), ?_⟩
    refine Ret.x6 [0, 1] ⟨⟨by simp, rfl, by decide⟩, ?_⟩ (rs := [.slc 1 0 0 false 0]) rfl rfl (by simp [z7]) ?_ ⟨?_, ?_⟩
    · simp only [q7, zp, zV, ↓reduceIte, nE, reduceCtorEq, nB]
      simp only [zK, ↓reduceIte, reduceCtorEq, nE, nB, nA]
    · intro j l; match j with
      | 0 => simp [q9, V0, AO.zu, AO.ren]
      | 1 => simp [q9, V0, AO.zu, AO.ren]
      | j + 2 => simp [q9]
    · simp only [z7]
      simp only [zL, ↓reduceIte, reduceCtorEq, nE, nA]
    · rfl
  · simp (maxSteps := 3000000) only [qg, zH, Xr, iE, iN, iB, iC, iL, iD, iA, iS, iM, bf, hc, List.length_nil, qgp, qa, zZ, ↓qu, ↓reduceIte, reduceCtorEq, nA, nM, nS, nE, nL, nD]; try simp only [qa, zY]
    refine ⟨⟨by omega, by omega, by omega⟩, WA.j9 G2 (fun s => ∃ (i : Nat) (us : List Int), i ≤ w.length ∧ us = w.take i ++ List.replicate (w.length - i) 0 ∧ s = ⟨[(4, .int .i64 i), (3, .slc 1 0 w.length true w.length), (0, .slc 0 0 w.length true cap)], [.ro (xk w), .cells (xk us)]⟩)
      (fun s => match get s.env 4 with | .int _ x => w.length - x.toNat | _ => 0) ⟨_, qx.q7 [4, 3, 0], 0, _, by omega, by simp, rfl⟩ ?_⟩
    rintro s ⟨i, us, hi, hus, rfl⟩
    have hul : us.length = w.length := by rw [hus]; simp; omega
    have hal := xb w
    have hbl := xb us
    have hw : qp .i64 ((i : Int) + 1) = ((i + 1 : Nat) : Int) := by rw [wrap64 (by omega) (by omega)]; rfl
    by_cases hlt : i < w.length
    · have hget : w.getD i 0 = w[i] := by simp [hlt]
      have hset : us.set i w[i] = w.take (i + 1) ++ List.replicate (w.length - (i + 1)) 0 := by
        rw [hus, List.set_append_right _ _ (by rw [List.length_take]; omega), List.length_take, Nat.min_eq_left hi, Nat.sub_self, show w.length - i = (w.length - (i + 1)) + 1 by omega, List.replicate_succ, List.set_cons_zero, List.take_succ_eq_append_getElem hlt, List.append_assoc]
        rfl
      have hst : (xk us).set i (.int .i64 w[i]) = xk (us.set i w[i]) := qrb
      have hli : ((i : Int) < (w.length : Int)) := by omega
      have hli' : (0 : Int) ≤ i := by omega
      simp (maxSteps := 3000000) only [qg, zH, uu, iE, iN, iB, iC, iL, iD, iA, iS, iM, bf, hc, hw, hal, hbl, hul, hget, hst, hlt, hli, hli', AV.one, and_self, qa, zZ, ↓qu, ↓reduceIte, reduceCtorEq, nA, nM, nS, nE, nL, nD]; try simp only [qa, zY]
      refine ⟨_, qx.q7 [4, 3, 0], ⟨i + 1, us.set i w[i], by omega, hset, ?_⟩, ?_⟩
      · simp only [zL, ↓reduceIte, reduceCtorEq, nE, nA]
      · simp only [zL, ↓reduceIte, reduceCtorEq, nE, nA]; omega
    · have hi' : i = w.length := by omega
      subst hi'
      have hu : us = w := by rw [hus]; simp
      subst hu
      simp (maxSteps := 3000000) only [qg, zH, uu, kg, iE, iN, iB, iC, iL, iD, iA, iS, iM, bf, hc, Int.lt_irrefl, qa, zZ, ↓qu, ↓reduceIte, reduceCtorEq, nA, nM, nS, nE, nL, nD]; try simp only [qa, zY]
      refine ⟨_, qx.trans (qx.q7 [2]) (qx.vec 1 us.length 1 (by decide) rfl (by rw [hal]; omega) rfl ?_), ?_⟩
      · simp only [zV, ↓reduceIte, nE, reduceCtorEq, nB]
      refine Ret.x6 [0, 1] ⟨⟨by simp, rfl, by decide⟩, ?_⟩ (rs := [.slc 1 0 us.length false 0]) ?_ rfl (by simp [z7]) ?_ ⟨?_, ?_⟩
      · simp only [q7, zp, zV, ↓reduceIte, nE, reduceCtorEq, nB]
        simp only [zK, ↓reduceIte, reduceCtorEq, nE, nB, nA]
      · simp only [q7, zp, zV, ↓reduceIte, nE, reduceCtorEq, nB]
        rfl
      · intro j l; match j with
        | 0 => exact fun _ => ⟨_, rfl⟩
        | 1 => simp [q9, V0, AO.zu, AO.ren]
        | j + 2 => simp [q9]
      · simp only [z7]
        simp only [zL, ↓reduceIte, reduceCtorEq, nE, nA]
      · simp only [zV, ↓reduceIte, nE, reduceCtorEq, nB]
        simp only [zL, ↓reduceIte, reduceCtorEq, nE, nA]
def qc8 : BE := fun hp xs => match xs with
  | [X] => match Bv hp X with
    | some w => chk (w.length ≤ 2000000) (some (.slc hp.length 0 w.length false 0, hp ++ [.vec 1 (xk w)]))
    | none => none
  | _ => none
theorem qyp : Am.Callee Try.prog 20 qc8 := Callee.fp fun hp xs v hp' he => by
  unfold qc8 at he
  split at he
  · rename_i X
    split at he
    · rename_i w hw
      obtain ⟨h1, he⟩ := qk he
      simp only [Option.some.injEq, Prod.mk.injEq] at he
      obtain ⟨rfl, rfl⟩ := he
      obtain ⟨bs, H, X', hX, e1, e2, e3, e4, e5, e6, e7, e8⟩ := qno hw
      refine ⟨bs, [X'], H, _, _, ql1 H X' w hX h1, by simp only [AV.zi, e1], (by simp only [List.all_cons, e2, List.all_nil, Bool.true_and, Bool.and_true]), e3, e4, e5, ⟨e6, trivial⟩, ?_, ?_⟩
      · simp [AV.ren, Ren.ext]
      · rw [e8]; simp only [List.map_cons, List.map_nil, wc, qc _ _ (qq _)]
    · cases he
  · cases he
def kd : AC := .seq (.seq (.region [oM 11 5,oM 12 0,o0 13 (.len .slc (.t 12)),oP 14 .lss 11 13]) (.cond 14 .skip (.exit 0))) (.seq (.block 1 (.seq (.draw false [oM 17 0,oM 18 5,oX 19 1 17 18,oL 20 19,oM 21 1,oM 22 5,oX 23 1 21 22,oL 24 23,oP 25 .neq 20 24]) (.cond 25 (.seq (.region [oB 4 false]) .ret) .skip))) (.region [oM 15 5,oK 16 .add 15 1,oM 5 16]))
def Yr : AC := .seq (.region [oB 4 true]) .ret
def Wm : AC := .seq (.region [oB 4 false]) (.seq (.seq (.region [oM 6 0,o0 7 (.len .slc (.t 6)),oM 8 1,o0 9 (.len .slc (.t 8)),oP 10 .neq 7 9]) (.cond 10 (.seq (.region [oB 4 false]) .ret) .skip)) (.seq (.seq (.region [oI 5 0]) (.block 0 (.loop kd))) Yr))
theorem qg6 : zn Try.prog 22 = some ⟨26, Wm, [.slot 4]⟩ := by kernel_rfl
theorem qmm (a b : List Int) (hl : a.length ≤ 2000000 ∧ b.length ≤ 2000000) :
    Am.Fn Try.prog 22 [.slc 0 0 a.length false 0, .slc 1 0 b.length false 0] [.ro (xk a), .ro (xk b)] (fun v H' => v = .bool (decide (a = b)) ∧ H' = [.ro (xk a), .ro (xk b)]) := by
  refine Am.Fn.jj (R := fun v => v = _) G2 mixed qg6 (by simp) (uy (qq _) (qq _)) ?_
  have hla := xb a
  have hlb := xb b
  by_cases hlen : a.length = b.length
  · have hq : ((a.length : Int) != (b.length : Int)) = false := by rw [hlen]; simp
    simp (maxSteps := 3000000) only [qg, zH, Wm, hq, iE, iN, iB, iC, iL, iD, iA, iS, iM, qa, zZ, ↓qu, ↓reduceIte, reduceCtorEq, nA, nM, nS, nE, nL, nD]; try simp only [qa, zY]
    refine WA.j9 G2 (fun s => ∃ k : Nat, k ≤ a.length ∧ (∀ i, i < k → a[i]? = b[i]?) ∧ s = ⟨[(0, .slc 0 0 a.length false 0), (1, .slc 1 0 b.length false 0), (5, .int .i64 k)], [.ro (xk a), .ro (xk b)]⟩)
      (fun s => match get s.env 5 with | .int _ x => a.length - x.toNat | _ => 0) ⟨_, qx.q7 [0, 1, 5], 0, by omega, fun i h => absurd h (by omega), rfl⟩ ?_
    rintro s ⟨k, hk, hc, rfl⟩
    by_cases hlt : k < a.length
    · have hltb : k < b.length := by omega
      have hli : (k : Int) < (a.length : Int) := by omega
      have hli' : (k : Int) < (b.length : Int) := by omega
      have hk0 : (0 : Int) ≤ k := by omega
      have hw : qp .i64 ((k : Int) + 1) = ((k + 1 : Nat) : Int) := by rw [wrap64 (by omega) (by omega)]; rfl
      have hga : a.getD k 0 = a[k] := by simp [hlt]
      have hgb : b.getD k 0 = b[k] := by simp [hltb]
      by_cases he : a[k] = b[k]
      · have hd : (a[k] != b[k]) = false := by simp [he]
        simp (maxSteps := 3000000) only [qg, zH, kd, hli, hli', hk0, hw, hla, hlb, hga, hgb, hlt, hltb, hd, and_self, iE, iN, iB, iC, iL, iD, iA, iS, iM, qa, zZ, ↓qu, ↓reduceIte, reduceCtorEq, nA, nM, nS, nE, nL, nD]; try simp only [qa, zY]
        refine ⟨_, qx.q7 [0, 1, 5], ⟨k + 1, by omega, fun i hi => ?_, rfl⟩, ?_⟩
        · by_cases e : i = k
          · subst e; rw [List.getElem?_eq_getElem hlt, List.getElem?_eq_getElem hltb, he]
          · exact hc i (by omega)
        · simp only [zL, ↓reduceIte, reduceCtorEq, nE, nA]; omega
      · have hd : (a[k] != b[k]) = true := by simp [he]
        simp (maxSteps := 3000000) only [qg, zH, kd, hli, hli', hk0, hw, hla, hlb, hga, hgb, hlt, hltb, hd, and_self, iE, iN, iB, iC, iL, iD, iA, iS, iM, qa, zZ, ↓qu, ↓reduceIte, reduceCtorEq, nA, nM, nS, nE, nL, nD]; try simp only [qa, zY]
        exact ⟨⟨_, rfl⟩, (decide_eq_false fun h => by subst h; exact he rfl).symm⟩
    · have hli : ¬ (k : Int) < (a.length : Int) := by omega
      obtain rfl : k = a.length := by omega
      simp (maxSteps := 3000000) only [qg, zH, kd, Yr, hli, Int.lt_irrefl, iE, iN, iB, iC, iL, iD, iA, iS, iM, qa, zZ, ↓qu, ↓reduceIte, reduceCtorEq, nA, nM, nS, nE, nL, nD]; try simp only [qa, zY]
      refine ⟨⟨_, rfl⟩, (decide_eq_true (List.ext_getElem? fun i => ?_)).symm⟩
      by_cases e : i < a.length
      · exact hc i e
      · rw [List.getElem?_eq_none (by omega), List.getElem?_eq_none (by omega)]
  · have hq : ((a.length : Int) != (b.length : Int)) = true := by simp; omega
    simp (maxSteps := 3000000) only [qg, zH, Wm, hq, iE, iN, iB, iC, iL, iD, iA, iS, iM, qa, zZ, ↓qu, ↓reduceIte, reduceCtorEq, nA, nM, nS, nE, nL, nD]; try simp only [qa, zY]
    exact ⟨⟨_, rfl⟩, (decide_eq_false fun h => by subst h; exact hlen rfl).symm⟩
def qdi : BE := fun hp xs => match xs with
  | [.slc b 0 k false 0, .slc b' 0 k' false 0] => match rd hp b, rd hp b' with
    | some L, some L' => match G1 L, G1 L' with
      | some w, some w' => chk ((k = w.length ∧ k' = w'.length) ∧ k ≤ 2000000 ∧ k' ≤ 2000000) (some (.bool (decide (w = w')), hp))
      | _, _ => none
    | _, _ => none
  | _ => none
theorem qy5 : Am.Callee Try.prog 22 qdi := Callee.ro2 fun hp xs v hp' he => by
  unfold qdi at he
  split at he
  · rename_i b k b' k'
    split at he
    · rename_i L L' hL hL'
      split at he
      · rename_i w w' h1 h1'
        have h9 := qk he
        clear he
        obtain ⟨⟨⟨k1, k2⟩, h0⟩, h8⟩ := h9
        simp only [Option.some.injEq, Prod.mk.injEq] at h8
        obtain ⟨rfl, rfl⟩ := h8
        subst k1; subst k2
        have e1 := yx h1
        have f1 := yx h1'
        subst e1; subst f1
        refine ⟨xk w, xk w', b, b', [.slc 0 0 w.length false 0, .slc 1 0 w'.length false 0], rfl, ⟨_, hL, Nat.le_refl _, List.take_length⟩, ⟨_, hL', Nat.le_refl _, List.take_length⟩, qq _, qq _, ?_, rfl, ?_, rfl, qmm w w' h0⟩
        · simp only [AV.zi, AV.ren, two, if_true, Nat.zero_add]
          rfl
        · exact ⟨by simp [AV.under], by simp [AV.under], trivial⟩
      · cases he
    · cases he
  · cases he
def Bk (p a : Int) : Bool := w8 p && decide (1 ≤ a ∧ a ≤ p - 1)
theorem qow {p a : Int} (h : Bk p a = true) : okI p a := by
  unfold Bk at h
  rw [Bool.and_eq_true, decide_eq_true_eq] at h
  exact h
theorem ga : qfk 71 = some (ql ya) := rfl
theorem va : qfk 72 = some (ql vn) := rfl
theorem vb : qfk 120 = some (ql jh) := rfl
theorem y7 : qfk 76 = some (ql vk) := rfl
theorem wj : qfk 66 = some (ql ya) := rfl
theorem jf : qfk 67 = some (ql vl) := rfl
theorem vr : qfk 70 = some (ql j6) := rfl
theorem jw : qfk 137 = some (ql jh) := rfl
def Ws : AC := .seq (.region [oB 4 false]) (.seq (.region [oM 5 0,oC 6 120 [.t 5],oM 7 6,oG 8 7 true (.mov (.t 1)),oG 9 7 true (.mov (.t 0)),oG 10 7 true (.bin .sub (.t 9) (.c (.int .i64 1))),⟨some 11,some (7,true),.call (.c (.fn 71 [] [])) [.t 8,(.c (.int .i64 1)),.t 10]⟩,o0 12 (.pick (.t 7) (.t 11) (.c (.bool false))),oM 4 12]) .ret)
theorem qg3 : zn Try.prog 56 = some ⟨13, Ws, [.slot 4]⟩ := by kernel_rfl
theorem qht (p a : Int) : Am.Fn Try.prog 56 [.int .i64 p, .int .i64 a] [] (fun v H' => v = .bool (Bk p a) ∧ H' = []) := by
  refine Am.Fn.jj (R := fun v => v = _) Ku mixed qg3 (by simp) (by simp) ?_
  cases hP : w8 p with
  | false =>
    simp (maxSteps := 3000000) only [qg, zH, Ws, ga, va, vb, y7, wj, jf, vr, jw, vn, ya, j6, jh, vk, vl, hP, iE, iN, iB, iC, iL, iD, iA, iS, iM, qa, zZ, ↓qu, ↓reduceIte, reduceCtorEq, nA, nM, nS, nE, nL, nD]; try simp only [qa, zY]
    simp [Bk, hP]
  | true =>
    have hb := y6 hP
    have hw : qp .i64 (p - 1) = p - 1 := wrap64 (by omega) (by omega)
    simp (maxSteps := 3000000) only [qg, zH, Ws, ga, va, vb, y7, wj, jf, vr, jw, vn, ya, j6, jh, vk, vl, hP, hw, iE, iN, iB, iC, iL, iD, iA, iS, iM, qa, zZ, ↓qu, ↓reduceIte, reduceCtorEq, nA, nM, nS, nE, nL, nD]; try simp only [qa, zY]
    simp [Bk, hP]
def Jc : AC := .seq (.region [oB 4 false]) (.seq (.region [oM 5 0,oC 6 137 [.t 5],oM 7 6,oG 8 7 true (.mov (.t 1)),oG 9 7 true (.mov (.t 0)),oG 10 7 true (.bin .sub (.t 9) (.c (.int .i64 1))),⟨some 11,some (7,true),.call (.c (.fn 66 [] [])) [.t 8,(.c (.int .i64 1)),.t 10]⟩,o0 12 (.pick (.t 7) (.t 11) (.c (.bool false))),oM 4 12]) .ret)
theorem qdw : zn Try.prog 117 = some ⟨13, Jc, [.slot 4]⟩ := by kernel_rfl
theorem qe2 (p a : Int) : Am.Fn Try.prog 117 [.int .i64 p, .int .i64 a] [] (fun v H' => v = .bool (Bk p a) ∧ H' = []) := by
  refine Am.Fn.jj (R := fun v => v = _) Ku mixed qdw (by simp) (by simp) ?_
  cases hP : w8 p with
  | false =>
    simp (maxSteps := 3000000) only [qg, zH, Jc, ga, va, vb, y7, wj, jf, vr, jw, vn, ya, j6, jh, vk, vl, hP, iE, iN, iB, iC, iL, iD, iA, iS, iM, qa, zZ, ↓qu, ↓reduceIte, reduceCtorEq, nA, nM, nS, nE, nL, nD]; try simp only [qa, zY]
    simp [Bk, hP]
  | true =>
    have hb := y6 hP
    have hw : qp .i64 (p - 1) = p - 1 := wrap64 (by omega) (by omega)
    simp (maxSteps := 3000000) only [qg, zH, Jc, ga, va, vb, y7, wj, jf, vr, jw, vn, ya, j6, jh, vk, vl, hP, hw, iE, iN, iB, iC, iL, iD, iA, iS, iM, qa, zZ, ↓qu, ↓reduceIte, reduceCtorEq, nA, nM, nS, nE, nL, nD]; try simp only [qa, zY]
    simp [Bk, hP]
def ub : List AV → Option AV
  | [.int .i64 p, .int .i64 a] => some (.bool (Bk p a))
  | _ => none
theorem qi0 {f : FuncId} (h : ∀ p a, Am.Fn Try.prog f [.int .i64 p, .int .i64 a] [] (fun v H' => v = .bool (Bk p a) ∧ H' = [])) : Am.Callee Try.prog f (ql ub) := Am.Callee.plain fun xs v he => by
  unfold ub at he
  split at he
  · rename_i p a
    cases he
    exact ⟨rfl, rfl, h p a⟩
  · cases he
noncomputable def Qo (p a : Int) : Int := (-a * a - j2 p a * j2 p a).emod p
theorem qey {p a : Int} (h : okI p a) : 0 ≤ Qo p a ∧ Qo p a ≤ p - 1 := by
  have hb := y6 h.1
  exact ⟨Int.emod_nonneg _ (by omega), Int.le_sub_one_of_lt (Int.emod_lt_of_pos _ (by omega))⟩
theorem qnz {p a : Int} (hp : p ≤ 97) (h : 1 ≤ a ∧ a ≤ p - 1) : 0 ≤ a * a ∧ a * a ≤ 9216 := by
  have h1 : a * a ≤ 96 * 96 := Int.mul_le_mul (by omega) (by omega) (by omega) (by omega)
  exact ⟨Int.mul_nonneg (by omega) (by omega), by omega⟩
def Bw : AC := .seq (.region [oI 4 0]) (.seq (.region [oM 6 1,oM 7 0,oC 8 72 [.t 6,.t 7],oM 5 8]) (.seq (.region [oM 9 1,o0 10 (.un .neg (.t 9)),oM 11 1,oP 12 .mul 10 11,oM 13 5,oM 14 5,oP 15 .mul 13 14,oP 16 .sub 12 15,oM 17 0,oC 18 76 [.t 16,.t 17],oM 4 18]) .ret))
theorem qfg : zn Try.prog 123 = some ⟨19, Bw, [.slot 4]⟩ := by kernel_rfl
theorem qfm (p a : Int) (h : okI p a) : Am.Fn Try.prog 123 [.int .i64 p, .int .i64 a] [] (fun v H' => v = .int .i64 (Qo p a) ∧ H' = []) := by
  refine Am.Fn.jj (R := fun v => v = _) Ku mixed qfg (by simp) (by simp) ?_
  have hb := y6 h.1
  have hv := (V7 h.1 h.2).1
  have h2 : 1 ≤ a ∧ a ≤ p - 1 := h.2
  have q1 := qnz hb.2 h2
  have q2 := qnz hb.2 hv
  have hn : (0 : Int) - a = -a := by omega
  have w0 : qp .i64 (-a) = -a := wrap64 (by omega) (by omega)
  have e1 : -a * a = -(a * a) := Int.neg_mul ..
  have w1 : qp .i64 (-a * a) = -a * a := wrap64 (by omega) (by omega)
  have w2 : qp .i64 (j2 p a * j2 p a) = j2 p a * j2 p a := wrap64 (by omega) (by omega)
  have w3 : qp .i64 (-a * a - j2 p a * j2 p a) = -a * a - j2 p a * j2 p a := wrap64 (by omega) (by omega)
  have hp0 : 0 < p ∧ p ≤ 1000000 := by omega
  have e : (-a * a - j2 p a * j2 p a).emod p = Qo p a := rfl
  simp (maxSteps := 3000000) only [qg, zH, Bw, ga, va, vb, y7, wj, jf, vr, jw, vn, ya, j6, jh, vk, vl, h, hn, w0, w1, w2, w3, hp0, e, iE, iN, iB, iC, iL, iD, iA, iS, iM, qa, zZ, ↓qu, ↓reduceIte, reduceCtorEq, nA, nM, nS, nE, nL, nD]; try simp only [qa, zY]
def qb9 : AC := .seq (.region [oI 4 0]) (.seq (.region [oM 6 0,oM 7 1,oC 8 67 [.t 6,.t 7],oM 5 8]) (.seq (.region [oM 9 0,oM 10 1,o0 11 (.un .neg (.t 10)),oM 12 1,oP 13 .mul 11 12,oM 14 5,oM 15 5,oP 16 .mul 14 15,oP 17 .sub 13 16,oC 18 70 [.t 9,.t 17],oM 4 18]) .ret))
theorem qla : zn Try.prog 118 = some ⟨19, qb9, [.slot 4]⟩ := by kernel_rfl
theorem qi8 (p a : Int) (h : okI p a) : Am.Fn Try.prog 118 [.int .i64 p, .int .i64 a] [] (fun v H' => v = .int .i64 (Qo p a) ∧ H' = []) := by
  refine Am.Fn.jj (R := fun v => v = _) Ku mixed qla (by simp) (by simp) ?_
  have hb := y6 h.1
  have hv := (V7 h.1 h.2).1
  have h2 : 1 ≤ a ∧ a ≤ p - 1 := h.2
  have q1 := qnz hb.2 h2
  have q2 := qnz hb.2 hv
  have hn : (0 : Int) - a = -a := by omega
  have w0 : qp .i64 (-a) = -a := wrap64 (by omega) (by omega)
  have e1 : -a * a = -(a * a) := Int.neg_mul ..
  have w1 : qp .i64 (-a * a) = -a * a := wrap64 (by omega) (by omega)
  have w2 : qp .i64 (j2 p a * j2 p a) = j2 p a * j2 p a := wrap64 (by omega) (by omega)
  have w3 : qp .i64 (-a * a - j2 p a * j2 p a) = -a * a - j2 p a * j2 p a := wrap64 (by omega) (by omega)
  have hp0 : 0 < p ∧ p ≤ 1000000 := by omega
  have e : (-a * a - j2 p a * j2 p a).emod p = Qo p a := rfl
  simp (maxSteps := 3000000) only [qg, zH, qb9, ga, va, vb, y7, wj, jf, vr, jw, vn, ya, j6, jh, vk, vl, h, hn, w0, w1, w2, w3, hp0, e, iE, iN, iB, iC, iL, iD, iA, iS, iM, qa, zZ, ↓qu, ↓reduceIte, reduceCtorEq, nA, nM, nS, nE, nL, nD]; try simp only [qa, zY]
noncomputable def bc : List AV → Option AV
  | [.int .i64 p, .int .i64 a] => chk (okI p a) (some (.int .i64 (Qo p a)))
  | _ => none
theorem qez {f : FuncId} (h : ∀ p a, okI p a → Am.Fn Try.prog f [.int .i64 p, .int .i64 a] [] (fun v H' => v = .int .i64 (Qo p a) ∧ H' = [])) : Am.Callee Try.prog f (ql bc) := Am.Callee.plain fun xs v he => by
  unfold bc at he
  split at he
  · rename_i p a
    obtain ⟨h1, he⟩ := qk he
    cases he
    exact ⟨rfl, rfl, h p a h1⟩
  · cases he
noncomputable def qfd : zg := ((((((qfk.put 20 (qc8)).put 22 (qdi)).put 56 (ql ub)).put 117 (ql ub)).put 123 (ql bc)).put 118 (ql bc))
theorem qnt : qo Try.prog qfd := ((((((Ku.put (qyp)).put (qy5)).put (qi0 qht)).put (qi0 qe2)).put (qez qfm)).put (qez qi8))
theorem Kw : qfd 71 = some (ql ya) := rfl
theorem J7 : qfd 72 = some (ql vn) := rfl
theorem Vc : qfd 120 = some (ql jh) := rfl
theorem Uf : qfd 76 = some (ql vk) := rfl
theorem Yb : qfd 66 = some (ql ya) := rfl
theorem Zy : qfd 67 = some (ql vl) := rfl
theorem Vr : qfd 70 = some (ql j6) := rfl
theorem X0 : qfd 137 = some (ql jh) := rfl
def wx (n i : Int) : Bool := decide (i = 0) || !decide (qp .i64 (1 - n) ≤ i ∧ i ≤ qp .i64 (n - 1))
def Vi : AC := .seq (.region [oB 3 false]) (.seq (.region [oM 4 0,oK 5 .eql 4 0,oM 6 5,oG 7 6 false (.mov (.t 0)),oG 8 6 false (.Jl (.t 1)),oG 9 6 false (.bin .sub (.c (.int .i64 1)) (.t 8)),oG 10 6 false (.Jl (.t 1)),oG 11 6 false (.bin .sub (.t 10) (.c (.int .i64 1))),⟨some 12,some (6,false),.call (.c (.fn 71 [] [])) [.t 7,.t 9,.t 11]⟩,oG 13 6 false (.un .not (.t 12)),o0 14 (.pick (.t 6) (.c (.bool true)) (.t 13)),oM 3 14]) .ret)
theorem qfb : zn Try.prog 122 = some ⟨15, Vi, [.slot 3]⟩ := by kernel_rfl
theorem qe7 (n i : Int) : Am.Fn Try.prog 122 [.int .i64 i, .ptr 0 0] [.ro [.int .i64 n]] (fun v H' => v = .bool (wx n i) ∧ H' = [.ro [.int .i64 n]]) := by
  refine Am.Fn.jj (R := fun v => v = _) qnt mixed qfb (by simp [AV.qn, AV.under]) (uv rfl) ?_
  by_cases h0 : i = 0
  · have hb : wx n i = true := by simp [wx, h0]
    have hq : (i == 0) = true := by simpa using h0
    simp (maxSteps := 3000000) only [qg, zH, Vi, Kw, J7, Vc, Uf, Yb, Zy, Vr, X0, vn, ya, j6, jh, vk, vl, hq, iE, iN, iB, iC, iL, iD, iA, iS, iM, qa, zZ, ↓qu, ↓reduceIte, reduceCtorEq, nA, nM, nS, nE, nL, nD]; try simp only [qa, zY]
    exact ⟨⟨_, rfl⟩, by rw [hb]⟩
  · have hb : wx n i = !decide (qp .i64 (1 - n) ≤ i ∧ i ≤ qp .i64 (n - 1)) := by simp [wx, h0]
    have hq : (i == 0) = false := by simpa using h0
    simp (maxSteps := 3000000) only [qg, zH, Vi, Kw, J7, Vc, Uf, Yb, Zy, Vr, X0, vn, ya, j6, jh, vk, vl, hq, iE, iN, iB, iC, iL, iD, iA, iS, iM, qa, zZ, ↓qu, ↓reduceIte, reduceCtorEq, nA, nM, nS, nE, nL, nD]; try simp only [qa, zY]
    exact ⟨⟨_, rfl⟩, hb.symm⟩
def Jq : BE := fun hp xs => match xs with
  | [.int .i64 i, .ptr b 0] => match rd hp b with
    | some (.int .i64 n :: _) => some (.bool (wx n i), hp)
    | _ => none
  | _ => none
theorem qzs : Am.Callee Try.prog 122 Jq := Callee.fp fun hp xs v hp' he => by
  unfold Jq at he
  split at he
  · rename_i i b
    split at he
    · rename_i n L hL
      simp only [Option.some.injEq, Prod.mk.injEq] at he
      obtain ⟨rfl, rfl⟩ := he
      refine ⟨[(b, 0)], [.int .i64 i, .ptr 0 0], _, _, _, qe7 n i, by simp [AV.ren, AV.zi, ofL], rfl, ⟨⟨_, hL, by simp, by simp [AV.zi, AV.ren]⟩, trivial⟩, rfl, ⟨⟨trivial, trivial⟩, trivial⟩, ⟨trivial, by simp [AV.under], trivial⟩, by simp [AV.ren], ?_⟩
      simp [after, upd, AO.wr]
    · cases he
  · cases he
noncomputable def qdv : zg := (qfd.put 122 (Jq))
theorem qhv : qo Try.prog qdv := (qnt.put (qzs))
theorem G7 : qdv 71 = some (ql ya) := rfl
theorem J6 : qdv 72 = some (ql vn) := rfl
theorem Jv : qdv 120 = some (ql jh) := rfl
theorem Us : qdv 76 = some (ql vk) := rfl
theorem W7 : qdv 66 = some (ql ya) := rfl
theorem Zu : qdv 67 = some (ql vl) := rfl
theorem Vp : qdv 70 = some (ql j6) := rfl
theorem Xy : qdv 137 = some (ql jh) := rfl
theorem Xg : qdv 122 = some (Jq) := rfl
def xz : AC := .seq (.region [oP 9 .lss 8 7]) (.seq (.cond 9 .skip (.exit 0)) (.seq (.block 1 (.seq (.region [oM 10 8,oM 5 10]) (.seq (.region [oM 11 1,oM 12 0,oM 13 5,oX 14 1 12 13,oL 15 14,⟨some 16,none,.call (.t 11) [.t 15]⟩]) (.cond 16 (.seq (.region [oM 17 5,oM 4 17]) .ret) .skip)))) (.region [oK 18 .add 8 1,oM 8 18])))
def y9 : AC := .seq (.region [oI 4 (-1)]) .ret
def bg : AC := .seq (.region [oI 4 0]) (.seq (.seq (.region [oM 6 0,o0 7 (.len .slc (.t 6)),oI 8 0]) (.block 0 (.loop xz))) y9)
theorem Jb : zn Try.prog 161 = some ⟨19, bg, [.slot 4]⟩ := by kernel_rfl
theorem qs1 (n : Int) (w : List Int) (hl : w.length ≤ 2000000) :
    Am.Fn Try.prog 161 [.slc 0 0 w.length false 0, .fn 122 [] [.ptr 1 0]] [.ro (xk w), .ro [.int .i64 n]] (fun v H' => v = .int .i64 (if w.any (wx n) then (w.findIdx (wx n) : Nat) else -1) ∧ H' = [.ro (xk w), .ro [.int .i64 n]]) := by
  refine Am.Fn.jj (R := fun v => v = _) qhv mixed Jb (by simp [AV.qn, AV.under]) (uy (qq _) rfl) ?_
  have hla := xb w
  simp (maxSteps := 3000000) only [qg, zH, bg, iE, iN, iB, iC, iL, iD, iA, iS, iM, qa, zZ, ↓qu, ↓reduceIte, reduceCtorEq, nA, nM, nS, nE, nL, nD]; try simp only [qa, zY]
  refine WA.j9 qhv (fun s => ∃ k : Nat, k ≤ w.length ∧ (∀ i, (h : i < k) → ∀ h2, wx n (w[i]'h2) = false) ∧ s = ⟨[(0, .slc 0 0 w.length false 0), (1, .fn 122 [] [.ptr 1 0]), (7, .int .i64 w.length), (8, .int .i64 k)], [.ro (xk w), .ro [.int .i64 n]]⟩)
    (fun s => match get s.env 8 with | .int _ x => w.length - x.toNat | _ => 0) ⟨_, qx.q7 [0, 1, 7, 8], 0, by omega, by intros; omega, rfl⟩ ?_
  rintro s ⟨k, hk, hc, rfl⟩
  have hw : qp .i64 ((k : Int) + 1) = ((k + 1 : Nat) : Int) := by rw [wrap64 (by omega) (by omega)]; rfl
  by_cases hlt : k < w.length
  · have hli : (k : Int) < (w.length : Int) := by omega
    have hk0 : (0 : Int) ≤ k := by omega
    have hg : w.getD k 0 = w[k] := by simp [hlt]
    cases hb : wx n w[k] with
    | true =>
      simp (maxSteps := 3000000) only [qg, zH, xz, G7, J6, Jv, Us, W7, Zu, Vp, Xy, Xg, Jq, vn, ya, j6, jh, vk, vl, hli, hk0, hw, hla, hlt, hg, hb, and_self, iE, iN, iB, iC, iL, iD, iA, iS, iM, qa, zZ, ↓qu, ↓reduceIte, reduceCtorEq, nA, nM, nS, nE, nL, nD]; try simp only [qa, zY]
      have h1 : w.any (wx n) = true := List.any_eq_true.2 ⟨w[k], List.getElem_mem hlt, hb⟩
      have h3 : w.findIdx (wx n) = k := (List.findIdx_eq hlt).2 ⟨hb, fun j hj => hc j hj (by omega)⟩
      exact ⟨⟨_, rfl⟩, by rw [h1, h3, if_pos rfl]⟩
    | false =>
      simp (maxSteps := 3000000) only [qg, zH, xz, G7, J6, Jv, Us, W7, Zu, Vp, Xy, Xg, Jq, vn, ya, j6, jh, vk, vl, hli, hk0, hw, hla, hlt, hg, hb, and_self, iE, iN, iB, iC, iL, iD, iA, iS, iM, qa, zZ, ↓qu, ↓reduceIte, reduceCtorEq, nA, nM, nS, nE, nL, nD]; try simp only [qa, zY]
      refine ⟨_, qx.q7 [0, 1, 7, 8], ⟨k + 1, by omega, fun i hi h2 => ?_, rfl⟩, ?_⟩
      · by_cases e : i = k
        · subst e; exact hb
        · exact hc i (by omega) h2
      · simp only [zL, ↓reduceIte, reduceCtorEq, nE, nA]; omega
  · have hli : ¬ (k : Int) < (w.length : Int) := by omega
    obtain rfl : k = w.length := by omega
    simp (maxSteps := 3000000) only [qg, zH, xz, y9, hli, Int.lt_irrefl, iE, iN, iB, iC, iL, iD, iA, iS, iM, qa, zZ, ↓qu, ↓reduceIte, reduceCtorEq, nA, nM, nS, nE, nL, nD]; try simp only [qa, zY]
    have h1 : w.any (wx n) = false := List.any_eq_false.2 fun d hd => by
      obtain ⟨i, hi, rfl⟩ := List.getElem_of_mem hd
      rw [hc i (by omega) hi]; simp
    exact ⟨⟨_, rfl⟩, by rw [h1]; rfl⟩
def Wa : BE := fun hp xs => match xs with
  | [.slc b 0 k false 0, .fn 122 [] [.ptr b' 0]] => match rd hp b, rd hp b' with
    | some L, some (.int .i64 n :: _) => match G1 L with
      | some w => chk (k = w.length ∧ k ≤ 2000000) (some (.int .i64 (if w.any (wx n) then (w.findIdx (wx n) : Nat) else -1), hp))
      | none => none
    | _, _ => none
  | _ => none
theorem quf : Am.Callee Try.prog 161 Wa := Callee.fp fun hp xs v hp' he => by
  unfold Wa at he
  split at he
  · rename_i b k b'
    split at he
    · rename_i L n L' hL hL'
      split at he
      · rename_i w hw
        have h9 := qk he
        clear he
        obtain ⟨⟨k1, h0⟩, h8⟩ := h9
        simp only [Option.some.injEq, Prod.mk.injEq] at h8
        obtain ⟨rfl, rfl⟩ := h8
        subst k1
        have e1 := yx hw
        subst e1
        refine ⟨[(b, 0), (b', 0)], [.slc 0 0 w.length false 0, .fn 122 [] [.ptr 1 0]], _, _, _, qs1 n w h0, by simp [AV.ren, AV.zi, ofL], rfl, ⟨⟨_, hL, by simp, by simp [qc _ _ (qq _)]⟩, ⟨_, hL', by simp, by simp [AV.zi, AV.ren]⟩, trivial⟩, rfl, ⟨qj _ _ (qq _), ⟨trivial, trivial⟩, trivial⟩, ?_, by simp [AV.ren], ?_⟩
        · simp [AV.under, AV.qn]
        · simp [after, upd, AO.wr]
      · cases he
    · cases he
  · cases he
noncomputable def qcm : zg := (qdv.put 161 (Wa))
theorem qn8 : qo Try.prog qcm := (qhv.put (quf))
theorem G5 : qcm 71 = some (ql ya) := rfl
theorem J3 : qcm 72 = some (ql vn) := rfl
theorem Ju : qcm 120 = some (ql jh) := rfl
theorem Y6 : qcm 76 = some (ql vk) := rfl
theorem Yc : qcm 66 = some (ql ya) := rfl
theorem Zt : qcm 67 = some (ql vl) := rfl
theorem V9 : qcm 70 = some (ql j6) := rfl
theorem X5 : qcm 137 = some (ql jh) := rfl
theorem Xh : qcm 122 = some (Jq) := rfl
theorem wy : qcm 161 = some (Wa) := rfl
def j5 : AC := .seq (.region [oB 4 false]) (.seq (.region [oM 5 0,oM 6 1,oC 7 161 [.t 5,.t 6],oK 8 .geq 7 0,oM 4 8]) .ret)
theorem Zw : zn Try.prog 121 = some ⟨9, j5, [.slot 4]⟩ := by kernel_rfl
theorem qim (n : Int) (w : List Int) (hl : w.length ≤ 2000000) :
    Am.Fn Try.prog 121 [.slc 0 0 w.length false 0, .fn 122 [] [.ptr 1 0]] [.ro (xk w), .ro [.int .i64 n]] (fun v H' => v = .bool (w.any (wx n)) ∧ H' = [.ro (xk w), .ro [.int .i64 n]]) := by
  refine Am.Fn.jj (R := fun v => v = _) qn8 mixed Zw (by simp [AV.qn, AV.under]) (uy (qq _) rfl) ?_
  have hw := yq w
  cases hb : w.any (wx n) with
  | true =>
    have hd : decide ((0 : Int) ≤ ((w.findIdx (wx n) : Nat) : Int)) = true := by simp
    simp (maxSteps := 3000000) only [qg, zH, j5, G5, J3, Ju, Y6, Yc, Zt, V9, X5, Xh, wy, Jq, vn, ya, Wa, j6, jh, vk, vl, hw, hl, hb, hd, and_self, iE, iN, iB, iC, iL, iD, iA, iS, iM, qa, zZ, ↓qu, ↓reduceIte, reduceCtorEq, nA, nM, nS, nE, nL, nD]; try simp only [qa, zY]
    trace_state
    exact ⟨_, rfl⟩
  | false =>
    simp (maxSteps := 3000000) only [qg, zH, j5, G5, J3, Ju, Y6, Yc, Zt, V9, X5, Xh, wy, Jq, vn, ya, Wa, j6, jh, vk, vl, hw, hl, hb, and_self, iE, iN, iB, iC, iL, iD, iA, iS, iM, qa, zZ, ↓qu, ↓reduceIte, reduceCtorEq, nA, nM, nS, nE, nL, nD]; try simp only [qa, zY]
    trace_state
    exact ⟨_, rfl⟩
def yk : BE := fun hp xs => match xs with
  | [.slc b 0 k false 0, .fn 122 [] [.ptr b' 0]] => match rd hp b, rd hp b' with
    | some L, some (.int .i64 n :: _) => match G1 L with
      | some w => chk (k = w.length ∧ k ≤ 2000000) (some (.bool (w.any (wx n)), hp))
      | none => none
    | _, _ => none
  | _ => none
theorem qv0 : Am.Callee Try.prog 121 yk := Callee.fp fun hp xs v hp' he => by
  unfold yk at he
  split at he
  · rename_i b k b'
    split at he
    · rename_i L n L' hL hL'
      split at he
      · rename_i w hw
        have h9 := qk he
        clear he
        obtain ⟨⟨k1, h0⟩, h8⟩ := h9
        simp only [Option.some.injEq, Prod.mk.injEq] at h8
        obtain ⟨rfl, rfl⟩ := h8
        subst k1
        have e1 := yx hw
        subst e1
        refine ⟨[(b, 0), (b', 0)], [.slc 0 0 w.length false 0, .fn 122 [] [.ptr 1 0]], _, _, _, qim n w h0, by simp [AV.ren, AV.zi, ofL], rfl, ⟨⟨_, hL, by simp, by simp [qc _ _ (qq _)]⟩, ⟨_, hL', by simp, by simp [AV.zi, AV.ren]⟩, trivial⟩, rfl, ⟨qj _ _ (qq _), ⟨trivial, trivial⟩, trivial⟩, ?_, by simp [AV.ren], ?_⟩
        · simp [AV.under, AV.qn]
        · simp [after, upd, AO.wr]
      · cases he
    · cases he
  · cases he
noncomputable def qm6 : zg := (qcm.put 121 (yk))
theorem qcn : qo Try.prog qm6 := (qn8.put (qv0))
def ua (n : Int) (w : List Int) : Bool := decide (2 ≤ n ∧ n ≤ 6) && (decide (w.length ≤ 24) && !w.any (wx n))
theorem qw : qm6 121 = some (yk) := rfl
theorem zw : qm6 122 = some (Jq) := rfl
theorem vm : qm6 71 = some (ql ya) := rfl
theorem x9 : qm6 66 = some (ql ya) := rfl
theorem zq : qm6 117 = some (ql ub) := rfl
def J5 : AC := .seq (.region [o0 2 (.box (.t 0)),oB 4 false]) (.seq (.region [oM 6 1,o0 7 (.qdb 122 [] [.t 2]),oC 8 121 [.t 6,.t 7],oM 5 8]) (.seq (.region [oL 9 2,oC 10 71 [.t 9,(.c (.int .i64 2)),(.c (.int .i64 6))],oM 11 10,oG 12 11 true (.mov (.t 1)),oG 13 11 true (.len .slc (.t 12)),oG 14 11 true (.bin .leq (.t 13) (.c (.int .i64 24))),o0 15 (.pick (.t 11) (.t 14) (.c (.bool false))),oM 16 15,oG 17 16 true (.mov (.t 5)),oG 18 16 true (.un .not (.t 17)),o0 19 (.pick (.t 16) (.t 18) (.c (.bool false))),oM 4 19]) .ret))
theorem qi7 : zn Try.prog 57 = some ⟨20, J5, [.slot 4]⟩ := by kernel_rfl
theorem qj6 (n : Int) (w : List Int) (hl : w.length ≤ 2000000) :
    Am.Fn Try.prog 57 [.int .i64 n, .slc 0 0 w.length false 0] [.ro (xk w)] (fun v H' => v = .bool (ua n w) ∧ H' = [.ro (xk w)]) := by
  refine Am.Fn.jj (R := fun v => v = _) qcn mixed qi7 (by simp [AV.qn, AV.under]) (uv (qq _)) ?_
  have hw := yq w
  have hla := xb w
  by_cases hn : 2 ≤ n ∧ n ≤ 6
  · by_cases h24 : w.length ≤ 24
    · have h24i : (w.length : Int) ≤ 24 := by omega
      have e : ua n w = !w.any (wx n) := by simp [ua, hn, h24]
      simp (maxSteps := 3000000) only [qg, zH, J5, qw, zw, vm, x9, zq, Jq, yk, ya, ub, hw, hla, hl, hn, h24i, and_self, iE, iN, iB, iC, iL, iD, iA, iS, iM, qa, zZ, ↓qu, ↓reduceIte, reduceCtorEq, nA, nM, nS, nE, nL, nD]; try simp only [qa, zY]
      rw [e]; exact ⟨⟨rfl, rfl⟩, ⟨_, rfl⟩, rfl⟩
    · have h24i : ¬ (w.length : Int) ≤ 24 := by omega
      have e : ua n w = false := by simp [ua, h24]
      simp (maxSteps := 3000000) only [qg, zH, J5, qw, zw, vm, x9, zq, Jq, yk, ya, ub, hw, hla, hl, hn, h24i, and_self, iE, iN, iB, iC, iL, iD, iA, iS, iM, qa, zZ, ↓qu, ↓reduceIte, reduceCtorEq, nA, nM, nS, nE, nL, nD]; try simp only [qa, zY]
      rw [e]; exact ⟨⟨rfl, rfl⟩, ⟨_, rfl⟩, rfl⟩
  · have e : ua n w = false := by simp only [ua, decide_eq_false hn, Bool.false_and]
    simp (maxSteps := 3000000) only [qg, zH, J5, qw, zw, vm, x9, zq, Jq, yk, ya, ub, hw, hla, hl, hn, and_self, iE, iN, iB, iC, iL, iD, iA, iS, iM, qa, zZ, ↓qu, ↓reduceIte, reduceCtorEq, nA, nM, nS, nE, nL, nD]; try simp only [qa, zY]
    rw [e]; exact ⟨⟨rfl, rfl⟩, ⟨_, rfl⟩, rfl⟩
def bq : AC := .seq (.seq (.region [oM 14 5,oM 15 1,o0 16 (.len .slc (.t 15)),oP 17 .lss 14 16]) (.cond 17 .skip (.exit 0))) (.seq (.block 1 (.seq (.region [oM 20 1,oM 21 5,oX 22 1 20 21,oL 23 22,oK 24 .eql 23 0,oM 25 24,oG 26 25 false (.mov (.t 1)),oG 27 25 false (.mov (.t 5)),oG 28 25 false (.X3 1 (.t 26) (.t 27)),oG 29 25 false (.Jl (.t 28)),oG 30 25 false (.mov (.t 0)),oG 31 25 false (.bin .sub (.c (.int .i64 1)) (.t 30)),oG 32 25 false (.mov (.t 0)),oG 33 25 false (.bin .sub (.t 32) (.c (.int .i64 1))),⟨some 34,some (25,false),.call (.c (.fn 66 [] [])) [.t 29,.t 31,.t 33]⟩,oG 35 25 false (.un .not (.t 34)),o0 36 (.pick (.t 25) (.c (.bool true)) (.t 35))]) (.cond 36 (.seq (.region [oB 4 false]) .ret) .skip))) (.region [oM 18 5,oK 19 .add 18 1,oM 5 19]))
def Ud : AC := .seq (.region [oB 4 true]) .ret
def J2 : AC := .seq (.region [oB 4 false]) (.seq (.seq (.region [oM 6 0,oC 7 66 [.t 6,(.c (.int .i64 2)),(.c (.int .i64 6))],o0 8 (.un .not (.t 7)),oM 9 8,oG 10 9 false (.mov (.t 1)),oG 11 9 false (.len .slc (.t 10)),oG 12 9 false (.bin .gtr (.t 11) (.c (.int .i64 24))),o0 13 (.pick (.t 9) (.c (.bool true)) (.t 12))]) (.cond 13 (.seq (.region [oB 4 false]) .ret) .skip)) (.seq (.seq (.region [oI 5 0]) (.block 0 (.loop bq))) Ud))
theorem qjk : zn Try.prog 53 = some ⟨37, J2, [.slot 4]⟩ := by kernel_rfl
theorem qjw (n : Int) (w : List Int) (hl : w.length ≤ 2000000) :
    Am.Fn Try.prog 53 [.int .i64 n, .slc 0 0 w.length false 0] [.ro (xk w)] (fun v H' => v = .bool (ua n w) ∧ H' = [.ro (xk w)]) := by
  refine Am.Fn.jj (R := fun v => v = _) qcn mixed qjk (by simp [AV.qn, AV.under]) (uv (qq _)) ?_
  have hla := xb w
  by_cases hn : 2 ≤ n ∧ n ≤ 6
  · by_cases h24 : w.length ≤ 24
    · have h24i : ¬ (24 : Int) < (w.length : Int) := by omega
      have e : ua n w = !w.any (wx n) := by simp [ua, hn, h24]
      simp (maxSteps := 3000000) only [qg, zH, J2, qw, zw, vm, x9, zq, Jq, yk, ya, ub, hla, hn, h24i, and_self, iE, iN, iB, iC, iL, iD, iA, iS, iM, qa, zZ, ↓qu, ↓reduceIte, reduceCtorEq, nA, nM, nS, nE, nL, nD]; try simp only [qa, zY]
      refine WA.j9 qcn (fun s => ∃ k : Nat, k ≤ w.length ∧ (∀ i, (h : i < k) → ∀ h2, wx n (w[i]'h2) = false) ∧ s = ⟨[(0, .int .i64 n), (1, .slc 0 0 w.length false 0), (5, .int .i64 k)], [.ro (xk w)]⟩)
        (fun s => match get s.env 5 with | .int _ x => w.length - x.toNat | _ => 0) ⟨_, qx.q7 [0, 1, 5], 0, by omega, by intros; omega, rfl⟩ ?_
      rintro s ⟨k, hk, hc, rfl⟩
      have hw : qp .i64 ((k : Int) + 1) = ((k + 1 : Nat) : Int) := by rw [wrap64 (by omega) (by omega)]; rfl
      by_cases hlt : k < w.length
      · have hli : (k : Int) < (w.length : Int) := by omega
        have hk0 : (0 : Int) ≤ k := by omega
        have hg : w.getD k 0 = w[k] := by simp [hlt]
        by_cases h0 : w[k] = 0
        · have hb : wx n w[k] = true := by simp [wx, h0]
          have hq : (w[k] == 0) = true := by simpa using h0
          have h1 : w.any (wx n) = true := List.any_eq_true.2 ⟨w[k], List.getElem_mem hlt, hb⟩
          simp (maxSteps := 3000000) only [qg, zH, bq, qw, zw, vm, x9, zq, Jq, yk, ya, ub, hli, hk0, hw, hla, hlt, hg, hq, and_self, iE, iN, iB, iC, iL, iD, iA, iS, iM, qa, zZ, ↓qu, ↓reduceIte, reduceCtorEq, nA, nM, nS, nE, nL, nD]; try simp only [qa, zY]
          exact ⟨⟨_, rfl⟩, by rw [e, h1]; rfl⟩
        · have hq : (w[k] == 0) = false := by simpa using h0
          by_cases hin : qp .i64 (1 - n) ≤ w[k] ∧ w[k] ≤ qp .i64 (n - 1)
          · have hb : wx n w[k] = false := by simp only [wx, decide_eq_false h0, decide_eq_true hin]; rfl
            simp (maxSteps := 3000000) only [qg, zH, bq, qw, zw, vm, x9, zq, Jq, yk, ya, ub, hli, hk0, hw, hla, hlt, hg, hq, hin, and_self, iE, iN, iB, iC, iL, iD, iA, iS, iM, qa, zZ, ↓qu, ↓reduceIte, reduceCtorEq, nA, nM, nS, nE, nL, nD]; try simp only [qa, zY]
            refine ⟨_, qx.q7 [0, 1, 5], ⟨k + 1, by omega, fun i hi h2 => ?_, rfl⟩, ?_⟩
            · by_cases e : i = k
              · subst e; exact hb
              · exact hc i (by omega) h2
            · simp only [zL, ↓reduceIte, reduceCtorEq, nE, nA]; omega
          · have hb : wx n w[k] = true := by simp only [wx, decide_eq_false h0, decide_eq_false hin]; rfl
            have h1 : w.any (wx n) = true := List.any_eq_true.2 ⟨w[k], List.getElem_mem hlt, hb⟩
            simp (maxSteps := 3000000) only [qg, zH, bq, qw, zw, vm, x9, zq, Jq, yk, ya, ub, hli, hk0, hw, hla, hlt, hg, hq, hin, and_self, iE, iN, iB, iC, iL, iD, iA, iS, iM, qa, zZ, ↓qu, ↓reduceIte, reduceCtorEq, nA, nM, nS, nE, nL, nD]; try simp only [qa, zY]
            exact ⟨⟨_, rfl⟩, by rw [e, h1]; rfl⟩
      · have hli : ¬ (k : Int) < (w.length : Int) := by omega
        obtain rfl : k = w.length := by omega
        have h1 : w.any (wx n) = false := List.any_eq_false.2 fun d hd => by
          obtain ⟨i, hi, rfl⟩ := List.getElem_of_mem hd
          rw [hc i (by omega) hi]; simp
        simp (maxSteps := 3000000) only [qg, zH, bq, Ud, hli, Int.lt_irrefl, iE, iN, iB, iC, iL, iD, iA, iS, iM, qa, zZ, ↓qu, ↓reduceIte, reduceCtorEq, nA, nM, nS, nE, nL, nD]; try simp only [qa, zY]
        exact ⟨⟨_, rfl⟩, by rw [e, h1]; rfl⟩
    · have h24i : (24 : Int) < (w.length : Int) := by omega
      have e : ua n w = false := by simp [ua, h24]
      simp (maxSteps := 3000000) only [qg, zH, J2, qw, zw, vm, x9, zq, Jq, yk, ya, ub, hla, hn, h24i, and_self, iE, iN, iB, iC, iL, iD, iA, iS, iM, qa, zZ, ↓qu, ↓reduceIte, reduceCtorEq, nA, nM, nS, nE, nL, nD]; try simp only [qa, zY]
      exact ⟨⟨_, rfl⟩, by rw [e]⟩
  · have e : ua n w = false := by simp only [ua, decide_eq_false hn, Bool.false_and]
    simp (maxSteps := 3000000) only [qg, zH, J2, qw, zw, vm, x9, zq, Jq, yk, ya, ub, hla, hn, and_self, iE, iN, iB, iC, iL, iD, iA, iS, iM, qa, zZ, ↓qu, ↓reduceIte, reduceCtorEq, nA, nM, nS, nE, nL, nD]; try simp only [qa, zY]
    exact ⟨⟨_, rfl⟩, by rw [e]⟩
def bz : BE := fun hp xs => match xs with
  | [.int .i64 n, .slc b 0 k false 0] => match rd hp b with
    | some L => match G1 L with
      | some w => chk (k = w.length ∧ k ≤ 2000000) (some (.bool (ua n w), hp))
      | none => none
    | none => none
  | _ => none
theorem qge {f : FuncId} (h : ∀ n w, w.length ≤ 2000000 → Am.Fn Try.prog f [.int .i64 n, .slc 0 0 w.length false 0] [.ro (xk w)] (fun v H' => v = .bool (ua n w) ∧ H' = [.ro (xk w)])) : Am.Callee Try.prog f bz := Callee.fp fun hp xs v hp' he => by
  unfold bz at he
  split at he
  · rename_i n b k
    split at he
    · rename_i L hL
      split at he
      · rename_i w hw
        have h9 := qk he
        clear he
        obtain ⟨⟨k1, h0⟩, h8⟩ := h9
        simp only [Option.some.injEq, Prod.mk.injEq] at h8
        obtain ⟨rfl, rfl⟩ := h8
        subst k1
        have e1 := yx hw
        subst e1
        refine ⟨[(b, 0)], [.int .i64 n, .slc 0 0 w.length false 0], _, _, _, h n w h0, by simp [AV.ren, AV.zi, ofL], rfl, ⟨⟨_, hL, by simp, by simp [qc _ _ (qq _)]⟩, trivial⟩, rfl, ⟨qj _ _ (qq _), trivial⟩, ?_, by simp [AV.ren], ?_⟩
        · simp [AV.under, AV.qn]
        · simp [after, upd, AO.wr]
      · cases he
    · cases he
  · cases he
noncomputable def qj3 : zg := ((qm6.put 57 (bz)).put 53 (bz))
theorem qnx : qo Try.prog qj3 := ((qcn.put (qge qj6)).put (qge qjw))
theorem vq : qj3 121 = some (yk) := rfl
theorem Xj : qj3 122 = some (Jq) := rfl
theorem Kh : qj3 71 = some (ql ya) := rfl
theorem W9 : qj3 66 = some (ql ya) := rfl
theorem Zv : qj3 117 = some (ql ub) := rfl
theorem Js : qj3 53 = some (bz) := rfl
def W0 : AC := .seq (.region [oB 8 false]) (.seq (.region [oM 9 0,oM 10 1,oC 11 117 [.t 9,.t 10],oM 12 11,oG 13 12 true (.mov (.t 2)),oG 14 12 true (.mov (.t 3)),⟨some 15,some (12,true),.call (.c (.fn 53 [] [])) [.t 13,.t 14]⟩,o0 16 (.pick (.t 12) (.t 15) (.c (.bool false))),oM 8 16]) .ret)
theorem qhj : zn Try.prog 52 = some ⟨17, W0, [.slot 8]⟩ := by kernel_rfl
theorem qh2 (p a n : Int) (w : List Int) (hl : w.length ≤ 2000000) :
    Am.Fn Try.prog 52 [.int .i64 p, .int .i64 a, .int .i64 n, .slc 0 0 w.length false 0] [.ro (xk w)] (fun v H' => v = .bool (Bk p a && ua n w) ∧ H' = [.ro (xk w)]) := by
  refine Am.Fn.jj (R := fun v => v = _) qnx mixed qhj (by simp [AV.qn, AV.under]) (uv (qq _)) ?_
  have hw := yq w
  cases hb : Bk p a with
  | true =>
    simp (maxSteps := 3000000) only [qg, zH, W0, vq, Xj, Kh, W9, Zv, Js, Jq, yk, ya, ub, bz, hw, hl, hb, and_self, iE, iN, iB, iC, iL, iD, iA, iS, iM, qa, zZ, ↓qu, ↓reduceIte, reduceCtorEq, nA, nM, nS, nE, nL, nD]; try simp only [qa, zY]
    exact ⟨⟨_, rfl⟩, by rw [Bool.true_and]⟩
  | false =>
    simp (maxSteps := 3000000) only [qg, zH, W0, vq, Xj, Kh, W9, Zv, Js, Jq, yk, ya, ub, bz, hw, hl, hb, and_self, iE, iN, iB, iC, iL, iD, iA, iS, iM, qa, zZ, ↓qu, ↓reduceIte, reduceCtorEq, nA, nM, nS, nE, nL, nD]; try simp only [qa, zY]
    exact ⟨⟨_, rfl⟩, by rw [Bool.false_and]⟩
def kh : BE := fun hp xs => match xs with
  | [.int .i64 p, .int .i64 a, .int .i64 n, .slc b 0 k false 0] => match rd hp b with
    | some L => match G1 L with
      | some w => chk (k = w.length ∧ k ≤ 2000000) (some (.bool (Bk p a && ua n w), hp))
      | none => none
    | none => none
  | _ => none
theorem qvp : Am.Callee Try.prog 52 kh := Callee.fp fun hp xs v hp' he => by
  unfold kh at he
  split at he
  · rename_i p a n b k
    split at he
    · rename_i L hL
      split at he
      · rename_i w hw
        have h9 := qk he
        clear he
        obtain ⟨⟨k1, h0⟩, h8⟩ := h9
        simp only [Option.some.injEq, Prod.mk.injEq] at h8
        obtain ⟨rfl, rfl⟩ := h8
        subst k1
        have e1 := yx hw
        subst e1
        refine ⟨[(b, 0)], [.int .i64 p, .int .i64 a, .int .i64 n, .slc 0 0 w.length false 0], _, _, _, qh2 p a n w h0, by simp [AV.ren, AV.zi, ofL], rfl, ⟨⟨_, hL, by simp, by simp [qc _ _ (qq _)]⟩, trivial⟩, rfl, ⟨qj _ _ (qq _), trivial⟩, ?_, by simp [AV.ren], ?_⟩
        · simp [AV.under, AV.qn]
        · simp [after, upd, AO.wr]
      · cases he
    · cases he
  · cases he
noncomputable def qy4 : zg := (qj3.put 52 (kh))
theorem qum : qo Try.prog qy4 := (qnx.put (qvp))
end Go.Proofs.Ytfhckbbgmblhbaa
namespace Go.Proofs.Ytfhckbbgmblhbaa
open Go.Am Go.Dia
open Nat renaming reduceAdd → nA, reduceMul → nM, reduceSub → nS, reduceEqDiff → nE, reduceLT → nL, reduceLeDiff → nD, reduceBEq → nB
open Int renaming reduceEq → iE, reduceNe → iN, reduceBEq → iB, reduceBNe → iC, reduceLT → iL, reduceLE → iD, reduceAdd → iA, reduceSub → iS, reduceMul → iM
set_option linter.unusedSimpArgs false
set_option linter.unusedVariables false
set_option maxRecDepth 4000
set_option maxHeartbeats 2000000
theorem qe6 (p c n : Int) (k cap : Nat) (ex : Bool) :
    Am.Fn Try.prog 97 [.agg [.int .i64 p, .int .i64 c, .int .i64 n, .slc 0 0 k ex cap]] [.ro []] (fun v H' => v = elemV p c n 1 0 ∧ H' = [.ro [], .vec 18 []]) := by
  refine Am.Fn.ofW qlw mixed G9 (by simp [AV.qn, AV.under]) (uv rfl) ?_
  simp (maxSteps := 3000000) only [qg, zH, Wg, qa, elemV, iE, iN, iB, iC, iL, iD, iA, iS, iM, rep, qa, zZ, ↓qu, ↓reduceIte, reduceCtorEq, nA, nM, nS, nE, nL, nD]; try simp only [qa, zY]
  refine ⟨rfl, _, qx.trans (qx.q7 [2]) (qx.vec 3 0 18 (by decide) rfl rfl rfl rfl), ?_⟩
  refine Ret.x6 [0, 3] ⟨⟨by simp, rfl, by decide⟩, ?_⟩ (rs := [.agg [.int .i64 p, .int .i64 c, .int .i64 n, .slc 3 0 0 false 0]]) ?_ rfl (by simp [z7]) ?_ ⟨?_, ?_⟩
  · simp only [q7, zp, zV, ↓reduceIte, nE, reduceCtorEq, nB]
    simp only [zK, ↓reduceIte, reduceCtorEq, nE, nB, nA]
  · simp only [q7, zp, zV, ↓reduceIte, nE, reduceCtorEq, nB]
    rfl
  · intro j l; match j with
    | 0 => simp [q9, V0, AO.zu, AO.ren]
    | 1 => simp [q9, V0, AO.zu, AO.ren]
    | j + 2 => simp [q9]
  · simp only [z7]
    simp only [zL, ↓reduceIte, reduceCtorEq, nE, nA]
  · rfl
def ka : BE := fun hp xs => match xs with
  | [.agg [.int .i64 p, .int .i64 c, .int .i64 n, .slc b 0 k ex cap]] => match rd hp b with
    | some _ => some (elemV p c n hp.length 0, hp ++ [.vec 18 []])
    | none => none
  | _ => none
theorem qr6 : Am.Callee Try.prog 97 ka := Callee.fp fun hp xs v hp' he => by
  unfold ka at he
  split at he
  · rename_i p c n b k ex cap
    split at he
    · rename_i L hL
      simp only [Option.some.injEq, Prod.mk.injEq] at he
      obtain ⟨rfl, rfl⟩ := he
      refine ⟨[(b, 0)], [.agg [.int .i64 p, .int .i64 c, .int .i64 n, .slc 0 0 k ex cap]], _, _, _, qe6 p c n k cap ex, by simp [AV.ren, AV.zi, ofL], rfl, ⟨⟨L, hL, by simp, by simp [AV.zi]⟩, trivial⟩, rfl, ⟨trivial, trivial⟩, ⟨⟨trivial, trivial, trivial, by simp [AV.under], trivial⟩, trivial⟩, by simp [elemV, AV.ren, AV.zi, Ren.ext], ?_⟩
      simp [after, upd, AO.wr, AO.ren, AV.zi]
    · cases he
  · cases he
noncomputable def qux : zg := (qy4.put 97 (ka))
theorem qov : qo Try.prog qux := (qum.put (qr6))
theorem qa4 : qux 83 = some (ql jx) := rfl
theorem Gn : qux 97 = some (ka) := rfl
theorem qli (p c n : Int) (k cap : Nat) (ex : Bool) (hn : 1 ≤ n ∧ n ≤ 8) :
    Am.Fn Try.prog 119 [.agg [.int .i64 p, .int .i64 c, .int .i64 n, .slc 0 0 k ex cap]] [.ro []] (fun v H' => v = elemV p c n 1 1 ∧ H' = [.ro [], .vec 18 (qv [(n, xe n.toNat, 1)])]) := by
  refine Am.Fn.ofW qov mixed qep (by simp [AV.qn, AV.under]) (uv rfl) ?_
  have o1 := Qy (n := n.toNat) (by omega)
  have o2 := o1.1
  have c0 : 0 ≤ n ∧ n ≤ 8 := by omega
  have e0 : (trm (0, List.replicate 16 0, 0)).length = 18 := rfl
  have e1 : over (trm (0, List.replicate 16 0, 0)) 0 (dia n (xe n.toNat)) = trm (n, xe n.toNat, 0) := Qx (by simp) o2
  have e2 : over (trm (n, xe n.toNat, 0)) 17 [.int .i64 1] = trm (n, xe n.toNat, 1) := Zf o2
  have e3 : over (trm (0, List.replicate 16 0, 0)) 0 (trm (n, xe n.toNat, 1)) = trm (n, xe n.toNat, 1) := gz (by simp) o2
  have e4 : (trm (n, xe n.toNat, 1)).length = 18 := by rw [we, o2]
  have e5 : (trm (n, xe n.toNat, 0)).length = 18 := by rw [we, o2]
  simp (maxSteps := 3000000) only [qg, zH, Gx, qa4, Gn, ka, jx, elemV, c0, qh, o2, vx, e0, e1, e2, e3, e4, e5, jv, src, lim, bf, Option.map_some, Option.map_none, List.all_nil, Nat.zero_mul, Int.toNat_zero, List.take_zero, Nat.le_refl, and_self, iE, iN, iB, iC, iL, iD, iA, iS, iM, qa, zZ, ↓qu, ↓reduceIte, reduceCtorEq, nA, nM, nS, nE, nL, nD]; try simp only [qa, zY]
  exact ⟨rfl, ⟨_, rfl⟩, by rw [bh o2, jv], rfl, rfl, _, qx.refl _, qia rfl (qb _) rfl rfl rfl (by rw [bh o2]; simp [qv])⟩
def Ve : BE := fun hp xs => match xs with
  | [.agg [.int .i64 p, .int .i64 c, .int .i64 n, .slc b 0 k ex cap]] => match rd hp b with
    | some _ => chk (1 ≤ n ∧ n ≤ 8) (some (elemV p c n hp.length 1, hp ++ [.vec 18 (qv [(n, xe n.toNat, 1)])]))
    | none => none
  | _ => none
theorem qva : Am.Callee Try.prog 119 Ve := Callee.fp fun hp xs v hp' he => by
  unfold Ve at he
  split at he
  · rename_i p c n b k ex cap
    split at he
    · rename_i L hL
      obtain ⟨h1, he⟩ := qk he
      simp only [Option.some.injEq, Prod.mk.injEq] at he
      obtain ⟨rfl, rfl⟩ := he
      refine ⟨[(b, 0)], [.agg [.int .i64 p, .int .i64 c, .int .i64 n, .slc 0 0 k ex cap]], _, _, _, qli p c n k cap ex h1, by simp [AV.ren, AV.zi, ofL], rfl, ⟨⟨L, hL, by simp, by simp [AV.zi]⟩, trivial⟩, rfl, ⟨trivial, trivial⟩, ⟨⟨trivial, trivial, trivial, by simp [AV.under], trivial⟩, trivial⟩, by simp [elemV, AV.ren, AV.zi, Ren.ext], ?_⟩
      simp [after, upd, AO.wr, AO.ren, AV.zi, qc _ _ (qb _)]
    · cases he
  · cases he
noncomputable def Ba : zg := (qux.put 119 (Ve))
theorem K3 : qo Try.prog Ba := (qov.put (qva))
def qh4 (p n : Int) (k : Nat) (a b : Int) : List (Int × List Nat × Int) := j8 p [(n, xe n.toNat, a)] n (X8 n.toNat k) b
noncomputable def kv (p a n i : Int) : List (Int × List Nat × Int) := if i < 0 then qh4 p n (-i - 1).toNat (j2 p a) a else qh4 p n (i - 1).toNat a (j2 p a)
noncomputable def kq (p a n : Int) (w : List Int) : List (Int × List Nat × Int) := w.foldl (fun acc i => MP p n (wb p (Qo p a) n acc (kv p a n i))) [(n, xe n.toNat, 1)]
theorem qah {p a n : Int} {w : List Int} {k : Nat} (h : k < w.length) : kq p a n (w.take (k + 1)) = MP p n (wb p (Qo p a) n (kq p a n (w.take k)) (kv p a n w[k])) := by
  rw [List.take_succ_eq_append_getElem h, kq, List.foldl_append]; rfl
theorem V5 {p n k : Int} (hn : 1 ≤ n ∧ n ≤ 8) (hk : 1 ≤ k ∧ k ≤ p - 1) : xf p n [(n, xe n.toNat, k)] :=
  ⟨fun t h => by simp at h; subst h; exact Qy (by omega), fun t h => by simp at h; subst h; exact ⟨rfl, qr7 (by omega)⟩, fun t h => by simp at h; subst h; exact hk, List.pairwise_singleton ..⟩
theorem qcd {p n a b : Int} {k : Nat} (hp : 2 ≤ p) (hn : 1 ≤ n ∧ n ≤ 8) (hk : k + 1 < n.toNat) (ha : 1 ≤ a ∧ a ≤ p - 1) : xf p n (qh4 p n k a b) ∧ (qh4 p n k a b).length ≤ 2 :=
  ⟨qas (by omega) (Jz (by omega) hk) (qol (by omega) hk) (V5 hn ha), qef⟩
theorem qg5 {n i : Int} (hn : 2 ≤ n ∧ n ≤ 6) (h : wx n i = false) : i ≠ 0 ∧ 1 - n ≤ i ∧ i ≤ n - 1 := by
  rw [wx, Bool.or_eq_false_iff, Bool.not_eq_false', decide_eq_false_iff_not, decide_eq_true_eq, wrap64 (by omega) (by omega), wrap64 (by omega) (by omega)] at h
  exact ⟨h.1, h.2⟩
theorem Yx {p a n i : Int} (h : okI p a) (hn : 2 ≤ n ∧ n ≤ 6) (hi : wx n i = false) : xf p n (kv p a n i) ∧ (kv p a n i).length ≤ 2 := by
  have hb := y6 h.1
  have hv := (V7 h.1 h.2).1
  obtain ⟨h0, h1, h2⟩ := qg5 hn hi
  unfold kv
  split
  · exact qcd (by omega) (by omega) (by omega) hv
  · exact qcd (by omega) (by omega) (by omega) h.2
theorem gm {p a n : Int} {w : List Int} (h : okI p a) (hn : 2 ≤ n ∧ n ≤ 6) (hw : w.any (wx n) = false) : ∀ k, k ≤ w.length → xf p n (kq p a n (w.take k)) ∧ (kq p a n (w.take k)).length ≤ 132
  | 0, _ => by
    have hb := y6 h.1
    have := V5 (p := p) (n := n) (k := 1) (by omega) (by omega)
    exact ⟨by simpa [kq] using this, by simp [kq]⟩
  | k + 1, hk => by
    have hb := y6 h.1
    have ih := gm h hn hw k (by omega)
    have hi : wx n (w[k]'(by omega)) = false := by
      have := List.any_eq_false.1 hw _ (List.getElem_mem (show k < w.length by omega))
      simpa using this
    have hc := Yx h hn hi
    rw [qah (by omega)]
    have hg := (qup (c := Qo p a) hb (qey h) ih.1 hc.1 ⟨by omega, by omega⟩).1
    exact ⟨hg, qsm hg (by omega)⟩
theorem qn0 {p n k : Int} {m : List Nat} (hk : 1 ≤ k ∧ k ≤ p - 1) : j8 p [] n m k = [(n, m, k)] := by
  have e : k.emod p = k := Int.emod_eq_of_lt (by omega) (by omega)
  rw [Bj, e, if_neg (by omega)]; rfl
theorem gq : Ba 84 = some (ql Jx) := rfl
theorem wm : Ba 67 = some (ql vl) := rfl
theorem gg : Ba 83 = some (ql jx) := rfl
theorem ug : Ba 97 = some (ka) := rfl
theorem gi : Ba 119 = some (Ve) := rfl
theorem gh : Ba 100 = some (Zz) := rfl
theorem um : Ba 98 = some (J9) := rfl
theorem u9 : Ba 118 = some (ql bc) := rfl
def ba : AC := .seq (.seq (.region [oM 29 12,oM 30 3,o0 31 (.len .slc (.t 30)),oP 32 .lss 29 31]) (.cond 32 .skip (.exit 0))) (.seq (.block 1 (.seq (.draw false [oM 35 3,oM 36 12,oX 37 1 35 36,oL 38 37,oM 39 3,oM 40 12,oX 41 1 39 40,oL 42 41,o0 43 (.un .neg (.t 42)),o0 44 (.Jd false (.t 38) (.t 43)),oK 45 .sub 44 1,oM 46 1,oM 47 11,oM 13 45,oM 14 46,oM 15 47]) (.seq (.seq (.region [oM 48 3,oM 49 12,oX 50 1 48 49,oL 51 50,oK 52 .lss 51 0]) (.cond 52 (.seq (.region [oM 53 11,oM 14 53]) (.region [oM 54 1,oM 15 54])) .skip)) (.seq (.region [oN 55 4 9,oC 56 97 [.t 55],oZ 16,oS 4 16 56]) (.seq (.draw true [oM 57 0,oF 58 3 16,oL 59 58,oM 60 2,oM 62 14,oC 61 83 [.t 60],oC 63 100 [.t 57,.t 59,.t 61,.t 62],oF 64 3 16,oT 64 63]) (.seq (.draw true [oM 65 0,oF 66 3 16,oL 67 66,oM 68 2,oM 69 13,oM 71 15,oC 70 84 [.t 68,.t 69],oC 72 100 [.t 65,.t 67,.t 70,.t 71],oF 73 3 16,oT 73 72]) (.region [oN 74 4 10,oN 75 4 16,oC 76 98 [.t 74,.t 75],oS 4 10 76]))))))) (.region [oM 33 12,oK 34 .add 33 1,oM 12 34]))
def Va : AC := .seq (.region [oN 77 4 10,oS 4 8 77]) .ret
def Ui : AC := .seq (.region [oZ 8]) (.seq (.region [oM 17 0,oM 18 0,oM 19 1,oC 20 118 [.t 18,.t 19],oM 21 2,o0 22 (.Qd 0 [] []),o0 23 (.build [.int .i64 0,.int .i64 0,.int .i64 0,(.v (.slice none 0 0))] [(0,1,.t 17),(1,1,.t 20),(2,1,.t 21),(3,1,.t 22)]),oZ 9,oS 4 9 23]) (.seq (.region [oN 24 4 9,oC 25 119 [.t 24],oM 26 0,oM 27 1,oC 28 67 [.t 26,.t 27],oZ 10,oS 4 10 25,oM 11 28]) (.seq (.seq (.region [oI 12 0]) (.block 0 (.loop ba))) Va)))
theorem qdq : zn Try.prog 55 = some ⟨78, Ui, [.Q6 8 4]⟩ := by kernel_rfl
theorem qeh (p a n : Int) (w : List Int) (h : okI p a) (hn : 2 ≤ n ∧ n ≤ 6) (hl : w.length ≤ 24) (hbw : w.any (wx n) = false) :
    Am.Fn Try.prog 55 [.int .i64 p, .int .i64 a, .int .i64 n, .slc 0 0 w.length false 0] [.ro (xk w)]
      (fun v H' => v = elemV p (Qo p a) n 1 (kq p a n w).length ∧ H' = [.ro (xk w), .vec 18 (qv (kq p a n w))]) := by
  refine Am.Fn.ofW K3 mixed qdq (by simp [AV.qn, AV.under]) (uv (qq _)) ?_
  have hla := xb w
  have hb := y6 h.1
  have ha := h.2
  have hlb := qey h
  have hv := (V7 h.1 h.2).1
  have c1 : 1 ≤ n ∧ n ≤ 8 := by omega
  have c0 : 0 ≤ n ∧ n ≤ 8 := by omega
  simp (maxSteps := 3000000) only [qg, zH, Ui, gq, wm, gg, ug, gi, gh, um, u9, ka, Jx, bc, J9, Zz, vl, Ve, jx, br, elemV, wc, qc _ _ (qb _), qc _ _ (qf _ _), h, hb, ha, hla, c1, c0, and_self, iE, iN, iB, iC, iL, iD, iA, iS, iM, qa, zZ, ↓qu, ↓reduceIte, reduceCtorEq, nA, nM, nS, nE, nL, nD]; try simp only [qa, zY]
  refine ⟨rfl, rfl, ?_⟩
  refine WA.j9 K3 (fun s => ∃ k : Nat, k ≤ w.length ∧ s = ⟨[(0, .int .i64 p), (1, .int .i64 a), (2, .int .i64 n), (3, .slc 0 0 w.length false 0), (8, .ptr 1 0), (9, .ptr 2 0), (10, .ptr 4 0), (11, .int .i64 (j2 p a)), (12, .int .i64 k)], [.ro (xk w), qnq, .cells [.int .i64 p, .int .i64 (Qo p a), .int .i64 n, .slc 3 0 0 true 0], .cells [], .cells [.int .i64 p, .int .i64 (Qo p a), .int .i64 n, .slc 5 0 (kq p a n (w.take k)).length false 0], .vec 18 (qv (kq p a n (w.take k)))]⟩)
    (fun s => match get s.env 12 with | .int _ x => w.length - x.toNat | _ => 0) ⟨_, qx.can [0, 1, 2, 3, 8, 9, 10, 11, 12] (by simp only [qaz, zC, nB, nD, nA, nE, ↓reduceIte, reduceCtorEq]; rfl), 0, by omega, ?_⟩ ?_
  · simp only [qc _ _ (qb _), qc _ _ (qq _), zL, ↓reduceIte, reduceCtorEq, nE, nA]
    rfl
  rintro s ⟨k, hk, rfl⟩
  have hbr := gm h hn hbw k hk
  have hg1 := hbr.1.dec
  have htp := xj hbr.1.ok
  have hlp := qy hbr.1.ok
  have hl1 : (kq p a n (w.take k)).length ≤ 300 := by omega
  by_cases hlt : k < w.length
  · have hw : qp .i64 ((k : Int) + 1) = ((k + 1 : Nat) : Int) := by rw [wrap64 (by omega) (by omega)]; rfl
    have hli : (k : Int) < (w.length : Int) := by omega
    have hk0 : (0 : Int) ≤ k := by omega
    have hg : w.getD k 0 = w[k] := by simp [hlt]
    have hbi : wx n w[k] = false := by
      have := List.any_eq_false.1 hbw _ (List.getElem_mem hlt)
      simpa using this
    obtain ⟨d0, d1, d2⟩ := qg5 hn hbi
    have hcr := Yx h hn hbi
    have hg2 := hcr.1.dec
    have htc := xj hcr.1.ok
    have hlc := qy hcr.1.ok
    have hl2 : (kv p a n w[k]).length ≤ 300 := by omega
    have hnext := qah (p := p) (a := a) (n := n) hlt
    have hgn := gm h hn hbw (k + 1) (by omega)
    have hln := qy hgn.1.ok
    have hw1 : qp .i64 (0 - w[k]) = -w[k] := by rw [wrap64 (by omega) (by omega)]; omega
    by_cases hneg : w[k] < 0
    · have hx : (if -w[k] > w[k] then -w[k] else w[k]) = -w[k] := if_pos (by omega)
      have hw2 : qp .i64 (-w[k] - 1) = -w[k] - 1 := wrap64 (by omega) (by omega)
      have hgen : n ≤ 8 ∧ 0 ≤ -w[k] - 1 ∧ -w[k] - 1 + 1 < n := by omega
      have hcI : kv p a n w[k] = j8 p [(n, xe n.toNat, j2 p a)] n (X8 n.toNat (-w[k] - 1).toNat) (a) := by unfold kv; rw [if_pos hneg]; rfl
      rw [hcI] at hg2 htc hlc hl2 hnext
      have hog := V5 (p := p) (n := n) (k := j2 p a) c1 hv
      have hto : Z2 1 (qv _) = some _ := xj hog.ok
      have hlo := qy hog.ok
      have hpo := qn0 (n := n) (m := xe n.toNat) hv
      have hne : ¬ ((j2 p a).emod p = 0) := by
        have e : (j2 p a).emod p = j2 p a := Int.emod_eq_of_lt (by omega) (by omega)
        rw [e]; omega
      have hne2 : ¬ ((a).emod p = 0) := by
        have e : (a).emod p = a := Int.emod_eq_of_lt (by omega) (by omega)
        rw [e]; omega
      have hdu : yu (dia n (xe n.toNat)) = some (n, xe n.toNat) := zc (Qy (by omega))
      have hdg : yu (dia n (X8 n.toNat (-w[k] - 1).toNat)) = some (n, X8 n.toNat (-w[k] - 1).toNat) := zc (Jz (by omega) (by omega))
      have p1 : 0 < p ∧ p ≤ 1000000 := by omega
      have hf0 : qfi n [] := ⟨by simp, by simp, by simp, .nil⟩
      have hf1 : qfi n [(n, xe n.toNat, j2 p a)] := hog.fit (by omega) (by simp)
      have ht0 : Z2 0 [] = some [] := rfl
      simp (maxSteps := 3000000) only [qg, zH, ba, gq, wm, gg, ug, gi, gh, um, u9, ka, Jx, bc, J9, Zz, vl, Ve, jx, br, elemV, wc, qc _ _ (qb _), qc _ _ (qf _ _), hli, hk0, hw, hla, hlt, hg, hw1, hx, hw2, hneg, hgen, hto, hlo, hpo, hdu, hdg, hne, hne2, p1, c0, c1, hf0, hf1, ht0, hg1, htp, hlp, hl1, hg2, htc, hlc, hl2, hln, hb, hlb, ← hnext, and_self, iE, iN, iB, iC, iL, iD, iA, iS, iM, qa, zZ, ↓qu, ↓reduceIte, reduceCtorEq, nA, nM, nS, nE, nL, nD]; try simp only [qa, zY]
      repeat' refine And.intro (by first | rfl | exact ⟨_, rfl⟩) ?_
      refine ⟨_, qx.can [0, 1, 2, 3, 8, 9, 10, 11, 12] (by simp only [qaz, zC, nB, nD, nA, nE, ↓reduceIte, reduceCtorEq]; rfl), ⟨k + 1, by omega, ?_⟩, ?_⟩
      · simp only [qc _ _ (qb _), qc _ _ (qq _), zL, ↓reduceIte, reduceCtorEq, nE, nA]
      · simp only [zL, ↓reduceIte, reduceCtorEq, nE, nA]; omega
    · have hx : (if -w[k] > w[k] then -w[k] else w[k]) = w[k] := if_neg (by omega)
      have hw2 : qp .i64 (w[k] - 1) = w[k] - 1 := wrap64 (by omega) (by omega)
      have hgen : n ≤ 8 ∧ 0 ≤ w[k] - 1 ∧ w[k] - 1 + 1 < n := by omega
      have hcI : kv p a n w[k] = j8 p [(n, xe n.toNat, a)] n (X8 n.toNat (w[k] - 1).toNat) (j2 p a) := by unfold kv; rw [if_neg hneg]; rfl
      rw [hcI] at hg2 htc hlc hl2 hnext
      have hog := V5 (p := p) (n := n) (k := a) c1 ha
      have hto : Z2 1 (qv _) = some _ := xj hog.ok
      have hlo := qy hog.ok
      have hpo := qn0 (n := n) (m := xe n.toNat) ha
      have hne : ¬ ((a).emod p = 0) := by
        have e : (a).emod p = a := Int.emod_eq_of_lt (by omega) (by omega)
        rw [e]; omega
      have hne2 : ¬ ((j2 p a).emod p = 0) := by
        have e : (j2 p a).emod p = j2 p a := Int.emod_eq_of_lt (by omega) (by omega)
        rw [e]; omega
      have hdu : yu (dia n (xe n.toNat)) = some (n, xe n.toNat) := zc (Qy (by omega))
      have hdg : yu (dia n (X8 n.toNat (w[k] - 1).toNat)) = some (n, X8 n.toNat (w[k] - 1).toNat) := zc (Jz (by omega) (by omega))
      have p1 : 0 < p ∧ p ≤ 1000000 := by omega
      have hf0 : qfi n [] := ⟨by simp, by simp, by simp, .nil⟩
      have hf1 : qfi n [(n, xe n.toNat, a)] := hog.fit (by omega) (by simp)
      have ht0 : Z2 0 [] = some [] := rfl
      simp (maxSteps := 3000000) only [qg, zH, ba, gq, wm, gg, ug, gi, gh, um, u9, ka, Jx, bc, J9, Zz, vl, Ve, jx, br, elemV, wc, qc _ _ (qb _), qc _ _ (qf _ _), hli, hk0, hw, hla, hlt, hg, hw1, hx, hw2, hneg, hgen, hto, hlo, hpo, hdu, hdg, hne, hne2, p1, c0, c1, hf0, hf1, ht0, hg1, htp, hlp, hl1, hg2, htc, hlc, hl2, hln, hb, hlb, ← hnext, and_self, iE, iN, iB, iC, iL, iD, iA, iS, iM, qa, zZ, ↓qu, ↓reduceIte, reduceCtorEq, nA, nM, nS, nE, nL, nD]; try simp only [qa, zY]
      repeat' refine And.intro (by first | rfl | exact ⟨_, rfl⟩) ?_
      refine ⟨_, qx.can [0, 1, 2, 3, 8, 9, 10, 11, 12] (by simp only [qaz, zC, nB, nD, nA, nE, ↓reduceIte, reduceCtorEq]; rfl), ⟨k + 1, by omega, ?_⟩, ?_⟩
      · simp only [qc _ _ (qb _), qc _ _ (qq _), zL, ↓reduceIte, reduceCtorEq, nE, nA]
      · simp only [zL, ↓reduceIte, reduceCtorEq, nE, nA]; omega
  · have hli : ¬ (k : Int) < (w.length : Int) := by omega
    obtain rfl : k = w.length := by omega
    simp (maxSteps := 3000000) only [qg, zH, ba, Va, gq, wm, gg, ug, gi, gh, um, u9, ka, Jx, bc, J9, Zz, vl, Ve, jx, br, elemV, wc, qc _ _ (qb _), qc _ _ (qf _ _), hli, Int.lt_irrefl, iE, iN, iB, iC, iL, iD, iA, iS, iM, qa, zZ, ↓qu, ↓reduceIte, reduceCtorEq, nA, nM, nS, nE, nL, nD]; try simp only [qa, zY]
    rw [List.take_length]
    exact ⟨rfl, _, qx.refl _, qia (qq _) (qb _) rfl rfl rfl rfl⟩
theorem qn7 {p n k : Int} {a : List (Int × List Nat × Int)} {m : List Nat} : qa5 p n k a [(n, m, 1)] = j8 p a n m k := by
  simp [qa5]
theorem qis {p n k : Int} {i : Nat} (hn : 1 ≤ n ∧ n ≤ 8) (hi : i + 1 < n.toNat) (hk : 1 ≤ k ∧ k ≤ p - 1) : xf p n [(n, X8 n.toNat i, k)] :=
  ⟨fun t h => by simp at h; subst h; exact Jz (by omega) hi, fun t h => by simp at h; subst h; exact ⟨rfl, qol (by omega) hi⟩, fun t h => by simp at h; subst h; exact hk, List.pairwise_singleton ..⟩
theorem qcp {p k : Int} (hk : 1 ≤ k ∧ k ≤ p - 1) : k.emod p = k := Int.emod_eq_of_lt (by omega) (by omega)
theorem qzh {p k : Int} (hk : 1 ≤ k ∧ k ≤ p - 1) : ¬ k.emod p = 0 := by rw [qcp hk]; omega
theorem yi : Ba 125 = some (ql Jx) := rfl
theorem u6 : Ba 72 = some (ql vn) := rfl
theorem yh : Ba 123 = some (ql bc) := rfl
theorem wq : Ba 90 = some (J9) := rfl
theorem Qs : Ba 124 = some (Uq) := rfl
theorem gb : Ba 103 = some (qfj j4) := rfl
theorem Qt : Ba 88 = some (ql jx) := rfl
def Xt : AC := .seq (.region [oP 33 .lss 32 31]) (.seq (.cond 33 .skip (.exit 0)) (.seq (.block 1 (.seq (.region [oX 34 1 30 32,oL 35 34,oM 14 35]) (.seq (.region [oM 36 1,oM 37 10,oM 15 36,oM 16 37]) (.seq (.seq (.region [oM 38 14,oK 39 .lss 38 0]) (.cond 39 (.region [oM 40 10,oM 41 1,oM 42 14,o0 43 (.un .neg (.t 42)),oM 15 40,oM 16 41,oM 14 43]) .skip)) (.seq (.region [oM 44 0,oM 45 9,oM 46 2,oC 47 88 [.t 46],oM 48 15,oC 49 103 [.t 44,.t 45,.t 47,.t 48],oM 50 0,oM 51 9,oM 52 2,oM 53 14,oK 54 .sub 53 1,oC 55 125 [.t 52,.t 54],oC 56 103 [.t 50,.t 51,.t 55,(.c (.int .i64 1))],oM 57 16,oC 58 124 [.t 49,.t 56,.t 57],oZ 17,oS 4 17 58]) (.region [oN 59 4 12,oN 60 4 17,oC 61 90 [.t 59,.t 60],oS 4 12 61])))))) (.region [oK 62 .add 32 1,oM 32 62])))
def K8 : AC := .seq (.region [oN 63 4 12,oS 4 8 63]) .ret
def qf9 : AC := .seq (.region [oZ 8]) (.seq (.region [oM 18 0,oM 19 1,oC 20 123 [.t 18,.t 19],oM 21 1,oM 22 0,oC 23 72 [.t 21,.t 22],oM 9 20,oM 10 23]) (.seq (.region [oM 24 0,oM 25 9,oM 26 2,oC 27 88 [.t 26],oC 28 103 [.t 24,.t 25,.t 27,(.c (.int .i64 1))],oZ 11,oS 4 11 28]) (.seq (.region [oN 29 4 11,oZ 12,oS 4 12 29]) (.seq (.seq (.region [oM 30 3,o0 31 (.len .slc (.t 30)),oI 32 0]) (.block 0 (.loop Xt))) K8))))
theorem qo9 : zn Try.prog 59 = some ⟨64, qf9, [.Q6 8 4]⟩ := by kernel_rfl
theorem qqj (p a n : Int) (w : List Int) (h : okI p a) (hn : 2 ≤ n ∧ n ≤ 6) (hl : w.length ≤ 24) (hbw : w.any (wx n) = false) :
    Am.Fn Try.prog 59 [.int .i64 p, .int .i64 a, .int .i64 n, .slc 0 0 w.length false 0] [.ro (xk w)]
      (fun v H' => v = elemV p (Qo p a) n 1 (kq p a n w).length ∧ H' = [.ro (xk w), .vec 18 (qv (kq p a n w))]) := by
  refine Am.Fn.ofW K3 mixed qo9 (by simp [AV.qn, AV.under]) (uv (qq _)) ?_
  have hla := xb w
  have hb := y6 h.1
  have ha := h.2
  have hlb := qey h
  have hv := (V7 h.1 h.2).1
  have c1 : 1 ≤ n ∧ n ≤ 8 := by omega
  have c0 : 0 ≤ n ∧ n ≤ 8 := by omega
  have k1 : (1 : Int) ≤ 1 ∧ (1 : Int) ≤ p - 1 := by omega
  have p1 : 0 < p ∧ p ≤ 1000000 := by omega
  have s1 := qcp k1
  have n1 := qzh k1
  have hdu : yu (dia n (xe n.toNat)) = some (n, xe n.toNat) := zc (Qy (by omega))
  simp (maxSteps := 3000000) only [qg, zH, qf9, yi, u6, yh, wq, Qs, gb, Qt, Jx, vn, bc, J9, Uq, j4, jx, br, elemV, wc, qc _ _ (qb _), qc _ _ (qf _ _), h, hb, ha, hla, c1, c0, p1, s1, n1, hdu, List.length_singleton, and_self, iE, iN, iB, iC, iL, iD, iA, iS, iM, qa, zZ, ↓qu, ↓reduceIte, reduceCtorEq, nA, nM, nS, nE, nL, nD]; try simp only [qa, zY]
  refine ⟨rfl, rfl, ?_⟩
  refine WA.j9 K3 (fun s => ∃ k : Nat, k ≤ w.length ∧ s = ⟨[(0, .int .i64 p), (1, .int .i64 a), (2, .int .i64 n), (8, .ptr 1 0), (9, .int .i64 (Qo p a)), (10, .int .i64 (j2 p a)), (12, .ptr 2 0), (30, .slc 0 0 w.length false 0), (31, .int .i64 w.length), (32, .int .i64 k)], [.ro (xk w), qnq, .cells [.int .i64 p, .int .i64 (Qo p a), .int .i64 n, .slc 3 0 (kq p a n (w.take k)).length false 0], .vec 18 (qv (kq p a n (w.take k)))]⟩)
    (fun s => match get s.env 32 with | .int _ x => w.length - x.toNat | _ => 0) ⟨_, qx.can [0, 1, 2, 8, 9, 10, 12, 30, 31, 32] (by simp only [qaz, zC, nB, nD, nA, nE, ↓reduceIte, reduceCtorEq]; rfl), 0, by omega, ?_⟩ ?_
  · simp only [qc _ _ (qb _), qc _ _ (qq _), zL, ↓reduceIte, reduceCtorEq, nE, nA]
    rfl
  rintro s ⟨k, hk, rfl⟩
  have hbr := gm h hn hbw k hk
  have hg1 := hbr.1.dec
  have htp := xj hbr.1.ok
  have hlp := qy hbr.1.ok
  have hl1 : (kq p a n (w.take k)).length ≤ 300 := by omega
  by_cases hlt : k < w.length
  · have hw : qp .i64 ((k : Int) + 1) = ((k + 1 : Nat) : Int) := by rw [wrap64 (by omega) (by omega)]; rfl
    have hli : (k : Int) < (w.length : Int) := by omega
    have hk0 : (0 : Int) ≤ k := by omega
    have hg : w.getD k 0 = w[k] := by simp [hlt]
    have hbi : wx n w[k] = false := by
      have := List.any_eq_false.1 hbw _ (List.getElem_mem hlt)
      simpa using this
    obtain ⟨d0, d1, d2⟩ := qg5 hn hbi
    have hcr := Yx h hn hbi
    have hg2 := hcr.1.dec
    have htc := xj hcr.1.ok
    have hlc := qy hcr.1.ok
    have hl2 : (kv p a n w[k]).length ≤ 300 := by omega
    have hnext := qah (p := p) (a := a) (n := n) hlt
    have hgn := gm h hn hbw (k + 1) (by omega)
    have hln := qy hgn.1.ok
    have hw1 : qp .i64 (0 - w[k]) = -w[k] := by rw [wrap64 (by omega) (by omega)]; omega
    by_cases hneg : w[k] < 0
    · have hw2 : qp .i64 (-w[k] - 1) = -w[k] - 1 := wrap64 (by omega) (by omega)
      have hgen : n ≤ 8 ∧ 0 ≤ -w[k] - 1 ∧ -w[k] - 1 + 1 < n := by omega
      have hcI : kv p a n w[k] = j8 p [(n, xe n.toNat, j2 p a)] n (X8 n.toNat (-w[k] - 1).toNat) (a) := by unfold kv; rw [if_pos hneg]; rfl
      rw [hcI] at hg2 htc hlc hl2 hnext
      have hog := V5 (p := p) (n := n) (k := j2 p a) c1 hv
      have hto : Z2 1 (qv _) = some _ := xj hog.ok
      have hog1 := hog.dec
      have hgg := qis (p := p) (n := n) (k := 1) (i := (-w[k] - 1).toNat) c1 (by omega) k1
      have htg : Z2 1 (qv _) = some _ := xj hgg.ok
      have hgg1 := hgg.dec
      have s2 := qcp hv
      have n2 : ¬ j2 p a = 0 := by omega
      have hdg : yu (dia n (X8 n.toNat (-w[k] - 1).toNat)) = some (n, X8 n.toNat (-w[k] - 1).toNat) := zc (Jz (by omega) (by omega))
      have q1 : (1 : Nat) ≤ 100000 := by omega
      have q2 : -1000001 ≤ (a) ∧ (a) ≤ 1000001 := by omega
      simp (maxSteps := 3000000) only [qg, zH, Xt, yi, u6, yh, wq, Qs, gb, Qt, Jx, vn, bc, J9, Uq, j4, jx, br, elemV, wc, qc _ _ (qb _), qc _ _ (qf _ _), hli, hk0, hw, hla, hlt, hg, hw1, hw2, hneg, hgen, hto, hog1, htg, hgg1, hdu, hdg, s1, n1, s2, n2, q1, q2, qn7, List.length_singleton, p1, c0, c1, hg1, htp, hlp, hl1, hg2, htc, hlc, hl2, hln, hb, hlb, ← hnext, and_self, iE, iN, iB, iC, iL, iD, iA, iS, iM, qa, zZ, ↓qu, ↓reduceIte, reduceCtorEq, nA, nM, nS, nE, nL, nD]; try simp only [qa, zY]
      repeat' refine And.intro (by first | rfl | exact ⟨_, rfl⟩) ?_
      refine ⟨_, qx.can [0, 1, 2, 8, 9, 10, 12, 30, 31, 32] (by simp only [qaz, zC, nB, nD, nA, nE, ↓reduceIte, reduceCtorEq]; rfl), ⟨k + 1, by omega, ?_⟩, ?_⟩
      · simp only [qc _ _ (qb _), qc _ _ (qq _), zL, ↓reduceIte, reduceCtorEq, nE, nA]
      · simp only [zL, ↓reduceIte, reduceCtorEq, nE, nA]; omega
    · have hw2 : qp .i64 (w[k] - 1) = w[k] - 1 := wrap64 (by omega) (by omega)
      have hgen : n ≤ 8 ∧ 0 ≤ w[k] - 1 ∧ w[k] - 1 + 1 < n := by omega
      have hcI : kv p a n w[k] = j8 p [(n, xe n.toNat, a)] n (X8 n.toNat (w[k] - 1).toNat) (j2 p a) := by unfold kv; rw [if_neg hneg]; rfl
      rw [hcI] at hg2 htc hlc hl2 hnext
      have hog := V5 (p := p) (n := n) (k := a) c1 ha
      have hto : Z2 1 (qv _) = some _ := xj hog.ok
      have hog1 := hog.dec
      have hgg := qis (p := p) (n := n) (k := 1) (i := (w[k] - 1).toNat) c1 (by omega) k1
      have htg : Z2 1 (qv _) = some _ := xj hgg.ok
      have hgg1 := hgg.dec
      have s2 := qcp ha
      have n2 : ¬ a = 0 := by omega
      have hdg : yu (dia n (X8 n.toNat (w[k] - 1).toNat)) = some (n, X8 n.toNat (w[k] - 1).toNat) := zc (Jz (by omega) (by omega))
      have q1 : (1 : Nat) ≤ 100000 := by omega
      have q2 : -1000001 ≤ (j2 p a) ∧ (j2 p a) ≤ 1000001 := by omega
      simp (maxSteps := 3000000) only [qg, zH, Xt, yi, u6, yh, wq, Qs, gb, Qt, Jx, vn, bc, J9, Uq, j4, jx, br, elemV, wc, qc _ _ (qb _), qc _ _ (qf _ _), hli, hk0, hw, hla, hlt, hg, hw1, hw2, hneg, hgen, hto, hog1, htg, hgg1, hdu, hdg, s1, n1, s2, n2, q1, q2, qn7, List.length_singleton, p1, c0, c1, hg1, htp, hlp, hl1, hg2, htc, hlc, hl2, hln, hb, hlb, ← hnext, and_self, iE, iN, iB, iC, iL, iD, iA, iS, iM, qa, zZ, ↓qu, ↓reduceIte, reduceCtorEq, nA, nM, nS, nE, nL, nD]; try simp only [qa, zY]
      repeat' refine And.intro (by first | rfl | exact ⟨_, rfl⟩) ?_
      refine ⟨_, qx.can [0, 1, 2, 8, 9, 10, 12, 30, 31, 32] (by simp only [qaz, zC, nB, nD, nA, nE, ↓reduceIte, reduceCtorEq]; rfl), ⟨k + 1, by omega, ?_⟩, ?_⟩
      · simp only [qc _ _ (qb _), qc _ _ (qq _), zL, ↓reduceIte, reduceCtorEq, nE, nA]
      · simp only [zL, ↓reduceIte, reduceCtorEq, nE, nA]; omega
  · have hli : ¬ (k : Int) < (w.length : Int) := by omega
    obtain rfl : k = w.length := by omega
    simp (maxSteps := 3000000) only [qg, zH, Xt, K8, yi, u6, yh, wq, Qs, gb, Qt, Jx, vn, bc, J9, Uq, j4, jx, br, elemV, wc, qc _ _ (qb _), qc _ _ (qf _ _), hli, Int.lt_irrefl, iE, iN, iB, iC, iL, iD, iA, iS, iM, qa, zZ, ↓qu, ↓reduceIte, reduceCtorEq, nA, nM, nS, nE, nL, nD]; try simp only [qa, zY]
    rw [List.take_length]
    exact ⟨rfl, _, qx.refl _, qia (qq _) (qb _) rfl rfl rfl rfl⟩
noncomputable def Vf : BE := fun hp xs => match xs with
  | [.int .i64 p, .int .i64 a, .int .i64 n, .slc b 0 k false 0] => match rd hp b with
    | some L => match G1 L with
      | some w => chk ((k = w.length ∧ k ≤ 24) ∧ okI p a ∧ (2 ≤ n ∧ n ≤ 6) ∧ w.any (wx n) = false) (some (elemV p (Qo p a) n hp.length (kq p a n w).length, hp ++ [.vec 18 (qv (kq p a n w))]))
      | none => none
    | none => none
  | _ => none
theorem qjt {f : FuncId} (hf : ∀ (p a n : Int) (w : List Int), okI p a → 2 ≤ n ∧ n ≤ 6 → w.length ≤ 24 → w.any (wx n) = false → Am.Fn Try.prog f [.int .i64 p, .int .i64 a, .int .i64 n, .slc 0 0 w.length false 0] [.ro (xk w)]
      (fun v H' => v = elemV p (Qo p a) n 1 (kq p a n w).length ∧ H' = [.ro (xk w), .vec 18 (qv (kq p a n w))])) : Am.Callee Try.prog f Vf := Callee.fp fun hp xs v hp' he => by
  unfold Vf at he
  split at he
  · rename_i p a n b k
    split at he
    · rename_i L hL
      split at he
      · rename_i w hw
        have h9 := qk he
        clear he
        obtain ⟨⟨⟨k1, k2⟩, h1, h2, h3⟩, h8⟩ := h9
        simp only [Option.some.injEq, Prod.mk.injEq] at h8
        obtain ⟨rfl, rfl⟩ := h8
        subst k1
        have e1 := yx hw
        subst e1
        refine ⟨[(b, 0)], [.int .i64 p, .int .i64 a, .int .i64 n, .slc 0 0 w.length false 0], _, _, _, hf p a n w h1 h2 k2 h3, by simp [AV.ren, AV.zi, ofL], rfl, ⟨⟨_, hL, by simp, by simp [qc _ _ (qq _)]⟩, trivial⟩, rfl, ⟨qj _ _ (qq _), trivial⟩, ?_, by simp [elemV, AV.ren, AV.zi, Ren.ext], ?_⟩
        · simp [AV.under, AV.qn]
        · simp [after, upd, AO.wr, AO.ren, qc _ _ (qb _)]
      · cases he
    · cases he
  · cases he
noncomputable def qzf : zg := ((Ba.put 55 (Vf)).put 59 (Vf))
theorem qvn : qo Try.prog qzf := ((K3.put (qjt qeh)).put (qjt qqj))
theorem qab {n : Int} {w : List Int} (h : ua n w = true) : (2 ≤ n ∧ n ≤ 6) ∧ w.length ≤ 24 ∧ w.any (wx n) = false := by
  unfold ua at h
  simp only [Bool.and_eq_true, decide_eq_true_eq, Bool.not_eq_true'] at h
  exact h
noncomputable def qy7 : zg := qzf
theorem qwd : qo Try.prog qy7 := qvn
end Go.Proofs.Ytfhckbbgmblhbaa

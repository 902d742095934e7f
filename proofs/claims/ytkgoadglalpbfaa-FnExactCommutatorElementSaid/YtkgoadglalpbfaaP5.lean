/- Plain laws of elements: each diagram becomes another one, and a number. Contracts: powers of numbers. Contracts: elements whose diagrams become others, whatever they become. Contracts: two elements that are alike, and elements with not too many terms. Contracts: what the laws of two elements share. Contracts: along the lines of two diagrams, the reference. Contracts: products of diagrams, the reference. Contracts: along the lines of two diagrams, the implementation. Contracts: along the lines of two diagrams, the implementation. -/
import Derived.Test.YtkgoadglalpbfaaP4
namespace Go.Proofs.Ytkgoadglalpbfaa
open Go.Am Go.Dia
open Nat renaming reduceAdd → nA, reduceMul → nM, reduceSub → nS, reduceEqDiff → nE, reduceLT → nL, reduceLeDiff → nD, reduceBEq → nB
open Int renaming reduceEq → iE, reduceNe → iN, reduceBEq → iB, reduceBNe → iC, reduceLT → iL, reduceLE → iD, reduceAdd → iA, reduceSub → iS, reduceMul → iM
set_option linter.unusedSimpArgs false
set_option linter.unusedVariables false
set_option maxRecDepth 4000
set_option maxHeartbeats 1000000
def chP (p n : Int) (φ : List Nat → List Nat) (κ : List Nat → Int) (acc a : List (Int × List Nat × Int)) : List (Int × List Nat × Int) := a.foldl (fun acc t => yp p acc n (φ t.2.1) (t.2.2 * κ t.2.1)) acc
def qlf (φ : List Nat → List Nat) (κ : List Nat → Int) (m : List Nat) : List (Int × List Nat × Int) → Int
  | [] => 0
  | t :: l => (if φ t.2.1 = m then t.2.2 * κ t.2.1 else 0) + qlf φ κ m l
def qru (n : Int) (F : Int) (φ : List Nat → List Nat) (κ : List Nat → Int) (a : List (Int × List Nat × Int)) : Prop := ∀ t ∈ a, okD (φ t.2.1) ∧ isS n.toNat (φ t.2.1) = true ∧ -F ≤ t.2.2 * κ t.2.1 ∧ t.2.2 * κ t.2.1 ≤ F
theorem qru.take {n F : Int} {φ : List Nat → List Nat} {κ : List Nat → Int} {a : List (Int × List Nat × Int)} (h : qru n F φ κ a) (i : Nat) : qru n F φ κ (a.take i) := fun t ht => h t (List.mem_of_mem_take ht)
theorem K1 {p n F : Int} {φ : List Nat → List Nat} {κ : List Nat → Int} (hp : 0 < p) : ∀ {a acc : List (Int × List Nat × Int)}, j0 p n acc → qru n F φ κ a → j0 p n (chP p n φ κ acc a) ∧ (chP p n φ κ acc a).length ≤ acc.length + a.length
  | [], acc, h, _ => ⟨h, by simp [chP]⟩
  | t :: b, acc, h, hb => by
    obtain ⟨h1, h3, h4⟩ := hb t (List.mem_cons_self ..)
    have h5 := qhu (k := t.2.2 * κ t.2.1) hp h1 h3 h
    have h6 := qm2 (p := p) (n := n) (m := φ t.2.1) (k := t.2.2 * κ t.2.1) (ts := acc)
    have := K1 hp (a := b) h5 fun u hu => hb u (List.mem_cons_of_mem _ hu)
    refine ⟨this.1, ?_⟩
    have h7 := this.2
    have h3 : chP p n φ κ acc (t :: b) = chP p n φ κ (yp p acc n (φ t.2.1) (t.2.2 * κ t.2.1)) b := rfl
    rw [h3, List.length_cons]; omega
theorem quk {p n : Int} {φ : List Nat → List Nat} {κ : List Nat → Int} {m : List Nat} : ∀ {a acc : List (Int × List Nat × Int)}, (∀ t ∈ acc, t.1 = n) → p ∣ cf m (chP p n φ κ acc a) - (cf m acc + qlf φ κ m a)
  | [], acc, h => by simp [chP, qlf]
  | t :: b, acc, h => by
    have ih := quk (p := p) (φ := φ) (κ := κ) (m := m) (a := b) (qpq (p := p) (m := φ t.2.1) (k := t.2.2 * κ t.2.1) h)
    have h1 := qpv (p := p) (k := t.2.2 * κ t.2.1) (m := m) (m' := φ t.2.1) h
    have e : chP p n φ κ acc (t :: b) = chP p n φ κ (yp p acc n (φ t.2.1) (t.2.2 * κ t.2.1)) b := rfl
    rw [e]
    refine kz ih h1 ?_
    rw [qlf]
    omega
def bt (p c : Int) : Nat → Int
  | 0 => 1
  | k + 1 => (bt p c k * c).emod p
theorem qju {p c : Int} (hp : 2 ≤ p) : ∀ k, 0 ≤ bt p c k ∧ bt p c k ≤ p - 1
  | 0 => by unfold bt; omega
  | k + 1 => by
    have h1 := Int.emod_nonneg (bt p c k * c) (show p ≠ 0 by omega)
    have h2 := Int.emod_lt_of_pos (bt p c k * c) (show 0 < p by omega)
    show 0 ≤ (bt p c k * c) % p ∧ (bt p c k * c) % p ≤ p - 1
    omega
theorem pow_mul {p c x : Int} (hp : 2 ≤ p ∧ p ≤ 97) (hc : 0 ≤ c ∧ c ≤ p - 1) (hx : 0 ≤ x ∧ x ≤ p - 1) : q7 .i64 (x * c) = x * c ∧ Int.tmod (x * c) p = (x * c).emod p ∧ 0 ≤ x * c ∧ x * c ≤ 9216 := by
  have h0 : 0 ≤ x * c := Int.mul_nonneg hx.1 hc.1
  have h1 : x * c ≤ 96 * 96 := Int.mul_le_mul (by omega) (by omega) hc.1 (by omega)
  exact ⟨wrap64 (by omega) (by omega), Int.tmod_eq_emod_of_nonneg h0, h0, by omega⟩
def X1 : AC := .seq (.seq (.region [oM 10 2,oK 11 .gtr 10 0]) (.cond 11 .skip (.exit 0))) (.seq (.block 1 (.region [oM 14 7,oM 15 1,oP 16 .mul 14 15,oM 17 0,oP 18 .rem 16 17,oM 7 18])) (.region [oM 12 2,oK 13 .sub 12 1,oM 2 13]))
def Y4 : AC := .seq (.region [oM 19 7,oM 6 19]) .ret
def qat : AC := .seq (.region [oI 6 0]) (.seq (.region [oM 8 0,o0 9 (.bin .rem (.c (.int .i64 1)) (.t 8)),oM 7 9]) (.seq (.block 0 (.loop X1)) Y4))
theorem qiz : xa Try.prog 83 = some ⟨20, qat, [.slot 6]⟩ := by kernel_rfl
theorem qi8 (p c : Int) (K : Nat) (hp : 2 ≤ p ∧ p ≤ 97) (hc : 0 ≤ c ∧ c ≤ p - 1) (hK : K ≤ 1000000) : Am.Fn Try.prog 83 [.int .i64 p, .int .i64 c, .int .i64 K] [] (fun v H' => v = .int .i64 (bt p c K) ∧ H' = []) := by
  refine Am.Fn.vb (R := fun v => v = _) qn7 mixed qiz (by simp) (by simp) ?_
  have hne : p ≠ 0 := by omega
  have h1 : Int.tmod 1 p = 1 := Int.tmod_eq_of_lt (by omega) (by omega)
  simp (maxSteps := 3000000) only [qf, zH, qat, hne, h1, iE, iN, iB, iC, iL, iD, iA, iS, iM, qa, zZ, ↓qp, ↓reduceIte, reduceCtorEq, nA, nM, nS, nE, nL, nD]; try simp only [qa, zY]
  refine WA.vc qn7 (fun s => ∃ j : Nat, j ≤ K ∧ s = ⟨[(7, .int .i64 (bt p c j)), (2, .int .i64 ((K - j : Nat) : Int)), (1, .int .i64 c), (0, .int .i64 p)], []⟩)
    (fun s => match get s.env 2 with | .int _ x => x.toNat | _ => 0) ⟨_, q6.za [7, 2, 1, 0], 0, by omega, rfl⟩ ?_
  rintro s ⟨j, hj, rfl⟩
  by_cases hlt : j < K
  · have hli : (0 : Int) < ((K - j : Nat) : Int) := by omega
    obtain ⟨m1, m2, m3, m4⟩ := pow_mul hp hc (qju (c := c) hp.1 j)
    have hw : q7 .i64 (((K - j : Nat) : Int) - 1) = ((K - (j + 1) : Nat) : Int) := by rw [wrap64 (by omega) (by omega)]; omega
    have hnext : (bt p c j * c).emod p = bt p c (j + 1) := rfl
    simp (maxSteps := 3000000) only [qf, zH, X1, hli, m1, m2, hw, hne, hnext, iE, iN, iB, iC, iL, iD, iA, iS, iM, qa, zZ, ↓qp, ↓reduceIte, reduceCtorEq, nA, nM, nS, nE, nL, nD]; try simp only [qa, zY]
    refine ⟨_, q6.za [7, 2, 1, 0], ⟨j + 1, by omega, ?_⟩, ?_⟩
    · simp only [zL, ↓reduceIte, reduceCtorEq, nE, nA]
    · simp only [zL, ↓reduceIte, reduceCtorEq, nE, nA]; omega
  · have hli : ¬ (0 : Int) < ((K - j : Nat) : Int) := by omega
    obtain rfl : j = K := by omega
    simp (maxSteps := 3000000) only [qf, zH, X1, Y4, hli, iE, iN, iB, iC, iL, iD, iA, iS, iM, qa, zZ, ↓qp, ↓reduceIte, reduceCtorEq, nA, nM, nS, nE, nL, nD]; try simp only [qa, zY]
def Y3 : List AV → Option AV
  | [.int .i64 p, .int .i64 c, .int .i64 k] => chk (((2 ≤ p ∧ p ≤ 97) ∧ (0 ≤ c ∧ c ≤ p - 1)) ∧ 0 ≤ k ∧ k ≤ 1000000) (some (.int .i64 (bt p c k.toNat)))
  | _ => none
theorem qwy : Am.Callee Try.prog 83 (qu Y3) := Am.Callee.plain fun xs v he => by
  unfold Y3 at he
  split at he
  · rename_i p c k
    obtain ⟨⟨⟨h1, h2⟩, h3⟩, he⟩ := qo he
    cases he
    obtain ⟨K, rfl⟩ : ∃ K : Nat, k = K := ⟨k.toNat, by omega⟩
    rw [Int.toNat_natCast]
    exact ⟨rfl, rfl, qi8 p c K h1 h2 (by omega)⟩
  · cases he
def B53 : xh := (B39.put 83 (qu Y3))
theorem qfj : zf Try.prog B53 := (qn7.put (qwy))
theorem Kn {n : Int} {m : List Nat} : List.take 1 (dia n m) = [.int .i64 n] := rfl
theorem Jf {x : Nat} (h : x < 16) : ((0 : Int) ≤ (x : Int) ∧ (x : Int) < ((16 : Nat) : Int)) ∧ 1 + x < 17 := by omega
theorem Bw {l l' : List AV} (hl : AV.zr l = true) (hl' : AV.zr l' = true) {env : Env} {hp : List AO} {s t j : Nat} {e : Int} (h0 : hp[0]? = some (.ro l)) (h1 : hp[1]? = some (.ro l')) (hs : get env s = .ptr j 0) (hj : hp[j]? = some qbt) (ht : get env t = .int .i64 e) (hst : s ≠ t) :
    ∃ s', q6 2 ⟨env, hp⟩ s' ∧ Ret [.kl s 4, .slot t] [.ro l, .ro l'] (fun v H' => v = .tup [elemV 0 0 0 2 0, .int .i64 e] ∧ H' = [.ro l, .ro l', .vec 18 []]) s' := by
  have hj0 : 0 ≠ j := fun e => by subst e; rw [h0] at hj; cases hj
  have hj1 : 1 ≠ j := fun e => by subst e; rw [h1] at hj; cases hj
  have hk := q6.xy (n0 := 2) (e := env) (hp := hp) [0, 1, j] [s, t] ⟨⟨by simp, rfl, by simp [hj0, hj1]⟩, fun i hi => by
    simp only [List.mem_cons, List.not_mem_nil, or_false] at hi
    rcases hi with rfl | rfl | rfl
    · rw [h0]; exact qd _ _ hl
    · rw [h1]; exact qd _ _ hl'
    · rw [hj]; rfl⟩ fun u hu => by
    simp only [List.mem_cons, List.not_mem_nil, or_false] at hu
    rcases hu with rfl | rfl
    · rw [hs]; simp [AV.within]
    · rw [ht]; rfl
  have e1 : Ww [0, 1, j] env [s, t] = [(s, .ptr 2 0), (t, .int .i64 e)] := by
    simp only [Ww, List.map_cons, List.map_nil, hs, ht, AV.ren, qai, pos, if_neg hj0, if_neg hj1, if_true, Nat.zero_add, Nat.add_zero]
  have e2 : ze [0, 1, j] hp = [.ro l, .ro l', qbt] := by
    simp only [ze, List.map_cons, List.map_nil, h0, h1, hj, AO.ren, qc _ _ hl, qc _ _ hl']
    rfl
  rw [e1, e2] at hk
  have hn := q6.qyy (n0 := 2) (hp := [.ro l, .ro l', qbt]) (e := [(s, .ptr 2 0), (t, .int .i64 e)]) 2 3 18 rfl rfl (by simp) (fun p hp => by
    simp only [List.mem_cons, List.not_mem_nil, or_false] at hp
    rcases hp with rfl | rfl
    · simp [AV.under]
    · trivial) (fun o ho => by
    simp only [List.mem_cons, List.not_mem_nil, or_false] at ho
    rcases ho with rfl | rfl | rfl
    · exact qk _ _ hl
    · exact qk _ _ hl'
    · exact ⟨trivial, trivial, trivial, trivial, trivial⟩)
  refine ⟨_, q6.trans hk hn, ?_⟩
  refine Ret.xy [0, 1, 3] ⟨⟨by simp, rfl, by decide⟩, ?_⟩ (rs := [.agg [.int .i64 0, .int .i64 0, .int .i64 0, .slc 3 0 0 false 0], .int .i64 e]) ?_ rfl (by simp [xj]) ?_ ⟨?_, ?_⟩
  · intro i hi
    simp only [List.mem_cons, List.not_mem_nil, or_false] at hi
    rcases hi with rfl | rfl | rfl
    · exact qd _ _ hl
    · exact qd _ _ hl'
    · rfl
  · have hts : t ≠ s := fun e => hst e.symm
    simp [Vg, Am.get, xf, hst, hts, qg, ev, rd, chk]
  · intro i m; match i with
    | 0 => exact fun _ => ⟨_, rfl⟩
    | 1 => exact fun _ => ⟨_, rfl⟩
    | 2 => simp [ze, AO.ren]
    | i + 3 => simp [ze]
  · simp only [xj]
    rfl
  · simp [ze, AO.ren, qc _ _ hl, qc _ _ hl', AV.zz]
theorem qjm {l l' L : List AV} (hl : AV.zr l = true) (hl' : AV.zr l' = true) (hL : AV.zr L = true) {env : Env} {hp : List AO} {s t j b k : Nat} {p c n e : Int} (h0 : hp[0]? = some (.ro l)) (h1 : hp[1]? = some (.ro l')) (hs : get env s = .ptr j 0)
    (hj : hp[j]? = some (.cells [.int .i64 p, .int .i64 c, .int .i64 n, .slc b 0 k false 0])) (hb : hp[b]? = some (.vec 18 L)) (ht : get env t = .int .i64 e) :
    Ret [.kl s 4, .slot t] [.ro l, .ro l'] (fun v H' => v = .tup [elemV p c n 2 k, .int .i64 e] ∧ H' = [.ro l, .ro l', .vec 18 L]) ⟨env, hp⟩ := by
  have hb0 : 0 ≠ b := fun e => by subst e; rw [h0] at hb; cases hb
  have hb1 : 1 ≠ b := fun e => by subst e; rw [h1] at hb; cases hb
  refine Ret.xy [0, 1, b] ⟨⟨by simp, rfl, by simp [hb0, hb1]⟩, ?_⟩ (rs := [.agg [.int .i64 p, .int .i64 c, .int .i64 n, .slc b 0 k false 0], .int .i64 e]) ?_ (by simp [xj, AV.within, AV.x6]) (by simp [xj]) ?_ ⟨?_, ?_⟩
  · intro i hi
    simp only [List.mem_cons, List.not_mem_nil, or_false] at hi
    rcases hi with rfl | rfl | rfl
    · rw [h0]; exact qd _ _ hl
    · rw [h1]; exact qd _ _ hl'
    · rw [hb]; exact qd _ _ hL
  · simp [Vg, hs, ht, qg, ev, rd, hj, chk]
  · intro i m; match i with
    | 0 => exact fun _ => ⟨_, rfl⟩
    | 1 => exact fun _ => ⟨_, rfl⟩
    | 2 => simp [ze, hb, AO.ren]
    | i + 3 => simp [ze]
  · simp only [xj, AV.ren, AV.zz, qai, pos, if_neg hb0, if_neg hb1, if_true]
    rfl
  · simp [ze, h0, h1, hb, AO.ren, qc _ _ hl, qc _ _ hl', qc _ _ hL]
def ju (p c n : Int) (a : List (Int × List Nat × Int)) (p' c' n' : Int) (b : List (Int × List Nat × Int)) : Int :=
  if j7 p c n a = false ∨ j7 p' c' n' b = false then 1 else if ¬ (p = p' ∧ c = c' ∧ n = n') then 2 else 0
theorem wb : B53 48 = some (jn) := rfl
theorem u4 : B53 68 = some (jn) := rfl
def ke : AC := .seq (.region [o0 2 (.box (.t 0)),o0 3 (.box (.t 1)),oI 4 0]) (.seq (.block 0 (.seq (.region [oN 6 4 2,oC 7 68 [.t 6],o0 8 (.un .not (.t 7)),oM 9 8,oG 10 9 false (.kx 4 (.t 3)),⟨some 11,some (9,false),.call (.c (.fn 68 [] [])) [.t 10]⟩,oG 12 9 false (.un .not (.t 11)),o0 13 (.pick (.t 9) (.c (.bool true)) (.t 12)),oM 5 13]) (.cond 5 (.seq (.region [oI 4 1]) .ret) (.seq (.region [oF 15 0 2,oL 16 15,oF 17 0 3,oL 18 17,oP 19 .neq 16 18,oM 20 19,oG 21 20 false (.vi 1 (.t 2)),oG 22 20 false (.vv (.t 21)),oG 23 20 false (.vi 1 (.t 3)),oG 24 20 false (.vv (.t 23)),oG 25 20 false (.bin .neq (.t 22) (.t 24)),o0 26 (.pick (.t 20) (.c (.bool true)) (.t 25)),oM 27 26,oG 28 27 false (.vi 2 (.t 2)),oG 29 27 false (.vv (.t 28)),oG 30 27 false (.vi 2 (.t 3)),oG 31 27 false (.vv (.t 30)),oG 32 27 false (.bin .neq (.t 29) (.t 31)),o0 33 (.pick (.t 27) (.c (.bool true)) (.t 32)),oM 14 33]) (.cond 14 (.seq (.region [oI 4 2]) .ret) .skip))))) (.seq (.region [oI 4 0]) .ret))
theorem qmm : xa Try.prog 76 = some ⟨34, ke, [.slot 4]⟩ := by kernel_rfl
theorem qky (p c n p' c' n' : Int) (a b : List (Int × List Nat × Int)) (ha : okT a) (hb : okT b) (hl : a.length ≤ 1100000 ∧ b.length ≤ 1100000) :
    Am.Fn Try.prog 76 [elemV p c n 0 a.length, elemV p' c' n' 1 b.length] [.ro (qn a), .ro (qn b)] (fun v H' => v = .int .i64 (ju p c n a p' c' n' b) ∧ H' = [.ro (qn a), .ro (qn b)]) := by
  refine Am.Fn.vb (R := fun v => v = _) qfj mixed qmm (by simp [elemV, AV.q8, AV.under]) (b9 (qb _) (qb _)) ?_
  have hal := qm ha
  have hbl := qm hb
  have hta := z6 ha
  have htb := z6 hb
  have hl1 : a.length ≤ 1000000000 := by omega
  have hl2 : b.length ≤ 1000000000 := by omega
  cases hE : j7 p c n a with
  | false =>
    have e : ju p c n a p' c' n' b = 1 := by unfold ju; rw [if_pos (.inl hE)]
    simp (maxSteps := 3000000) only [qf, zH, ke, wb, u4, jn, elemV, hal, hbl, hta, htb, hl1, hl2, hE, e, iE, iN, iB, iC, iL, iD, iA, iS, iM, qa, zZ, ↓qp, ↓reduceIte, reduceCtorEq, nA, nM, nS, nE, nL, nD]; try simp only [qa, zY]
    exact ⟨_, rfl⟩
  | true =>
    cases hE2 : j7 p' c' n' b with
    | false =>
      have e : ju p c n a p' c' n' b = 1 := by unfold ju; rw [if_pos (.inr hE2)]
      simp (maxSteps := 3000000) only [qf, zH, ke, wb, u4, jn, elemV, hal, hbl, hta, htb, hl1, hl2, hE, hE2, e, iE, iN, iB, iC, iL, iD, iA, iS, iM, qa, zZ, ↓qp, ↓reduceIte, reduceCtorEq, nA, nM, nS, nE, nL, nD]; try simp only [qa, zY]
      exact ⟨_, rfl⟩
    | true =>
      have e0 : ¬ (j7 p c n a = false ∨ j7 p' c' n' b = false) := by rw [hE, hE2]; simp
      by_cases h1 : p = p'
      · have q1 : (p != p') = false := by simp [h1]
        by_cases h2 : c = c'
        · have q2 : (c != c') = false := by simp [h2]
          by_cases h3 : n = n'
          · have q3 : (n != n') = false := by simp [h3]
            have e : ju p c n a p' c' n' b = 0 := by unfold ju; rw [if_neg e0, if_neg (fun h => h ⟨h1, h2, h3⟩)]
            simp (maxSteps := 3000000) only [qf, zH, ke, wb, u4, jn, elemV, hal, hbl, hta, htb, hl1, hl2, hE, hE2, q1, q2, q3, e, iE, iN, iB, iC, iL, iD, iA, iS, iM, qa, zZ, ↓qp, ↓reduceIte, reduceCtorEq, nA, nM, nS, nE, nL, nD]; try simp only [qa, zY]
            exact ⟨_, rfl⟩
          · have q3 : (n != n') = true := by simp [h3]
            have e : ju p c n a p' c' n' b = 2 := by unfold ju; rw [if_neg e0, if_pos (fun h => h3 h.2.2)]
            simp (maxSteps := 3000000) only [qf, zH, ke, wb, u4, jn, elemV, hal, hbl, hta, htb, hl1, hl2, hE, hE2, q1, q2, q3, e, iE, iN, iB, iC, iL, iD, iA, iS, iM, qa, zZ, ↓qp, ↓reduceIte, reduceCtorEq, nA, nM, nS, nE, nL, nD]; try simp only [qa, zY]
            exact ⟨_, rfl⟩
        · have q2 : (c != c') = true := by simp [h2]
          have e : ju p c n a p' c' n' b = 2 := by unfold ju; rw [if_neg e0, if_pos (fun h => h2 h.2.1)]
          simp (maxSteps := 3000000) only [qf, zH, ke, wb, u4, jn, elemV, hal, hbl, hta, htb, hl1, hl2, hE, hE2, q1, q2, e, iE, iN, iB, iC, iL, iD, iA, iS, iM, qa, zZ, ↓qp, ↓reduceIte, reduceCtorEq, nA, nM, nS, nE, nL, nD]; try simp only [qa, zY]
          exact ⟨_, rfl⟩
      · have q1 : (p != p') = true := by simp [h1]
        have e : ju p c n a p' c' n' b = 2 := by unfold ju; rw [if_neg e0, if_pos (fun h => h1 h.1)]
        simp (maxSteps := 3000000) only [qf, zH, ke, wb, u4, jn, elemV, hal, hbl, hta, htb, hl1, hl2, hE, hE2, q1, e, iE, iN, iB, iC, iL, iD, iA, iS, iM, qa, zZ, ↓qp, ↓reduceIte, reduceCtorEq, nA, nM, nS, nE, nL, nD]; try simp only [qa, zY]
        exact ⟨_, rfl⟩
def gh : BE := fun hp xs => match xs with
  | [.agg [.int .i64 p, .int .i64 c, .int .i64 n, .slc b 0 la false 0], .agg [.int .i64 p', .int .i64 c', .int .i64 n', .slc b' 0 lb false 0]] => match rd hp b, rd hp b' with
    | some L, some L' => match Qa la L, Qa lb L' with
      | some ta, some tb => chk (la ≤ 1100000 ∧ lb ≤ 1100000) (some (.int .i64 (ju p c n ta p' c' n' tb), hp))
      | _, _ => none
    | _, _ => none
  | _ => none
theorem qyp : Am.Callee Try.prog 76 gh := Callee.fp fun hp xs v hp' he => by
  unfold gh at he
  split at he
  · rename_i p c n b la p' c' n' b' lb
    split at he
    · rename_i L L' hL hL'
      split at he
      · rename_i ta tb h1 h1'
        obtain ⟨⟨a1, a2⟩, he2⟩ := qo he
        simp only [Option.some.injEq, Prod.mk.injEq] at he2
        obtain ⟨rfl, rfl⟩ := he2
        obtain ⟨e1, e2, e3, e4⟩ := xl h1
        obtain ⟨f1, f2, f3, f4⟩ := xl h1'
        have g1 := qm e2
        have g2 := qm f2
        refine ⟨[(b, 0), (b', 0)], [elemV p c n 0 ta.length, elemV p' c' n' 1 tb.length], _, _, _, qky p c n p' c' n' ta tb e2 f2 (by omega), by simp [elemV, AV.ren, AV.zz, ofL, e1, f1], rfl,
          ⟨⟨L, hL, by omega, by rw [List.drop_zero, qc _ _ (qb _), g1, e1]; exact e3⟩, ⟨L', hL', by omega, by rw [List.drop_zero, qc _ _ (qb _), g2, f1]; exact f3⟩, trivial⟩, rfl,
          ⟨qk _ _ (qb _), qk _ _ (qb _), trivial⟩, ⟨⟨trivial, trivial, trivial, by simp [AV.under], trivial⟩, ⟨trivial, trivial, trivial, by simp [AV.under], trivial⟩, trivial⟩, by simp [AV.ren], ?_⟩
        simp [after, upd, AO.wr]
      · cases he
    · cases he
  · cases he
def V7 : AC := .seq (.region [oB 4 false]) (.seq (.draw false [oM 5 0,o0 6 (.vr (.t 5)),oF 7 0 6,oL 8 7,oM 9 1,o0 10 (.vr (.t 9)),oF 11 0 10,oL 12 11,oP 13 .eql 8 12,oM 14 13,oG 15 14 true (.mov (.t 0)),oG 16 14 true (.vr (.t 15)),oG 17 14 true (.vi 1 (.t 16)),oG 18 14 true (.vv (.t 17)),oG 19 14 true (.mov (.t 1)),oG 20 14 true (.vr (.t 19)),oG 21 14 true (.vi 1 (.t 20)),oG 22 14 true (.vv (.t 21)),oG 23 14 true (.bin .eql (.t 18) (.t 22)),o0 24 (.pick (.t 14) (.t 23) (.c (.bool false))),oM 25 24,oG 26 25 true (.mov (.t 0)),oG 27 25 true (.vr (.t 26)),oG 28 25 true (.vi 2 (.t 27)),oG 29 25 true (.vv (.t 28)),oG 30 25 true (.mov (.t 1)),oG 31 25 true (.vr (.t 30)),oG 32 25 true (.vi 2 (.t 31)),oG 33 25 true (.vv (.t 32)),oG 34 25 true (.bin .eql (.t 29) (.t 33)),o0 35 (.pick (.t 25) (.t 34) (.c (.bool false))),oM 4 35]) .ret)
theorem qq1 : xa Try.prog 118 = some ⟨36, V7, [.slot 4]⟩ := by kernel_rfl
theorem qwr (p c n p' c' n' : Int) : Am.Fn Try.prog 118 [.ptr 0 0, .ptr 1 0] [.ro [.int .i64 p, .int .i64 c, .int .i64 n], .ro [.int .i64 p', .int .i64 c', .int .i64 n']] (fun v H' => v = .bool (decide (p = p' ∧ c = c' ∧ n = n')) ∧ H' = [.ro [.int .i64 p, .int .i64 c, .int .i64 n], .ro [.int .i64 p', .int .i64 c', .int .i64 n']]) := by
  refine Am.Fn.vb (R := fun v => v = _) qfj mixed qq1 (by simp [AV.q8, AV.under]) (b9 rfl rfl) ?_
  by_cases h1 : p = p'
  · have q1 : (p == p') = true := by simp [h1]
    by_cases h2 : c = c'
    · have q2 : (c == c') = true := by simp [h2]
      by_cases h3 : n = n'
      · have q3 : (n == n') = true := by simp [h3]
        have e : decide (p = p' ∧ c = c' ∧ n = n') = true := by simp [h1, h2, h3]
        simp (maxSteps := 3000000) only [qf, zH, V7, q1, q2, q3, e, iE, iN, iB, iC, iL, iD, iA, iS, iM, qa, zZ, ↓qp, ↓reduceIte, reduceCtorEq, nA, nM, nS, nE, nL, nD]; try simp only [qa, zY]
        exact ⟨_, rfl⟩
      · have q3 : (n == n') = false := by rw [beq_eq_false_iff_ne]; exact h3
        have e : decide (p = p' ∧ c = c' ∧ n = n') = false := by simp [h3]
        simp (maxSteps := 3000000) only [qf, zH, V7, q1, q2, q3, e, iE, iN, iB, iC, iL, iD, iA, iS, iM, qa, zZ, ↓qp, ↓reduceIte, reduceCtorEq, nA, nM, nS, nE, nL, nD]; try simp only [qa, zY]
        exact ⟨_, rfl⟩
    · have q2 : (c == c') = false := by rw [beq_eq_false_iff_ne]; exact h2
      have e : decide (p = p' ∧ c = c' ∧ n = n') = false := by simp [h2]
      simp (maxSteps := 3000000) only [qf, zH, V7, q1, q2, e, iE, iN, iB, iC, iL, iD, iA, iS, iM, qa, zZ, ↓qp, ↓reduceIte, reduceCtorEq, nA, nM, nS, nE, nL, nD]; try simp only [qa, zY]
      exact ⟨_, rfl⟩
  · have q1 : (p == p') = false := by rw [beq_eq_false_iff_ne]; exact h1
    have e : decide (p = p' ∧ c = c' ∧ n = n') = false := by simp [h1]
    simp (maxSteps := 3000000) only [qf, zH, V7, q1, e, iE, iN, iB, iC, iL, iD, iA, iS, iM, qa, zZ, ↓qp, ↓reduceIte, reduceCtorEq, nA, nM, nS, nE, nL, nD]; try simp only [qa, zY]
    exact ⟨_, rfl⟩
def ko : BE := fun hp xs => match xs with
  | [.ptr b o, .ptr b' o'] => match rd hp b, rd hp b' with
    | some L, some L' => match (L.drop o).take 3, (L'.drop o').take 3 with
      | [.int .i64 p, .int .i64 c, .int .i64 n], [.int .i64 p', .int .i64 c', .int .i64 n'] => some (.bool (decide (p = p' ∧ c = c' ∧ n = n')), hp)
      | _, _ => none
    | _, _ => none
  | _ => none
theorem qcq {α : Type} {L : List α} {o k : Nat} {l : List α} (h : (L.drop o).take k = l) (hk : l.length = k) (h0 : 0 < k) : o + k ≤ L.length := by
  have := congrArg List.length h
  rw [List.length_take, List.length_drop, hk] at this
  omega
theorem qxw : Am.Callee Try.prog 118 ko := Callee.fp fun hp xs v hp' he => by
  unfold ko at he
  split at he
  · rename_i b o b' o'
    split at he
    · rename_i L L' hL hL'
      split at he
      · rename_i p c n p' c' n' h1 h2
        simp only [Option.some.injEq, Prod.mk.injEq] at he
        obtain ⟨rfl, rfl⟩ := he
        refine ⟨[(b, o), (b', o')], [.ptr 0 0, .ptr 1 0], _, _, _, qwr p c n p' c' n', by simp [AV.ren, AV.zz, ofL], rfl, ⟨⟨L, hL, qcq (k := 3) h1 rfl (by decide), by rw [qc _ _ rfl]; exact h1⟩, ⟨L', hL', qcq (k := 3) h2 rfl (by decide), by rw [qc _ _ rfl]; exact h2⟩, trivial⟩, rfl, ⟨⟨trivial, trivial, trivial, trivial⟩, ⟨trivial, trivial, trivial, trivial⟩, trivial⟩, ⟨by simp [AV.under], by simp [AV.under], trivial⟩, by simp [AV.ren], ?_⟩
        simp [after, upd, AO.wr]
      · cases he
    · cases he
  · cases he
theorem qo7 {env : Env} {hp : List AO} {s t j : Nat} {e : Int} (h0 : hp[0]? = some .dead) (hs : get env s = .ptr j 0) (hj : hp[j]? = some qbt) (ht : get env t = .int .i64 e) (hst : s ≠ t) :
    ∃ s', q6 1 ⟨env, hp⟩ s' ∧ Ret [.kl s 4, .slot t] [.dead] (fun v H' => v = .tup [elemV 0 0 0 1 0, .int .i64 e] ∧ H' = [.dead, .vec 18 []]) s' := by
  have hj0 : j ≠ 0 := fun e => by subst e; rw [h0] at hj; cases hj
  have hj0' : 0 ≠ j := fun e => hj0 e.symm
  have hk := q6.xy (n0 := 1) (e := env) (hp := hp) [0, j] [s, t] ⟨⟨by simp, rfl, by simp [hj0']⟩, fun i hi => by
    simp only [List.mem_cons, List.not_mem_nil, or_false] at hi
    rcases hi with rfl | rfl
    · rw [h0]; rfl
    · rw [hj]; rfl⟩ fun u hu => by
    simp only [List.mem_cons, List.not_mem_nil, or_false] at hu
    rcases hu with rfl | rfl
    · rw [hs]; simp [AV.within]
    · rw [ht]; rfl
  have e1 : Ww [0, j] env [s, t] = [(s, .ptr 1 0), (t, .int .i64 e)] := by
    simp only [Ww, List.map_cons, List.map_nil, hs, ht, AV.ren, qai, pos, if_neg hj0', if_true, Nat.zero_add, Nat.add_zero]
  have e2 : ze [0, j] hp = [.dead, qbt] := by
    simp only [ze, List.map_cons, List.map_nil, h0, hj, AO.ren]
    rfl
  rw [e1, e2] at hk
  have hn := q6.qyy (n0 := 1) (hp := [.dead, qbt]) (e := [(s, .ptr 1 0), (t, .int .i64 e)]) 1 3 18 rfl rfl (by simp) (fun p hp => by
    simp only [List.mem_cons, List.not_mem_nil, or_false] at hp
    rcases hp with rfl | rfl
    · simp [AV.under]
    · trivial) (fun o ho => by
    simp only [List.mem_cons, List.not_mem_nil, or_false] at ho
    rcases ho with rfl | rfl
    · trivial
    · exact ⟨trivial, trivial, trivial, trivial, trivial⟩)
  refine ⟨_, q6.trans hk hn, ?_⟩
  refine Ret.xy [0, 2] ⟨⟨by simp, rfl, by decide⟩, ?_⟩ (rs := [.agg [.int .i64 0, .int .i64 0, .int .i64 0, .slc 2 0 0 false 0], .int .i64 e]) ?_ rfl (by simp [xj]) ?_ ⟨?_, ?_⟩
  · intro i hi
    simp only [List.mem_cons, List.not_mem_nil, or_false] at hi
    rcases hi with rfl | rfl
    · rfl
    · rfl
  · have hts : t ≠ s := fun e => hst e.symm
    simp [Vg, Am.get, xf, hst, hts, qg, ev, rd, chk]
  · intro i m; match i with
    | 0 => simp [ze, AO.ren]
    | 1 => simp [ze, AO.ren]
    | i + 2 => simp [ze]
  · simp only [xj]
    rfl
  · simp [ze, AO.ren, AV.zz]
def Be : AC := .seq (.region [o0 1 (.box (.t 0)),o0 2 (.alloc [.int .i64 0,.int .i64 0,.int .i64 0,(.v (.slice none 0 0))]),oI 3 0]) (.seq (.seq (.region [oF 4 3 1,oL 5 4,o0 6 (.len .slc (.t 5)),oK 7 .gtr 6 140]) (.cond 7 (.seq (.region [o0 8 (.build [.int .i64 0,.int .i64 0,.int .i64 0,(.v (.slice none 0 0))] []),oS 4 2 8,oI 3 3]) .ret) .skip)) (.seq (.region [oN 9 4 1,oS 4 2 9,oI 3 0]) .ret))
theorem qkf : xa Try.prog 79 = some ⟨10, Be, [.kl 2 4, .slot 3]⟩ := by kernel_rfl
theorem qsc (p c n : Int) (k : Nat) (hk : k ≤ 1100000) : Am.Fn Try.prog 79 [elemV p c n 0 k] [.dead] (fun v H' => if k ≤ 140 then v = .tup [elemV p c n 0 k, .int .i64 0] ∧ H' = [.dead] else v = .tup [elemV 0 0 0 1 0, .int .i64 3] ∧ H' = [.dead, .vec 18 []]) := by
  refine Am.Fn.ofW qfj mixed qkf (by simp [elemV, AV.q8, AV.under]) (fun j o hj => by
    match j, hj with
    | 0, hj => cases hj; trivial
    | j + 1, hj => simp at hj) ?_
  by_cases hle : k ≤ 140
  · have h1 : ¬ ((140 : Int) < (k : Int)) := by omega
    simp (maxSteps := 3000000) only [qf, zH, Be, elemV, hle, h1, iE, iN, iB, iC, iL, iD, iA, iS, iM, qa, zZ, ↓qp, ↓reduceIte, reduceCtorEq, nA, nM, nS, nE, nL, nD]; try simp only [qa, zY]
    refine ⟨rfl, _, q6.refl _, ?_⟩
    refine Ret.xy [0] ⟨⟨by simp, rfl, by decide⟩, ?_⟩ (rs := [.agg [.int .i64 p, .int .i64 c, .int .i64 n, .slc 0 0 k false 0], .int .i64 0]) rfl rfl (by simp [xj]) ?_ ⟨?_, ?_⟩
    · simp only [AO.within, zK, ↓reduceIte, reduceCtorEq, nE, nB, nA]
    · intro j l; match j with
      | 0 => simp [ze, AO.ren]
      | j + 1 => simp [ze]
    · simp only [xj]
      simp only [zL, ↓reduceIte, reduceCtorEq, nE, nA]
    · simp only [zL, ↓reduceIte, reduceCtorEq, nE, nA]
  · have h1 : ((140 : Int) < (k : Int)) := by omega
    simp (maxSteps := 3000000) only [qf, zH, Be, elemV, hle, h1, iE, iN, iB, iC, iL, iD, iA, iS, iM, qa, zZ, ↓qp, ↓reduceIte, reduceCtorEq, nA, nM, nS, nE, nL, nD]; try simp only [qa, zY]
    exact ⟨rfl, qo7 rfl rfl rfl rfl (by decide)⟩
def Ut : AC := .seq (.region [o0 1 (.box (.t 0)),o0 2 (.alloc [.int .i64 0,.int .i64 0,.int .i64 0,(.v (.slice none 0 0))]),oI 3 0]) (.seq (.seq (.region [oF 4 3 1,oL 5 4,o0 6 (.len .slc (.t 5)),oK 7 .gtr 6 140]) (.cond 7 (.seq (.region [o0 8 (.build [.int .i64 0,.int .i64 0,.int .i64 0,(.v (.slice none 0 0))] []),oS 4 2 8,oI 3 3]) .ret) .skip)) (.seq (.region [oN 9 4 1,oS 4 2 9,oI 3 0]) .ret))
theorem qlb : xa Try.prog 77 = some ⟨10, Ut, [.kl 2 4, .slot 3]⟩ := by kernel_rfl
theorem qy9 (p c n : Int) (k : Nat) (hk : k ≤ 1100000) : Am.Fn Try.prog 77 [elemV p c n 0 k] [.dead] (fun v H' => if k ≤ 140 then v = .tup [elemV p c n 0 k, .int .i64 0] ∧ H' = [.dead] else v = .tup [elemV 0 0 0 1 0, .int .i64 3] ∧ H' = [.dead, .vec 18 []]) := by
  refine Am.Fn.ofW qfj mixed qlb (by simp [elemV, AV.q8, AV.under]) (fun j o hj => by
    match j, hj with
    | 0, hj => cases hj; trivial
    | j + 1, hj => simp at hj) ?_
  by_cases hle : k ≤ 140
  · have h1 : ¬ ((140 : Int) < (k : Int)) := by omega
    simp (maxSteps := 3000000) only [qf, zH, Ut, elemV, hle, h1, iE, iN, iB, iC, iL, iD, iA, iS, iM, qa, zZ, ↓qp, ↓reduceIte, reduceCtorEq, nA, nM, nS, nE, nL, nD]; try simp only [qa, zY]
    refine ⟨rfl, _, q6.refl _, ?_⟩
    refine Ret.xy [0] ⟨⟨by simp, rfl, by decide⟩, ?_⟩ (rs := [.agg [.int .i64 p, .int .i64 c, .int .i64 n, .slc 0 0 k false 0], .int .i64 0]) rfl rfl (by simp [xj]) ?_ ⟨?_, ?_⟩
    · simp only [AO.within, zK, ↓reduceIte, reduceCtorEq, nE, nB, nA]
    · intro j l; match j with
      | 0 => simp [ze, AO.ren]
      | j + 1 => simp [ze]
    · simp only [xj]
      simp only [zL, ↓reduceIte, reduceCtorEq, nE, nA]
    · simp only [zL, ↓reduceIte, reduceCtorEq, nE, nA]
  · have h1 : ((140 : Int) < (k : Int)) := by omega
    simp (maxSteps := 3000000) only [qf, zH, Ut, elemV, hle, h1, iE, iN, iB, iC, iL, iD, iA, iS, iM, qa, zZ, ↓qp, ↓reduceIte, reduceCtorEq, nA, nM, nS, nE, nL, nD]; try simp only [qa, zY]
    exact ⟨rfl, qo7 rfl rfl rfl rfl (by decide)⟩
def Q6 : BE := fun hp xs => match xs with
  | [.agg [.int .i64 p, .int .i64 c, .int .i64 n, .slc b 0 k false 0]] => match hp[b]? with
    | some _ => chk (k ≤ 1100000) (if k ≤ 140 then some (.tup [elemV p c n b k, .int .i64 0], hp) else some (.tup [elemV 0 0 0 hp.length 0, .int .i64 3], hp ++ [.vec 18 []]))
    | none => none
  | _ => none
theorem ql7 {f : FuncId} (h : ∀ p c n k, k ≤ 1100000 → Am.Fn Try.prog f [elemV p c n 0 k] [.dead] (fun v H' => if k ≤ 140 then v = .tup [elemV p c n 0 k, .int .i64 0] ∧ H' = [.dead] else v = .tup [elemV 0 0 0 1 0, .int .i64 3] ∧ H' = [.dead, .vec 18 []])) : Am.Callee Try.prog f Q6 := Callee.fp fun hp xs v hp' he => by
  unfold Q6 at he
  split at he
  · rename_i p c n b k
    split at he
    · rename_i o ho
      obtain ⟨a1, he2⟩ := qo he
      have hb := (List.getElem?_eq_some_iff.1 ho).1
      by_cases hle : k ≤ 140
      · rw [if_pos hle] at he2
        simp only [Option.some.injEq, Prod.mk.injEq] at he2
        obtain ⟨rfl, rfl⟩ := he2
        have hfn := h p c n k a1
        simp only [if_pos hle] at hfn
        refine ⟨[(b, 0)], [elemV p c n 0 k], _, _, _, hfn, by simp [elemV, AV.ren, AV.zz, ofL], rfl, ⟨hb, trivial⟩, rfl, ⟨trivial, trivial⟩, ⟨⟨trivial, trivial, trivial, by simp [AV.under], trivial⟩, trivial⟩, by simp [elemV, AV.ren, AV.zz, Ren.ext, ofL], ?_⟩
        simp [after, upd, AO.wr]
      · rw [if_neg hle] at he2
        simp only [Option.some.injEq, Prod.mk.injEq] at he2
        obtain ⟨rfl, rfl⟩ := he2
        have hfn := h p c n k a1
        simp only [if_neg hle] at hfn
        refine ⟨[(b, 0)], [elemV p c n 0 k], _, _, _, hfn, by simp [elemV, AV.ren, AV.zz, ofL], rfl, ⟨hb, trivial⟩, rfl, ⟨trivial, trivial⟩, ⟨⟨trivial, trivial, trivial, by simp [AV.under], trivial⟩, trivial⟩, by simp [elemV, AV.ren, AV.zz, Ren.ext], ?_⟩
        simp [after, upd, AO.wr, AO.ren, AV.zz]
    · cases he
  · cases he
def B70 : xh := ((((B53.put 76 (gh)).put 118 (ko)).put 79 (Q6)).put 77 (Q6))
theorem qib : zf Try.prog B70 := ((((qfj.put (qyp)).put (qxw)).put (ql7 qsc)).put (ql7 qy9))
theorem jd : B70 48 = some (jn) := rfl
theorem vp : B70 68 = some (jn) := rfl
theorem vl : B70 118 = some (ko) := rfl
abbrev W8 (p c n : Int) (la : Nat) (p' c' n' : Int) (lb : Nat) : List AV := [.int .i64 p, .int .i64 c, .int .i64 n, .slc 1 0 la false 0, .int .i64 p', .int .i64 c', .int .i64 n', .slc 2 0 lb false 0]
def kv : AC := .seq (.region [oP 10 .lss 9 8]) (.seq (.cond 10 .skip (.exit 0)) (.seq (.block 1 (.seq (.region [oX 11 4 7 9,oN 12 4 11,o0 4 (.alloc [.int .i64 0,.int .i64 0,.int .i64 0,(.v (.slice none 0 0))]),oS 4 4 12]) (.seq (.region [oN 13 4 4,oC 14 48 [.t 13],o0 15 (.un .not (.t 14))]) (.cond 15 (.seq (.region [oI 2 1]) .ret) .skip)))) (.region [oK 16 .add 9 1,oM 9 16])))
def Zd : AC := .seq (.region [oP 20 .lss 19 18]) (.seq (.cond 20 .skip (.exit 2)) (.seq (.block 3 (.seq (.region [oX 21 4 17 19,oN 22 4 21,o0 6 (.alloc [.int .i64 0,.int .i64 0,.int .i64 0,(.v (.slice none 0 0))]),oS 4 6 22]) (.seq (.region [oM 23 0,o0 24 (.Zc 4 (.t 23) (.c (.int .i64 0))),oC 25 118 [.t 6,.t 24],o0 26 (.un .not (.t 25))]) (.cond 26 (.seq (.region [oI 2 2]) .ret) .skip)))) (.region [oK 27 .add 19 1,oM 19 27])))
def qal : AC := .seq (.region [oI 2 0]) .ret
def qae : AC := .seq (.seq (.region [oM 17 0,o0 18 (.len .slc (.t 17)),oI 19 0]) (.block 2 (.loop Zd))) qal
def qhy : AC := .seq (.region [oI 2 0]) (.seq (.seq (.region [oM 7 0,o0 8 (.len .slc (.t 7)),oI 9 0]) (.block 0 (.loop kv))) qae)
theorem qr8 : xa Try.prog 78 = some ⟨28, qhy, [.slot 2]⟩ := by kernel_rfl
theorem qwv (p c n p' c' n' : Int) (a b : List (Int × List Nat × Int)) (ha : okT a) (hb : okT b) (hl : a.length ≤ 1100000 ∧ b.length ≤ 1100000) :
    Am.Fn Try.prog 78 [.slc 0 0 2 true 2] [.ro (W8 p c n a.length p' c' n' b.length), .ro (qn a), .ro (qn b)] (fun v H' => v = .int .i64 (ju p c n a p' c' n' b) ∧ H' = [.ro (W8 p c n a.length p' c' n' b.length), .ro (qn a), .ro (qn b)]) := by
  refine Am.Fn.vb (R := fun v => v = _) qib mixed qr8 (by simp [AV.q8, AV.under]) (fun j o hj => by
    match j, hj with
    | 0, hj => cases hj; exact ⟨trivial, trivial, trivial, by simp [AV.under], trivial, trivial, trivial, by simp [AV.under], trivial⟩
    | 1, hj => cases hj; exact qk _ _ (qb _)
    | 2, hj => cases hj; exact qk _ _ (qb _)
    | j + 3, hj => simp at hj) ?_
  have hal := qm ha
  have hbl := qm hb
  have hta := z6 ha
  have htb := z6 hb
  have hl1 : a.length ≤ 1000000000 := by omega
  have hl2 : b.length ≤ 1000000000 := by omega
  simp (maxSteps := 3000000) only [qf, zH, qhy, W8, iE, iN, iB, iC, iL, iD, iA, iS, iM, qa, zZ, ↓qp, ↓reduceIte, reduceCtorEq, nA, nM, nS, nE, nL, nD]; try simp only [qa, zY]
  refine WA.vc qib (fun s => ∃ i : Int, (i = 0 ∨ (i = 1 ∧ j7 p c n a = true) ∨ (i = 2 ∧ j7 p c n a = true ∧ j7 p' c' n' b = true)) ∧ s = ⟨[(9, .int .i64 i), (8, .int .i64 2), (7, .slc 0 0 2 true 2), (0, .slc 0 0 2 true 2)], [.ro (W8 p c n a.length p' c' n' b.length), .ro (qn a), .ro (qn b)]⟩)
    (fun s => match get s.env 9 with | .int _ x => (2 - x).toNat | _ => 0) ⟨_, q6.za [9, 8, 7, 0], 0, .inl rfl, rfl⟩ ?_
  rintro s ⟨i, hi, rfl⟩
  rcases hi with rfl | ⟨rfl, hE⟩ | ⟨rfl, hE, hE2⟩
  · cases hE : j7 p c n a with
    | false =>
      have e : ju p c n a p' c' n' b = 1 := by unfold ju; rw [if_pos (.inl hE)]
      simp (maxSteps := 3000000) only [qf, zH, kv, jd, vp, vl, ko, jn, W8, qf, Int.toNat_zero, Nat.zero_mul, hal, hta, hl1, hE, e, iE, iN, iB, iC, iL, iD, iA, iS, iM, qa, zZ, ↓qp, ↓reduceIte, reduceCtorEq, nA, nM, nS, nE, nL, nD]; try simp only [qa, zY]
      exact ⟨by decide, rfl, ⟨_, rfl⟩⟩
    | true =>
      have hw : q7 .i64 1 = 1 := rfl
      simp (maxSteps := 3000000) only [qf, zH, kv, jd, vp, vl, ko, jn, W8, qf, Int.toNat_zero, Nat.zero_mul, hal, hta, hl1, hE, hw, iE, iN, iB, iC, iL, iD, iA, iS, iM, qa, zZ, ↓qp, ↓reduceIte, reduceCtorEq, nA, nM, nS, nE, nL, nD]; try simp only [qa, zY]
      refine ⟨by decide, rfl, _, q6.xy [0, 1, 2] [9, 8, 7, 0] ⟨by decide, ?_⟩ ?_, ⟨1, .inr (.inl rfl), ?_⟩, ?_⟩
      · simp only [qd _ _ (qb _), zK, ↓reduceIte, reduceCtorEq, nE, nB, nA]
      · simp only [zK, ↓reduceIte, reduceCtorEq, nE, nB, nA]
      · simp only [qc _ _ (qb _), zL, ↓reduceIte, reduceCtorEq, nE, nA]
      · simp only [zL, ↓reduceIte, reduceCtorEq, nE, nA]; decide
  · cases hE2 : j7 p' c' n' b with
    | false =>
      have e : ju p c n a p' c' n' b = 1 := by unfold ju; rw [if_pos (.inr hE2)]
      simp (maxSteps := 3000000) only [qf, zH, kv, jd, vp, vl, ko, jn, W8, qf, Int.toNat_one, Nat.one_mul, hbl, htb, hl2, hE2, e, iE, iN, iB, iC, iL, iD, iA, iS, iM, qa, zZ, ↓qp, ↓reduceIte, reduceCtorEq, nA, nM, nS, nE, nL, nD]; try simp only [qa, zY]
      exact ⟨by decide, rfl, ⟨_, rfl⟩⟩
    | true =>
      have hw : q7 .i64 2 = 2 := rfl
      simp (maxSteps := 3000000) only [qf, zH, kv, jd, vp, vl, ko, jn, W8, qf, Int.toNat_one, Nat.one_mul, hbl, htb, hl2, hE, hE2, hw, iE, iN, iB, iC, iL, iD, iA, iS, iM, qa, zZ, ↓qp, ↓reduceIte, reduceCtorEq, nA, nM, nS, nE, nL, nD]; try simp only [qa, zY]
      refine ⟨by decide, rfl, _, q6.xy [0, 1, 2] [9, 8, 7, 0] ⟨by decide, ?_⟩ ?_, ⟨2, .inr (.inr rfl), ?_⟩, ?_⟩
      · simp only [qd _ _ (qb _), zK, ↓reduceIte, reduceCtorEq, nE, nB, nA]
      · simp only [zK, ↓reduceIte, reduceCtorEq, nE, nB, nA]
      · simp only [qc _ _ (qb _), zL, ↓reduceIte, reduceCtorEq, nE, nA]
      · simp only [zL, ↓reduceIte, reduceCtorEq, nE, nA]; decide
  · have e0 : ¬ (j7 p c n a = false ∨ j7 p' c' n' b = false) := by rw [hE, hE2]; simp
    simp (maxSteps := 3000000) only [qf, zH, kv, qae, jd, vp, vl, ko, jn, W8, iE, iN, iB, iC, iL, iD, iA, iS, iM, qa, zZ, ↓qp, ↓reduceIte, reduceCtorEq, nA, nM, nS, nE, nL, nD]; try simp only [qa, zY]
    refine WA.vc qib (fun s => ∃ i : Int, (i = 0 ∨ i = 1 ∨ (i = 2 ∧ p' = p ∧ c' = c ∧ n' = n)) ∧ s = ⟨[(19, .int .i64 i), (18, .int .i64 2), (17, .slc 0 0 2 true 2), (0, .slc 0 0 2 true 2)], [.ro (W8 p c n a.length p' c' n' b.length), .ro (qn a), .ro (qn b)]⟩)
      (fun s => match get s.env 19 with | .int _ x => (2 - x).toNat | _ => 0) ⟨_, q6.za [19, 18, 17, 0], 0, .inl rfl, rfl⟩ ?_
    rintro s ⟨i, hi, rfl⟩
    rcases hi with rfl | rfl | ⟨rfl, h1, h2, h3⟩
    · have hw : q7 .i64 1 = 1 := rfl
      have hy : decide (p = p ∧ c = c ∧ n = n) = true := by simp
      simp (maxSteps := 3000000) only [qf, zH, Zd, jd, vp, vl, ko, jn, W8, qf, Int.toNat_zero, Nat.zero_mul, hw, hy, iE, iN, iB, iC, iL, iD, iA, iS, iM, qa, zZ, ↓qp, ↓reduceIte, reduceCtorEq, nA, nM, nS, nE, nL, nD]; try simp only [qa, zY]
      refine ⟨by decide, rfl, by decide, _, q6.xy [0, 1, 2] [19, 18, 17, 0] ⟨by decide, ?_⟩ ?_, ⟨1, .inr (.inl rfl), ?_⟩, ?_⟩
      · simp only [qd _ _ (qb _), zK, ↓reduceIte, reduceCtorEq, nE, nB, nA]
      · simp only [zK, ↓reduceIte, reduceCtorEq, nE, nB, nA]
      · simp only [qc _ _ (qb _), zL, ↓reduceIte, reduceCtorEq, nE, nA]
      · simp only [zL, ↓reduceIte, reduceCtorEq, nE, nA]; decide
    · by_cases hy : p' = p ∧ c' = c ∧ n' = n
      · have hy' : decide (p' = p ∧ c' = c ∧ n' = n) = true := decide_eq_true hy
        have hw : q7 .i64 2 = 2 := rfl
        simp (maxSteps := 3000000) only [qf, zH, Zd, jd, vp, vl, ko, jn, W8, qf, Int.toNat_one, Nat.one_mul, Int.toNat_zero, Nat.zero_mul, hw, hy', iE, iN, iB, iC, iL, iD, iA, iS, iM, qa, zZ, ↓qp, ↓reduceIte, reduceCtorEq, nA, nM, nS, nE, nL, nD]; try simp only [qa, zY]
        refine ⟨by decide, rfl, by decide, _, q6.xy [0, 1, 2] [19, 18, 17, 0] ⟨by decide, ?_⟩ ?_, ⟨2, .inr (.inr ⟨rfl, hy⟩), ?_⟩, ?_⟩
        · simp only [qd _ _ (qb _), zK, ↓reduceIte, reduceCtorEq, nE, nB, nA]
        · simp only [zK, ↓reduceIte, reduceCtorEq, nE, nB, nA]
        · simp only [qc _ _ (qb _), zL, ↓reduceIte, reduceCtorEq, nE, nA]
        · simp only [zL, ↓reduceIte, reduceCtorEq, nE, nA]; decide
      · have hy' : decide (p' = p ∧ c' = c ∧ n' = n) = false := decide_eq_false hy
        have e : ju p c n a p' c' n' b = 2 := by unfold ju; rw [if_neg e0, if_pos (fun h => hy ⟨h.1.symm, h.2.1.symm, h.2.2.symm⟩)]
        simp (maxSteps := 3000000) only [qf, zH, Zd, jd, vp, vl, ko, jn, W8, qf, Int.toNat_one, Nat.one_mul, Int.toNat_zero, Nat.zero_mul, hy', e, iE, iN, iB, iC, iL, iD, iA, iS, iM, qa, zZ, ↓qp, ↓reduceIte, reduceCtorEq, nA, nM, nS, nE, nL, nD]; try simp only [qa, zY]
        exact ⟨by decide, rfl, by decide, ⟨_, rfl⟩⟩
    · have e : ju p c n a p' c' n' b = 0 := by unfold ju; rw [if_neg e0, if_neg (fun h => h ⟨h1.symm, h2.symm, h3.symm⟩)]
      simp (maxSteps := 3000000) only [qf, zH, Zd, qal, jd, vp, vl, ko, jn, W8, e, iE, iN, iB, iC, iL, iD, iA, iS, iM, qa, zZ, ↓qp, ↓reduceIte, reduceCtorEq, nA, nM, nS, nE, nL, nD]; try simp only [qa, zY]
      exact ⟨_, rfl⟩
def yr : BE := fun hp xs => match xs with
  | [.slc b 0 2 true 2] => match rd hp b with
    | some [.int .i64 p, .int .i64 c, .int .i64 n, .slc b1 0 la false 0, .int .i64 p', .int .i64 c', .int .i64 n', .slc b2 0 lb false 0] => match rd hp b1, rd hp b2 with
      | some L, some L' => match Qa la L, Qa lb L' with
        | some ta, some tb => chk (la ≤ 1100000 ∧ lb ≤ 1100000) (some (.int .i64 (ju p c n ta p' c' n' tb), hp))
        | _, _ => none
      | _, _ => none
    | _ => none
  | _ => none
theorem qxk : Am.Callee Try.prog 78 yr := Callee.fp fun hp xs v hp' he => by
  unfold yr at he
  split at he
  · rename_i b
    split at he
    · rename_i p c n b1 la p' c' n' b2 lb hL0
      split at he
      · rename_i L L' hL hL'
        split at he
        · rename_i ta tb h1 h1'
          obtain ⟨⟨a1, a2⟩, he2⟩ := qo he
          simp only [Option.some.injEq, Prod.mk.injEq] at he2
          obtain ⟨rfl, rfl⟩ := he2
          obtain ⟨e1, e2, e3, e4⟩ := xl h1
          obtain ⟨f1, f2, f3, f4⟩ := xl h1'
          have g1 := qm e2
          have g2 := qm f2
          refine ⟨[(b, 0), (b1, 0), (b2, 0)], [.slc 0 0 2 true 2], _, _, _, qwv p c n p' c' n' ta tb e2 f2 (by omega), by simp [AV.ren, AV.zz, ofL], rfl,
            ⟨⟨_, hL0, by simp, by simp [AV.zz, AV.ren, ofL, e1, f1]⟩, ⟨L, hL, by omega, by rw [List.drop_zero, qc _ _ (qb _), g1, e1]; exact e3⟩, ⟨L', hL', by omega, by rw [List.drop_zero, qc _ _ (qb _), g2, f1]; exact f3⟩, trivial⟩, rfl,
            ⟨⟨trivial, trivial, trivial, by simp [AV.under], trivial, trivial, trivial, by simp [AV.under], trivial⟩, qk _ _ (qb _), qk _ _ (qb _), trivial⟩, ⟨by simp [AV.under], trivial⟩, by simp [AV.ren], ?_⟩
          simp [after, upd, AO.wr]
        · cases he
      · cases he
    · cases he
  · cases he
def B79 : xh := (B70.put 78 (yr))
theorem qoy : zf Try.prog B79 := (qib.put (qxk))
def qo6 (l l' : List AV) (r : ER) (v : AV) (H' : List AO) : Prop :=
  v = .tup [elemV r.1 r.2.1 r.2.2.1 2 r.2.2.2.1.length, .int .i64 r.2.2.2.2] ∧ H' = [.ro l, .ro l', .vec 18 (qn r.2.2.2.1)]
def yg (R : Int → Int → Int → List (Int × List Nat × Int) → Int → Int → Int → List (Int × List Nat × Int) → ER) : BE := fun hp xs => match xs with
  | [.agg [.int .i64 p, .int .i64 c, .int .i64 n, .slc b 0 la false 0], .agg [.int .i64 p', .int .i64 c', .int .i64 n', .slc b' 0 lb false 0]] => match rd hp b, rd hp b' with
    | some L, some L' => match Qa la L, Qa lb L' with
      | some ta, some tb => chk (la ≤ 1100000 ∧ lb ≤ 1100000) (some (.tup [elemV (R p c n ta p' c' n' tb).1 (R p c n ta p' c' n' tb).2.1 (R p c n ta p' c' n' tb).2.2.1 hp.length (R p c n ta p' c' n' tb).2.2.2.1.length, .int .i64 (R p c n ta p' c' n' tb).2.2.2.2], hp ++ [.vec 18 (qn (R p c n ta p' c' n' tb).2.2.2.1)]))
      | _, _ => none
    | _, _ => none
  | _ => none
theorem qx6 {f : FuncId} {R : Int → Int → Int → List (Int × List Nat × Int) → Int → Int → Int → List (Int × List Nat × Int) → ER} (h : ∀ p c n p' c' n' a b, okT a → okT b → a.length ≤ 1100000 ∧ b.length ≤ 1100000 → Am.Fn Try.prog f [elemV p c n 0 a.length, elemV p' c' n' 1 b.length] [.ro (qn a), .ro (qn b)] (qo6 (qn a) (qn b) (R p c n a p' c' n' b))) : Am.Callee Try.prog f (yg R) := Callee.fp fun hp xs v hp' he => by
  unfold yg at he
  split at he
  · rename_i p c n b la p' c' n' b' lb
    split at he
    · rename_i L L' hL hL'
      split at he
      · rename_i ta tb h1 h1'
        obtain ⟨⟨a1, a2⟩, he2⟩ := qo he
        simp only [Option.some.injEq, Prod.mk.injEq] at he2
        obtain ⟨rfl, rfl⟩ := he2
        obtain ⟨e1, e2, e3, e4⟩ := xl h1
        obtain ⟨f1, f2, f3, f4⟩ := xl h1'
        have g1 := qm e2
        have g2 := qm f2
        have hfn := h p c n p' c' n' ta tb e2 f2 (by omega)
        unfold qo6 at hfn
        refine ⟨[(b, 0), (b', 0)], [elemV p c n 0 ta.length, elemV p' c' n' 1 tb.length], _, _, _, hfn, by simp [elemV, AV.ren, AV.zz, ofL, e1, f1], rfl,
          ⟨⟨L, hL, by omega, by rw [List.drop_zero, qc _ _ (qb _), g1, e1]; exact e3⟩, ⟨L', hL', by omega, by rw [List.drop_zero, qc _ _ (qb _), g2, f1]; exact f3⟩, trivial⟩, rfl,
          ⟨qk _ _ (qb _), qk _ _ (qb _), trivial⟩, ⟨⟨trivial, trivial, trivial, by simp [AV.under], trivial⟩, ⟨trivial, trivial, trivial, by simp [AV.under], trivial⟩, trivial⟩, by simp [elemV, AV.ren, AV.zz, Ren.ext], ?_⟩
        simp [after, upd, AO.wr, AO.ren, qc _ _ (qb _)]
      · cases he
    · cases he
  · cases he
def K4 (p c n : Int) (L : List (Int × List Nat × Int)) : ER := if L.length ≤ 140 then (p, c, n, L, 0) else (0, 0, 0, [], 3)
theorem qb0 {p c n p' c' n' : Int} {a b : List (Int × List Nat × Int)} (h : ju p c n a p' c' n' b = 0) : (j7 p c n a = true ∧ j7 p' c' n' b = true) ∧ p' = p ∧ c' = c ∧ n' = n := by
  unfold ju at h
  split at h
  · cases h
  · rename_i h1
    split at h
    · cases h
    · rename_i h2
      have h2' : p = p' ∧ c = c' ∧ n = n' := Classical.byContradiction fun x => h2 x
      refine ⟨⟨?_, ?_⟩, h2'.1.symm, h2'.2.1.symm, h2'.2.2.symm⟩
      · cases hh : j7 p c n a with
        | true => rfl
        | false => exact absurd (.inl hh) h1
      · cases hh : j7 p' c' n' b with
        | true => rfl
        | false => exact absurd (.inr hh) h1
theorem W9 {a b c d e f g h x y z w : AV} : over [a, b, c, d, e, f, g, h] 0 [x, y, z, w] = [x, y, z, w, e, f, g, h] := rfl
theorem Yp {a b c d e f g h x y z w : AV} : over [a, b, c, d, e, f, g, h] 4 [x, y, z, w] = [a, b, c, d, x, y, z, w] := rfl
theorem qim {p c n : Int} {L : List (Int × List Nat × Int)} (h : okT L) : qzr (K4 p c n L) := by
  unfold K4
  split
  · rename_i hle; exact ⟨h, by simp only; omega⟩
  · exact ⟨(fun t h => by cases h), by simp⟩
structure qqb (H : List AO) (X Y : AV) (ts us : List (Int × List Nat × Int)) : Prop where
  x : ∀ rest, Xs (H ++ rest) X = some ts
  y : ∀ rest, Xs (H ++ rest) Y = some us
  ok : okT ts ∧ okT us
  un : ∀ (j : Nat) (o : AO), H[j]? = some o → o.under H.length
  ux : X.under H.length ∧ Y.under H.length
  sh : (H = [] ∧ X = .v (.slice none 0 0) ∧ Y = .v (.slice none 0 0)) ∨
    (∃ (o : AO) (nx cx : Nat), H = [o] ∧ X = .slc 0 0 nx true cx ∧ Y = .v (.slice none 0 0) ∧ (∀ ids, o.within ids = true) ∧ ∀ ρ, o.ren ρ = o) ∨
    (∃ (o : AO) (ny cy : Nat), H = [o] ∧ X = .v (.slice none 0 0) ∧ Y = .slc 0 0 ny true cy ∧ (∀ ids, o.within ids = true) ∧ ∀ ρ, o.ren ρ = o) ∨
    ∃ (o o' : AO) (nx cx ny cy : Nat), H = [o, o'] ∧ X = .slc 0 0 nx true cx ∧ Y = .slc 1 0 ny true cy ∧ (∀ ids, o.within ids = true) ∧ (∀ ρ, o.ren ρ = o) ∧ (∀ ids, o'.within ids = true) ∧ ∀ ρ, o'.ren ρ = o'
theorem qqb.h {H : List AO} {X Y : AV} {ts us : List (Int × List Nat × Int)} (a : qqb H X Y ts us) : H = [] ∨ (∃ o, H = [o]) ∨ ∃ o o', H = [o, o'] := by
  rcases a.sh with ⟨rfl, _⟩ | ⟨o, _, _, rfl, _⟩ | ⟨o, _, _, rfl, _⟩ | ⟨o, o', _, _, _, _, rfl, _⟩
  · exact .inl rfl
  · exact .inr (.inl ⟨_, rfl⟩)
  · exact .inr (.inl ⟨_, rfl⟩)
  · exact .inr (.inr ⟨_, _, rfl⟩)
theorem exists_least {p : Nat → Prop} (h : ∃ k, p k) : ∃ k, p k ∧ ∀ j, p j → k ≤ j := by
  obtain ⟨k, hk⟩ := h
  induction k using Nat.strongRecOn with
  | ind k ih =>
    by_cases hj : ∃ j, j < k ∧ p j
    · obtain ⟨j, h1, h2⟩ := hj; exact ih j h1 h2
    · exact ⟨k, hk, fun j h2 => Nat.le_of_not_lt fun h1 => hj ⟨j, h1, h2⟩⟩
open Classical in
noncomputable def qji (J : Nat → St → Prop) (s : St) : Nat := if h : ∃ k, J k s then Classical.choose (exists_least h) else 0
theorem qhx {J : Nat → St → Prop} {s : St} (h : ∃ k, J k s) : J (qji J s) s ∧ ∀ j, J j s → qji J s ≤ j := by
  unfold qji; rw [dif_pos h]; exact Classical.choose_spec (exists_least h)
theorem qs9 {B : xh} (hB : zf Try.prog B) {n0 nt : Nat} {Q : AX → St → Prop} {s : St} {a : AC} (J : Nat → St → Prop) (h0 : ∃ s', q6 n0 s s' ∧ ∃ k, J k s')
    (round : ∀ k s, J k s → ∀ (post : St → Prop), (∀ s' s'' k', q6 n0 s' s'' → J k' s'' → k' < k → post s') → wbC Try.prog B n0 nt a (AX.then post Q) s) : WA Try.prog n0 nt (.loop a) Q s := by
  refine WA.vc hB (fun s => ∃ k, J k s) (qji J) h0 fun s hs => ?_
  obtain ⟨h1, h2⟩ := qhx hs
  exact round _ s h1 _ fun s' s'' k' hw hj hlt => ⟨s'', hw, ⟨k', hj⟩, Nat.lt_of_le_of_lt ((qhx ⟨k', hj⟩).2 k' hj) hlt⟩
def bls (l : List Bool) : List AV := l.map .bool
theorem w9 (l : List Bool) : (bls l).length = l.length := by simp [bls]
theorem wx (l : List Bool) : AV.zr (bls l) = true := by
  induction l with
  | nil => rfl
  | cons a l ih => simp only [bls, List.map_cons, AV.zr, AV.xd, Bool.true_and]; exact ih
theorem qp5 {l : List Bool} {i : Nat} (h : i < l.length) : (bls l)[i]? = some (.bool (l.getD i false)) := by
  simp [bls, List.getD_eq_getElem?_getD, h]
theorem qdz {l : List Bool} {i : Nat} {b : Bool} : (bls l).set i (.bool b) = bls (l.set i b) := by simp [bls, List.map_set]
theorem Vx {x : Nat} (h : x < 8) : ((0 : Int) ≤ (x : Int) ∧ (x : Int) < ((8 : Nat) : Int)) := by omega
def ba : AC := .seq (.region [oM 18 2,oF 19 1 5,o0 20 (.jl 16 1 (.t 19) (.t 18)),oL 21 20,o0 22 (.conv .i64 (.t 21)),oM 13 22]) (.seq (.seq (.region [oM 23 13,oM 24 12,oP 25 .lss 23 24]) (.cond 25 (.seq (.region [oM 26 13,oM 10 26,oB 11 true]) .ret) .skip)) (.seq (.region [oM 27 4,oM 28 13,oM 29 12,oP 30 .sub 28 29,o0 31 (.vr (.t 27)),o0 32 (.jl 8 1 (.t 31) (.t 30)),⟨none,none,.op (.Zz (.t 32) (.c (.bool true)))⟩]) (.seq (.region [oM 33 13,oM 34 12,oP 35 .sub 33 34,oM 2 35]) (.seq (.region [oB 3 false]) (.exit 1)))))
def bd : AC := .block 1 (.seq (.seq (.region [oM 17 3]) (.cond 17 ba .skip)) (.seq (.region [oM 36 2,oF 37 1 6,o0 38 (.jl 16 1 (.t 37) (.t 36)),oL 39 38,o0 40 (.conv .i64 (.t 39)),oM 14 40]) (.seq (.seq (.region [oM 41 14,oM 42 12,oP 43 .geq 41 42]) (.cond 43 (.seq (.region [oM 44 14,oM 10 44,oB 11 false]) .ret) .skip)) (.seq (.region [oM 45 4,oM 46 14,o0 47 (.vr (.t 45)),o0 48 (.jl 8 1 (.t 47) (.t 46)),⟨none,none,.op (.Zz (.t 48) (.c (.bool true)))⟩]) (.seq (.region [oM 49 12,oM 50 14,oP 51 .add 49 50,oM 2 51]) (.region [oB 3 true]))))))
def G8 : AC := .seq (.region [o0 5 (.box (.t 0)),o0 6 (.box (.t 1)),oI 10 0,oB 11 false]) (.seq (.region [oF 15 0 5,oL 16 15,oM 12 16]) (.block 0 (.loop bd)))
theorem qgs : xa Try.prog 143 = some ⟨52, G8, [.slot 10, .slot 11]⟩ := by kernel_rfl
theorem qg2 (N : Nat) (d e : List Nat) (hd : okD d) (he : okD e) (hds : isS N d = true) (hes : isS N e = true) {f : Nat} {u : Bool} {i : Nat} {met : List Bool} {r : Nat} {s : Bool} {met' : List Bool} (hf : xg N d e f u i met = some (r, s, met')) (hi : i < 2 * N) (hm : met.length = 8) :
    Am.Fn Try.prog 143 [.agg (dia N d), .agg (dia N e), .int .i64 i, .bool u, .ptr 0 0] [.cells (bls met)] (fun v H' => v = .tup [.int .i64 r, .bool s] ∧ H' = [.cells (bls met')]) := by
  refine Am.Fn.ofB qoy mixed qgs (by simp [AV.q8, AV.under, qk _ _ (qh _ _)]) (fun j o hj => by
    match j, hj with
    | 0, hj => cases hj; exact qk _ _ (wx _)
    | j + 1, hj => simp at hj) ?_
  obtain ⟨hN, hpd, _⟩ := jw hds
  obtain ⟨_, hpe, _⟩ := jw hes
  have hdl := hd.1
  have hel := he.1
  simp (maxSteps := 3000000) only [qf, zH, G8, qa, qe, hdl, hel, wm, iE, iN, iB, iC, iL, iD, iA, iS, iM, qa, zZ, ↓qp, ↓reduceIte, reduceCtorEq, nA, nM, nS, nE, nL, nD]; try simp only [qa, zY]
  refine qs9 qoy (fun f st => ∃ (u : Bool) (i : Nat) (met : List Bool), xg N d e f u i met = some (r, s, met') ∧ i < 2 * N ∧ met.length = 8 ∧
      st = ⟨[(12, .int .i64 N), (6, .ptr 2 0), (5, .ptr 1 0), (4, .ptr 0 0), (3, .bool u), (2, .int .i64 i)], [.cells (bls met), .cells (dia N d), .cells (dia N e)]⟩) ⟨_, q6.za [12, 6, 5, 4, 3, 2], f, u, i, met, hf, hi, hm, rfl⟩ ?_
  clear hf hi hm
  rintro k st ⟨u, i, met, hf, hi, hm, rfl⟩ post hpost
  obtain ⟨hi16, hi16'⟩ := Jf (show i < 16 by omega)
  have hi17 : i < 16 := by omega
  match k, u, hf with
  | 0, _, hf => simp [xg] at hf
  | f + 1, true, hf =>
    have hx := (hpd i hi).1
    have hcx : q7 .i64 ((d.getD i 0 : Nat) : Int) = ((d.getD i 0 : Nat) : Int) := ue (by omega)
    rw [xg] at hf
    by_cases hlt : d.getD i 0 < N
    · rw [if_pos hlt] at hf
      simp only [Option.some.injEq, Prod.mk.injEq] at hf
      obtain ⟨rfl, rfl, rfl⟩ := hf
      have hli : ((d.getD i 0 : Nat) : Int) < (N : Int) := by omega
      simp (maxSteps := 3000000) only [qf, zH, bd, ba, hi16, hi16', hi17, qe, hdl, hel, hcx, hli, iE, iN, iB, iC, iL, iD, iA, iS, iM, qa, zZ, ↓qp, ↓reduceIte, reduceCtorEq, nA, nM, nS, nE, nL, nD]; try simp only [qa, zY]
      refine Ret.xy [0] ⟨⟨Nat.le_refl 1, rfl, by decide⟩, ?_⟩ (rs := [.int .i64 (d.getD i 0 : Nat), .bool true]) rfl rfl (by simp [xj]) ?_ ⟨?_, ?_⟩
      · simp only [qd _ _ (wx _), zK, ↓reduceIte, reduceCtorEq, nE, nB, nA]
      · intro j l; cases j <;> simp [ze, AO.ren]
      · rfl
      · simp only [qc _ _ (wx _), zL, ↓reduceIte, reduceCtorEq, nE, nA]
    · rw [if_neg hlt] at hf
      have hli : ¬ ((d.getD i 0 : Nat) : Int) < (N : Int) := by omega
      have hsub : q7 .i64 (((d.getD i 0 : Nat) : Int) - (N : Int)) = ((d.getD i 0 - N : Nat) : Int) := by rw [wrap64 (by omega) (by omega)]; omega
      have h8 := Vx (show d.getD i 0 - N < 8 by omega)
      have h8' : d.getD i 0 - N < 8 := by omega
      simp (maxSteps := 3000000) only [qf, zH, bd, ba, hi16, hi16', hi17, qe, hdl, hel, hcx, hli, hsub, h8, h8', w9, hm, qdz, AV.one, iE, iN, iB, iC, iL, iD, iA, iS, iM, qa, zZ, ↓qp, ↓reduceIte, reduceCtorEq, nA, nM, nS, nE, nL, nD]; try simp only [qa, zY]
      exact hpost _ _ f (q6.za [12, 6, 5, 4, 3, 2]) ⟨false, d.getD i 0 - N, _, hf, by omega, by simp [hm], rfl⟩ (Nat.lt_succ_self _)
  | f + 1, false, hf =>
    have hx := (hpe i hi).1
    have hcx : q7 .i64 ((e.getD i 0 : Nat) : Int) = ((e.getD i 0 : Nat) : Int) := ue (by omega)
    rw [xg] at hf
    by_cases hlt : N ≤ e.getD i 0
    · rw [if_pos hlt] at hf
      simp only [Option.some.injEq, Prod.mk.injEq] at hf
      obtain ⟨rfl, rfl, rfl⟩ := hf
      have hli : (N : Int) ≤ ((e.getD i 0 : Nat) : Int) := by omega
      simp (maxSteps := 3000000) only [qf, zH, bd, ba, hi16, hi16', hi17, qe, hdl, hel, hcx, hli, iE, iN, iB, iC, iL, iD, iA, iS, iM, qa, zZ, ↓qp, ↓reduceIte, reduceCtorEq, nA, nM, nS, nE, nL, nD]; try simp only [qa, zY]
      refine Ret.xy [0] ⟨⟨Nat.le_refl 1, rfl, by decide⟩, ?_⟩ (rs := [.int .i64 (e.getD i 0 : Nat), .bool false]) rfl rfl (by simp [xj]) ?_ ⟨?_, ?_⟩
      · simp only [qd _ _ (wx _), zK, ↓reduceIte, reduceCtorEq, nE, nB, nA]
      · intro j l; cases j <;> simp [ze, AO.ren]
      · rfl
      · simp only [qc _ _ (wx _), zL, ↓reduceIte, reduceCtorEq, nE, nA]
    · rw [if_neg hlt] at hf
      have hli : ¬ (N : Int) ≤ ((e.getD i 0 : Nat) : Int) := by omega
      have hadd : q7 .i64 ((N : Int) + ((e.getD i 0 : Nat) : Int)) = ((N + e.getD i 0 : Nat) : Int) := by rw [wrap64 (by omega) (by omega)]; rfl
      have h8 := Vx (show e.getD i 0 < 8 by omega)
      have h8' : e.getD i 0 < 8 := by omega
      simp (maxSteps := 3000000) only [qf, zH, bd, ba, hi16, hi16', hi17, qe, hdl, hel, hcx, hli, hadd, h8, h8', w9, hm, qdz, AV.one, iE, iN, iB, iC, iL, iD, iA, iS, iM, qa, zZ, ↓qp, ↓reduceIte, reduceCtorEq, nA, nM, nS, nE, nL, nD]; try simp only [qa, zY]
      exact hpost _ _ f (q6.za [12, 6, 5, 4, 3, 2]) ⟨true, N + e.getD i 0, _, hf, by omega, by simp [hm], rfl⟩ (Nat.lt_succ_self _)
def Vn : List AV → Option (List Bool)
  | [] => some []
  | .bool b :: l => (Vn l).map (b :: ·)
  | _ => none
theorem U2 : ∀ l, Vn (bls l) = some l
  | [] => rfl
  | b :: l => by
    have := U2 l
    simp only [bls] at this
    simp only [bls, List.map_cons, Vn, this, Option.map_some]
theorem Yc : ∀ {l : List AV} {m : List Bool}, Vn l = some m → l = bls m
  | [], m, h => by simp only [Vn, Option.some.injEq] at h; subst h; rfl
  | .bool b :: l, m, h => by
    simp only [Vn, Option.map_eq_some_iff] at h
    obtain ⟨m', h1, rfl⟩ := h
    rw [Yc h1]; rfl
noncomputable def km : BE := fun hp xs => match xs with
  | [.agg ld, .agg le, .int .i64 i, .bool u, .ptr b 0] => match hp[b]? with
    | some (.cells lm) => match gq ld, gq le, Vn lm with
      | some (n, d), some (n', e), some met => chk (((n' = n ∧ 0 ≤ n) ∧ isS n.toNat d = true ∧ isS n.toNat e = true) ∧ (0 ≤ i ∧ i < 2 * n) ∧ met.length = 8 ∧ u = decide (i < n)) (some (.tup [.int .i64 (pr n.toNat d e i.toNat : Nat), .bool (decide (pr n.toNat d e i.toNat < n.toNat))], hp.set b (.cells (bls (fol n.toNat d e u i.toNat met)))))
      | _, _, _ => none
    | _ => none
  | _ => none
theorem qs6 : Am.Callee Try.prog 143 km := Callee.fp fun hp xs v hp' he => by
  unfold km at he
  split at he
  · rename_i ld le i u b
    split at he
    · rename_i lm hb
      split at he
      · rename_i n d n' e met hd1 he1 hm1
        obtain ⟨⟨⟨⟨a1, a2⟩, a3, a4⟩, a5, a6, a7⟩, he2⟩ := qo he
        simp only [Option.some.injEq, Prod.mk.injEq] at he2
        obtain ⟨rfl, rfl⟩ := he2
        obtain ⟨rfl, hd⟩ := xk hd1
        obtain ⟨rfl, he'⟩ := xk he1
        have hbl := Yc hm1
        subst hbl; subst a1
        obtain ⟨N, rfl⟩ : ∃ N : Nat, n' = N := ⟨n'.toNat, by omega⟩
        obtain ⟨k, rfl⟩ : ∃ k : Nat, i = k := ⟨i.toNat, by omega⟩
        simp only [Int.toNat_natCast] at a3 a4 ⊢
        have hu : u = decide (k < N) := by rw [a7]; congr 1; exact propext (by omega)
        subst hu
        obtain ⟨f, met', hf⟩ := V8 a3 a4 (i := k) (by omega) met
        have hfo := qfl hf
        refine ⟨[(b, 0)], [.agg (dia N d), .agg (dia N e), .int .i64 k, .bool (decide (k < N)), .ptr 0 0], _, _, _, qg2 N d e hd he' a3 a4 hf (by omega) a6, by simp [AV.ren, AV.zz, ofL, qc _ _ (qh _ _)], by simp [vn], ⟨⟨rfl, by simp only [AO.ren, qc _ _ (wx _)]; exact hb⟩, trivial⟩, rfl, ⟨qk _ _ (wx _), trivial⟩, ⟨qk _ _ (qh _ _), qk _ _ (qh _ _), trivial, trivial, by simp [AV.under], trivial⟩, by simp [AV.ren, AV.zz], ?_⟩
        simp [after, upd, AO.wr, AO.ren, qc _ _ (wx _), hfo]
      · cases he
    · cases he
  · cases he
noncomputable def B80 : xh := (B79.put 143 (km))
theorem qbx : zf Try.prog B80 := (qoy.put (qs6))
def Zf (l : List AV) : Nat := l.countP fun v => match v with | .bool false => true | _ => false
theorem Yk : ∀ {met : List Bool} {k : Nat}, k < met.length → met.getD k false = false → Zf (bls (met.set k true)) < Zf (bls met)
  | b :: l, 0, _, h => by
    simp only [List.getD_cons_zero] at h
    subst h
    simp [Zf, bls]
  | b :: l, k + 1, hk, h => by
    have ih := Yk (met := l) (k := k) (by simpa using hk) (by simpa using h)
    simp only [Zf, bls] at ih
    simp only [Zf, bls, List.set_cons_succ, List.map_cons, List.countP_cons]
    omega
theorem qhg : ∀ {met : List Bool} {k : Nat}, Zf (bls (met.set k true)) ≤ Zf (bls met)
  | [], k => by simp [Zf, bls]
  | b :: l, 0 => by cases b <;> simp [Zf, bls]
  | b :: l, k + 1 => by
    have ih := qhg (met := l) (k := k)
    simp only [Zf, bls] at ih
    simp only [Zf, bls, List.set_cons_succ, List.map_cons, List.countP_cons]
    omega
theorem U3 {n : Nat} {d e : List Nat} {r : Nat × Bool × List Bool} : ∀ {f : Nat} {u : Bool} {i : Nat} {met : List Bool}, xg n d e f u i met = some r → r.2.2.length = met.length
  | 0, _, _, _, h => by simp [xg] at h
  | f + 1, true, i, met, h => by
    rw [xg] at h
    split at h
    · cases h; rfl
    · rw [U3 h, List.length_set]
  | f + 1, false, i, met, h => by
    rw [xg] at h
    split at h
    · cases h; rfl
    · rw [U3 h, List.length_set]
theorem qpd {n : Nat} {d e : List Nat} (hd : isS n d = true) (he : isS n e = true) {i : Nat} {u : Bool} (hi : i < 2 * n) (hu : u = decide (i < n)) (met : List Bool) : (fol n d e u i met).length = met.length := by
  subst hu
  obtain ⟨f, met', h⟩ := V8 hd he hi met
  rw [qfl h]; exact U3 h
def InL (n : Nat) (d e : List Nat) (f g : Nat → Nat) (i x : Nat) (met : List Bool) : Prop :=
  met.length = 8 ∧ ((x = i ∧ ∀ y, mt met y ↔ Seen n d e i y) ∨ ∃ (T : Nat → Prop) (last : Nat), qdj (XX n d e) f g i T last ∧ x = g last ∧ ∀ y, mt met y ↔ Seen n d e i y ∨ T y)
theorem qv1 {n : Nat} {d e : List Nat} {f g : Nat → Nat} (hf : Inv (XX n d e) f) (hg : Inv (XX n d e) g) (hn : n ≤ 8) {i x : Nat} {met : List Bool} (hi : i < n) (h0 : ¬ Seen n d e i i) (h : InL n d e f g i x met) (hx : ¬ mt met x) :
    XX n d e x ∧ XX n d e (f x) ∧ InL n d e f g i (g (f x)) ((met.set x true).set (f x) true) := by
  have hX : XX n d e i := ⟨hi, fun h => h0 (.inl h)⟩
  obtain ⟨hl, h⟩ := h
  have mt2 : ∀ {x y z : Nat}, x < n → y < n → (mt ((met.set x true).set y true) z ↔ z = y ∨ z = x ∨ mt met z) := fun {x y z} h1 h2 => by
    rw [gg (by rw [List.length_set]; omega), gg (by omega)]
  rcases h with ⟨rfl, hm⟩ | ⟨T, last, hT, rfl, hm⟩
  · have hfx := hf.mem _ hX
    refine ⟨hX, hfx, by rw [List.length_set, List.length_set]; exact hl, .inr ⟨_, _, qdj.start hf hX, rfl, fun y => ?_⟩⟩
    rw [mt2 hX.1 hfx.1, hm]
    constructor
    · rintro (h | h | h)
      · exact .inr (.inr h)
      · exact .inr (.inl h)
      · exact .inl h
    · rintro (h | h | h)
      · exact .inr (.inr h)
      · exact .inr (.inl h)
      · exact .inl h
  · have hT' : ¬ T (g last) := fun h => hx ((hm _).2 (.inr h))
    have hgl := hg.mem _ (Ring.mem hf hg hX (hT.ring _ hT.lm))
    have hfx := hf.mem _ hgl
    refine ⟨hgl, hfx, by rw [List.length_set, List.length_set]; exact hl, .inr ⟨_, _, (hT.next hf hg hX hT').1, rfl, fun y => ?_⟩⟩
    rw [mt2 hgl.1 hfx.1, hm]
    constructor
    · rintro (h | h | h | h)
      · exact .inr (.inr (.inl h))
      · exact .inr (.inl h)
      · exact .inl h
      · exact .inr (.inr (.inr h))
    · rintro (h | h | h | h)
      · exact .inr (.inr (.inl h))
      · exact .inr (.inl h)
      · exact .inl h
      · exact .inr (.inr (.inr h))
theorem qvc {n : Nat} {d e : List Nat} (hd : isS n d = true) (he : isS n e = true) {f g : Nat → Nat} (hf : Inv (XX n d e) f) (hg : Inv (XX n d e) g) (hR : ∀ i x, Ring f g i x ↔ Ring (dm n d) (em e) i x) {i x : Nat} {met : List Bool} (hi : i < n) (h0 : ¬ Seen n d e i i) (h : InL n d e f g i x met) (hx : mt met x) :
    ∀ y, mt met y ↔ Seen n d e (i + 1) y := by
  have hX : XX n d e i := ⟨hi, fun h => h0 (.inl h)⟩
  intro y
  rw [qmt hi h0]
  obtain ⟨hl, ⟨rfl, hm⟩ | ⟨T, last, hT, rfl, hm⟩⟩ := h
  · exact absurd ((hm _).1 hx) h0
  · have hr : Ring f g i (g last) := .two (hT.ring _ hT.lm)
    have hT' : T (g last) := ((hm _).1 hx).resolve_left (Yt hd he hi h0 ((hR _ _).1 hr))
    have hs := (hT.stop hf hg hX hT').2
    rw [hm, hs, hR]
theorem vd : B80 143 = some (km) := rfl
def Y1 : AT := (.one (oF 17 0 2) (.one (oL 18 17) (.one (o0 19 (.build [(.bool false),(.bool false),(.bool false),(.bool false),(.bool false),(.bool false),(.bool false),(.bool false)] [])) (.one (oF 20 0 2) (.alt (oL 21 20) (.one (o0 22 (.build [.int .i64 0,.int .u8 0,.int .u8 0,.int .u8 0,.int .u8 0,.int .u8 0,.int .u8 0,.int .u8 0,.int .u8 0,.int .u8 0,.int .u8 0,.int .u8 0,.int .u8 0,.int .u8 0,.int .u8 0,.int .u8 0,.int .u8 0] [(0,1,.t 21)])) (.alt (o0 7 (.alloc [(.bool false),(.bool false),(.bool false),(.bool false),(.bool false),(.bool false),(.bool false),(.bool false)])) (.one (o0 8 (.alloc [.int .i64 0,.int .u8 0,.int .u8 0,.int .u8 0,.int .u8 0,.int .u8 0,.int .u8 0,.int .u8 0,.int .u8 0,.int .u8 0,.int .u8 0,.int .u8 0,.int .u8 0,.int .u8 0,.int .u8 0,.int .u8 0,.int .u8 0])) (.one (oM 6 18) (.one (oS 8 7 19) (.one (oS 17 8 22) (.nil))))) (.alt (o0 8 (.alloc [.int .i64 0,.int .u8 0,.int .u8 0,.int .u8 0,.int .u8 0,.int .u8 0,.int .u8 0,.int .u8 0,.int .u8 0,.int .u8 0,.int .u8 0,.int .u8 0,.int .u8 0,.int .u8 0,.int .u8 0,.int .u8 0,.int .u8 0])) (.one (o0 7 (.alloc [(.bool false),(.bool false),(.bool false),(.bool false),(.bool false),(.bool false),(.bool false),(.bool false)])) (.one (oM 6 18) (.one (oS 8 7 19) (.one (oS 17 8 22) (.nil))))) (.none)))) (.alt (o0 7 (.alloc [(.bool false),(.bool false),(.bool false),(.bool false),(.bool false),(.bool false),(.bool false),(.bool false)])) (.alt (oL 21 20) (.one (o0 22 (.build [.int .i64 0,.int .u8 0,.int .u8 0,.int .u8 0,.int .u8 0,.int .u8 0,.int .u8 0,.int .u8 0,.int .u8 0,.int .u8 0,.int .u8 0,.int .u8 0,.int .u8 0,.int .u8 0,.int .u8 0,.int .u8 0,.int .u8 0] [(0,1,.t 21)])) (.one (o0 8 (.alloc [.int .i64 0,.int .u8 0,.int .u8 0,.int .u8 0,.int .u8 0,.int .u8 0,.int .u8 0,.int .u8 0,.int .u8 0,.int .u8 0,.int .u8 0,.int .u8 0,.int .u8 0,.int .u8 0,.int .u8 0,.int .u8 0,.int .u8 0])) (.one (oM 6 18) (.one (oS 8 7 19) (.one (oS 17 8 22) (.nil)))))) (.alt (o0 8 (.alloc [.int .i64 0,.int .u8 0,.int .u8 0,.int .u8 0,.int .u8 0,.int .u8 0,.int .u8 0,.int .u8 0,.int .u8 0,.int .u8 0,.int .u8 0,.int .u8 0,.int .u8 0,.int .u8 0,.int .u8 0,.int .u8 0,.int .u8 0])) (.one (oM 6 18) (.alt (oL 21 20) (.one (o0 22 (.build [.int .i64 0,.int .u8 0,.int .u8 0,.int .u8 0,.int .u8 0,.int .u8 0,.int .u8 0,.int .u8 0,.int .u8 0,.int .u8 0,.int .u8 0,.int .u8 0,.int .u8 0,.int .u8 0,.int .u8 0,.int .u8 0,.int .u8 0] [(0,1,.t 21)])) (.one (oS 8 7 19) (.one (oS 17 8 22) (.nil)))) (.alt (oS 8 7 19) (.one (oL 21 20) (.one (o0 22 (.build [.int .i64 0,.int .u8 0,.int .u8 0,.int .u8 0,.int .u8 0,.int .u8 0,.int .u8 0,.int .u8 0,.int .u8 0,.int .u8 0,.int .u8 0,.int .u8 0,.int .u8 0,.int .u8 0,.int .u8 0,.int .u8 0,.int .u8 0] [(0,1,.t 21)])) (.one (oS 17 8 22) (.nil)))) (.none)))) (.none))) (.alt (o0 8 (.alloc [.int .i64 0,.int .u8 0,.int .u8 0,.int .u8 0,.int .u8 0,.int .u8 0,.int .u8 0,.int .u8 0,.int .u8 0,.int .u8 0,.int .u8 0,.int .u8 0,.int .u8 0,.int .u8 0,.int .u8 0,.int .u8 0,.int .u8 0])) (.alt (oL 21 20) (.one (o0 22 (.build [.int .i64 0,.int .u8 0,.int .u8 0,.int .u8 0,.int .u8 0,.int .u8 0,.int .u8 0,.int .u8 0,.int .u8 0,.int .u8 0,.int .u8 0,.int .u8 0,.int .u8 0,.int .u8 0,.int .u8 0,.int .u8 0,.int .u8 0] [(0,1,.t 21)])) (.one (o0 7 (.alloc [(.bool false),(.bool false),(.bool false),(.bool false),(.bool false),(.bool false),(.bool false),(.bool false)])) (.one (oM 6 18) (.one (oS 8 7 19) (.one (oS 17 8 22) (.nil)))))) (.alt (o0 7 (.alloc [(.bool false),(.bool false),(.bool false),(.bool false),(.bool false),(.bool false),(.bool false),(.bool false)])) (.one (oM 6 18) (.alt (oL 21 20) (.one (o0 22 (.build [.int .i64 0,.int .u8 0,.int .u8 0,.int .u8 0,.int .u8 0,.int .u8 0,.int .u8 0,.int .u8 0,.int .u8 0,.int .u8 0,.int .u8 0,.int .u8 0,.int .u8 0,.int .u8 0,.int .u8 0,.int .u8 0,.int .u8 0] [(0,1,.t 21)])) (.one (oS 8 7 19) (.one (oS 17 8 22) (.nil)))) (.alt (oS 8 7 19) (.one (oL 21 20) (.one (o0 22 (.build [.int .i64 0,.int .u8 0,.int .u8 0,.int .u8 0,.int .u8 0,.int .u8 0,.int .u8 0,.int .u8 0,.int .u8 0,.int .u8 0,.int .u8 0,.int .u8 0,.int .u8 0,.int .u8 0,.int .u8 0,.int .u8 0,.int .u8 0] [(0,1,.t 21)])) (.one (oS 17 8 22) (.nil)))) (.none)))) (.none))) (.none))))))))
def Xw : AC := .seq (.seq (.region [oM 23 9,oM 24 6,oP 25 .lss 23 24]) (.cond 25 .skip (.exit 0))) (.seq (.block 1 (.seq (.region [oN 29 17 2,oN 30 17 3,oM 31 9,oC 32 143 [.t 29,.t 30,.t 31,(.c (.bool true)),.t 7],oM 28 32,oE 33 0 28,oE 34 1 28,oM 10 33,oM 11 34]) (.seq (.region [oM 35 9,oM 36 10,o0 37 (.conv .u8 (.t 36)),oF 38 1 8,o0 39 (.jl 16 1 (.t 38) (.t 35)),oT 39 37]) (.seq (.region [oN 41 17 2,oN 42 17 3,oM 43 6,oM 44 9,oP 45 .add 43 44,oC 46 143 [.t 41,.t 42,.t 45,(.c (.bool false)),.t 7],oM 40 46,oE 47 0 40,oE 48 1 40,oM 12 47,oM 13 48]) (.region [oM 49 6,oM 50 9,oP 51 .add 49 50,oM 52 12,o0 53 (.conv .u8 (.t 52)),oF 54 1 8,o0 55 (.jl 16 1 (.t 54) (.t 51)),oT 55 53]))))) (.region [oM 26 9,oK 27 .add 26 1,oM 9 27]))
def X4 : AC := .seq (.seq (.region [oM 67 16,o0 68 (.jl 8 1 (.t 7) (.t 67)),oL 69 68,o0 70 (.un .not (.t 69))]) (.cond 70 .skip (.exit 4))) (.block 5 (.seq (.region [oM 71 16,o0 72 (.jl 8 1 (.t 7) (.t 71)),⟨none,none,.op (.Zz (.t 72) (.c (.bool true)))⟩]) (.seq (.region [oM 73 6,oM 74 16,oP 75 .add 73 74,oF 76 1 2,o0 77 (.jl 16 1 (.t 76) (.t 75)),oL 78 77,o0 79 (.conv .i64 (.t 78)),oM 80 6,oP 81 .sub 79 80,oM 16 81]) (.seq (.region [oM 82 16,o0 83 (.jl 8 1 (.t 7) (.t 82)),⟨none,none,.op (.Zz (.t 83) (.c (.bool true)))⟩]) (.region [oM 84 16,oF 85 1 3,o0 86 (.jl 16 1 (.t 85) (.t 84)),oL 87 86,o0 88 (.conv .i64 (.t 87)),oM 16 88])))))
def X0 : AC := .region [oM 59 15,oK 60 .add 59 1,oM 15 60]
def Qm : AC := .seq (.seq (.region [oM 56 15,oM 57 6,oP 58 .lss 56 57]) (.cond 58 .skip (.exit 2))) (.seq (.block 3 (.seq (.seq (.region [oM 61 15,o0 62 (.jl 8 1 (.t 7) (.t 61)),oL 63 62]) (.cond 63 (.exit 3) .skip)) (.seq (.region [oM 64 14,oK 65 .add 64 1,oM 14 65]) (.seq (.region [oM 66 15,oM 16 66]) (.block 4 (.loop X4)))))) X0)
def Yx : AC := .seq (.region [oN 89 17 8,oM 90 14,oS 17 4 89,oM 5 90]) .ret
def Y7 : AC := .seq (.region [oI 14 0]) (.seq (.seq (.region [oI 15 0]) (.block 2 (.loop Qm))) Yx)
def Y0 : AC := .seq (.seq (.region [oI 9 0]) (.block 0 (.loop Xw))) Y7
def qa9 : AC := .seq (.region [o0 2 (.box (.t 0)),o0 3 (.box (.t 1)),o0 4 (.alloc [.int .i64 0,.int .u8 0,.int .u8 0,.int .u8 0,.int .u8 0,.int .u8 0,.int .u8 0,.int .u8 0,.int .u8 0,.int .u8 0,.int .u8 0,.int .u8 0,.int .u8 0,.int .u8 0,.int .u8 0,.int .u8 0,.int .u8 0]),oI 5 0]) (.seq (.tree false Y1) Y0)
theorem qi4 : xa Try.prog 125 = some ⟨91, qa9, [.kl 4 17, .slot 5]⟩ := by kernel_rfl
theorem qi3 (N : Nat) (d e : List Nat) (hd : okD d) (he : okD e) (hds : isS N d = true) (hes : isS N e = true) :
    Am.Fn Try.prog 125 [.agg (dia N d), .agg (dia N e)] [] (fun v H' => v = .tup [.agg (dia N (vo N d e)), .int .i64 (lpN N d e N : Nat)] ∧ H' = []) := by
  refine Am.Fn.vb (R := fun v => v = _) qbx mixed qi4 (by simp) (by simp) ?_
  obtain ⟨hN, hpd, _⟩ := jw hds
  obtain ⟨_, hpe, _⟩ := jw hes
  have hdl := hd.1
  have hel := he.1
  have hb8 : [AV.bool false, .bool false, .bool false, .bool false, .bool false, .bool false, .bool false, .bool false] = bls (List.replicate 8 false) := rfl
  simp (maxSteps := 3000000) only [qf, zH, qa9, x9, y7, qe, hdl, hel, wm, iE, iN, iB, iC, iL, iD, iA, iS, iM, qa, zZ, ↓qp, ↓reduceIte, reduceCtorEq, nA, nM, nS, nE, nL, nD]; try simp only [qa, zY]
  refine WA.Jz qbx (fun s => s = ⟨[(8, .ptr 4 0), (7, .ptr 3 0), (6, .int .i64 N), (5, .int .i64 0), (4, .ptr 2 0), (3, .ptr 1 0), (2, .ptr 0 0)], [.cells (dia N d), .cells (dia N e), .cells (dia 0 (List.replicate 16 0)), .cells (bls (List.replicate 8 false)), .cells (dia N (List.replicate 16 0))]⟩) ?_ ?_
  · have hov8 : over (bls (List.replicate 8 false)) 0 (bls (List.replicate 8 false)) = bls (List.replicate 8 false) := rfl
    have hl8 : (bls (List.replicate 8 false)).length = 8 := rfl
    have ho8 : (bls (List.replicate 8 false)).all AV.one = true := rfl
    unfold Y1
    simp (maxSteps := 3000000) only [qf, zH, wj, uc, hb8, hov8, hl8, ho8, x9, y7, Ku, qe, hdl, hel, wm, xo, vx zh zh, List.length_replicate, Nat.le_refl, iE, iN, iB, iC, iL, iD, iA, iS, iM, qa, zZ, ↓qp, ↓reduceIte, reduceCtorEq, nA, nM, nS, nE, nL, nD]; try simp only [qa, zY]
    repeat' (with_reducible refine And.intro ?_ ?_)
    all_goals first
      | exact ⟨_, q6.za [8, 7, 6, 5, 4, 3, 2], rfl⟩
      | (refine ⟨_, q6.xy [0, 1, 2, 4, 3] [8, 7, 6, 5, 4, 3, 2] ⟨by decide, ?_⟩ ?_, ?_⟩
         · simp only [qd _ _ (qh _ _), qd _ _ (wx _), zK, ↓reduceIte, reduceCtorEq, nE, nB, nA]
         · simp only [qd _ _ (qh _ _), qd _ _ (wx _), zK, ↓reduceIte, reduceCtorEq, nE, nB, nA]
         · simp only [qc _ _ (qh _ _), qc _ _ (wx _), zL, ↓reduceIte, reduceCtorEq, nE, nA])
  rintro s rfl
  simp (maxSteps := 3000000) only [qf, zH, Y0, iE, iN, iB, iC, iL, iD, iA, iS, iM, qa, zZ, ↓qp, ↓reduceIte, reduceCtorEq, nA, nM, nS, nE, nL, nD]; try simp only [qa, zY]
  refine WA.vc qbx (fun s => ∃ k : Nat, k ≤ N ∧ s = ⟨[(9, .int .i64 k), (8, .ptr 4 0), (7, .ptr 3 0), (6, .int .i64 N), (5, .int .i64 0), (4, .ptr 2 0), (3, .ptr 1 0), (2, .ptr 0 0)], [.cells (dia N d), .cells (dia N e), .cells (dia 0 (List.replicate 16 0)), .cells (bls (qdp N d e k)), .cells (dia N (Wc N d e k))]⟩)
    (fun s => match get s.env 9 with | .int _ x => N - x.toNat | _ => 0) ⟨_, q6.za [9, 8, 7, 6, 5, 4, 3, 2], 0, by omega, rfl⟩ ?_
  rintro s ⟨k, hk, rfl⟩
  have hw : q7 .i64 ((k : Int) + 1) = ((k + 1 : Nat) : Int) := by rw [wrap64 (by omega) (by omega)]; rfl
  by_cases hlt : k < N
  · have hli : (k : Int) < (N : Int) := by omega
    have hk16 := y5 N d e k
    have hmk := (Ji hds hes k hk).len
    have hx1 := qco hds hes (i := k) (by omega)
    have hx2 := qco hds hes (i := N + k) (by omega)
    have u1 : q7 .u8 ((pr N d e k : Nat) : Int) = ((pr N d e k : Nat) : Int) := qi7 (by omega)
    have u2 : q7 .u8 ((pr N d e (N + k) : Nat) : Int) = ((pr N d e (N + k) : Nat) : Int) := qi7 (by omega)
    have hadd : q7 .i64 ((N : Int) + (k : Int)) = ((N + k : Nat) : Int) := by rw [wrap64 (by omega) (by omega)]; rfl
    obtain ⟨c1, c2⟩ := Jf (show k < 16 by omega)
    obtain ⟨c3, c4⟩ := Jf (show N + k < 16 by omega)
    have c5 : k < 16 := by omega
    have c6 : N + k < 16 := by omega
    have k1 : (0 : Int) ≤ (k : Int) ∧ (k : Int) < 2 * (N : Int) := by omega
    have k2 : (0 : Int) ≤ ((N + k : Nat) : Int) ∧ ((N + k : Nat) : Int) < 2 * (N : Int) := by omega
    have q1 : (true = decide ((k : Int) < (N : Int))) = True := by simp [hlt]
    have q2 : (false = decide (((N + k : Nat) : Int) < (N : Int))) = True := by simp; omega
    have hf1 : (fol N d e true k (qdp N d e k)).length = 8 := by rw [qpd hds hes (by omega) (by simp [hlt])]; exact hmk
    have q0 : (0 : Int) ≤ (N : Int) := by omega
    have hdo := zb (n := (N : Int)) hd
    have heo := zb (n := (N : Int)) he
    simp (maxSteps := 3000000) only [qf, zH, Xw, vd, km, hw, hli, qe, hdl, hel, q9 hdl, q9 hel, hdo, heo, U2, Int.toNat_natCast, hds, hes, k1, k2, q0, q1, q2, hmk, hf1, u1, u2, hadd, c1, c2, c3, c4, c5, c6, hk16, qd2, List.length_set, w9, AV.one, and_self, true_and, and_true, iE, iN, iB, iC, iL, iD, iA, iS, iM, qa, zZ, ↓qp, ↓reduceIte, reduceCtorEq, nA, nM, nS, nE, nL, nD]; try simp only [qa, zY]
    refine ⟨_, q6.za [9, 8, 7, 6, 5, 4, 3, 2], ⟨k + 1, by omega, ?_⟩, ?_⟩
    · simp only [zL, ↓reduceIte, reduceCtorEq, nE, nA]
      rfl
    · simp only [zL, ↓reduceIte, reduceCtorEq, nE, nA]; omega
  have hli : ¬ (k : Int) < (N : Int) := by omega
  obtain rfl : k = N := by omega
  simp (maxSteps := 3000000) only [qf, zH, Xw, Y7, vd, km, hli, Int.lt_irrefl, iE, iN, iB, iC, iL, iD, iA, iS, iM, qa, zZ, ↓qp, ↓reduceIte, reduceCtorEq, nA, nM, nS, nE, nL, nD]; try simp only [qa, zY]
  refine WA.vc qbx (fun s => ∃ (i : Nat) (met : List Bool), i ≤ k ∧ (met.length = 8 ∧ ∀ x, mt met x ↔ Seen k d e i x) ∧ s = ⟨[(15, .int .i64 i), (14, .int .i64 (lpN k d e i : Nat)), (8, .ptr 4 0), (7, .ptr 3 0), (6, .int .i64 k), (5, .int .i64 0), (4, .ptr 2 0), (3, .ptr 1 0), (2, .ptr 0 0)], [.cells (dia k d), .cells (dia k e), .cells (dia 0 (List.replicate 16 0)), .cells (bls met), .cells (dia k (vo k d e))]⟩)
    (fun s => match get s.env 15 with | .int _ x => k - x.toNat | _ => 0) ⟨_, q6.za [15, 14, 8, 7, 6, 5, 4, 3, 2], 0, qdp k d e k, by omega, ⟨(Ji hds hes k (Nat.le_refl _)).len, fun x => ⟨.inl, fun h => h.elim id fun ⟨j, hj, _⟩ => absurd hj (Nat.not_lt_zero _)⟩⟩, rfl⟩ ?_
  clear hlt hli hw
  rintro s ⟨i, met, hi, ⟨hml, hmt⟩, rfl⟩
  have hw : q7 .i64 ((i : Int) + 1) = ((i + 1 : Nat) : Int) := by rw [wrap64 (by omega) (by omega)]; rfl
  have hle := qes k d e i
  have hw2 : q7 .i64 (((lpN k d e i : Nat) : Int) + 1) = ((lpN k d e i + 1 : Nat) : Int) := by rw [wrap64 (by omega) (by omega)]; rfl
  by_cases hlt : i < k
  · have hli : (i : Int) < (k : Int) := by omega
    have g1 := Vx (show i < 8 by omega)
    have g2 : i < 8 := by omega
    have g3 := qp5 (l := met) (i := i) (by omega)
    by_cases hs : Seen k d e i i
    · have hm1 : met.getD i false = true := (hmt i).2 hs
      simp (maxSteps := 3000000) only [qf, zH, Qm, X0, vd, km, hw, hli, g1, g2, g3, hm1, w9, hml, iE, iN, iB, iC, iL, iD, iA, iS, iM, qa, zZ, ↓qp, ↓reduceIte, reduceCtorEq, nA, nM, nS, nE, nL, nD]; try simp only [qa, zY]
      refine ⟨_, q6.za [15, 14, 8, 7, 6, 5, 4, 3, 2], ⟨i + 1, met, by omega, ⟨hml, fun x => by rw [hmt, qjz hds hes hs]⟩, ?_⟩, ?_⟩
      · simp only [zL, ↓reduceIte, reduceCtorEq, nE, nA]
        simp only [lpN, if_pos hs]
      · simp only [zL, ↓reduceIte, reduceCtorEq, nE, nA]; omega
    · have hm1 : met.getD i false = false := by
        cases h : met.getD i false with
        | false => rfl
        | true => exact absurd ((hmt i).1 h) hs
      simp (maxSteps := 3000000) only [qf, zH, Qm, vd, km, hw, hw2, hli, g1, g2, g3, hm1, w9, hml, iE, iN, iB, iC, iL, iD, iA, iS, iM, qa, zZ, ↓qp, ↓reduceIte, reduceCtorEq, nA, nM, nS, nE, nL, nD]; try simp only [qa, zY]
      refine WA.vc qbx (fun s => ∃ (x : Nat) (mm : List Bool), InL k d e (dm k d) (em e) i x mm ∧ s = ⟨[(16, .int .i64 x), (15, .int .i64 i), (14, .int .i64 (lpN k d e i + 1 : Nat)), (8, .ptr 4 0), (7, .ptr 3 0), (6, .int .i64 k), (5, .int .i64 0), (4, .ptr 2 0), (3, .ptr 1 0), (2, .ptr 0 0)], [.cells (dia k d), .cells (dia k e), .cells (dia 0 (List.replicate 16 0)), .cells (bls mm), .cells (dia k (vo k d e))]⟩)
        (fun s : St => match s.hp[3]? with | some (AO.cells l) => Zf l | _ => 0) ⟨_, q6.za [16, 15, 14, 8, 7, 6, 5, 4, 3, 2], i, met, ⟨hml, .inl ⟨rfl, hmt⟩⟩, rfl⟩ ?_
      rintro s ⟨x, mm, hin, rfl⟩
      have hmm := hin.1
      have hdi := Km hds hes
      have hei := Kx hds hes
      have hxk : x < k := by
        rcases hin.2 with ⟨rfl, _⟩ | ⟨T, last, hT, rfl, _⟩
        · exact hlt
        · exact (hei.mem _ (Ring.mem hdi hei ⟨hlt, fun h => hs (.inl h)⟩ (hT.ring _ hT.lm))).1
      have g4 := Vx (show x < 8 by omega)
      have g5 : x < 8 := by omega
      have g6 := qp5 (l := mm) (i := x) (by omega)
      by_cases hmx : mm.getD x false = true
      · have hst := qvc hds hes hdi hei (fun _ _ => Iff.rfl) hlt hs hin hmx
        simp (maxSteps := 3000000) only [qf, zH, X4, X0, vd, km, hw, g4, g5, g6, hmx, w9, hmm, Bool.not_true, iE, iN, iB, iC, iL, iD, iA, iS, iM, qa, zZ, ↓qp, ↓reduceIte, reduceCtorEq, nA, nM, nS, nE, nL, nD]; try simp only [qa, zY]
        refine ⟨_, q6.za [15, 14, 8, 7, 6, 5, 4, 3, 2], ⟨i + 1, mm, by omega, ⟨hmm, hst⟩, ?_⟩, ?_⟩
        · simp only [zL, ↓reduceIte, reduceCtorEq, nE, nA]
          simp only [lpN, if_neg hs]
        · simp only [zL, ↓reduceIte, reduceCtorEq, nE, nA]; omega
      · obtain ⟨y1, y2, y3⟩ := qv1 hdi hei (by omega) hlt hs hin hmx
        have hmx' : mm.getD x false = false := by simpa using hmx
        obtain ⟨z1, z2, z3⟩ := qhb hds hes y1
        have hdx : dm k d x = d.getD (k + x) 0 - k := rfl
        have hyk := y2.1
        have hadd : q7 .i64 ((k : Int) + (x : Int)) = ((k + x : Nat) : Int) := by rw [wrap64 (by omega) (by omega)]; rfl
        obtain ⟨c3, c4⟩ := Jf (show k + x < 16 by omega)
        have c6 : k + x < 16 := by omega
        obtain ⟨c7, c8⟩ := Jf (show dm k d x < 16 by omega)
        have c9 : dm k d x < 16 := by omega
        have g7 := Vx (show dm k d x < 8 by omega)
        have g8 : dm k d x < 8 := by omega
        have d1 := Jg (n := (k : Int)) (m := d) (i := k + x) (by omega)
        have d2 := Jg (n := (k : Int)) (m := e) (i := dm k d x) (by omega)
        have v1 : q7 .i64 ((d.getD (k + x) 0 : Nat) : Int) = ((d.getD (k + x) 0 : Nat) : Int) := ue (by omega)
        have v2 : q7 .i64 (((d.getD (k + x) 0 : Nat) : Int) - (k : Int)) = ((dm k d x : Nat) : Int) := by rw [wrap64 (by omega) (by omega)]; omega
        have v3 : q7 .i64 ((e.getD (dm k d x) 0 : Nat) : Int) = ((e.getD (dm k d x) 0 : Nat) : Int) := ue (by have := qhb hds hes y2; omega)
        simp (maxSteps := 3000000) only [qf, zH, X4, vd, km, g4, g5, g6, g7, g8, hmx', w9, qdz, hmm, List.length_set, hadd, c3, c4, c6, c7, c8, c9, d1, d2, v1, v2, v3, qe, hdl, hel, AV.one, Bool.not_false, iE, iN, iB, iC, iL, iD, iA, iS, iM, qa, zZ, ↓qp, ↓reduceIte, reduceCtorEq, nA, nM, nS, nE, nL, nD]; try simp only [qa, zY]
        refine ⟨_, q6.za [16, 15, 14, 8, 7, 6, 5, 4, 3, 2], ⟨_, _, y3, ?_⟩, ?_⟩
        · simp only [zL, ↓reduceIte, reduceCtorEq, nE, nA]
          rfl
        · simp only [zL, ↓reduceIte, reduceCtorEq, nE, nA]
          have h1 := Yk (met := mm) (k := x) (by omega) hmx'
          have h2 := qhg (met := mm.set x true) (k := dm k d x)
          omega
  · have hli : ¬ (i : Int) < (k : Int) := by omega
    obtain rfl : i = k := by omega
    have hk16 := y5 i d e i
    have hk16' : (vo i d e).length = 16 := hk16
    simp (maxSteps := 3000000) only [qf, zH, Qm, Yx, vd, km, hli, qe, hk16', q9 hk16', vx zh hk16', xo, List.length_replicate, Int.lt_irrefl, iE, iN, iB, iC, iL, iD, iA, iS, iM, qa, zZ, ↓qp, ↓reduceIte, reduceCtorEq, nA, nM, nS, nE, nL, nD]; try simp only [qa, zY]
    simp only [qh, Bool.and_self]
noncomputable def wy : List AV → Option AV
  | [.agg ld, .agg le] => match gq ld, gq le with
    | some (n, d), some (n', e) => chk ((n' = n ∧ 0 ≤ n) ∧ isS n.toNat d = true ∧ isS n.toNat e = true) (some (.tup [.agg (dia n (vo n.toNat d e)), .int .i64 (lpN n.toNat d e n.toNat : Nat)]))
    | _, _ => none
  | _ => none
theorem qew {f : FuncId} (h : ∀ (N : Nat) d e, okD d → okD e → isS N d = true → isS N e = true → Am.Fn Try.prog f [.agg (dia N d), .agg (dia N e)] [] (fun v H' => v = .tup [.agg (dia N (vo N d e)), .int .i64 (lpN N d e N : Nat)] ∧ H' = [])) : Am.Callee Try.prog f (qu wy) := Am.Callee.plain fun xs v he => by
  unfold wy at he
  split at he
  · rename_i ld le
    split at he
    · rename_i n d n' e hd1 he1
      obtain ⟨⟨⟨a1, a2⟩, a3, a4⟩, he2⟩ := qo he
      cases he2
      obtain ⟨rfl, hd⟩ := xk hd1
      obtain ⟨rfl, he'⟩ := xk he1
      subst a1
      obtain ⟨N, rfl⟩ : ∃ N : Nat, n' = N := ⟨n'.toNat, by omega⟩
      simp only [Int.toNat_natCast] at a3 a4 ⊢
      exact ⟨by simp [AV.zr, AV.xd, qh], by simp [AV.zr, AV.xd, qh], h N d e hd he' a3 a4⟩
    · cases he
  · cases he
noncomputable def B81 : xh := (B80.put 125 (qu wy))
theorem qjw : zf Try.prog B81 := (qbx.put (qew qi3))
def qci : AC := .skip
theorem qly : xa Try.prog 145 = some ⟨4, qci, []⟩ := by kernel_rfl
theorem qlw (b : Bool) (i : Int) : Am.Fn Try.prog 145 [.bool b, .int .i64 i] [] (fun v H' => v = .tup [] ∧ H' = []) := by
  refine Am.Fn.vb (R := fun v => v = _) qjw mixed qly (by simp) (by simp) ?_
  simp (maxSteps := 3000000) only [qf, zH, qci, qa, iE, iN, iB, iC, iL, iD, iA, iS, iM, qa, zZ, ↓qp, ↓reduceIte, reduceCtorEq, nA, nM, nS, nE, nL, nD]; try simp only [qa, zY]
def ky : List AV → Option AV
  | [.bool _, .int .i64 _] => some (.tup [])
  | _ => none
theorem qyj : Am.Callee Try.prog 145 (qu ky) := Am.Callee.plain fun xs v he => by
  unfold ky at he
  split at he
  · cases he; exact ⟨rfl, rfl, qlw _ _⟩
  · cases he
def qct : AC := .region [oM 5 0,oM 6 1,o0 7 (.conv .u8 (.t 6)),oF 8 1 2,o0 9 (.jl 16 1 (.t 8) (.t 5)),oT 9 7]
theorem qk9 : xa Try.prog 146 = some ⟨10, qct, []⟩ := by kernel_rfl
theorem qj5 (n : Int) (m : List Nat) (hm : m.length = 16) (i v : Nat) (hi : i < 16) (hv : v < 256) : Am.Fn Try.prog 146 [.int .i64 i, .int .i64 v, .ptr 0 0] [.cells (dia n m)] (fun r H' => r = .tup [] ∧ H' = [.cells (dia n (m.set i v))]) := by
  refine Am.Fn.ofB qjw mixed qk9 (by simp [AV.q8, AV.under]) (fun j o hj => by
    match j, hj with
    | 0, hj => cases hj; exact qk _ _ (qh _ _)
    | j + 1, hj => simp at hj) ?_
  obtain ⟨c1, c2⟩ := Jf hi
  have c3 : i < 16 := hi
  have hw : q7 .u8 (v : Int) = (v : Int) := qi7 hv
  simp (maxSteps := 3000000) only [qf, zH, qct, qa, qe, hm, qd2, c1, c2, c3, hw, AV.one, iE, iN, iB, iC, iL, iD, iA, iS, iM, qa, zZ, ↓qp, ↓reduceIte, reduceCtorEq, nA, nM, nS, nE, nL, nD]; try simp only [qa, zY]
  refine Ret.xy [0] ⟨⟨Nat.le_refl 1, rfl, by decide⟩, ?_⟩ (rs := []) rfl rfl (by simp [xj]) ?_ ⟨rfl, ?_⟩
  · simp only [qd _ _ (qh _ _), zK, ↓reduceIte, reduceCtorEq, nE, nB, nA]
  · intro j l; cases j <;> simp [ze, AO.ren]
  · simp only [qc _ _ (qh _ _), zL, ↓reduceIte, reduceCtorEq, nE, nA]
def Ub : BE := fun hp xs => match xs with
  | [.int .i64 i, .int .i64 v, .ptr b 0] => match hp[b]? with
    | some (.cells l) => match gq l with
      | some (n, m) => chk ((0 ≤ i ∧ i < 16) ∧ 0 ≤ v ∧ v < 256) (some (.tup [], hp.set b (.cells (dia n (m.set i.toNat v.toNat)))))
      | none => none
    | _ => none
  | _ => none
theorem qz1 : Am.Callee Try.prog 146 Ub := Callee.fp fun hp xs v hp' he => by
  unfold Ub at he
  split at he
  · rename_i i v b
    split at he
    · rename_i l hb
      split at he
      · rename_i n m hd1
        obtain ⟨⟨⟨a1, a2⟩, a3, a4⟩, he2⟩ := qo he
        simp only [Option.some.injEq, Prod.mk.injEq] at he2
        obtain ⟨rfl, rfl⟩ := he2
        obtain ⟨rfl, hd⟩ := xk hd1
        obtain ⟨k, rfl⟩ : ∃ k : Nat, i = k := ⟨i.toNat, by omega⟩
        obtain ⟨w, rfl⟩ : ∃ w : Nat, v = w := ⟨v.toNat, by omega⟩
        simp only [Int.toNat_natCast]
        refine ⟨[(b, 0)], [.int .i64 k, .int .i64 w, .ptr 0 0], _, _, _, qj5 n m hd.1 k w (by omega) (by omega), by simp [AV.ren, AV.zz, ofL], by simp [vn], ⟨⟨rfl, by simp only [AO.ren, qc _ _ (qh _ _)]; exact hb⟩, trivial⟩, rfl, ⟨qk _ _ (qh _ _), trivial⟩, ⟨trivial, trivial, by simp [AV.under], trivial⟩, by simp [AV.ren, AV.zz], ?_⟩
        simp [after, upd, AO.wr, AO.ren, qc _ _ (qh _ _)]
      · cases he
    · cases he
  · cases he
def qcf : AC := .region [oL 1 0,oK 2 .add 1 1,oT 0 2]
theorem qmf : xa Try.prog 147 = some ⟨3, qcf, []⟩ := by kernel_rfl
theorem qkm (k : Nat) (hk : k ≤ 1000) : Am.Fn Try.prog 147 [.ptr 0 0] [.cells [.int .i64 k]] (fun r H' => r = .tup [] ∧ H' = [.cells [.int .i64 (k + 1 : Nat)]]) := by
  refine Am.Fn.ofB qjw mixed qmf (by simp [AV.q8, AV.under]) (fun j o hj => by
    match j, hj with
    | 0, hj => cases hj; exact ⟨trivial, trivial⟩
    | j + 1, hj => simp at hj) ?_
  have hw : q7 .i64 ((k : Int) + 1) = ((k + 1 : Nat) : Int) := by rw [wrap64 (by omega) (by omega)]; rfl
  simp (maxSteps := 3000000) only [qf, zH, qcf, qa, hw, AV.one, iE, iN, iB, iC, iL, iD, iA, iS, iM, qa, zZ, ↓qp, ↓reduceIte, reduceCtorEq, nA, nM, nS, nE, nL, nD]; try simp only [qa, zY]
  refine Ret.xy [0] ⟨⟨Nat.le_refl 1, rfl, by decide⟩, ?_⟩ (rs := []) rfl rfl (by simp [xj]) ?_ ⟨rfl, ?_⟩
  · simp only [qd _ _ (qh _ _), zK, ↓reduceIte, reduceCtorEq, nE, nB, nA]
  · intro j l; cases j <;> simp [ze, AO.ren]
  · simp only [qc _ _ (qh _ _), zL, ↓reduceIte, reduceCtorEq, nE, nA]
def b8 : BE := fun hp xs => match xs with
  | [.ptr b 0] => match hp[b]? with
    | some (.cells [.int .i64 k]) => chk (0 ≤ k ∧ k ≤ 1000) (some (.tup [], hp.set b (.cells [.int .i64 (k + 1)])))
    | _ => none
  | _ => none
theorem qv5 : Am.Callee Try.prog 147 b8 := Callee.fp fun hp xs v hp' he => by
  unfold b8 at he
  split at he
  · rename_i b
    split at he
    · rename_i k hb
      obtain ⟨⟨a1, a2⟩, he2⟩ := qo he
      simp only [Option.some.injEq, Prod.mk.injEq] at he2
      obtain ⟨rfl, rfl⟩ := he2
      obtain ⟨k', rfl⟩ : ∃ k' : Nat, k = k' := ⟨k.toNat, by omega⟩
      refine ⟨[(b, 0)], [.ptr 0 0], _, _, _, qkm k' (by omega), by simp [AV.ren, AV.zz, ofL], by simp [vn], ⟨⟨rfl, by simp only [AO.ren, AV.zz, AV.ren]; exact hb⟩, trivial⟩, rfl, ⟨⟨trivial, trivial⟩, trivial⟩, ⟨by simp [AV.under], trivial⟩, by simp [AV.ren, AV.zz], ?_⟩
      simp [after, upd, AO.wr, AO.ren, AV.zz, AV.ren]
    · cases he
  · cases he
noncomputable def B82 : xh := (((B81.put 145 (qu ky)).put 146 (Ub)).put 147 (b8))
theorem qft : zf Try.prog B82 := (((qjw.put (qyj)).put (qz1)).put (qv5))
def stk (a b : Nat) (met : List Bool) : List AV := .ptr a 0 :: .ptr b 0 :: (bls met ++ [.fn 145 [] []])
theorem yq {a b : Nat} {met : List Bool} : (stk a b met).length = met.length + 3 := by simp [stk, w9]
theorem Zj {a b : Nat} {met : List Bool} : (stk a b met)[0]? = some (.ptr a 0) := rfl
theorem Za {a b : Nat} {met : List Bool} : (stk a b met)[1]? = some (.ptr b 0) := rfl
theorem Z1 {a b : Nat} {met : List Bool} (h : met.length = 8) : (stk a b met)[10]? = some (.fn 145 [] []) := by
  simp [stk, List.getElem?_append, w9, h]
theorem K8 {a b : Nat} {met : List Bool} {i : Nat} {v : Bool} (h : met.length = 8) (hi : i < 8) : (stk a b met).set (2 + i) (.bool v) = stk a b (met.set i v) := by
  rw [Nat.add_comm]
  simp [stk, List.set_append, w9, h, hi, qdz]
theorem qwi {a b : Nat} {met : List Bool} {i : Nat} (h : met.length = 8) (hi : i < 8) : (stk a b met)[2 + i]? = some (.bool (met.getD i false)) := by
  rw [Nat.add_comm]
  simp [stk, List.getElem?_append, w9, h, hi, bls]
theorem qo2 {n : Nat} (met : List Bool) : AV.q8 n (bls met) := qk _ _ (wx _)
theorem qmj {ρ : Ren} : ∀ (l l' : List AV), AV.zz ρ (l ++ l') = AV.zz ρ l ++ AV.zz ρ l'
  | [], _ => rfl
  | a :: l, l' => by simp [AV.zz, qmj l l']
theorem qcj {n : Nat} : ∀ (l l' : List AV), AV.q8 n l → AV.q8 n l' → AV.q8 n (l ++ l')
  | [], _, _, h => h
  | a :: l, l', h, h' => ⟨h.1, qcj l l' h.2 h'⟩
theorem K6 {ids : List Nat} : ∀ (l l' : List AV), AV.x6 ids l = true → AV.x6 ids l' = true → AV.x6 ids (l ++ l') = true
  | [], _, _, h => h
  | a :: l, l', h, h' => by
    simp only [AV.x6, List.cons_append, Bool.and_eq_true] at h ⊢
    exact ⟨h.1, K6 l l' h.2 h'⟩
theorem Wd {ρ : Ren} {a b : Nat} {met : List Bool} : AV.zz ρ (stk a b met) = (AV.ptr a 0).ren ρ :: (AV.ptr b 0).ren ρ :: (bls met ++ [.fn 145 [] []]) := by
  simp only [stk, AV.zz, qmj, qc _ _ (wx met)]
  simp [AV.zz, AV.ren]
theorem qhr {n a b : Nat} {met : List Bool} (h1 : a < n) (h2 : b < n) : AV.q8 n (stk a b met) := ⟨h1, h2, qcj _ _ (qo2 _) ⟨⟨trivial, trivial⟩, trivial⟩⟩
theorem qp6 {x N : Nat} (h1 : N ≤ x) (h2 : x < 2 * N) : Int.tmod (x : Int) (N : Int) = ((x - N : Nat) : Int) := by
  show ((x % N : Nat) : Int) = _
  rw [Nat.mod_eq_sub_mod h1, Nat.mod_eq_of_lt (by omega)]
theorem qp7 {x N : Nat} (h1 : x < N) : Int.tmod (x : Int) (N : Int) = (x : Int) := by
  show ((x % N : Nat) : Int) = _
  rw [Nat.mod_eq_of_lt h1]
theorem Kc {met : List Bool} : AV.x6 [0, 1, 2] (stk 1 2 met) = true := by
  have h : AV.x6 [0, 1, 2] (bls met ++ [.fn 145 [] []]) = true := K6 _ _ (qd _ _ (wx _)) rfl
  simp [stk, AV.x6, AV.within, h]
theorem ro3 {m m' l1 l2 : List AV} {hp : List AO} : ∀ (j : Nat) (l : List AV), (ze [0, 1, 2] (.cells m :: .ro l1 :: .ro l2 :: hp))[j]? = some (AO.ro l) → ∃ l', ([.cells m', .ro l1, .ro l2] : List AO)[j]? = some (AO.ro l')
  | 0, l, h => by simp [ze, AO.ren] at h
  | 1, l, h => ⟨_, rfl⟩
  | 2, l, h => ⟨_, rfl⟩
  | j + 3, l, h => by simp [ze] at h
def H3 (N : Nat) (d e : List Nat) (met : List Bool) : List AO := [.cells (stk 1 2 met), .ro (dia N d), .ro (dia N e)]
theorem qkz {N : Nat} {d e : List Nat} {met : List Bool} : ∀ (j : Nat) (o : AO), (H3 N d e met)[j]? = some o → o.under 3 := fun j o hj => by
  match j, hj with
  | 0, hj => cases hj; exact qhr (by omega) (by omega)
  | 1, hj => cases hj; exact qk _ _ (qh _ _)
  | 2, hj => cases hj; exact qk _ _ (qh _ _)
  | j + 3, hj => simp [H3] at hj
theorem yl : B82 115 = some (Xi 1 g_n) := rfl
theorem bg : B82 145 = some (qu ky) := rfl
def ji : AC := .block 1 (.seq (.region [oM 17 0,o0 18 (.vr (.t 17)),oF 19 0 18,oL 20 19,oM 10 20]) (.seq (.seq (.region [oM 21 1]) (.cond 21 (.region [oM 22 0,o0 23 (.vr (.t 22)),oF 24 1 23,oL 25 24,oM 10 25]) .skip)) (.seq (.region [oM 26 0,o0 27 (.vr (.t 26)),oF 28 10 27,oL 29 28,oM 30 1,oM 31 2,⟨some 32,none,.call (.t 29) [.t 30,.t 31]⟩]) (.seq (.region [oM 33 10,oM 34 2,o0 35 (.vr (.t 33)),oF 36 1 35,o0 37 (.jl 16 1 (.t 36) (.t 34)),oL 38 37,o0 39 (.conv .i64 (.t 38)),oM 2 39]) (.seq (.seq (.region [oM 40 1,oM 41 2,oM 42 9,oP 43 .geq 41 42,o0 44 (.eqb false (.t 40) (.t 43))]) (.cond 44 (.seq (.region [oM 45 2,oM 8 45]) .ret) .skip)) (.seq (.region [oM 46 2,oM 47 9,oP 48 .rem 46 47,oM 11 48]) (.seq (.region [oM 49 0,oM 50 11,o0 51 (.vr (.t 49)),oF 52 2 51,o0 53 (.jl 8 1 (.t 52) (.t 50)),⟨none,none,.op (.Zz (.t 53) (.c (.bool true)))⟩]) (.seq (.seq (.region [oM 54 1,o0 55 (.un .not (.t 54)),oM 1 55]) (.seq (.region [oM 56 1]) (.cond 56 (.region [oM 57 11,oM 2 57]) (.region [oM 58 9,oM 59 11,oP 60 .add 58 59,oM 2 60])))) (.seq (.region [oM 61 11,oM 62 3,oP 63 .eql 61 62]) (.cond 63 (.seq (.region [oI 8 (-1)]) .ret) .skip))))))))))
def Z3 : AC := .seq (.region [oI 8 0]) (.seq (.region [oM 12 0,o0 13 (.vr (.t 12)),oF 14 0 13,oL 15 14,oC 16 115 [.t 15],oM 9 16]) (.block 0 (.loop ji)))
theorem Wi : xa Try.prog 155 = some ⟨64, Z3, [.slot 8]⟩ := by kernel_rfl
theorem qnf (N : Nat) (d e : List Nat) (hd : okD d) (he : okD e) (hds : isS N d = true) (hes : isS N e = true) {f : Nat} {u : Bool} {i : Nat} {met : List Bool} {r : Nat} {s : Bool} {met' : List Bool} (hf : xg N d e f u i met = some (r, s, met')) (hi : i < 2 * N) (hm : met.length = 8) :
    Am.Fn Try.prog 155 [.ptr 0 0, .bool (!u), .int .i64 i, .int .i64 (-1)] (H3 N d e met) (fun v H' => v = .int .i64 r ∧ H' = H3 N d e met') := by
  refine Am.Fn.ofB qft mixed Wi (by simp [AV.q8, AV.under, H3]) qkz ?_
  obtain ⟨hN, hpd, _⟩ := jw hds
  obtain ⟨_, hpe, _⟩ := jw hes
  have hdl := hd.1
  have hel := he.1
  unfold H3
  simp (maxSteps := 3000000) only [qf, zH, Z3, yl, bg, ky, g_n, yq, Zj, Za, hm, qe, hdl, hel, wm, Kn, iE, iN, iB, iC, iL, iD, iA, iS, iM, qa, zZ, ↓qp, ↓reduceIte, reduceCtorEq, nA, nM, nS, nE, nL, nD]; try simp only [qa, zY]
  refine qs9 qft (fun f st => ∃ (u : Bool) (i : Nat) (met : List Bool), xg N d e f u i met = some (r, s, met') ∧ i < 2 * N ∧ met.length = 8 ∧
      st = ⟨[(9, .int .i64 N), (0, .ptr 0 0), (1, .bool (!u)), (2, .int .i64 i), (3, .int .i64 (-1))], [.cells (stk 1 2 met), .ro (dia N d), .ro (dia N e)]⟩) ⟨_, q6.za [9, 0, 1, 2, 3], f, u, i, met, hf, hi, hm, rfl⟩ ?_
  clear hf hi hm
  rintro k st ⟨u, i, met, hf, hi, hm, rfl⟩ post hpost
  obtain ⟨hi16, hi16'⟩ := Jf (show i < 16 by omega)
  have hi17 : i < 16 := by omega
  have hN0 : (N : Int) ≠ 0 := by omega
  match k, u, hf with
  | 0, _, hf => simp [xg] at hf
  | f + 1, true, hf =>
    have hx := (hpd i hi).1
    have hcx : q7 .i64 ((d.getD i 0 : Nat) : Int) = ((d.getD i 0 : Nat) : Int) := ue (by omega)
    have hdx := Jg (n := (N : Int)) (m := d) (i := i) (by omega)
    rw [xg] at hf
    by_cases hlt : d.getD i 0 < N
    · rw [if_pos hlt] at hf
      simp only [Option.some.injEq, Prod.mk.injEq] at hf
      obtain ⟨rfl, rfl, rfl⟩ := hf
      have hli : ((N : Int) ≤ ((d.getD i 0 : Nat) : Int)) ↔ False := iff_false_intro (by omega)
      simp (maxSteps := 3000000) only [qf, zH, ji, yl, bg, ky, g_n, Bool.not_true, Bool.not_false, yq, Zj, Za, Z1 hm, hm, qe, hdl, hel, hi16, hi16', hi17, hcx, hdx, hli, decide_false, decide_true, beq_self_eq_true, bne_self_eq_false, Bool.true_beq, Bool.false_beq, AV.one, iE, iN, iB, iC, iL, iD, iA, iS, iM, qa, zZ, ↓qp, ↓reduceIte, reduceCtorEq, nA, nM, nS, nE, nL, nD]; try simp only [qa, zY]
      refine Ret.xy [0, 1, 2] ⟨⟨by simp, rfl, by decide⟩, ?_⟩ (rs := [.int .i64 (d.getD i 0 : Nat)]) rfl rfl (by simp [xj]) ?_ ⟨?_, ?_⟩
      · simp only [qd _ _ (qh _ _), Kc, zK, ↓reduceIte, reduceCtorEq, nE, nB, nA]
      · exact ro3
      · rfl
      · simp only [qc _ _ (qh _ _), Wd, zL, ↓reduceIte, reduceCtorEq, nE, nA]
        rfl
    · rw [if_neg hlt] at hf
      have hli : ((N : Int) ≤ ((d.getD i 0 : Nat) : Int)) ↔ True := iff_true_intro (by omega)
      have hrem := qp6 (N := N) (x := d.getD i 0) (by omega) hx
      have h8 := Vx (show d.getD i 0 - N < 8 by omega)
      have h8' : d.getD i 0 - N < 8 := by omega
      have h10 : 2 + (d.getD i 0 - N) < 8 + 3 := by omega
      have hst : ((((d.getD i 0 - N : Nat) : Int)) == (-1 : Int)) = false := by rw [beq_eq_false_iff_ne]; omega
      simp (maxSteps := 3000000) only [qf, zH, ji, yl, bg, ky, g_n, Bool.not_true, Bool.not_false, yq, Zj, Za, Z1 hm, K8 hm h8', hm, qe, hdl, hel, hi16, hi16', hi17, hcx, hdx, hli, decide_false, decide_true, beq_self_eq_true, bne_self_eq_false, Bool.true_beq, Bool.false_beq, hrem, h8, h8', h10, hN0, hst, AV.one, iE, iN, iB, iC, iL, iD, iA, iS, iM, qa, zZ, ↓qp, ↓reduceIte, reduceCtorEq, nA, nM, nS, nE, nL, nD]; try simp only [qa, zY]
      exact hpost _ _ f (q6.za [9, 0, 1, 2, 3]) ⟨false, d.getD i 0 - N, _, hf, by omega, by simp [hm], rfl⟩ (Nat.lt_succ_self _)
  | f + 1, false, hf =>
    have hx := (hpe i hi).1
    have hcx : q7 .i64 ((e.getD i 0 : Nat) : Int) = ((e.getD i 0 : Nat) : Int) := ue (by omega)
    have hdx := Jg (n := (N : Int)) (m := e) (i := i) (by omega)
    rw [xg] at hf
    by_cases hlt : N ≤ e.getD i 0
    · rw [if_pos hlt] at hf
      simp only [Option.some.injEq, Prod.mk.injEq] at hf
      obtain ⟨rfl, rfl, rfl⟩ := hf
      have hli : ((N : Int) ≤ ((e.getD i 0 : Nat) : Int)) ↔ True := iff_true_intro (by omega)
      simp (maxSteps := 3000000) only [qf, zH, ji, yl, bg, ky, g_n, Bool.not_true, Bool.not_false, yq, Zj, Za, Z1 hm, hm, qe, hdl, hel, hi16, hi16', hi17, hcx, hdx, hli, decide_false, decide_true, beq_self_eq_true, bne_self_eq_false, Bool.true_beq, Bool.false_beq, AV.one, iE, iN, iB, iC, iL, iD, iA, iS, iM, qa, zZ, ↓qp, ↓reduceIte, reduceCtorEq, nA, nM, nS, nE, nL, nD]; try simp only [qa, zY]
      refine Ret.xy [0, 1, 2] ⟨⟨by simp, rfl, by decide⟩, ?_⟩ (rs := [.int .i64 (e.getD i 0 : Nat)]) rfl rfl (by simp [xj]) ?_ ⟨?_, ?_⟩
      · simp only [qd _ _ (qh _ _), Kc, zK, ↓reduceIte, reduceCtorEq, nE, nB, nA]
      · exact ro3
      · rfl
      · simp only [qc _ _ (qh _ _), Wd, zL, ↓reduceIte, reduceCtorEq, nE, nA]
        rfl
    · rw [if_neg hlt] at hf
      have hli : ((N : Int) ≤ ((e.getD i 0 : Nat) : Int)) ↔ False := iff_false_intro (by omega)
      have hrem := qp7 (N := N) (x := e.getD i 0) (by omega)
      have hadd : q7 .i64 ((N : Int) + ((e.getD i 0 : Nat) : Int)) = ((N + e.getD i 0 : Nat) : Int) := by rw [wrap64 (by omega) (by omega)]; rfl
      have h8 := Vx (show e.getD i 0 < 8 by omega)
      have h8' : e.getD i 0 < 8 := by omega
      have h10 : 2 + e.getD i 0 < 8 + 3 := by omega
      have hst : (((e.getD i 0 : Nat) : Int) == (-1 : Int)) = false := by rw [beq_eq_false_iff_ne]; omega
      simp (maxSteps := 3000000) only [qf, zH, ji, yl, bg, ky, g_n, Bool.not_true, Bool.not_false, yq, Zj, Za, Z1 hm, K8 hm h8', hm, qe, hdl, hel, hi16, hi16', hi17, hcx, hdx, hli, decide_false, decide_true, beq_self_eq_true, bne_self_eq_false, Bool.true_beq, Bool.false_beq, hrem, hadd, h8, h8', h10, hN0, hst, AV.one, iE, iN, iB, iC, iL, iD, iA, iS, iM, qa, zZ, ↓qp, ↓reduceIte, reduceCtorEq, nA, nM, nS, nE, nL, nD]; try simp only [qa, zY]
      exact hpost _ _ f (q6.za [9, 0, 1, 2, 3]) ⟨true, N + e.getD i 0, _, hf, by omega, by simp [hm], rfl⟩ (Nat.lt_succ_self _)
end Go.Proofs.Ytkgoadglalpbfaa

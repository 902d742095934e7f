/- Contracts of functions of the program, and plain laws, part 7: each text of this part is proved without further condition. -/
import Derived.Test.YtfhckbbgmblhbaaZ6
import Derived.Test.YtfhckbbgmblhbaaAmC
import Derived.Test.YtfhckbbgmblhbaaRows
import Derived.OpenShut
namespace Go.Proofs.Ytfhckbbgmblhbaa
open Go.Am Go.Dia
open Nat renaming reduceAdd → nA, reduceMul → nM, reduceSub → nS, reduceEqDiff → nE, reduceLT → nL, reduceLeDiff → nD, reduceBEq → nB
open Int renaming reduceEq → iE, reduceNe → iN, reduceBEq → iB, reduceBNe → iC, reduceLT → iL, reduceLE → iD, reduceAdd → iA, reduceSub → iS, reduceMul → iM
set_option linter.unusedSimpArgs false
set_option linter.unusedVariables false
set_option maxRecDepth 4000
set_option maxHeartbeats 2000000
def rdS (n : Nat) (s : List UInt8) : Nat → Option (List Nat × List Nat)
  | 0 => some (List.replicate 16 0, [])
  | k + 1 => match rdS n s k with
    | none => none
    | some (m, st) => if s.getD k 0 = 40 then some (m, k :: st) else if s.getD k 0 = 41 then (match st with
      | [] => none
      | i :: st' => some ((m.set (place n i) (place n k)).set (place n k) (place n i), st')) else none
theorem q1t {n : Nat} {s : List UInt8} {k : Nat} (h : rdS n s k = none) : ∀ j, rdS n s (k + j) = none
  | 0 => h
  | j + 1 => by
    show rdS n s ((k + j) + 1) = none
    simp only [rdS, q1t h j]
theorem qi6 {n : Nat} {s : List UInt8} (hn : n ≤ 8) : ∀ {k : Nat} {m st : List Nat}, k ≤ 2 * n → rdS n s k = some (m, st) → okD m ∧ st.length ≤ k ∧ ∀ i ∈ st, i < k
  | 0, m, st, _, h => by cases h; exact ⟨qla, Nat.le_refl _, by simp⟩
  | k + 1, m, st, hk, h => by
    simp only [rdS] at h
    cases h0 : rdS n s k with
    | none => rw [h0] at h; cases h
    | some q =>
      obtain ⟨m0, st0⟩ := q
      obtain ⟨i1, i2, i3⟩ := qi6 hn (by omega) h0
      rw [h0] at h
      simp only at h
      split at h
      · cases h
        exact ⟨i1, by simp; omega, fun i hi => by
          rcases List.mem_cons.1 hi with rfl | hi
          · omega
          · have := i3 i hi; omega⟩
      · split at h
        · cases st0 with
          | nil => cases h
          | cons i st' =>
            cases h
            have := i3 i (by simp)
            have p1 := q7 (n := n) (i := i) (by omega)
            have p2 := q7 (n := n) (i := k) (by omega)
            exact ⟨Xv i1 (by omega) (by omega), by simp at i2; omega, fun j hj => by have := i3 j (by simp [hj]); omega⟩
        · cases h
def rdC (n : Nat) : Bool := (brs (2 * n) 0).all fun s => (rdS n s (2 * n) == some (dOf s, [])) && s.length == 2 * n
theorem q98 : rdC 1 = true := by kernel_rfl
theorem q97 : rdC 2 = true := by kernel_rfl
theorem q92 : rdC 3 = true := by kernel_rfl
theorem q91 : rdC 4 = true := by kernel_rfl
theorem q9y : rdC 5 = true := by kernel_rfl
theorem q95 : rdC 6 = true := by kernel_rfl
theorem q6y {n : Nat} (h : 1 ≤ n ∧ n ≤ 6) : ∀ s ∈ brs (2 * n) 0, rdS n s (2 * n) = some (dOf s, []) ∧ s.length = 2 * n := fun s hs => by
  have h0 : rdC n = true := by
    rcases (show n = 1 ∨ n = 2 ∨ n = 3 ∨ n = 4 ∨ n = 5 ∨ n = 6 by omega) with rfl | rfl | rfl | rfl | rfl | rfl
    · exact q98
    · exact q97
    · exact q92
    · exact q91
    · exact q9y
    · exact q95
  have := List.all_eq_true.1 h0 s hs
  simp only [Bool.and_eq_true, beq_iff_eq] at this
  exact this
theorem kg : qn1 66 = some (qk uc) := rfl
theorem uz : qn1 139 = some (qk j4) := rfl
theorem yw : qn1 165 = some (qk ve) := rfl
def Ke : AC := .seq (.region [oM 42 0,oM 43 7,o0 44 (.qj3 (.t 42) (.t 43)),o0 45 (.bin .eql (.t 44) (.c (.int .u8 41))),oM 46 45,oG 47 46 true (.mov (.t 6)),oG 48 46 true (.len .slc (.t 47)),oG 49 46 true (.bin .gtr (.t 48) (.c (.int .i64 0))),o0 50 (.pick (.t 46) (.t 49) (.c (.bool false))),oM 41 50]) (.cond 41 (.seq (.region [oM 51 6,oM 52 6,o0 53 (.len .slc (.t 52)),oK 54 .sub 53 1,oX 55 1 51 54,oL 56 55,oM 8 56]) (.seq (.region [oM 57 6,oM 58 6,o0 59 (.len .slc (.t 58)),oK 60 .sub 59 1,o0 61 (.qg4 1 (.t 57) none (some (.t 60))),oM 6 61]) (.draw true [oN 62 17 5,oM 63 4,oM 64 8,oM 66 4,oM 67 7,oC 65 165 [.t 63,.t 64],oC 68 165 [.t 66,.t 67],oC 69 139 [.t 62,.t 65,.t 68],oS 17 5 69]))) (.seq (.region [o0 31 (.build [.int .i64 0,.int .u8 0,.int .u8 0,.int .u8 0,.int .u8 0,.int .u8 0,.int .u8 0,.int .u8 0,.int .u8 0,.int .u8 0,.int .u8 0,.int .u8 0,.int .u8 0,.int .u8 0,.int .u8 0,.int .u8 0,.int .u8 0] []),oS 17 2 31,oB 3 false]) .ret))
def Q1 : AC := .seq (.seq (.region [oM 25 7,oM 26 4,o0 27 (.bin .mul (.c (.int .i64 2)) (.t 26)),oP 28 .lss 25 27]) (.cond 28 .skip (.exit 0))) (.seq (.block 1 (.block 2 (.seq (.region [oM 33 0,oM 34 7,o0 35 (.qj3 (.t 33) (.t 34)),o0 36 (.bin .eql (.t 35) (.c (.int .u8 40))),oM 32 36]) (.cond 32 (.region [oM 37 6,oM 38 7,o0 39 (.u6 1 [.int .i64 0] [(0,1,.t 38)]),o0 40 (.append 1 8 (.t 37) (.t 39)),oM 6 40]) Ke)))) (.region [oM 29 7,oK 30 .add 29 1,oM 7 30]))
def Ks : AC := .seq (.seq (.region [oM 70 6,o0 71 (.len .slc (.t 70)),oK 72 .gtr 71 0]) (.cond 72 (.seq (.region [o0 73 (.build [.int .i64 0,.int .u8 0,.int .u8 0,.int .u8 0,.int .u8 0,.int .u8 0,.int .u8 0,.int .u8 0,.int .u8 0,.int .u8 0,.int .u8 0,.int .u8 0,.int .u8 0,.int .u8 0,.int .u8 0,.int .u8 0,.int .u8 0] []),oS 17 2 73,oB 3 false]) .ret) .skip)) (.seq (.region [oN 74 17 5,oS 17 2 74,oB 3 true]) .ret)
def qfs : AC := .seq (.region [oD 2,oB 3 false]) (.seq (.region [oM 9 0,o0 10 (.len .str (.t 9)),oK 11 .quo 10 2,oM 4 11]) (.seq (.seq (.region [oM 12 0,o0 13 (.len .str (.t 12)),oK 14 .rem 13 2,oK 15 .neq 14 0,oM 16 15,oG 17 16 false (.mov (.t 4)),⟨some 18,some (16,false),.call (.c (.fn 66 [] [])) [.t 17,(.c (.int .i64 1)),(.c (.int .i64 8))]⟩,oG 19 16 false (.un .not (.t 18)),o0 20 (.pick (.t 16) (.c (.bool true)) (.t 19))]) (.cond 20 (.seq (.region [o0 21 (.build [.int .i64 0,.int .u8 0,.int .u8 0,.int .u8 0,.int .u8 0,.int .u8 0,.int .u8 0,.int .u8 0,.int .u8 0,.int .u8 0,.int .u8 0,.int .u8 0,.int .u8 0,.int .u8 0,.int .u8 0,.int .u8 0,.int .u8 0] []),oS 17 2 21,oB 3 false]) .ret) .skip)) (.seq (.region [oM 22 4,o0 23 (.build [.int .i64 0,.int .u8 0,.int .u8 0,.int .u8 0,.int .u8 0,.int .u8 0,.int .u8 0,.int .u8 0,.int .u8 0,.int .u8 0,.int .u8 0,.int .u8 0,.int .u8 0,.int .u8 0,.int .u8 0,.int .u8 0,.int .u8 0] [(0,1,.t 22)]),o0 24 (.u6 0 [] []),oD 5,oS 17 5 23,oM 6 24]) (.seq (.seq (.region [oI 7 0]) (.block 0 (.loop Q1))) Ks))))
theorem qq6 : zj Try.prog 134 = some ⟨75, qfs, [.wu 2 17, .slot 3]⟩ := by kernel_rfl
theorem qob (n : Nat) (s : List UInt8) (m0 : List Nat) (hn : 1 ≤ n ∧ n ≤ 8) (hs : s.length = 2 * n) (h : rdS n s (2 * n) = some (m0, [])) :
    Am.Fn Try.prog 134 [.str s] [] (fun v H' => v = .tup [.agg (dia n m0), .bool true] ∧ H' = []) := by
  refine Am.Fn.xm (R := fun v => v = _) K6 mixed qq6 (by simp [AV.qu, AV.under]) (by simp) ?_
  have hl : (s.length : Int).tdiv 2 = (n : Int) := by rw [hs]; rw [show (((2 * n : Nat) : Int)).tdiv 2 = ((2 * n / 2 : Nat) : Int) from (Int.ofNat_tdiv (2 * n) 2).symm]; omega
  have hr : (s.length : Int).tmod 2 = 0 := by rw [hs]; rw [show (((2 * n : Nat) : Int)).tmod 2 = ((2 * n % 2 : Nat) : Int) from (Int.ofNat_tmod (2 * n) 2).symm]; omega
  have hw0 : qn .i64 (n : Int) = n := wrap64 (by omega) (by omega)
  have hn1 : (1 : Int) ≤ (n : Int) ∧ (n : Int) ≤ 8 := by omega
  have h2n : qn .i64 (2 * (n : Int)) = ((2 * n : Nat) : Int) := by rw [wrap64 (by omega) (by omega)]; simp
  simp (maxSteps := 3000000) only [qh, zH, qfs, kg, uz, yw, uc, ve, j4, hl, hr, hw0, hn1, x7, zq, kx, qe, zx, xq xa xa, List.length_replicate, and_self, iE, iN, iB, iC, iL, iD, iA, iS, iM, qa, zZ, ↓qp, ↓reduceIte, reduceCtorEq, nA, nM, nS, nE, nL, nD]; try simp only [qa, zY]
  refine WA.xo K6 (fun t => ∃ (k : Nat) (m st cl : List Nat), k ≤ 2 * n ∧ rdS n s k = some (m, st) ∧ st.length ≤ cl.length ∧ cl.take st.length = st.reverse ∧ t = ⟨[(0, .str s), (2, .ptr 0 0), (3, .bool false), (4, .int .i64 n), (5, .ptr 2 0), (6, .slc 1 0 st.length false 0), (7, .int .i64 k)], [.cells (dia 0 (List.replicate 16 0)), .vec 1 (Gb cl), .cells (dia n m)]⟩)
    (fun t => match get t.env 7 with | .int _ x => 2 * n - x.toNat | _ => 0) ⟨_, qt.trans (qt.qv [0, 2, 3, 4, 5, 6, 7]) (qt.vec 1 0 1 (by decide) rfl rfl ?_ ?_), 0, List.replicate 16 0, [], [], by omega, rfl, by simp, by simp, ?_⟩ ?_
  · simp only [qv, zp, zV, ↓reduceIte, nE, reduceCtorEq, nB]
  · simp only [zV, ↓reduceIte, nE, reduceCtorEq, nB]
  · simp only [qv, zp, zV, ↓reduceIte, nE, reduceCtorEq, nB]; rfl
  rintro t ⟨k, m, st, cl, hk, hrd, hcl, htk, rfl⟩
  have hw : qn .i64 ((k : Int) + 1) = ((k + 1 : Nat) : Int) := by rw [wrap64 (by omega) (by omega)]; rfl
  obtain ⟨hmo, hst, hsb⟩ := qi6 hn.2 hk hrd
  by_cases hlt : k < 2 * n
  · have hli : (k : Int) < ((2 * n : Nat) : Int) := by omega
    have hk0 : (0 : Int) ≤ (k : Int) := by omega
    have hks : (k : Int) < (s.length : Int) := by omega
    cases hnx : rdS n s (k + 1) with
    | none =>
      have := q1t hnx (2 * n - (k + 1))
      rw [show k + 1 + (2 * n - (k + 1)) = 2 * n by omega, h] at this
      cases this
    | some q =>
    obtain ⟨m', st'⟩ := q
    have hnx' := hnx
    simp only [rdS, hrd] at hnx
    by_cases h40 : s.getD k 0 = 40
    · rw [if_pos h40] at hnx
      cases hnx
      have hx : (((s.getD k 0).toNat : Nat) : Int) = 40 := by rw [h40]; rfl
      have hap : List.take st.length (Gb cl) ++ [AV.int .i64 (k : Int)] = Gb (k :: st).reverse := by
        rw [qxb, htk, List.reverse_cons, ← qqo]; rfl
      have hs1 : src [AO.cells (dia 0 (List.replicate 16 0)), .vec 1 (Gb cl), .cells (dia n m), .cells (over [AV.int .i64 0] 0 [AV.int .i64 k])] 1 (.slc 3 0 1 true 1) = some (1, [.int .i64 k]) := rfl
      have hnl := Kv (m := cl)
      have hbd : (st.length + 1) * 8 ≤ 1099511627776 := by omega
      simp (maxSteps := 3000000) only [qh, zH, Q1, kg, uz, yw, uc, ve, j4, h2n, hli, hk0, hks, hx, hap, hs1, hnl, hcl, hbd, hw, Nat.mul_one, and_self, iE, iN, iB, iC, iL, iD, iA, iS, iM, qa, zZ, ↓qp, ↓reduceIte, reduceCtorEq, nA, nM, nS, nE, nL, nD]; try simp only [qa, zY]
      refine ⟨rfl, _, qt.xv [0, 4, 2] [0, 2, 3, 4, 5, 6, 7] ⟨by decide, ?_⟩ ?_, ⟨k + 1, m, k :: st, (k :: st).reverse, by omega, hnx', by simp, by rw [List.take_of_length_le (by simp)], ?_⟩, ?_⟩
      · simp only [zK, ↓reduceIte, reduceCtorEq, nE, nB, nA]
      · simp only [zK, ↓reduceIte, reduceCtorEq, nE, nB, nA]
      · simp only [zL, ↓reduceIte, reduceCtorEq, nE, nA]; rfl
      · simp only [zL, ↓reduceIte, reduceCtorEq, nE, nA]; omega
    · rw [if_neg h40] at hnx
      by_cases h41 : s.getD k 0 = 41
      · rw [if_pos h41] at hnx
        cases st with
        | nil => cases hnx
        | cons j st1 =>
          simp only [Option.some.injEq, Prod.mk.injEq] at hnx
          obtain ⟨e1, e2⟩ := hnx
          subst e2
          have hx : (((s.getD k 0).toNat : Nat) : Int) = 41 := by rw [h41]; rfl
          have hj := hsb j (by simp)
          have hsl : (j :: st1).length = st1.length + 1 := rfl
          have hpos : (0 : Int) < ((st1.length + 1 : Nat) : Int) := by omega
          have hw1 : qn .i64 (((st1.length + 1 : Nat) : Int) - 1) = ((st1.length : Nat) : Int) := by rw [wrap64 (by omega) (by omega)]; omega
          rw [hsl] at hcl htk hst
          have hcl1 : st1.length < cl.length := by omega
          have hcl2 : st1.length ≤ cl.length := by omega
          have hgj : cl.getD st1.length 0 = j := by
            have : (cl.take (st1.length + 1)).getD st1.length 0 = j := by rw [htk]; simp
            rw [← this, List.getD_eq_getElem?_getD, List.getD_eq_getElem?_getD, List.getElem?_take, if_pos (by omega)]
          have htk1 : cl.take st1.length = st1.reverse := by
            have : (cl.take (st1.length + 1)).take st1.length = st1.reverse := by rw [htk]; simp
            rwa [List.take_take, Nat.min_eq_left (by omega)] at this
          have hnl := Kv (m := cl)
          have c1 : (0 : Int) ≤ (st1.length : Int) := by omega
          have c2 : (st1.length : Int) < ((st1.length + 1 : Nat) : Int) := by omega
          have c3 : (st1.length : Int) ≤ ((st1.length + 1 : Nat) : Int) := by omega
          have p1 := q7 (n := n) (i := j) (by omega)
          have p2 := q7 (n := n) (i := k) (by omega)
          have pz1 := Xd (n := n) (k := j) (by omega)
          have pz2 := Xd (n := n) (k := k) (by omega)
          have z1 : uo (n : Int) := jz (by omega)
          have z2 : uo (j : Int) := jz (by omega)
          have z3 : uo (k : Int) := jz (by omega)
          have j1 : (0 : Int) ≤ ((place n j : Nat) : Int) ∧ ((place n j : Nat) : Int) < 16 := by omega
          have j2 : (0 : Int) ≤ ((place n k : Nat) : Int) ∧ ((place n k : Nat) : Int) < 16 := by omega
          have hmo' := (qi6 hn.2 (by omega) hnx').1
          rw [← e1] at hmo'
          simp (maxSteps := 3000000) only [qh, zH, Q1, Ke, kg, uz, yw, uc, ve, j4, h2n, hli, hk0, hks, hx, hnl, hw, hw1, hsl, hpos, hcl, hcl1, hcl2, hgj, c1, c2, c3, z1, z2, z3, pz1, pz2, j1, j2, qy hmo, qe, hmo.1, hmo'.1, qw hmo.1, qw hmo'.1, xq hmo.1 hmo'.1, zx, lim, qe1, Option.map_some, Option.map_none, Nat.zero_add, Nat.zero_mul, Int.toNat_zero, Nat.mul_one, Nat.sub_zero, Int.toNat_natCast, and_self, iE, iN, iB, iC, iL, iD, iA, iS, iM, qa, zZ, ↓qp, ↓reduceIte, reduceCtorEq, nA, nM, nS, nE, nL, nD]; try simp only [qa, zY]
          repeat' refine And.intro (by first | rfl | exact ⟨_, rfl⟩) ?_
          refine ⟨_, qt.qv [0, 2, 3, 4, 5, 6, 7], ⟨k + 1, m', st1, cl, by omega, hnx', hcl2, htk1, ?_⟩, ?_⟩
          · simp only [zL, ↓reduceIte, reduceCtorEq, nE, nA]; rw [e1]
          · simp only [zL, ↓reduceIte, reduceCtorEq, nE, nA]; omega
      · rw [if_neg h41] at hnx
        cases hnx
  · have hli : ¬ (k : Int) < ((2 * n : Nat) : Int) := by omega
    have ek : k = 2 * n := by omega
    have hem : st = [] ∧ m = m0 := by
      rw [ek, h] at hrd
      cases hrd
      exact ⟨rfl, rfl⟩
    obtain ⟨e1, e2⟩ := hem
    subst e1 e2
    have hz0 : ((0 : Nat) : Int) = 0 := rfl
    simp (maxSteps := 3000000) only [qh, zH, Q1, Ks, kg, uz, yw, uc, ve, j4, h2n, hli, hz0, qe, hmo.1, qw hmo.1, xq xa hmo.1, zx, List.length_replicate, List.length_nil, Int.lt_irrefl, iE, iN, iB, iC, iL, iD, iA, iS, iM, qa, zZ, ↓qp, ↓reduceIte, reduceCtorEq, nA, nM, nS, nE, nL, nD]; try simp only [qa, zY]
    simp only [qg, Bool.and_self]
def wj (n : Int) (L : List (List Nat)) : List AV := L.flatMap (dia n)
def okL (L : List (List Nat)) : Prop := ∀ m ∈ L, okD m
theorem zi {n : Int} : ∀ L : List (List Nat), AV.ze (wj n L) = true
  | [] => rfl
  | t :: ts => by simp only [wj, List.flatMap_cons]; exact K2 _ _ (qg _ _) (zi ts)
theorem qeo {n : Int} {m : List Nat} (h : okD m) : (dia n m).length = 17 := by rw [qe, h.1]
theorem bg {n : Int} : ∀ {L : List (List Nat)}, okL L → (wj n L).length = L.length * 17
  | [], _ => rfl
  | t :: ts, h => by
    have := bg (n := n) (L := ts) fun u hu => h u (List.mem_cons_of_mem _ hu)
    unfold wj at this ⊢
    simp only [List.flatMap_cons, List.length_append, qeo (h t (by simp)), List.length_cons, this]
    omega
theorem G0 {n : Int} : ∀ {L : List (List Nat)} {i : Nat}, okL L → (h : i < L.length) → List.take 17 (List.drop (i * 17) (wj n L)) = dia n L[i]
  | t :: ts, 0, h, hi => by
    have := qeo (n := n) (h t (by simp))
    simp only [wj, List.flatMap_cons, Nat.zero_mul, List.drop_zero, List.getElem_cons_zero]
    rw [List.take_append_of_le_length (by omega), List.take_of_length_le (by omega)]
  | t :: ts, i + 1, h, hi => by
    have h0 := qeo (n := n) (h t (by simp))
    have h1 := G0 (n := n) (L := ts) (i := i) (fun u hu => h u (List.mem_cons_of_mem _ hu)) (by simpa using hi)
    simp only [wj, List.flatMap_cons, List.getElem_cons_succ] at h1 ⊢
    rw [List.drop_append, List.drop_of_length_le (by omega), List.nil_append, h0, ← h1]
    congr 2; omega
theorem q11 {n : Int} {a b : List (List Nat)} : wj n (a ++ b) = wj n a ++ wj n b := by simp [wj]
theorem K9 {N : Nat} (h : 1 ≤ N ∧ N ≤ 6) : okL (qf N) := fun m hm => (V6 h hm).2
theorem qug {N : Nat} : (brs (2 * N) 0).length = (qf N).length := by simp [qf]
theorem qyl {N i : Nat} (h : i < (brs (2 * N) 0).length) : (qf N)[i]'(by rw [← qug]; exact h) = dOf (brs (2 * N) 0)[i] := by simp [qf]
theorem q1n {l : List (List UInt8)} {i : Nat} (h : i < l.length) : (strs l)[i]? = some (.str l[i]) := by simp [strs, h]
noncomputable def Bf : List AV → Option AV
  | [.str s] => match rdS (s.length / 2) s s.length with
    | some (m, []) => chk (s.length % 2 = 0 ∧ 2 ≤ s.length ∧ s.length ≤ 16) (some (.tup [.agg (dia ((s.length / 2 : Nat) : Int) m), .bool true]))
    | _ => none
  | _ => none
theorem q4p : Am.Callee Try.prog 134 (qk Bf) := Am.Callee.plain fun xs v he => by
  unfold Bf at he
  split at he
  · rename_i s
    split at he
    · rename_i m hr
      obtain ⟨⟨h1, h2, h3⟩, he⟩ := ql he
      cases he
      have e : s.length = 2 * (s.length / 2) := by omega
      have hr' : rdS (s.length / 2) s (2 * (s.length / 2)) = some (m, []) := by rw [← e]; exact hr
      exact ⟨rfl, by simp only [AV.zo, AV.ze, qg, Bool.and_self], qob (s.length / 2) s m (by omega) e hr'⟩
    · cases he
  · cases he
theorem qv7 : Am.Callee Try.prog 133 (vf 14) := qbx 14 (by omega)
noncomputable def q3a : za := ((q9b.put 134 (qk Bf)).put 133 (vf 14))
theorem qnu : qo Try.prog q3a := ((q44.put (q4p)).put (qv7))
theorem Qw : q3a 134 = some (qk Bf) := rfl
theorem k8 : q3a 133 = some (vf 14) := rfl
def Wx : AC := .seq (.seq (.region [oM 11 5,oM 12 3,o0 13 (.len .slc (.t 12)),oP 14 .lss 11 13]) (.cond 14 .skip (.exit 0))) (.seq (.block 1 (.seq (.region [oM 18 3,oM 19 5,oX 20 1 18 19,oL 21 20,oC 22 134 [.t 21],oM 17 22,oE 23 0 17,oE 24 1 17,oD 6,oS 17 6 23,oM 7 24]) (.region [oM 25 4,oN 26 17 6,o0 27 (.u6 1 [.int .i64 0,.int .u8 0,.int .u8 0,.int .u8 0,.int .u8 0,.int .u8 0,.int .u8 0,.int .u8 0,.int .u8 0,.int .u8 0,.int .u8 0,.int .u8 0,.int .u8 0,.int .u8 0,.int .u8 0,.int .u8 0,.int .u8 0] [(0,17,.t 26)]),o0 28 (.append 17 24 (.t 25) (.t 27)),oM 4 28]))) (.region [oM 15 5,oK 16 .add 15 1,oM 5 16]))
def qaq : AC := .seq (.region [oM 29 4,oM 2 29]) .ret
def qg6 : AC := .seq (.region [o0 2 (.mov (.c (.v (.slice none 0 0))))]) (.seq (.region [oM 8 0,⟨some 9,none,.call (.c (.fn 133 [] [])) [(.c (.v (.slice none 0 0))),(.c (.str [])),(.c (.int .i64 0)),.t 8]⟩,o0 10 (.u6 0 [] []),oM 3 9,oM 4 10]) (.seq (.seq (.region [oI 5 0]) (.block 0 (.loop Wx))) qaq))
theorem qtn : zj Try.prog 78 = some ⟨30, qg6, [.slot 2]⟩ := by kernel_rfl
theorem qs4 (N : Nat) (hN : 1 ≤ N ∧ N ≤ 6) :
    Am.Fn Try.prog 78 [.int .i64 N] [] (fun v H' => v = .slc 0 0 (qf N).length false 0 ∧ H' = [.vec 17 (wj N (qf N))]) := by
  refine Am.Fn.ofW qnu mixed qtn (by simp [AV.qu, AV.under]) (by simp) ?_
  have hk : Gd 14 0 0 0 (N : Int) := by
    refine Jz (o := 0) (by omega) (by omega) ?_
    have : 2 ^ (0 + 2 * N) ≤ 2 ^ 12 := Nat.pow_le_pow_right (by omega) (by omega)
    omega
  have ht : txs [] 0 N = brs (2 * N) 0 := by simp [txs]
  simp (maxSteps := 3000000) only [qh, zH, qg6, Qw, k8, Bf, vf, hk, ht, List.length_nil, Int.toNat_zero, Int.toNat_natCast, iE, iN, iB, iC, iL, iD, iA, iS, iM, qa, zZ, ↓qp, ↓reduceIte, reduceCtorEq, nA, nM, nS, nE, nL, nD]; try simp only [qa, zY]
  have hall := qug (N := N)
  have hlen := Vw hN
  have hT : ∀ i (h : i < (brs (2 * N) 0).length), rdS N (brs (2 * N) 0)[i] (2 * N) = some (dOf (brs (2 * N) 0)[i], []) ∧ (brs (2 * N) 0)[i].length = 2 * N ∧ (qf N)[i]'(by rw [← hall]; exact h) = dOf (brs (2 * N) 0)[i] := fun i h => by
    have := q6y hN _ (List.getElem_mem h)
    exact ⟨this.1, this.2, qyl h⟩
  have hL := K9 hN
  generalize hTe : brs (2 * N) 0 = T at *
  refine WA.xo qnu (fun t => ∃ i : Nat, i ≤ T.length ∧ t = ⟨[(0, .int .i64 N), (3, .slc 0 0 T.length false 0), (4, .slc 1 0 i false 0), (5, .int .i64 i)], [.vec 1 (strs T), .vec 17 (wj N ((qf N).take i))]⟩)
    (fun t => match get t.env 5 with | .int _ x => T.length - x.toNat | _ => 0) ⟨_, qt.trans (qt.qv [0, 3, 4, 5]) (qt.vec 1 0 17 (by decide) rfl rfl ?_ ?_), 0, by omega, ?_⟩ ?_
  · simp only [qv, zp, zV, ↓reduceIte, nE, reduceCtorEq, nB]
  · simp only [vo _ _ (jk _), zV, ↓reduceIte, nE, reduceCtorEq, nB]
  · simp only [qv, zp, vp _ _ _ (jk _), zV, ↓reduceIte, nE, reduceCtorEq, nB]; rfl
  rintro t ⟨i, hi, rfl⟩
  have hw : qn .i64 ((i : Int) + 1) = ((i + 1 : Nat) : Int) := by rw [wrap64 (by omega) (by omega)]; rfl
  by_cases hlt : i < T.length
  · have hli : (i : Int) < (T.length : Int) := by omega
    have hi0 : (0 : Int) ≤ (i : Int) := by omega
    obtain ⟨t1, t2, t3⟩ := hT i hlt
    have hg := q1n hlt
    have hsl := qe5 T
    have hia : i < (qf N).length := by omega
    have hmo := hL _ (List.getElem_mem hia)
    have hnx : wj N ((qf N).take (i + 1)) = wj N ((qf N).take i) ++ dia N (dOf T[i]) := by
      rw [List.take_succ_eq_append_getElem hia, q11, t3]; simp [wj]
    rw [t3] at hmo
    have hdl : (wj N ((qf N).take i)).length = i * 17 := by
      rw [bg (fun m hm => hL m (List.mem_of_mem_take hm)), List.length_take, Nat.min_eq_left (by omega)]
    have d2 : 2 * N / 2 = N := by omega
    have d3 : 2 * N % 2 = 0 ∧ 2 ≤ 2 * N ∧ 2 * N ≤ 16 := by omega
    generalize T[i] = s at hg t1 t2 hmo hnx
    generalize dOf s = m at t1 hmo hnx
    have hbd : (i + 1) * 24 ≤ 1099511627776 := by omega
    have hml := hmo.1
    have hs1 : src [.vec 1 (strs T), .vec 17 (wj N ((qf N).take i)), .cells (dia N m), .cells (dia N m)] 17 (.slc 3 0 1 true 1) = some (1, dia N m) := by
      simp [src, rd, chk, qe, hml, qw hml]
    have htk : List.take (i * 17) (wj N ((qf N).take i)) = wj N ((qf N).take i) := List.take_of_length_le (by omega)
    simp (maxSteps := 3000000) only [qh, zH, Wx, Qw, k8, Bf, vf, hlt, hs1, htk, ← hnx, Nat.le_refl, hli, hi0, hg, hsl, t1, t2, d2, d3, hdl, hbd, hw, x7, qe, hml, qw hml, xq xa hml, zx, List.length_replicate, Nat.mul_one, and_self, iE, iN, iB, iC, iL, iD, iA, iS, iM, qa, zZ, ↓qp, ↓reduceIte, reduceCtorEq, nA, nM, nS, nE, nL, nD]; try simp only [qa, zY]
    refine ⟨_, qt.can [0, 3, 4, 5] (by simp only [zy _ (jk _), zy _ (zi _), Wz, zC, nB, nD, nA, nE, ↓reduceIte, reduceCtorEq]; rfl), ⟨i + 1, by omega, ?_⟩, ?_⟩
    · simp only [qb _ _ (jk _), qb _ _ (zi _), zL, ↓reduceIte, reduceCtorEq, nE, nA]
    · simp only [zL, ↓reduceIte, reduceCtorEq, nE, nA]; omega
  · have hli : ¬ (i : Int) < (T.length : Int) := by omega
    have ei : i = T.length := by omega
    subst ei
    have hall2 : (qf N).take T.length = qf N := List.take_of_length_le (by omega)
    simp (maxSteps := 3000000) only [qh, zH, Wx, qaq, Qw, k8, Bf, vf, hli, hall2, Int.lt_irrefl, iE, iN, iB, iC, iL, iD, iA, iS, iM, qa, zZ, ↓qp, ↓reduceIte, reduceCtorEq, nA, nM, nS, nE, nL, nD]; try simp only [qa, zY]
    refine ⟨_, qt.refl _, Ret.xv [1] ⟨⟨by simp, rfl, by decide⟩, ?_⟩ (rs := [.slc 1 0 T.length false 0]) ?_ ?_ (by simp [xl]) ?_ ⟨?_, ?_⟩⟩
    · simp only [qd _ _ (zi _), zK, ↓reduceIte, reduceCtorEq, nE, nB, nA]
    · rfl
    · rfl
    · intro j l; cases j <;> simp [zn, AO.ren]
    · simp only [xl]
      simp only [hall, zL, ↓reduceIte, reduceCtorEq, nE, nA]
    · simp only [qb _ _ (zi _), zL, ↓reduceIte, reduceCtorEq, nE, nA]
noncomputable def Vj : List AV → Option (AV × List AO)
  | [.int .i64 n] => chk (1 ≤ n ∧ n ≤ 6) (some (.slc 0 0 (qf n.toNat).length false 0, [.vec 17 (wj (n.toNat : Int) (qf n.toNat))]))
  | _ => none
theorem q8d : Am.Callee Try.prog 78 (bu Vj) :=
  Am.Callee.new fun xs v H he => by
    unfold Vj at he
    split at he
    · rename_i n
      obtain ⟨h1, he⟩ := ql he
      obtain ⟨n, rfl⟩ : ∃ j : Nat, n = j := ⟨n.toNat, by omega⟩
      rw [Int.toNat_natCast] at he
      cases he
      exact ⟨rfl, qs4 n (by omega)⟩
    · cases he
noncomputable def q61 : za := (q3a.put 78 (bu Vj))
theorem qnr : qo Try.prog q61 := (qnu.put (q8d))
theorem u5 : q61 138 = some (qk G1) := rfl
open Classical in
noncomputable def qxy (l : List AV) : Option Nat := match l with
  | .int .i64 n :: _ => if (1 ≤ n.toNat ∧ n.toNat ≤ 6) ∧ l = wj (n.toNat : Int) (qf n.toNat) then some n.toNat else none
  | _ => none
theorem qlr {l : List AV} {N : Nat} (h : qxy l = some N) : (1 ≤ N ∧ N ≤ 6) ∧ l = wj (N : Int) (qf N) := by
  unfold qxy at h
  split at h
  · split at h
    · rename_i hc
      cases h
      exact hc
    · cases h
  · cases h
theorem qn7 {N : Nat} (hN : 1 ≤ N ∧ N ≤ 6) : qxy (wj (N : Int) (qf N)) = some N := by
  have hl := (Vw hN).1
  cases e : qf N with
  | nil => rw [e] at hl; simp at hl
  | cons m l =>
    have : wj (N : Int) (m :: l) = .int .i64 (N : Int) :: (u8s m ++ wj (N : Int) l) := by simp [wj, dia]
    unfold qxy
    rw [this]
    simp only [Int.toNat_natCast]
    rw [if_pos ⟨hN, by rw [e, this]⟩]
def ki : AC := .seq (.seq (.region [oM 11 5,oM 12 6,oP 13 .lss 11 12]) (.cond 13 .skip (.exit 0))) (.block 1 (.seq (.region [oM 14 5,oM 15 6,oP 16 .add 14 15,oK 17 .quo 16 2,oM 7 17]) (.seq (.draw false [oM 18 0,oM 19 7,oX 20 17 18 19,oN 21 17 20,oN 22 17 3,oC 23 138 [.t 21,.t 22]]) (.cond 23 (.region [oM 24 7,oK 25 .add 24 1,oM 5 25]) (.region [oM 26 7,oM 6 26])))))
def Bz : AC := .seq (.region [oM 27 5,oM 4 27]) .ret
def qc2 : AC := .seq (.region [o0 3 (.box (.t 1)),oI 4 0]) (.seq (.region [oM 8 0,o0 9 (.len .slc (.t 8)),oK 10 .sub 9 1,oI 5 0,oM 6 10]) (.seq (.block 0 (.loop ki)) Bz))
theorem qnv : zj Try.prog 82 = some ⟨28, qc2, [.slot 4]⟩ := by kernel_rfl
theorem qm9 (N : Nat) (m : List Nat) (hN : 1 ≤ N ∧ N ≤ 6) (hm : m ∈ qf N) :
    Am.Fn Try.prog 82 [.slc 0 0 (qf N).length false 0, .agg (dia N m)] [.ro (wj N (qf N))] (fun v H' => v = .int .i64 ((qf N).idxOf m : Nat) ∧ H' = [.ro (wj N (qf N))]) := by
  refine Am.Fn.xm (R := fun v => v = _) qnr mixed qnv (by simp [AV.qu, AV.under, qj _ _ (qg _ _)]) (Yf (zi _)) ?_
  have hlen := Vw hN
  have hmo := (V6 hN hm).2
  have hL := K9 hN
  have hal := bg (n := (N : Int)) hL
  have hix : (qf N).idxOf m < (qf N).length := List.idxOf_lt_length_of_mem hm
  have hpl := fun j h => qs8 hN hm (j := j) h
  have hgt := fun j h => G0 (n := (N : Int)) hL (i := j) h
  have hw0 : qn .i64 (((qf N).length : Int) - 1) = (((qf N).length - 1 : Nat) : Int) := by rw [wrap64 (by omega) (by omega)]; omega
  generalize hI : (qf N).idxOf m = I at hix hpl ⊢
  generalize hA : qf N = A at *
  simp (maxSteps := 3000000) only [qh, zH, qc2, u5, G1, hw0, iE, iN, iB, iC, iL, iD, iA, iS, iM, qa, zZ, ↓qp, ↓reduceIte, reduceCtorEq, nA, nM, nS, nE, nL, nD]; try simp only [qa, zY]
  refine WA.xo qnr (fun s => ∃ lo hi : Nat, lo ≤ I ∧ I ≤ hi ∧ hi < A.length ∧ s = ⟨[(0, .slc 0 0 A.length false 0), (3, .ptr 1 0), (5, .int .i64 lo), (6, .int .i64 hi)], [.ro (wj N A), .cells (dia N m)]⟩)
    (fun s => match get s.env 5, get s.env 6 with | .int _ x, .int _ y => y.toNat - x.toNat | _, _ => 0) ⟨_, qt.qv [0, 3, 5, 6], 0, A.length - 1, by omega, by omega, by omega, rfl⟩ ?_
  rintro s ⟨lo, hi, h1, h2, h3, rfl⟩
  by_cases hlt : lo < hi
  · have hli : (lo : Int) < (hi : Int) := by omega
    obtain ⟨mid, hmid⟩ : ∃ mid, mid = (lo + hi) / 2 := ⟨_, rfl⟩
    have w1 : qn .i64 ((lo : Int) + (hi : Int)) = ((lo + hi : Nat) : Int) := by rw [wrap64 (by omega) (by omega)]; omega
    have w2 : ((lo + hi : Nat) : Int).tdiv 2 = (mid : Int) := by rw [hmid]; exact (Int.ofNat_tdiv (lo + hi) 2).symm
    have w3 : qn .i64 (mid : Int) = (mid : Int) := wrap64 (by omega) (by omega)
    have w4 : qn .i64 ((mid : Int) + 1) = ((mid + 1 : Nat) : Int) := by rw [wrap64 (by omega) (by omega)]; rfl
    have b1 : (0 : Int) ≤ (mid : Int) := by omega
    have b2 : (mid : Int) < (A.length : Int) := by omega
    have b3 : mid * 17 < A.length * 17 := by omega
    have b4 : mid * 17 + 17 ≤ A.length * 17 := by omega
    have hmA : mid < A.length := by omega
    have g1 := hgt mid hmA
    have g2 := hpl mid hmA
    have o1 : okD A[mid] := hL _ (List.getElem_mem hmA)
    have n8 : (0 : Int) ≤ (N : Int) ∧ (N : Int) ≤ 8 := by omega
    by_cases hc : mid < I
    · rw [decide_eq_true hc] at g2
      simp (maxSteps := 3000000) only [qh, zH, ki, u5, G1, hli, w1, w2, w3, w4, b1, b2, b3, b4, hal, g1, g2, n8, qy o1, qy hmo, qe, hmo.1, qw hmo.1, Int.toNat_natCast, and_self, iE, iN, iB, iC, iL, iD, iA, iS, iM, qa, zZ, ↓qp, ↓reduceIte, reduceCtorEq, nA, nM, nS, nE, nL, nD]; try simp only [qa, zY]
      refine ⟨_, qt.qv [0, 3, 5, 6], ⟨mid + 1, hi, by omega, by omega, by omega, ?_⟩, ?_⟩
      · simp only [zL, ↓reduceIte, reduceCtorEq, nE, nA]
      · simp only [zL, ↓reduceIte, reduceCtorEq, nE, nA]; omega
    · rw [decide_eq_false hc] at g2
      simp (maxSteps := 3000000) only [qh, zH, ki, u5, G1, hli, w1, w2, w3, w4, b1, b2, b3, b4, hal, g1, g2, n8, qy o1, qy hmo, qe, hmo.1, qw hmo.1, Int.toNat_natCast, and_self, iE, iN, iB, iC, iL, iD, iA, iS, iM, qa, zZ, ↓qp, ↓reduceIte, reduceCtorEq, nA, nM, nS, nE, nL, nD]; try simp only [qa, zY]
      refine ⟨_, qt.qv [0, 3, 5, 6], ⟨lo, mid, by omega, by omega, by omega, ?_⟩, ?_⟩
      · simp only [zL, ↓reduceIte, reduceCtorEq, nE, nA]
      · simp only [zL, ↓reduceIte, reduceCtorEq, nE, nA]; omega
  · have hli : ¬ (lo : Int) < (hi : Int) := by omega
    obtain rfl : lo = I := by omega
    simp (maxSteps := 3000000) only [qh, zH, ki, Bz, u5, G1, hli, iE, iN, iB, iC, iL, iD, iA, iS, iM, qa, zZ, ↓qp, ↓reduceIte, reduceCtorEq, nA, nM, nS, nE, nL, nD]; try simp only [qa, zY]
    exact ⟨_, rfl⟩
noncomputable def g9 : BE := fun hp xs => match xs with
  | [.slc b 0 k false 0, .agg d] => match rd hp b with
    | some l => match qxy l, vn d with
      | some N, some (n, m) => chk ((k = (qf N).length ∧ n = (N : Int)) ∧ m ∈ qf N) (some (.int .i64 ((qf N).idxOf m : Nat), hp))
      | _, _ => none
    | none => none
  | _ => none
theorem q9l : Am.Callee Try.prog 82 g9 := Callee.fp fun hp xs v hp' he => by
  unfold g9 at he
  split at he
  · rename_i b k d
    split at he
    · rename_i l hl
      split at he
      · rename_i N n m hN hd
        obtain ⟨⟨⟨k1, k2⟩, k3⟩, he⟩ := ql he
        simp only [Option.some.injEq, Prod.mk.injEq] at he
        obtain ⟨rfl, rfl⟩ := he
        obtain ⟨h1, rfl⟩ := qlr hN
        obtain ⟨rfl, hm⟩ := zm hd
        subst k1 k2
        refine ⟨[(b, 0)], [.slc 0 0 (qf N).length false 0, .agg (dia N m)], _, _, _, qm9 N m h1 k3, by simp [AV.ren, AV.zk, ofL, qb _ _ (qg _ _)], rfl, ⟨⟨_, hl, by simp, by simp [qb _ _ (zi _)]⟩, trivial⟩, rfl, ⟨qj _ _ (zi _), trivial⟩, ⟨by simp [AV.under], qj _ _ (qg _ _), trivial⟩, by simp [AV.ren], ?_⟩
        simp [after, upd, AO.wr]
      · cases he
    · cases he
  · cases he
noncomputable def q4g : za := (q61.put 82 (g9))
theorem qac : qo Try.prog q4g := (qnr.put (q9l))
theorem zu : q4g 140 = some (qk jl) := rfl
theorem zs : q4g 82 = some (g9) := rfl
theorem qxv {l l' l2 : List AV} (h : AV.ze l = true) (h' : AV.ze l' = true) (h2 : AV.ze l2 = true) : ∀ (j : Nat) (o : AO), [AO.ro l, AO.ro l', AO.ro l2][j]? = some o → o.under [AO.ro l, AO.ro l', AO.ro l2].length := by
  intro j o e
  match j, e with
  | 0, e => cases e; exact qj _ _ h
  | 1, e => cases e; exact qj _ _ h'
  | 2, e => cases e; exact qj _ _ h2
  | j + 3, e => simp at e
theorem qhw : ∀ (n : Nat), rep n [.int .i64 0] = jf (List.replicate n 0)
  | 0 => rfl
  | n + 1 => by simp only [rep, qhw n, List.replicate_succ, jf, List.map_cons]; rfl
theorem qzp {p : Int} {L : List (List Nat)} {v : List Int} (hp : 0 < p) (h : ∀ x ∈ v, 0 ≤ x ∧ x ≤ p - 1) (m : List Nat) : 0 ≤ atR L v m ∧ atR L v m ≤ p - 1 := by
  unfold atR
  rw [List.getD_eq_getElem?_getD]
  cases e : v[L.idxOf m]? with
  | none => simp; omega
  | some x => exact h x (List.mem_of_getElem? e)
def By : AT := (.one (oM 46 2) (.one (oM 47 12) (.one (oX 48 17 46 47) (.one (oN 49 17 48) (.one (oM 50 2) (.one (oM 51 13) (.one (oX 52 17 50 51) (.one (oN 53 17 52) (.alt (oC 54 140 [.t 49,.t 53]) (.one (oM 45 54) (.one (oE 55 0 45) (.one (oE 56 1 45) (.one (oD 14) (.one (oS 17 14 55) (.one (oM 15 56) (.nil))))))) (.alt (oD 14) (.one (oC 54 140 [.t 49,.t 53]) (.one (oM 45 54) (.one (oE 55 0 45) (.one (oE 56 1 45) (.one (oS 17 14 55) (.one (oM 15 56) (.nil))))))) (.none)))))))))))
def X6 : AC := .seq (.seq (.region [oM 68 15,oK 69 .gtr 68 0]) (.cond 69 .skip (.exit 4))) (.seq (.block 5 (.region [oM 72 16,oM 73 1,oP 74 .mul 72 73,oM 75 0,oP 76 .rem 74 75,oM 16 76])) (.region [oM 70 15,oK 71 .sub 70 1,oM 15 71]))
def Br : AC := .seq (.region [oM 77 2,oN 78 17 14,oC 79 82 [.t 77,.t 78],oM 17 79]) (.region [oM 80 11,oM 81 17,oM 82 11,oM 83 17,oX 84 1 82 83,oL 85 84,oM 86 16,oP 87 .add 85 86,oM 88 0,oP 89 .rem 87 88,oX 90 1 80 81,oT 90 89])
def Bt : AC := .seq (.draw false [oM 57 3,oM 58 12,oX 59 1 57 58,oL 60 59,oM 61 4,oM 62 13,oX 63 1 61 62,oL 64 63,oP 65 .mul 60 64,oM 66 0,oP 67 .rem 65 66,oM 16 67]) (.seq (.block 4 (.loop X6)) Br)
def Ja : AC := .region [oM 38 13,oK 39 .add 38 1,oM 13 39]
def uh : AC := .seq (.seq (.region [oM 27 13,oM 28 2,o0 29 (.len .slc (.t 28)),oP 30 .lss 27 29,oM 31 30,oG 32 31 true (.mov (.t 3)),oG 33 31 true (.mov (.t 12)),oG 34 31 true (.W4 1 (.t 32) (.t 33)),oG 35 31 true (.Wg (.t 34)),oG 36 31 true (.bin .neq (.t 35) (.c (.int .i64 0))),o0 37 (.pick (.t 31) (.t 36) (.c (.bool false)))]) (.cond 37 .skip (.exit 2))) (.seq (.block 3 (.seq (.seq (.region [oM 40 4,oM 41 13,oX 42 1 40 41,oL 43 42,oK 44 .eql 43 0]) (.cond 44 (.exit 3) .skip)) (.seq (.tree false By) Bt))) Ja)
def X0 : AC := .region [oM 25 12,oK 26 .add 25 1,oM 12 26]
def X5 : AC := .seq (.seq (.region [oM 21 12,oM 22 2,o0 23 (.len .slc (.t 22)),oP 24 .lss 21 23]) (.cond 24 .skip (.exit 0))) (.seq (.block 1 (.seq (.region [oI 13 0]) (.block 2 (.loop uh)))) X0)
def Bm : AC := .seq (.region [oM 91 11,oM 10 91]) .ret
def qch : AC := .seq (.region [o0 10 (.mov (.c (.v (.slice none 0 0))))]) (.seq (.region [oM 18 2,o0 19 (.len .slc (.t 18)),o0 20 (.kn 1 8 [.int .i64 0] (.t 19) (.t 19)),oM 11 20]) (.seq (.seq (.region [oI 12 0]) (.block 0 (.loop X5))) Bm))
theorem qmf : zj Try.prog 85 = some ⟨92, qch, [.slot 10]⟩ := by kernel_rfl
theorem qnk (p c : Int) (N : Nat) (v w : List Int) (hp : 2 ≤ p ∧ p ≤ 97) (hc : 0 ≤ c ∧ c ≤ p - 1) (hN : 1 ≤ N ∧ N ≤ 6) (hv : v.length = (qf N).length) (hw : w.length = (qf N).length) (bv : ∀ x ∈ v, 0 ≤ x ∧ x ≤ p - 1) (bw : ∀ x ∈ w, 0 ≤ x ∧ x ≤ p - 1) :
    Am.Fn Try.prog 85 [.int .i64 p, .int .i64 c, .slc 0 0 (qf N).length false 0, .slc 1 0 (qf N).length true (qf N).length, .slc 2 0 (qf N).length true (qf N).length] [.ro (wj N (qf N)), .ro (jf v), .ro (jf w)]
      (fun r H' => r = .slc 3 0 (qf N).length true (qf N).length ∧ H' = [.ro (wj N (qf N)), .ro (jf v), .ro (jf w), .cells (jf (qd1 p c N v w))]) := by
  refine Am.Fn.ofB qac mixed qmf (by simp [AV.qu, AV.under]) (qxv (zi _) (qz _) (qz _)) ?_
  have hlen := Vw hN
  have hL := K9 hN
  have hal := bg (n := (N : Int)) hL
  have hgt := fun j h => G0 (n := (N : Int)) hL (i := j) h
  have hls := qn7 hN
  have hnd := Xa hN
  have hrow := qu2 hnd hv
  have hrow' := qu2 hnd hw
  have h0 := qtl (p := p) (c := c) (N := N) (v := v) (w := w) (by omega)
  have hz1 : (0 : Int) ≤ ((qf N).length : Int) ∧ ((qf N).length : Int) ≤ ((qf N).length : Int) ∧ ((qf N).length : Int) * 8 ≤ 281474976710656 := by omega
  simp (maxSteps := 3000000) only [qh, zH, qch, zu, zs, g9, jl, qhw, ← h0, Int.toNat_natCast, iE, iN, iB, iC, iL, iD, iA, iS, iM, qa, zZ, ↓qp, ↓reduceIte, reduceCtorEq, nA, nM, nS, nE, nL, nD]; try simp only [qa, zY]
  refine ⟨hz1, ?_⟩
  clear h0
  have hix : ∀ m, m ∈ qf N → (qf N).idxOf m < (qf N).length := fun m h => List.idxOf_lt_length_of_mem h
  refine WA.xo qac (fun s => ∃ i : Nat, i ≤ (qf N).length ∧ s = ⟨[(0, .int .i64 p), (1, .int .i64 c), (2, .slc 0 0 (qf N).length false 0), (3, .slc 1 0 (qf N).length true (qf N).length), (4, .slc 2 0 (qf N).length true (qf N).length), (11, .slc 3 0 (qf N).length true (qf N).length), (12, .int .i64 i)], [.ro (wj N (qf N)), .ro (jf v), .ro (jf w), .cells (jf (Xl p c N v w i 0))]⟩)
    (fun s => match get s.env 12 with | .int _ x => (qf N).length - x.toNat | _ => 0) ⟨_, qt.qv [0, 1, 2, 3, 4, 11, 12], 0, by omega, rfl⟩ ?_
  rintro s ⟨i, hi, rfl⟩
  have hwi : qn .i64 ((i : Int) + 1) = ((i + 1 : Nat) : Int) := by rw [wrap64 (by omega) (by omega)]; rfl
  by_cases hlt : i < (qf N).length
  · have hli : (i : Int) < ((qf N).length : Int) := by omega
    have hi0 : (0 : Int) ≤ (i : Int) := by omega
    simp (maxSteps := 3000000) only [qh, zH, X5, zu, zs, g9, jl, hli, iE, iN, iB, iC, iL, iD, iA, iS, iM, qa, zZ, ↓qp, ↓reduceIte, reduceCtorEq, nA, nM, nS, nE, nL, nD]; try simp only [qa, zY]
    refine WA.xo qac (fun s => ∃ k : Nat, k ≤ (qf N).length ∧ s = ⟨[(0, .int .i64 p), (1, .int .i64 c), (2, .slc 0 0 (qf N).length false 0), (3, .slc 1 0 (qf N).length true (qf N).length), (4, .slc 2 0 (qf N).length true (qf N).length), (11, .slc 3 0 (qf N).length true (qf N).length), (12, .int .i64 i), (13, .int .i64 k)], [.ro (wj N (qf N)), .ro (jf v), .ro (jf w), .cells (jf (Xl p c N v w i k))]⟩)
      (fun s => match get s.env 13 with | .int _ x => (qf N).length - x.toNat | _ => 0) ⟨_, qt.qv [0, 1, 2, 3, 4, 11, 12, 13], 0, by omega, rfl⟩ ?_
    rintro s ⟨k, hk, rfl⟩
    have hwk : qn .i64 ((k : Int) + 1) = ((k + 1 : Nat) : Int) := by rw [wrap64 (by omega) (by omega)]; rfl
    have hvi : i < v.length := by omega
    have hla := jd v
    have hlb := jd w
    have bvi := qzp (L := qf N) (by omega) bv (qf N)[i]
    have avi : atR (qf N) v (qf N)[i] = v.getD i 0 := by unfold atR; rw [qm0 hnd hlt]
    by_cases hltk : k < (qf N).length
    · have hlk : (k : Int) < ((qf N).length : Int) := by omega
      have hk0 : (0 : Int) ≤ (k : Int) := by omega
      have hwk' : k < w.length := by omega
      by_cases hz : v.getD i 0 = 0
      · have hno := q3i (p := p) (c := c) (w := w) (k := k) hlt (avi.trans hz)
        simp (maxSteps := 3000000) only [qh, zH, uh, X0, zu, zs, g9, jl, hlk, hli, hi0, hk0, hla, hlb, hvi, hwk', hz, hwi, hno, and_self, iE, iN, iB, iC, iL, iD, iA, iS, iM, qa, zZ, ↓qp, ↓reduceIte, reduceCtorEq, nA, nM, nS, nE, nL, nD]; try simp only [qa, zY]
        refine ⟨_, qt.qv [0, 1, 2, 3, 4, 11, 12], ⟨i + 1, by omega, ?_⟩, ?_⟩
        · simp only [zL, ↓reduceIte, reduceCtorEq, nE, nA]
        · simp only [zL, ↓reduceIte, reduceCtorEq, nE, nA]; omega
      · have hzb : (v.getD i 0 == 0) = false := beq_false_of_ne hz
        by_cases hzw : w.getD k 0 = 0
        · have awk : atR (qf N) w (qf N)[k] = 0 := by unfold atR; rw [qm0 hnd hltk]; exact hzw
          have hsk := qw5 (p := p) (c := c) (v := v) (i := i) hltk awk
          simp (maxSteps := 3000000) only [qh, zH, uh, Ja, zu, zs, g9, jl, hlk, hli, hi0, hk0, hla, hlb, hvi, hwk', hz, hzb, hzw, hwk, hsk, and_self, iE, iN, iB, iC, iL, iD, iA, iS, iM, qa, zZ, ↓qp, ↓reduceIte, reduceCtorEq, nA, nM, nS, nE, nL, nD]; try simp only [qa, zY]
          refine ⟨_, qt.qv [0, 1, 2, 3, 4, 11, 12, 13], ⟨k + 1, by omega, ?_⟩, ?_⟩
          · simp only [zL, ↓reduceIte, reduceCtorEq, nE, nA]
          · simp only [zL, ↓reduceIte, reduceCtorEq, nE, nA]; omega
        · have hzwb : (w.getD k 0 == 0) = false := beq_false_of_ne hzw
          have awk : atR (qf N) w (qf N)[k] = w.getD k 0 := by unfold atR; rw [qm0 hnd hltk]
          have bwk := qzp (L := qf N) (by omega) bw (qf N)[k]
          have g1 := hgt i hlt
          have g2 := hgt k hltk
          have o1 : okD (qf N)[i] := hL _ (List.getElem_mem hlt)
          have o2 : okD (qf N)[k] := hL _ (List.getElem_mem hltk)
          have s1 := (V6 hN (List.getElem_mem hlt)).1
          have s2 := (V6 hN (List.getElem_mem hltk)).1
          have hpr := qoz s1 s2
          have hin : xr N (qf N)[i] (qf N)[k] ∈ qf N := qcc hpr.1 hpr.2.1
          have hput := fun x hx => qyu (p := p) (c := c) (v := v) (w := w) (x := x) hN hlt hltk hin hx
          have hiq := hix _ hin
          have hpo : okD (xr N (qf N)[i] (qf N)[k]) := (V6 hN hin).2
          have hlp := qjp N (qf N)[i] (qf N)[k] N
          have b1 : i * 17 < (qf N).length * 17 := by omega
          have b2 : i * 17 + 17 ≤ (qf N).length * 17 := by omega
          have b3 : k * 17 < (qf N).length * 17 := by omega
          have b4 : k * 17 + 17 ≤ (qf N).length * 17 := by omega
          have hn0 : (0 : Int) ≤ (N : Int) := by omega
          have hq := q3p (p := p) (c := c) (N := N) (v := v) (w := w) (i := i) (k := k) (by omega) ((qf N).idxOf (xr N (qf N)[i] (qf N)[k]))
          have hpl := q2h (p := p) (c := c) (N := N) (v := v) (w := w) (i := i) (k := k)
          rw [avi, awk] at hput
          rw [avi] at bvi
          rw [awk] at bwk
          generalize hxe : v.getD i 0 = x at *
          generalize hye : w.getD k 0 = y at *
          generalize hm : xr N (qf N)[i] (qf N)[k] = m at *
          generalize hll : lpN N (qf N)[i] (qf N)[k] N = lp at *
          generalize hRn : Xl p c N v w i (k + 1) = R' at *
          generalize hRe : Xl p c N v w i k = R at *
          generalize hqi : (qf N).idxOf m = q at *
          obtain ⟨m1, m2, m3, m4⟩ := pow_mul (p := p) (c := y) (x := x) hp bwk bvi
          have hp0 : ¬ p = 0 := by omega
          simp (maxSteps := 3000000) only [qh, zH, uh, zu, zs, g9, jl, hlk, hli, hi0, hk0, hla, hlb, hvi, hwk', hxe, hye, hz, hzb, hzw, hzwb, and_self, iE, iN, iB, iC, iL, iD, iA, iS, iM, qa, zZ, ↓qp, ↓reduceIte, reduceCtorEq, nA, nM, nS, nE, nL, nD]; try simp only [qa, zY]
          refine WA.qfl qac (fun s => s = ⟨[(0, .int .i64 p), (1, .int .i64 c), (2, .slc 0 0 (qf N).length false 0), (3, .slc 1 0 (qf N).length true (qf N).length), (4, .slc 2 0 (qf N).length true (qf N).length), (11, .slc 3 0 (qf N).length true (qf N).length), (12, .int .i64 i), (13, .int .i64 k), (14, .ptr 4 0), (15, .int .i64 lp)], [.ro (wj N (qf N)), .ro (jf v), .ro (jf w), .cells (jf R), .cells (dia N m)]⟩) ?_ ?_
          · unfold By
            simp (maxSteps := 3000000) only [qh, zH, bb, Qy, zu, zs, g9, jl, hlk, hli, hi0, hk0, hal, b1, b2, b3, b4, g1, g2, qy o1, qy o2, s1, s2, hn0, hm, hll, x7, zq, Qe hpr.2.1, qe, hpr.2.1, zx, Int.toNat_natCast, List.length_replicate, Nat.le_refl, and_self, iE, iN, iB, iC, iL, iD, iA, iS, iM, qa, zZ, ↓qp, ↓reduceIte, reduceCtorEq, nA, nM, nS, nE, nL, nD]; try simp only [qa, zY]
            repeat' first | (with_reducible exact ⟨_, rfl⟩) | (exact rfl) | (with_reducible refine And.intro ?_ ?_)
            all_goals exact ⟨_, qt.qv [0, 1, 2, 3, 4, 11, 12, 13, 14, 15], rfl⟩
          rintro s rfl
          simp (maxSteps := 3000000) only [qh, zH, Bt, zu, zs, g9, jl, hlk, hli, hi0, hk0, hla, hlb, hvi, hwk', hxe, hye, m1, m2, hp0, and_self, iE, iN, iB, iC, iL, iD, iA, iS, iM, qa, zZ, ↓qp, ↓reduceIte, reduceCtorEq, nA, nM, nS, nE, nL, nD]; try simp only [qa, zY]
          refine WA.xo qac (fun s => ∃ j : Nat, j ≤ lp ∧ s = ⟨[(0, .int .i64 p), (1, .int .i64 c), (2, .slc 0 0 (qf N).length false 0), (3, .slc 1 0 (qf N).length true (qf N).length), (4, .slc 2 0 (qf N).length true (qf N).length), (11, .slc 3 0 (qf N).length true (qf N).length), (12, .int .i64 i), (13, .int .i64 k), (14, .ptr 4 0), (15, .int .i64 (lp - j : Nat)), (16, .int .i64 (((x * y).emod p * xt p c j).emod p))], [.ro (wj N (qf N)), .ro (jf v), .ro (jf w), .cells (jf R), .cells (dia N m)]⟩)
            (fun s => match get s.env 15 with | .int _ x => x.toNat | _ => 0) ⟨_, qt.qv [0, 1, 2, 3, 4, 11, 12, 13, 14, 15, 16], 0, by omega, ?_⟩ ?_
          · have e0 : ((x * y).emod p * xt p c 0).emod p = (x * y).emod p := by
              rw [show xt p c 0 = 1 from rfl, Int.mul_one]; exact Int.emod_emod_of_dvd _ (Int.dvd_refl p)
            rw [e0]; rfl
          rintro s ⟨j, hj, rfl⟩
          have bz := qgx (p := p) (by omega) ((x * y).emod p * xt p c j)
          by_cases hlj : j < lp
          · have hlj' : (0 : Int) < ((lp - j : Nat) : Int) := by omega
            have hwj : qn .i64 (((lp - j : Nat) : Int) - 1) = ((lp - (j + 1) : Nat) : Int) := by rw [wrap64 (by omega) (by omega)]; omega
            obtain ⟨n1, n2, n3, n4⟩ := pow_mul (p := p) (c := c) (x := ((x * y).emod p * xt p c j).emod p) hp hc bz
            have hst := q1j (p := p) (c := c) (y := (x * y).emod p) (j := j)
            simp (maxSteps := 3000000) only [qh, zH, X6, zu, zs, g9, jl, hlj', hwj, n1, n2, hst, hp0, and_self, iE, iN, iB, iC, iL, iD, iA, iS, iM, qa, zZ, ↓qp, ↓reduceIte, reduceCtorEq, nA, nM, nS, nE, nL, nD]; try simp only [qa, zY]
            refine ⟨_, qt.qv [0, 1, 2, 3, 4, 11, 12, 13, 14, 15, 16], ⟨j + 1, by omega, ?_⟩, ?_⟩
            · simp only [zL, ↓reduceIte, reduceCtorEq, nE, nA]
            · simp only [zL, ↓reduceIte, reduceCtorEq, nE, nA]; omega
          · have hlj' : ¬ (0 : Int) < ((lp - j : Nat) : Int) := by omega
            have ej : j = lp := by omega
            subst ej
            have hdv : p ∣ ((x * y).emod p * xt p c j).emod p - xt p c j * (x * y) := by
              obtain ⟨q1, hq1⟩ := kh p ((x * y).emod p * xt p c j)
              obtain ⟨q2, hq2⟩ := kh p (x * y)
              have e1 : (x * y).emod p = x * y + p * q2 := by omega
              refine ⟨q1 + q2 * xt p c j, ?_⟩
              have e2 : ((x * y).emod p * xt p c j).emod p = (x * y).emod p * xt p c j + p * q1 := by omega
              rw [e2, e1, Int.add_mul, Int.mul_add, Int.mul_assoc p, Int.mul_comm (xt p c j)]
              omega
            have hpt := hput _ hdv
            generalize ((x * y).emod p * xt p c j).emod p = z at *
            have hws : qn .i64 (R.getD q 0 + z) = R.getD q 0 + z := wrap64 (by omega) (by omega)
            have hts : (R.getD q 0 + z).tmod p = (R.getD q 0 + z).emod p := Int.tmod_eq_emod_of_nonneg (by omega)
            have hq0 : (0 : Int) ≤ (q : Int) := by omega
            have hqK : (q : Int) < ((qf N).length : Int) := by omega
            have hlr := jd R
            have hqR : q < R.length := by omega
            simp (maxSteps := 3000000) only [qh, zH, X6, Br, Ja, zu, zs, g9, jl, hlj', hls, qy hpo, hin, hqi, hq0, hqK, hlr, hpl, hiq, hws, hts, hpt, hwk, hp0, qc8, qe, hpr.2.1, qw hpr.2.1, Int.toNat_natCast, Int.lt_irrefl, and_self, iE, iN, iB, iC, iL, iD, iA, iS, iM, qa, zZ, ↓qp, ↓reduceIte, reduceCtorEq, nA, nM, nS, nE, nL, nD]; try simp only [qa, zY]
            refine ⟨rfl, _, qt.can [0, 1, 2, 3, 4, 11, 12, 13] (by simp only [zy _ (zi _), zy _ (qz _), Wz, zC, nB, nD, nA, nE, ↓reduceIte, reduceCtorEq]; rfl), ⟨k + 1, by omega, ?_⟩, ?_⟩
            · simp only [qb _ _ (zi _), qb _ _ (qz _), zL, ↓reduceIte, reduceCtorEq, nE, nA]
              rw [hRn]
            · simp only [zL, ↓reduceIte, reduceCtorEq, nE, nA]; omega
    · have hlk : ¬ (k : Int) < ((qf N).length : Int) := by omega
      have ek : k = (qf N).length := by omega
      subst ek
      have hrw := qq9 (p := p) (c := c) (v := v) (w := w) hlt
      simp (maxSteps := 3000000) only [qh, zH, uh, X0, zu, zs, g9, jl, hlk, hwi, hrw, Int.lt_irrefl, and_self, iE, iN, iB, iC, iL, iD, iA, iS, iM, qa, zZ, ↓qp, ↓reduceIte, reduceCtorEq, nA, nM, nS, nE, nL, nD]; try simp only [qa, zY]
      refine ⟨_, qt.qv [0, 1, 2, 3, 4, 11, 12], ⟨i + 1, by omega, ?_⟩, ?_⟩
      · simp only [zL, ↓reduceIte, reduceCtorEq, nE, nA]
      · simp only [zL, ↓reduceIte, reduceCtorEq, nE, nA]; omega
  · have hli : ¬ (i : Int) < ((qf N).length : Int) := by omega
    have ei : i = (qf N).length := by omega
    subst ei
    rw [q08]
    simp (maxSteps := 3000000) only [qh, zH, X5, Bm, zu, zs, g9, jl, hli, Int.lt_irrefl, iE, iN, iB, iC, iL, iD, iA, iS, iM, qa, zZ, ↓qp, ↓reduceIte, reduceCtorEq, nA, nM, nS, nE, nL, nD]; try simp only [qa, zY]
    refine Ret.xv [0, 1, 2, 3] ⟨⟨by simp, rfl, by decide⟩, ?_⟩ (rs := [.slc 3 0 (qf N).length true (qf N).length]) ?_ ?_ (by simp [xl]) ?_ ⟨?_, ?_⟩
    · simp only [qd _ _ (zi _), qd _ _ (qz _), zK, ↓reduceIte, reduceCtorEq, nE, nB, nA]
    · rfl
    · rfl
    · intro j l
      match j with
      | 0 => simp [zn, AO.ren]
      | 1 => simp [zn, AO.ren]
      | 2 => simp [zn, AO.ren]
      | 3 => simp [zn, AO.ren]
      | j + 4 => simp [zn]
    · rfl
    · simp only [qb _ _ (zi _), qb _ _ (qz _), zL, ↓reduceIte, reduceCtorEq, nE, nA]
def qs5 (p : Int) (v : List Int) : Prop := ∀ x ∈ v, 0 ≤ x ∧ x ≤ p - 1
instance {p : Int} {v : List Int} : Decidable (qs5 p v) := inferInstanceAs (Decidable (∀ x ∈ v, _))
noncomputable def qce : BE := fun hp xs => match xs with
  | [.int .i64 p, .int .i64 c, .slc bl 0 k false 0, .slc bv 0 k1 true c1, .slc bw 0 k2 true c2] => match rd hp bl, rd hp bv, rd hp bw with
    | some l, some lv, some lw => match qxy l, qp8 lv, qp8 lw with
      | some N, some v, some w => chk (((k = (qf N).length ∧ k1 = (qf N).length ∧ c1 = (qf N).length) ∧ k2 = (qf N).length ∧ c2 = (qf N).length) ∧ (v.length = (qf N).length ∧ w.length = (qf N).length) ∧ ((2 ≤ p ∧ p ≤ 97) ∧ (0 ≤ c ∧ c ≤ p - 1)) ∧ qs5 p v ∧ qs5 p w)
          (some (.slc hp.length 0 (qf N).length true (qf N).length, hp ++ [.cells (jf (qd1 p c N v w))]))
      | _, _, _ => none
    | _, _, _ => none
  | _ => none
theorem q8l : Am.Callee Try.prog 85 qce := Callee.fp fun hp xs v hp' he => by
  unfold qce at he
  split at he
  · rename_i p c bl k bv k1 c1 bw k2 c2
    split at he
    · rename_i l lv lw hl hlv hlw
      split at he
      · rename_i N v w hN hv hw
        obtain ⟨⟨⟨⟨a1, a2, a3⟩, a4, a5⟩, ⟨a6, a7⟩, ⟨a8, a9⟩, b1, b2⟩, he⟩ := ql he
        simp only [Option.some.injEq, Prod.mk.injEq] at he
        obtain ⟨rfl, rfl⟩ := he
        obtain ⟨h1, rfl⟩ := qlr hN
        obtain rfl := qdy hv
        obtain rfl := qdy hw
        subst a1 a2 a3 a4 a5
        refine ⟨[(bl, 0), (bv, 0), (bw, 0)], [.int .i64 p, .int .i64 c, .slc 0 0 (qf N).length false 0, .slc 1 0 (qf N).length true (qf N).length, .slc 2 0 (qf N).length true (qf N).length], _, _, _,
          qnk p c N v w a8 a9 h1 a6 a7 b1 b2, by simp [AV.ren, AV.zk, ofL], rfl,
          ⟨⟨_, hl, by simp, by simp [qb _ _ (zi _)]⟩, ⟨_, hlv, by simp, by simp [qb _ _ (qz _)]⟩, ⟨_, hlw, by simp, by simp [qb _ _ (qz _)]⟩, trivial⟩, rfl,
          ⟨qj _ _ (zi _), qj _ _ (qz _), qj _ _ (qz _), trivial⟩, ⟨trivial, trivial, by simp [AV.under], by simp [AV.under], by simp [AV.under], trivial⟩, by simp [AV.ren, Ren.ext], ?_⟩
        simp [after, upd, AO.wr, AO.ren, qb _ _ (qz _)]
      · cases he
    · cases he
  · cases he
noncomputable def q9h : za := (q4g.put 85 (qce))
theorem q32 : qo Try.prog q9h := (qac.put (q8l))
noncomputable def W8 : za := q9h
theorem qvj : qo Try.prog W8 := q32
theorem jm : W8 135 = some (qk qcj) := rfl
theorem yi : W8 78 = some (bu Vj) := rfl
theorem yb : W8 84 = some (qk Wl) := rfl
theorem j9 : W8 67 = some (qk Uu) := rfl
theorem yd : W8 70 = some (qk Jm) := rfl
theorem yp : W8 83 = some (qk x9) := rfl
theorem vk : W8 136 = some (qk Yu) := rfl
theorem vx : W8 82 = some (g9) := rfl
theorem v7 : W8 85 = some (qce) := rfl
noncomputable def bm (M : Nat) : List AV → Option (AV × List AO)
  | [.int .i64 p, .int .i64 c, .int .i64 n] => chk ((z6 p = true ∧ 0 ≤ c ∧ c ≤ p - 1) ∧ (1 ≤ n ∧ n ≤ 5) ∧ n ≤ M ∧ n ≤ j8 p c) (some (.slc 0 0 (qf n.toNat).length true (qf n.toNat).length, [.cells (jf (Uh p c n.toNat))]))
  | _ => none
theorem qzn {M : Nat} (h : ∀ (p c : Int) (n : Nat), z6 p = true → 0 ≤ c ∧ c ≤ p - 1 → 1 ≤ n ∧ n ≤ 5 → n ≤ M → n ≤ j8 p c →
    Am.Fn Try.prog 79 [.int .i64 p, .int .i64 c, .int .i64 n] [] (fun v H' => v = .slc 0 0 (qf n).length true (qf n).length ∧ H' = [.cells (jf (Uh p c n))])) : Am.Callee Try.prog 79 (bu (bm M)) :=
  Am.Callee.new fun xs v H he => by
    unfold bm at he
    split at he
    · rename_i p c n
      obtain ⟨⟨⟨h1, h2⟩, h3, h4, h5⟩, he⟩ := ql he
      obtain ⟨n, rfl⟩ : ∃ j : Nat, n = j := ⟨n.toNat, by omega⟩
      rw [Int.toNat_natCast] at he
      cases he
      exact ⟨rfl, h p c n h1 h2 (by omega) (by omega) (by omega)⟩
    · cases he
noncomputable def BN (M : Nat) : za := W8.put 79 (bu (bm M))
theorem q9d (M : Nat) : BN M 79 = some (bu (bm M)) := rfl
theorem qlm {M : Nat} (h : Am.Callee Try.prog 79 (bu (bm M))) : qo Try.prog (BN M) := qvj.put h
theorem quq (b k c m : Nat) : AV.ren (Wy m) (.slc b 0 k true c) = .slc (m + b) 0 k true c := rfl
def Wm : AT := (.one (oM 31 8) (.one (o0 32 (.len .slc (.t 31))) (.one (oM 34 8) (.one (o0 35 (.len .slc (.t 34))) (.alt (o0 33 (.kn 1 8 [.int .i64 0] (.t 32) (.t 32))) (.one (oM 10 33) (.one (o0 36 (.kn 1 8 [.int .i64 0] (.t 35) (.t 35))) (.one (oM 11 36) (.nil)))) (.alt (o0 36 (.kn 1 8 [.int .i64 0] (.t 35) (.t 35))) (.one (o0 33 (.kn 1 8 [.int .i64 0] (.t 32) (.t 32))) (.one (oM 10 33) (.one (oM 11 36) (.nil)))) (.none)))))))
def Wu : AT := (.one (oM 44 7) (.one (oM 45 12) (.one (oX 46 17 44 45) (.one (oN 47 17 46) (.alt (oC 48 83 [(.c (.int .i64 1))]) (.alt (oC 49 135 [.t 47,.t 48]) (.one (oM 43 49) (.one (oE 50 0 43) (.one (oE 51 1 43) (.one (oD 13) (.one (oS 17 13 50) (.one (oM 14 51) (.nil))))))) (.alt (oD 13) (.one (oC 49 135 [.t 47,.t 48]) (.one (oM 43 49) (.one (oE 50 0 43) (.one (oE 51 1 43) (.one (oS 17 13 50) (.one (oM 14 51) (.nil))))))) (.none))) (.alt (oD 13) (.one (oC 48 83 [(.c (.int .i64 1))]) (.one (oC 49 135 [.t 47,.t 48]) (.one (oM 43 49) (.one (oE 50 0 43) (.one (oE 51 1 43) (.one (oS 17 13 50) (.one (oM 14 51) (.nil)))))))) (.none)))))))
def Wh : AC := .draw true [oM 52 10,oM 53 8,oN 54 17 13,oM 56 9,oM 57 12,oX 58 1 56 57,oL 59 58,oC 55 82 [.t 53,.t 54],oX 60 1 52 55,oT 60 59]
def Wr : AC := .region [oM 41 12,oK 42 .add 41 1,oM 12 42]
def Zo : AC := .seq (.seq (.region [oM 37 12,oM 38 7,o0 39 (.len .slc (.t 38)),oP 40 .lss 37 39]) (.cond 40 .skip (.exit 0))) (.seq (.block 1 (.seq (.tree true Wu) Wh)) Wr)
def Qp : AC := .seq (.seq (.region [oM 95 17,oM 96 8,o0 97 (.len .slc (.t 96)),oP 98 .lss 95 97]) (.cond 98 .skip (.exit 2))) (.seq (.block 3 (.draw false [oM 101 10,oM 102 17,oM 103 0,oM 104 10,oM 105 17,oX 106 1 104 105,oL 107 106,oM 108 16,oM 109 15,oM 110 17,oX 111 1 109 110,oL 112 111,oP 113 .mul 108 112,oP 114 .sub 107 113,oC 115 70 [.t 103,.t 114],oX 116 1 101 102,oT 116 115])) (.region [oM 99 17,oK 100 .add 99 1,oM 17 100]))
def Wk : AC := .seq (.region [oM 117 10,oM 6 117]) .ret
def Wf : AC := .seq (.region [oM 61 11,oM 62 8,oM 63 2,oM 64 2,oK 65 .sub 64 2,oC 66 84 [.t 63,.t 65],oC 67 82 [.t 62,.t 66],oX 68 1 61 67,⟨none,none,.op (.Zj (.t 68) (.c (.int .i64 1)))⟩]) (.seq (.region [oM 69 0,oM 70 1,oM 71 8,oM 72 0,oM 73 1,oM 74 8,oM 75 10,oM 76 11,oC 77 85 [.t 72,.t 73,.t 74,.t 75,.t 76],oM 78 10,oC 79 85 [.t 69,.t 70,.t 71,.t 77,.t 78],oM 15 79]) (.seq (.region [oM 80 0,oM 81 1,oM 82 2,oK 83 .sub 82 2,oC 84 136 [.t 80,.t 81,.t 83],oM 85 0,oM 86 0,oM 87 1,oM 88 2,oK 89 .sub 88 1,oC 90 136 [.t 86,.t 87,.t 89],oC 91 67 [.t 85,.t 90],oP 92 .mul 84 91,oM 93 0,oP 94 .rem 92 93,oM 16 94]) (.seq (.seq (.region [oI 17 0]) (.block 2 (.loop Qp))) Wk)))
def Wc : AC := .seq (.seq (.region [oI 12 0]) (.block 0 (.loop Zo))) Wf
def J6 : AC := .seq (.region [o0 6 (.mov (.c (.v (.slice none 0 0))))]) (.seq (.seq (.region [oM 18 2,oK 19 .eql 18 1]) (.cond 19 (.seq (.region [o0 20 (.u6 1 [.int .i64 0] [(0,1,(.c (.int .i64 1)))]),oM 6 20]) .ret) .skip)) (.seq (.region [oM 21 2,oK 22 .sub 21 1,oC 23 78 [.t 22],oM 24 2,oC 25 78 [.t 24],oM 26 0,oM 27 1,oM 28 2,oK 29 .sub 28 1,oC 30 79 [.t 26,.t 27,.t 29],oM 7 23,oM 8 25,oM 9 30]) (.seq (.tree false Wm) Wc)))
theorem Ku : zj Try.prog 79 = some ⟨118, J6, [.slot 6]⟩ := by kernel_rfl
theorem Zi (M : Nat) : BN M 78 = W8 78 := rfl
theorem Zq (M : Nat) : BN M 83 = W8 83 := rfl
theorem vy (M : Nat) : BN M 135 = W8 135 := rfl
theorem bp (M : Nat) : BN M 82 = W8 82 := rfl
theorem Za (M : Nat) : BN M 84 = W8 84 := rfl
theorem br (M : Nat) : BN M 85 = W8 85 := rfl
theorem ub (M : Nat) : BN M 136 = W8 136 := rfl
theorem yg (M : Nat) : BN M 67 = W8 67 := rfl
theorem Zr (M : Nat) : BN M 70 = W8 70 := rfl
theorem q6n (M : Nat) (ih : Am.Callee Try.prog 79 (bu (bm M))) (p c : Int) :
    Am.Fn Try.prog 79 [.int .i64 p, .int .i64 c, .int .i64 1] [] (fun v H' => v = .slc 0 0 (qf 1).length true (qf 1).length ∧ H' = [.cells (jf (Uh p c 1))]) := by
  refine Am.Fn.ofW (qlm ih) mixed Ku (by simp [AV.qu, AV.under]) (by simp) ?_
  have h1 : (qf 1).length = 1 := by kernel_rfl
  rw [h1, qzz]
  simp (maxSteps := 3000000) only [qh, zH, J6, iE, iN, iB, iC, iL, iD, iA, iS, iM, qa, zZ, ↓qp, ↓reduceIte, reduceCtorEq, nA, nM, nS, nE, nL, nD]; try simp only [qa, zY]
  refine ⟨_, qt.refl _, Ret.xv [0] ⟨⟨by simp, rfl, by decide⟩, ?_⟩ (rs := [.slc 0 0 1 true 1]) rfl rfl (by simp [xl]) ?_ ⟨rfl, rfl⟩⟩
  · simp only [zK, ↓reduceIte, reduceCtorEq, nE, nB, nA]; rfl
  · intro j l; cases j <;> simp [zn, AO.ren]
theorem q67 (M : Nat) (ih : Am.Callee Try.prog 79 (bu (bm M))) (p c : Int) (k : Nat) (hP : z6 p = true) (hc : 0 ≤ c ∧ c ≤ p - 1) (hk : k ≤ 3) (hM : k + 1 ≤ M) (hz : k + 2 ≤ j8 p c) :
    Am.Fn Try.prog 79 [.int .i64 p, .int .i64 c, .int .i64 (k + 2 : Nat)] [] (fun v H' => v = .slc 0 0 (qf (k + 2)).length true (qf (k + 2)).length ∧ H' = [.cells (jf (Uh p c (k + 2)))]) := by
  refine Am.Fn.ofW (qlm ih) mixed Ku (by simp [AV.qu, AV.under]) (by simp) ?_
  have hb := ui hP
  have e1 : ((k + 2 : Nat) : Int) = 1 ↔ False := iff_false_intro (by omega)
  have w1 : qn .i64 (((k + 2 : Nat) : Int) - 1) = ((k + 1 : Nat) : Int) := by rw [wrap64 (by omega) (by omega)]; omega
  have w2 : qn .i64 (((k + 2 : Nat) : Int) - 2) = (k : Int) := by rw [wrap64 (by omega) (by omega)]; omega
  have c1 : (1 : Int) ≤ ((k + 1 : Nat) : Int) ∧ ((k + 1 : Nat) : Int) ≤ 6 := by omega
  have c2 : (1 : Int) ≤ ((k + 2 : Nat) : Int) ∧ ((k + 2 : Nat) : Int) ≤ 6 := by omega
  have c3 : (1 : Int) ≤ ((k + 1 : Nat) : Int) ∧ ((k + 1 : Nat) : Int) ≤ 5 := by omega
  have c4 : ((k + 1 : Nat) : Int) ≤ (M : Int) ∧ ((k + 1 : Nat) : Int) ≤ (j8 p c : Int) := by omega
  have hN1 : 1 ≤ k + 1 ∧ k + 1 ≤ 6 := by omega
  have hN2 : 1 ≤ k + 2 ∧ k + 2 ≤ 6 := by omega
  have hlen1 := Vw hN1
  have hlen2 := Vw hN2
  have z1 : ((qf (k + 2)).length : Int) * ((8 : Nat) : Int) ≤ 281474976710656 := by omega
  have z0 : (0 : Int) ≤ ((qf (k + 2)).length : Int) ∧ ((qf (k + 2)).length : Int) ≤ ((qf (k + 2)).length : Int) ∧ ((qf (k + 2)).length : Int) * 8 ≤ 281474976710656 := by omega
  simp (maxSteps := 3000000) only [qh, zH, J6, q9d, bm, Zi, Zq, vy, bp, Za, br, ub, yg, Zr, jm, yi, yb, j9, yd, yp, vk, vx, v7, Vj, Yu, Wl, Jm, g9, Uu, qce, qcj, x9, e1, w1, c1, c2, c3, c4, hP, hc, qiw, quq, ku, qje, qb _ _ (zi _), qb _ _ (qz _), Int.toNat_natCast, and_self, iE, iN, iB, iC, iL, iD, iA, iS, iM, qa, zZ, ↓qp, ↓reduceIte, reduceCtorEq, nA, nM, nS, nE, nL, nD]; try simp only [qa, zY]
  refine WA.qfl (qlm ih) (fun s => s = ⟨[(0, .int .i64 p), (1, .int .i64 c), (2, .int .i64 (k + 2 : Nat)), (7, .slc 0 0 (qf (k + 1)).length false 0), (8, .slc 1 0 (qf (k + 2)).length false 0), (9, .slc 2 0 (qf (k + 1)).length true (qf (k + 1)).length), (10, .slc 3 0 (qf (k + 2)).length true (qf (k + 2)).length), (11, .slc 4 0 (qf (k + 2)).length true (qf (k + 2)).length)], [.vec 17 (wj (k + 1 : Nat) (qf (k + 1))), .vec 17 (wj (k + 2 : Nat) (qf (k + 2))), .cells (jf (Uh p c (k + 1))), .cells (jf (List.replicate (qf (k + 2)).length 0)), .cells (jf (List.replicate (qf (k + 2)).length 0))]⟩) ?_ ?_
  · unfold Wm
    simp (maxSteps := 3000000) only [qh, zH, bb, Qy, z0, z1, qhw, Int.toNat_natCast, and_self, iE, iN, iB, iC, iL, iD, iA, iS, iM, qa, zZ, ↓qp, ↓reduceIte, reduceCtorEq, nA, nM, nS, nE, nL, nD]; try simp only [qa, zY]
    repeat' first | (with_reducible exact ⟨_, rfl⟩) | (exact rfl) | (with_reducible refine And.intro ?_ ?_)
    all_goals refine ⟨_, qt.can [0, 1, 2, 7, 8, 9, 10, 11] (by simp only [zy _ (zi _), zy _ (qz _), Wz, zC, nB, nD, nA, nE, ↓reduceIte, reduceCtorEq]; rfl), ?_⟩
    all_goals simp only [qb _ _ (zi _), qb _ _ (qz _), zL, ↓reduceIte, reduceCtorEq, nE, nA]
  rintro s rfl
  have hP0 := Yi (c := c) hb hc k (by omega)
  have hgP := hP0.1
  simp (maxSteps := 3000000) only [qh, zH, Wc, iE, iN, iB, iC, iL, iD, iA, iS, iM, qa, zZ, ↓qp, ↓reduceIte, reduceCtorEq, nA, nM, nS, nE, nL, nD]; try simp only [qa, zY]
  refine WA.xo (qlm ih) (fun s => ∃ i : Nat, i ≤ (qf (k + 1)).length ∧ s = ⟨[(0, .int .i64 p), (1, .int .i64 c), (2, .int .i64 (k + 2 : Nat)), (7, .slc 0 0 (qf (k + 1)).length false 0), (8, .slc 1 0 (qf (k + 2)).length false 0), (9, .slc 2 0 (qf (k + 1)).length true (qf (k + 1)).length), (10, .slc 3 0 (qf (k + 2)).length true (qf (k + 2)).length), (11, .slc 4 0 (qf (k + 2)).length true (qf (k + 2)).length), (12, .int .i64 i)], [.vec 17 (wj (k + 1 : Nat) (qf (k + 1))), .vec 17 (wj (k + 2 : Nat) (qf (k + 2))), .cells (jf (Uh p c (k + 1))), .cells (jf (eR (k + 1) (jq p c k) i)), .cells (jf (List.replicate (qf (k + 2)).length 0))]⟩)
    (fun s => match get s.env 12 with | .int _ x => (qf (k + 1)).length - x.toNat | _ => 0) ⟨_, qt.qv [0, 1, 2, 7, 8, 9, 10, 11, 12], 0, by omega, ?_⟩ ?_
  · rw [qn6]; rfl
  rintro s ⟨i, hi, rfl⟩
  have hwi : qn .i64 ((i : Int) + 1) = ((i + 1 : Nat) : Int) := by rw [wrap64 (by omega) (by omega)]; rfl
  have hL1 := K9 hN1
  have hL2 := K9 hN2
  have hal1 := bg (n := ((k + 1 : Nat) : Int)) hL1
  have hal2 := bg (n := ((k + 2 : Nat) : Int)) hL2
  have hls2 := qn7 hN2
  by_cases hlt : i < (qf (k + 1)).length
  · have hli : (i : Int) < ((qf (k + 1)).length : Int) := by omega
    have hi0 : (0 : Int) ≤ (i : Int) := by omega
    have g1 := G0 (n := ((k + 1 : Nat) : Int)) hL1 hlt
    have o1 : okD (qf (k + 1))[i] := hL1 _ (List.getElem_mem hlt)
    have s1 := (V6 hN1 (List.getElem_mem hlt)).1
    have b1 : i * 17 < (qf (k + 1)).length * 17 := by omega
    have b2 : i * 17 + 17 ≤ (qf (k + 1)).length * 17 := by omega
    have hu := Vs (n := 1) (by omega)
    have c5 : (1 : Int) ≤ ((k + 1 : Nat) : Int) ∧ ((k + 1 : Nat) : Int) ≤ 7 := by omega
    have c6 : (0 : Int) ≤ 1 ∧ (1 : Int) ≤ 8 := by omega
    have hwd : u2 (k + 1) (qf (k + 1))[i] 2 = xf (k + 1) (qf (k + 1))[i] := (qov (by omega)).1 _ (List.getElem_mem hlt)
    have hin : xf (k + 1) (qf (k + 1))[i] ∈ qf (k + 2) := quf (N := k + 1) (by omega) (List.getElem_mem hlt)
    have hwo : okD (xf (k + 1) (qf (k + 1))[i]) := hL2 _ hin
    have hq : (qf (k + 2)).idxOf (xf (k + 1) (qf (k + 1))[i]) < (qf (k + 2)).length := List.idxOf_lt_length_of_mem hin
    have hput := q0n (N := k + 1) (a := jq p c k) (by omega) hlt
    have hel := q7l (N := k + 1) (i := i) (a := jq p c k)
    have hnn : ((k + 1 : Nat) : Int) + 1 = ((k + 2 : Nat) : Int) := by omega
    have hpv : (Uh p c (k + 1)).getD i 0 = cf (qf (k + 1))[i] (jq p c k) := by unfold Uh vq; rw [k9 hlt, Nat.add_sub_cancel]
    have hpl : (Uh p c (k + 1)).length = (qf (k + 1)).length := by unfold Uh; exact Vi
    simp (maxSteps := 3000000) only [qh, zH, Zo, hli, iE, iN, iB, iC, iL, iD, iA, iS, iM, qa, zZ, ↓qp, ↓reduceIte, reduceCtorEq, nA, nM, nS, nE, nL, nD]; try simp only [qa, zY]
    refine WA.qfl (qlm ih) (fun s => s = ⟨[(0, .int .i64 p), (1, .int .i64 c), (2, .int .i64 (k + 2 : Nat)), (7, .slc 0 0 (qf (k + 1)).length false 0), (8, .slc 1 0 (qf (k + 2)).length false 0), (9, .slc 2 0 (qf (k + 1)).length true (qf (k + 1)).length), (10, .slc 3 0 (qf (k + 2)).length true (qf (k + 2)).length), (11, .slc 4 0 (qf (k + 2)).length true (qf (k + 2)).length), (12, .int .i64 i), (13, .ptr 5 0)], [.vec 17 (wj (k + 1 : Nat) (qf (k + 1))), .vec 17 (wj (k + 2 : Nat) (qf (k + 2))), .cells (jf (Uh p c (k + 1))), .cells (jf (eR (k + 1) (jq p c k) i)), .cells (jf (List.replicate (qf (k + 2)).length 0)), .cells (dia (k + 2 : Nat) (xf (k + 1) (qf (k + 1))[i]))]⟩) ?_ ?_
    · unfold Wu
      simp (maxSteps := 3000000) only [qh, zH, bb, Qy, Zi, Zq, vy, bp, Za, br, ub, yg, Zr, jm, yi, yb, j9, yd, yp, vk, vx, v7, Vj, Yu, Wl, Jm, g9, Uu, qce, qcj, x9, hli, hi0, hal1, b1, b2, g1, qy o1, qy hu, s1, c5, c6, hwd, hnn, x7, zq, Qe hwo.1, qe, hwo.1, zx, Int.toNat_natCast, Int.toNat_one, List.length_replicate, Nat.le_refl, and_self, iE, iN, iB, iC, iL, iD, iA, iS, iM, qa, zZ, ↓qp, ↓reduceIte, reduceCtorEq, nA, nM, nS, nE, nL, nD]; try simp only [qa, zY]
      repeat' first | (with_reducible exact ⟨_, rfl⟩) | (exact rfl) | (with_reducible refine And.intro ?_ ?_)
      all_goals exact ⟨_, qt.qv [0, 1, 2, 7, 8, 9, 10, 11, 12, 13], rfl⟩
    rintro s rfl
    have hel' := jd (eR (k + 1) (jq p c k) i)
    have hpl' := jd (Uh p c (k + 1))
    have hq0 : (0 : Int) ≤ (((qf (k + 2)).idxOf (xf (k + 1) (qf (k + 1))[i]) : Nat) : Int) := by omega
    have hqK : (((qf (k + 2)).idxOf (xf (k + 1) (qf (k + 1))[i]) : Nat) : Int) < ((qf (k + 2)).length : Int) := by omega
    simp (maxSteps := 3000000) only [qh, zH, Wh, Wr, Zi, Zq, vy, bp, Za, br, ub, yg, Zr, jm, yi, yb, j9, yd, yp, vk, vx, v7, Vj, Yu, Wl, Jm, g9, Uu, qce, qcj, x9, hli, hi0, hls2, qy hwo, hin, hq, hpv, hpl, hlt, hel, hel', hpl', hq0, hqK, hput, hwi, qc8, qe, hwo.1, qw hwo.1, Int.toNat_natCast, and_self, iE, iN, iB, iC, iL, iD, iA, iS, iM, qa, zZ, ↓qp, ↓reduceIte, reduceCtorEq, nA, nM, nS, nE, nL, nD]; try simp only [qa, zY]
    repeat' first | (with_reducible exact ⟨_, rfl⟩) | (exact rfl) | (with_reducible refine And.intro ?_ ?_)
    refine ⟨_, qt.can [0, 1, 2, 7, 8, 9, 10, 11, 12] (by simp only [zy _ (zi _), zy _ (qz _), Wz, zC, nB, nD, nA, nE, ↓reduceIte, reduceCtorEq]; rfl), ⟨i + 1, by omega, ?_⟩, ?_⟩
    · simp only [qb _ _ (zi _), qb _ _ (qz _), zL, ↓reduceIte, reduceCtorEq, nE, nA]
    · simp only [zL, ↓reduceIte, reduceCtorEq, nE, nA]; omega
  · have hli : ¬ (i : Int) < ((qf (k + 1)).length : Int) := by omega
    have ei : i = (qf (k + 1)).length := by omega
    subst ei
    have hee := q7j (N := k + 1) (by omega) hb hgP
    have hnn : ((k + 1 : Nat) : Int) + 1 = ((k + 2 : Nat) : Int) := by omega
    have hWg := (Bc hb (n := ((k + 1 : Nat) : Int)) (by omega) hgP).1
    rw [hnn] at hWg
    have hgn : xb p ((k + 2 : Nat) : Int) [(((k + 2 : Nat) : Int), Xo (k + 2) k, 1)] := by
      have := qjq (p := p) (n := ((k + 2 : Nat) : Int)) (k := 1) (i := k) (by omega) (by omega) (by omega)
      rwa [Int.toNat_natCast] at this
    have hgd := hgn.dia _ (List.mem_singleton.2 rfl)
    have hgo := (hgn.ok _ (List.mem_singleton.2 rfl))
    have hgin : Xo (k + 2) k ∈ qf (k + 2) := by
      have h1 := hgd.2
      simp only [Int.toNat_natCast] at h1
      exact qcc h1 hgo.1
    have hur := row_one hN2 hgin
    have hpn := qvq (p := p) (c := c) (k := k)
    generalize hWe : Zt p ((k + 1 : Nat) : Int) (jq p c k) = W at *
    have t1 := qlu (c := c) hb hc hN2 hWg hgn
    have lW := Xy hWg (by omega)
    have hM1 := (Un (c := c) hb hc hWg hgn ⟨by omega, by simp⟩).1
    have lM1 := Xy hM1 (by omega)
    generalize hM1e : MP p ((k + 2 : Nat) : Int) (vb p c ((k + 2 : Nat) : Int) W [(((k + 2 : Nat) : Int), Xo (k + 2) k, 1)]) = M1 at *
    have t2 := qlu (c := c) hb hc hN2 hM1 hWg
    have hM2 := (Un (c := c) hb hc hM1 hWg ⟨by omega, by omega⟩).1
    generalize hM2e : MP p ((k + 2 : Nat) : Int) (vb p c ((k + 2 : Nat) : Int) M1 W) = M2 at *
    have r1 : qs5 p (vq (k + 2) W) := qgn (by omega) hWg
    have r2 : qs5 p (vq (k + 2) [(((k + 2 : Nat) : Int), Xo (k + 2) k, 1)]) := qgn (by omega) hgn
    have r3 : qs5 p (vq (k + 2) M1) := qgn (by omega) hM1
    have r4 : qs5 p (vq (k + 2) M2) := qgn (by omega) hM2
    have l1 := Vi (N := k + 2) (a := W)
    have l2 := Vi (N := k + 2) (a := [(((k + 2 : Nat) : Int), Xo (k + 2) k, 1)])
    have l3 := Vi (N := k + 2) (a := M1)
    have l4 := Vi (N := k + 2) (a := M2)
    have hq : (qf (k + 2)).idxOf (Xo (k + 2) k) < (qf (k + 2)).length := List.idxOf_lt_length_of_mem hgin
    have hq0 : (0 : Int) ≤ (((qf (k + 2)).idxOf (Xo (k + 2) k) : Nat) : Int) := by omega
    have hqK : (((qf (k + 2)).idxOf (Xo (k + 2) k) : Nat) : Int) < ((qf (k + 2)).length : Int) := by omega
    have c7 : ((k + 2 : Nat) : Int) ≤ 8 ∧ (0 : Int) ≤ (k : Int) ∧ (k : Int) + 1 < ((k + 2 : Nat) : Int) := by omega
    have c8 : (0 : Int) ≤ (k : Int) ∧ (k : Int) ≤ 1000 := by omega
    have c9 : (0 : Int) ≤ ((k + 1 : Nat) : Int) ∧ ((k + 1 : Nat) : Int) ≤ 1000 := by omega
    have hrl := List.length_replicate (n := (qf (k + 2)).length) (a := (0 : Int))
    have hrl' := jd (List.replicate (qf (k + 2)).length (0 : Int))
    have hwf : ∀ L, qp8 (jf L) = some L := qly
    have x1 := qb6 (c := c) hb (k + 1)
    have x2 := qb6 (c := c) hb (k + 2)
    have hnz : ¬ chb p c (k + 2) = 0 := (qc9 hP hc).2.2 (k + 1) (by omega) (by omega)
    have hoi : okI p (chb p c (k + 2)) := ⟨hP, by omega, x2.2⟩
    have hv := (qjl hoi.1 hoi.2).1
    have m1 : chb p c (k + 1) * Vz p (chb p c (k + 2)) ≤ 96 * 96 := Int.mul_le_mul (by omega) (by omega) (by omega) (by omega)
    have m0 : 0 ≤ chb p c (k + 1) * Vz p (chb p c (k + 2)) := Int.mul_nonneg x1.1 (by omega)
    have hwm : qn .i64 (chb p c (k + 1) * Vz p (chb p c (k + 2))) = chb p c (k + 1) * Vz p (chb p c (k + 2)) := wrap64 (by omega) (by omega)
    have hX : (chb p c (k + 1) * Vz p (chb p c (k + 2))).tmod p = Ka p c (k + 1) := rfl
    have hXb : 0 ≤ Ka p c (k + 1) ∧ Ka p c (k + 1) < p := ⟨Int.tmod_nonneg _ m0, Int.tmod_lt_of_pos _ (by omega)⟩
    have hp0 : ¬ p = 0 := by omega
    simp (maxSteps := 3000000) only [qh, zH, Zo, Wf, Zi, Zq, vy, bp, Za, br, ub, yg, Zr, jm, yi, yb, j9, yd, yp, vk, vx, v7, Vj, Yu, Wl, Jm, g9, Uu, qce, qcj, x9, hli, w1, w2, hee, hls2, qy hgo, hgin, hq, hq0, hqK, c7, c8, c9, hrl, hrl', hur, hwf, hb, hc, t1, t2, r1, r2, r3, r4, l1, l2, l3, l4, hoi, hwm, hX, hp0, qc8, Int.toNat_natCast, Int.lt_irrefl, and_self, iE, iN, iB, iC, iL, iD, iA, iS, iM, qa, zZ, ↓qp, ↓reduceIte, reduceCtorEq, nA, nM, nS, nE, nL, nD]; try simp only [qa, zY]
    refine ⟨rfl, ?_⟩
    have hlN := Vi (N := k + 2) (a := jq p c (k + 1))
    have hml := fun j => q0j (v := vq (k + 2) (jq p c (k + 1))) (w := vq (k + 2) W) (i := j) (by omega)
    refine WA.xo (qlm ih) (fun s => ∃ i : Nat, i ≤ (qf (k + 2)).length ∧ s = ⟨[(0, .int .i64 p), (8, .slc 0 0 (qf (k + 2)).length false 0), (10, .slc 1 0 (qf (k + 2)).length true (qf (k + 2)).length), (15, .slc 2 0 (qf (k + 2)).length true (qf (k + 2)).length), (16, .int .i64 (Ka p c (k + 1))), (17, .int .i64 i)], [.vec 17 (wj (k + 2 : Nat) (qf (k + 2))), .cells (jf (qeb (vq (k + 2) (jq p c (k + 1))) (vq (k + 2) W) i)), .cells (jf (vq (k + 2) M2))]⟩)
      (fun s => match get s.env 17 with | .int _ x => (qf (k + 2)).length - x.toNat | _ => 0) ⟨_, qt.can [0, 8, 10, 15, 16, 17] (by simp only [zy _ (zi _), zy _ (qz _), Wz, zC, nB, nD, nA, nE, ↓reduceIte, reduceCtorEq]; rfl), 0, by omega, ?_⟩ ?_
    · simp only [qb _ _ (zi _), qb _ _ (qz _), zL, ↓reduceIte, reduceCtorEq, nE, nA]
      rfl
    clear hli hlt hi hwi
    rintro s ⟨i, hi, rfl⟩
    have hwi : qn .i64 ((i : Int) + 1) = ((i + 1 : Nat) : Int) := by rw [wrap64 (by omega) (by omega)]; rfl
    by_cases hlt : i < (qf (k + 2)).length
    · have hli : (i : Int) < ((qf (k + 2)).length : Int) := by omega
      have hi0 : (0 : Int) ≤ (i : Int) := by omega
      have hlast := qy2 (p := p) (c := c) (X := Ka p c (k + 1)) hb hWg hM2 hlt
      rw [← hpn] at hlast
      have hmg := q1w (v := vq (k + 2) (jq p c (k + 1))) (w := vq (k + 2) W) (i := i) (by omega) (by omega)
      have hms := q2i (v := vq (k + 2) (jq p c (k + 1))) (w := vq (k + 2) W) (i := i) (by omega) (by omega)
      have hmi := hml i
      have u1 : 0 ≤ (vq (k + 2) W).getD i 0 ∧ (vq (k + 2) W).getD i 0 ≤ p - 1 := by
        unfold vq; rw [k9 hlt]; exact (b7 hWg (by omega) _).1
      have u2 : 0 ≤ (vq (k + 2) M2).getD i 0 ∧ (vq (k + 2) M2).getD i 0 ≤ p - 1 := by
        unfold vq; rw [k9 hlt]; exact (b7 hM2 (by omega) _).1
      rw [hlast] at hms
      have hmi' := jd (qeb (vq (k + 2) (jq p c (k + 1))) (vq (k + 2) W) i)
      have l4' := jd (vq (k + 2) M2)
      generalize hRn : qeb (vq (k + 2) (jq p c (k + 1))) (vq (k + 2) W) (i + 1) = R' at *
      generalize qeb (vq (k + 2) (jq p c (k + 1))) (vq (k + 2) W) i = R at *
      generalize (vq (k + 2) W).getD i 0 = a at *
      generalize hbe : (vq (k + 2) M2).getD i 0 = b at *
      generalize Ka p c (k + 1) = X at *
      have n1 : X * b ≤ 96 * 96 := Int.mul_le_mul (by omega) (by omega) (by omega) (by omega)
      have n0 : 0 ≤ X * b := Int.mul_nonneg (by omega) (by omega)
      have w3 : qn .i64 (X * b) = X * b := wrap64 (by omega) (by omega)
      have w4 : qn .i64 (a - X * b) = a - X * b := wrap64 (by omega) (by omega)
      have p1 : 0 < p ∧ p ≤ 1000000 := by omega
      simp (maxSteps := 3000000) only [qh, zH, Qp, Zi, Zq, vy, bp, Za, br, ub, yg, Zr, jm, yi, yb, j9, yd, yp, vk, vx, v7, Vj, Yu, Wl, Jm, g9, Uu, qce, qcj, x9, hli, hi0, hlt, hmi, hmi', l1, l4, l4', hmg, hbe, w3, w4, p1, hms, hwi, qc8, Int.toNat_natCast, and_self, iE, iN, iB, iC, iL, iD, iA, iS, iM, qa, zZ, ↓qp, ↓reduceIte, reduceCtorEq, nA, nM, nS, nE, nL, nD]; try simp only [qa, zY]
      refine ⟨rfl, _, qt.can [0, 8, 10, 15, 16, 17] (by simp only [zy _ (zi _), zy _ (qz _), Wz, zC, nB, nD, nA, nE, ↓reduceIte, reduceCtorEq]; rfl), ⟨i + 1, by omega, ?_⟩, ?_⟩
      · simp only [qb _ _ (zi _), qb _ _ (qz _), zL, ↓reduceIte, reduceCtorEq, nE, nA]
        rw [hRn]
      · simp only [zL, ↓reduceIte, reduceCtorEq, nE, nA]; omega
    · have hli : ¬ (i : Int) < ((qf (k + 2)).length : Int) := by omega
      have ei : i = (vq (k + 2) W).length := by omega
      have hal := q2n (v := vq (k + 2) (jq p c (k + 1))) (w := vq (k + 2) W) (by omega)
      rw [← ei] at hal
      simp (maxSteps := 3000000) only [qh, zH, Qp, Wk, hli, hal, Int.lt_irrefl, iE, iN, iB, iC, iL, iD, iA, iS, iM, qa, zZ, ↓qp, ↓reduceIte, reduceCtorEq, nA, nM, nS, nE, nL, nD]; try simp only [qa, zY]
      refine ⟨_, qt.refl _, Ret.xv [1] ⟨⟨by simp, rfl, by decide⟩, ?_⟩ (rs := [.slc 1 0 (qf (k + 2)).length true (qf (k + 2)).length]) rfl rfl (by simp [xl]) ?_ ⟨?_, ?_⟩⟩
      · simp only [qd _ _ (qz _), zK, ↓reduceIte, reduceCtorEq, nE, nB, nA]
      · intro j l; cases j <;> simp [zn, AO.ren]
      · rfl
      · simp only [qb _ _ (zi _), qb _ _ (qz _), zL, ↓reduceIte, reduceCtorEq, nE, nA]
        rfl
theorem qhp : ∀ M, Am.Callee Try.prog 79 (bu (bm M))
  | 0 => qzn fun p c n _ _ h1 h2 _ => absurd h2 (by omega)
  | M + 1 => qzn fun p c n hP hc h1 hM hz => by
    match n, h1, hM, hz with
    | 1, _, _, _ => exact q6n M (qhp M) p c
    | k + 2, h1, hM, hz => exact q67 M (qhp M) p c k hP hc (by omega) (by omega) hz
noncomputable def q9k : za := (W8.put 79 (bu (bm 5)))
theorem q4t : qo Try.prog q9k := (qvj.put (qhp 5))
noncomputable def qy7 : za := q9k
theorem qng : qo Try.prog qy7 := q4t
theorem qvx {n : Int} {a : List (Int × List Nat × Int)} {L : List (List Nat)} {i : Nat} (h : i < L.length) : qee n a (L.take (i + 1)) = qee n a (L.take i) ++ (if cf L[i] a = 0 then [] else [(n, L[i], cf L[i] a)]) := by
  rw [List.take_succ_eq_append_getElem h]
  unfold qee
  rw [List.filterMap_append]
  congr 1
  simp only [List.filterMap_cons, List.filterMap_nil]
  split
  · rename_i e
    split at e
    · rename_i e2; rw [if_pos e2]
    · cases e
  · rename_i e
    split at e
    · cases e
    · rename_i e2; rw [if_neg e2]; cases e; rfl
theorem q27 {n : Int} {a : List (Int × List Nat × Int)} {L : List (List Nat)} (h : okL L) : okT (qee n a L) := fun t ht => by
  obtain ⟨m, hm, e⟩ := List.mem_filterMap.1 ht
  split at e
  · cases e
  · cases e; exact h m hm
theorem q15 {n : Int} {a : List (Int × List Nat × Int)} {L : List (List Nat)} : (qee n a L).length ≤ L.length := List.length_filterMap_le _ _
theorem ym : qy7 78 = some (bu Vj) := rfl
theorem j7 : qy7 79 = some (bu (bm 5)) := rfl
theorem wa : qy7 77 = some (qk Jy) := rfl
def wx : AC := .seq (.seq (.region [oM 31 12,oM 32 10,o0 33 (.len .slc (.t 32)),oP 34 .lss 31 33]) (.cond 34 .skip (.exit 0))) (.seq (.block 1 (.seq (.region [oM 37 11,oM 38 12,oX 39 1 37 38,oL 40 39,oK 41 .neq 40 0]) (.cond 41 (.draw false [oF 42 3 9,oL 43 42,oM 44 10,oM 45 12,oX 46 17 44 45,oN 47 17 46,oM 48 11,oM 49 12,oX 50 1 48 49,oL 51 50,o0 52 (.build [.int .i64 0,.int .u8 0,.int .u8 0,.int .u8 0,.int .u8 0,.int .u8 0,.int .u8 0,.int .u8 0,.int .u8 0,.int .u8 0,.int .u8 0,.int .u8 0,.int .u8 0,.int .u8 0,.int .u8 0,.int .u8 0,.int .u8 0,.int .i64 0] [(0,17,.t 47),(17,1,.t 51)]),o0 53 (.u6 1 [.int .i64 0,.int .u8 0,.int .u8 0,.int .u8 0,.int .u8 0,.int .u8 0,.int .u8 0,.int .u8 0,.int .u8 0,.int .u8 0,.int .u8 0,.int .u8 0,.int .u8 0,.int .u8 0,.int .u8 0,.int .u8 0,.int .u8 0,.int .i64 0] [(0,18,.t 52)]),o0 54 (.append 18 32 (.t 43) (.t 53)),oF 55 3 9,oT 55 54]) .skip))) (.region [oM 35 12,oK 36 .add 35 1,oM 12 36]))
def Jo : AC := .seq (.region [oN 56 4 9,oS 4 6 56,oI 7 0]) .ret
def b8 : AC := .seq (.region [oZ 6,oI 7 0]) (.seq (.seq (.region [oM 13 0,oM 14 1,oM 15 2,oC 16 77 [.t 13,.t 14,.t 15],oM 8 16]) (.seq (.region [oM 17 8,oK 18 .neq 17 0]) (.cond 18 (.seq (.region [o0 19 (.build [.int .i64 0,.int .i64 0,.int .i64 0,(.v (.slice none 0 0))] []),oM 20 8,oS 4 6 19,oM 7 20]) .ret) .skip))) (.seq (.region [oM 21 0,oM 22 1,oM 23 2,o0 24 (.build [.int .i64 0,.int .i64 0,.int .i64 0,(.v (.slice none 0 0))] [(0,1,.t 21),(1,1,.t 22),(2,1,.t 23)]),oM 25 2,oC 26 78 [.t 25],oM 27 0,oM 28 1,oM 29 2,oC 30 79 [.t 27,.t 28,.t 29],oZ 9,oS 4 9 24,oM 10 26,oM 11 30]) (.seq (.seq (.region [oI 12 0]) (.block 0 (.loop wx))) Jo)))
theorem qd5 : zj Try.prog 41 = some ⟨57, b8, [.wu 6 4, .slot 7]⟩ := by kernel_rfl
theorem qei (p c n : Int) : Am.Fn Try.prog 41 [.int .i64 p, .int .i64 c, .int .i64 n] [] (qld (va p c n)) := by
  refine Am.Fn.ofW qng mixed qd5 (by simp) (by simp) ?_
  have nilR : ∀ (code : Int) (s : St), va p c n = (0, 0, 0, [], code) → Vk s [.wu 6 4, .slot 7] = some [.agg [.int .i64 0, .int .i64 0, .int .i64 0, .v (.slice none 0 0)], .int .i64 code] → Ret [.wu 6 4, .slot 7] [] (qld (va p c n)) s := fun code s he hr => by
    refine Ret.nil 18 (.tup [elemV 0 0 0 0 0, .int .i64 code]) hr ?_ (by simp) ?_ ?_
    · simp [xl, elemV, AV.ren, AV.zk]
    · exact ⟨⟨trivial, trivial, trivial, by simp [AV.under], trivial⟩, trivial, trivial⟩
    · rw [he]; exact ⟨rfl, rfl⟩
  by_cases hf : (z6 p = true ∧ 0 ≤ c ∧ c ≤ p - 1) ∧ 1 ≤ n ∧ n ≤ 5
  · by_cases hz : n ≤ j8 p c
    · have e : va p c n = (p, c, n, jq p c (n.toNat - 1), 0) := by unfold va; rw [if_neg (fun h => h hf), if_neg (fun h => h hz)]
      have hC : Vg p c n = 0 := by unfold Vg; rw [if_neg (fun h => h hf), if_neg (fun h => h hz)]
      obtain ⟨N, rfl⟩ : ∃ N : Nat, n = N := ⟨n.toNat, by omega⟩
      obtain ⟨⟨hP, hc⟩, hn⟩ := hf
      have hb := ui hP
      have hN : 1 ≤ N ∧ N ≤ 6 := by omega
      have c1 : (1 : Int) ≤ (N : Int) ∧ (N : Int) ≤ 6 := by omega
      have c2 : (N : Int) ≤ ((5 : Nat) : Int) ∧ (N : Int) ≤ (j8 p c : Int) := by omega
      rw [Int.toNat_natCast] at e
      have hg := (Yi (c := c) hb hc (N - 1) (by omega)).1
      rw [show ((N - 1 + 1 : Nat) : Int) = (N : Int) by omega] at hg
      have hlen := Vw hN
      have hL := K9 hN
      have hal := bg (n := (N : Int)) hL
      have hrl : (Uh p c N).length = (qf N).length := Vi
      have hrl' := jd (Uh p c N)
      rw [e]
      simp (maxSteps := 3000000) only [qh, zH, b8, ym, j7, wa, Vj, bm, Jy, bm, hC, hP, hc, hn, c1, c2, qiw, quq, ku, qje, qb _ _ (zi _), qb _ _ (qz _), Int.toNat_natCast, and_self, iE, iN, iB, iC, iL, iD, iA, iS, iM, qa, zZ, ↓qp, ↓reduceIte, reduceCtorEq, nA, nM, nS, nE, nL, nD]; try simp only [qa, zY]
      refine ⟨rfl, ?_⟩
      refine WA.xo qng (fun s => ∃ i : Nat, i ≤ (qf N).length ∧ s = ⟨[(6, .ptr 0 0), (9, .ptr 3 0), (10, .slc 1 0 (qf N).length false 0), (11, .slc 2 0 (qf N).length true (qf N).length), (12, .int .i64 i)], [q5e, .vec 17 (wj N (qf N)), .cells (jf (Uh p c N)), .cells [.int .i64 p, .int .i64 c, .int .i64 N, .slc 4 0 (qee N (jq p c (N - 1)) ((qf N).take i)).length false 0], .vec 18 (zc (qee N (jq p c (N - 1)) ((qf N).take i)))]⟩)
        (fun s => match get s.env 12 with | .int _ x => (qf N).length - x.toNat | _ => 0) ⟨_, qt.trans (qt.qv [6, 9, 10, 11, 12]) (qt.q9r 3 3 18 rfl rfl (by simp) ?_ ?_), 0, by omega, ?_⟩ ?_
      · simp [qv, zp, AV.under]
      · simp only [List.mem_cons, List.not_mem_nil, or_false, forall_eq_or_imp, forall_eq]
        exact ⟨⟨trivial, trivial, trivial, trivial, trivial⟩, qj _ _ (zi _), qj _ _ (qz _), ⟨trivial, trivial, trivial, trivial, trivial⟩⟩
      · simp only [qv, zp]
        rfl
      rintro s ⟨i, hi, rfl⟩
      have hwi : qn .i64 ((i : Int) + 1) = ((i + 1 : Nat) : Int) := by rw [wrap64 (by omega) (by omega)]; rfl
      by_cases hlt : i < (qf N).length
      · have hli : (i : Int) < ((qf N).length : Int) := by omega
        have hi0 : (0 : Int) ≤ (i : Int) := by omega
        have g1 := G0 (n := (N : Int)) hL hlt
        have o1 : okD (qf N)[i] := hL _ (List.getElem_mem hlt)
        have b1 : i * 17 < (qf N).length * 17 := by omega
        have b2 : i * 17 + 17 ≤ (qf N).length * 17 := by omega
        have hpv : (Uh p c N).getD i 0 = cf (qf N)[i] (jq p c (N - 1)) := by unfold Uh vq; rw [k9 hlt]
        have htk := qvx (n := (N : Int)) (a := jq p c (N - 1)) hlt
        have hrk := q27 (n := (N : Int)) (a := jq p c (N - 1)) (fun m hm => hL m (List.mem_of_mem_take (i := i) hm))
        have hlr := q15 (n := (N : Int)) (a := jq p c (N - 1)) (L := (qf N).take i)
        rw [List.length_take] at hlr
        generalize hm : (qf N)[i] = m at *
        generalize hx : cf m (jq p c (N - 1)) = x at *
        generalize hRn : qee (N : Int) (jq p c (N - 1)) ((qf N).take (i + 1)) = R' at *
        generalize hRe : qee (N : Int) (jq p c (N - 1)) ((qf N).take i) = R at *
        by_cases h0 : x = 0
        · have hb0 : (x == 0) = true := by simp [h0]
          rw [if_pos h0, List.append_nil] at htk
          subst htk
          simp (maxSteps := 3000000) only [qh, zH, wx, ym, j7, wa, Vj, bm, Jy, hli, hi0, hlt, hrl, hrl', hpv, h0, hb0, hwi, and_self, iE, iN, iB, iC, iL, iD, iA, iS, iM, qa, zZ, ↓qp, ↓reduceIte, reduceCtorEq, nA, nM, nS, nE, nL, nD]; try simp only [qa, zY]
          refine ⟨_, qt.qv [6, 9, 10, 11, 12], ⟨i + 1, by omega, ?_⟩, ?_⟩
          · simp only [zL, ↓reduceIte, reduceCtorEq, nE, nA]; rw [hRn]
          · simp only [zL, ↓reduceIte, reduceCtorEq, nE, nA]; omega
        · have hb0 : (x == 0) = false := by simp [h0]
          rw [if_neg h0] at htk
          have o2 := o1.1
          have e0 : (trm (0, List.replicate 16 0, 0)).length = 18 := rfl
          have e1 : over (trm (0, List.replicate 16 0, 0)) 0 (dia N m) = trm ((N : Int), m, 0) := qdc (by simp) o2
          have e2 : over (trm ((N : Int), m, 0)) 17 [.int .i64 x] = trm ((N : Int), m, x) := qb4 o2
          have e3 : over (trm (0, List.replicate 16 0, 0)) 0 (trm ((N : Int), m, x)) = trm ((N : Int), m, x) := Xp (by simp) o2
          have e4 : (trm ((N : Int), m, x)).length = 18 := by rw [Bg, o2]
          have e5 : (trm ((N : Int), m, 0)).length = 18 := by rw [Bg, o2]
          have e6 : List.take 18 (trm ((N : Int), m, x)) = trm ((N : Int), m, x) := qb0 o2
          have htl := zf hrk
          have htt : List.take (R.length * 18) (zc R) = zc R := List.take_of_length_le (by omega)
          have hap : zc R ++ trm ((N : Int), m, x) = zc R' := by rw [htk, qq0]; simp [zc]
          have hl1 : R.length + 1 = R'.length := by rw [htk]; simp
          have hbd : (R.length + 1) * 32 ≤ 1099511627776 := by omega
          simp (maxSteps := 3000000) only [qh, zH, wx, ym, j7, wa, Vj, bm, Jy, hli, hi0, hlt, hrl, hrl', hpv, h0, hb0, hwi, hal, b1, b2, g1, qe, o2, Zd, e0, e1, e2, e3, e4, e5, e6, Zp, src, lim, qe1, htl, htt, hap, hbd, Option.map_some, Option.map_none, List.all_nil, Nat.zero_mul, Nat.one_mul, Nat.zero_add, Int.toNat_zero, List.take_zero, List.drop_zero, Nat.le_refl, and_self, iE, iN, iB, iC, iL, iD, iA, iS, iM, qa, zZ, ↓qp, ↓reduceIte, reduceCtorEq, nA, nM, nS, nE, nL, nD]; try simp only [qa, zY]
          refine ⟨rfl, _, qt.xv [0, 1, 2, 3, 6] [6, 9, 10, 11, 12] ⟨by decide, ?_⟩ ?_, ⟨i + 1, by omega, ?_⟩, ?_⟩
          · simp only [qd _ _ (zi _), qd _ _ (qz _), qd _ _ (qc _), zK, ↓reduceIte, reduceCtorEq, nE, nB, nA]
          · simp only [qd _ _ (zi _), qd _ _ (qz _), qd _ _ (qc _), zK, ↓reduceIte, reduceCtorEq, nE, nB, nA]
          · simp only [qb _ _ (zi _), qb _ _ (qz _), qb _ _ (qc _), hl1, zL, ↓reduceIte, reduceCtorEq, nE, nA]
            rw [hRn]
          · simp only [zL, ↓reduceIte, reduceCtorEq, nE, nA]; omega
      · have hli : ¬ (i : Int) < ((qf N).length : Int) := by omega
        have ei : i = (qf N).length := by omega
        subst ei
        rw [List.take_length, qzv (by omega) hN hg]
        simp (maxSteps := 3000000) only [qh, zH, wx, Jo, hli, Int.lt_irrefl, iE, iN, iB, iC, iL, iD, iA, iS, iM, qa, zZ, ↓qp, ↓reduceIte, reduceCtorEq, nA, nM, nS, nE, nL, nD]; try simp only [qa, zY]
        refine ⟨rfl, _, qt.refl _, ?_⟩
        unfold qld
        generalize jq p c (N - 1) = L
        refine Ret.xv [4] ⟨⟨by simp, rfl, by decide⟩, ?_⟩ (rs := [.agg [.int .i64 p, .int .i64 c, .int .i64 N, .slc 4 0 L.length false 0], .int .i64 0]) rfl (by rfl) (by simp [xl]) ?_ ⟨?_, ?_⟩
        · simp only [qd _ _ (qc _), zK, ↓reduceIte, reduceCtorEq, nE, nB, nA]
        · intro j l; cases j <;> simp [zn, AO.ren]
        · simp only [xl]
          simp only [zL, ↓reduceIte, reduceCtorEq, nE, nA]
          rfl
        · simp only [qb _ _ (qc _), zL, ↓reduceIte, reduceCtorEq, nE, nA]
    · have e : va p c n = (0, 0, 0, [], 5) := by unfold va; rw [if_neg (fun h => h hf), if_pos hz]
      have hC : Vg p c n = 5 := by unfold Vg; rw [if_neg (fun h => h hf), if_pos hz]
      simp (maxSteps := 3000000) only [qh, zH, b8, ym, j7, wa, Vj, bm, Jy, hC, and_self, iE, iN, iB, iC, iL, iD, iA, iS, iM, qa, zZ, ↓qp, ↓reduceIte, reduceCtorEq, nA, nM, nS, nE, nL, nD]; try simp only [qa, zY]
      exact ⟨rfl, _, qt.refl _, nilR 5 _ e rfl⟩
  · have e : va p c n = (0, 0, 0, [], 2) := if_pos hf
    have hC : Vg p c n = 2 := if_pos hf
    simp (maxSteps := 3000000) only [qh, zH, b8, ym, j7, wa, Vj, bm, Jy, hC, and_self, iE, iN, iB, iC, iL, iD, iA, iS, iM, qa, zZ, ↓qp, ↓reduceIte, reduceCtorEq, nA, nM, nS, nE, nL, nD]; try simp only [qa, zY]
    exact ⟨rfl, _, qt.refl _, nilR 2 _ e rfl⟩
theorem q1f : Am.Callee Try.prog 41 (bu Jw) :=
  Am.Callee.new fun xs v H he => by
    unfold Jw at he
    split at he
    · rename_i p c n
      cases he
      exact ⟨rfl, qei p c n⟩
    · cases he
noncomputable def qvy : za := (qy7.put 41 (bu Jw))
theorem q2u : qo Try.prog qvy := (qng.put (q1f))
theorem q4q (p c n : Int) : okT (va p c n).2.2.2.1 ∧ (va p c n).2.2.2.1.length ≤ 132 := by
  unfold va
  split
  · exact ⟨(fun t h => by cases h), by simp⟩
  · rename_i hf
    split
    · exact ⟨(fun t h => by cases h), by simp⟩
    · have hf' : (z6 p = true ∧ 0 ≤ c ∧ c ≤ p - 1) ∧ 1 ≤ n ∧ n ≤ 5 := Classical.byContradiction hf
      have hg := Yi (c := c) (ui hf'.1.1) hf'.1.2 (n.toNat - 1) (by omega)
      exact ⟨hg.1.ok, hg.2⟩
theorem Us : qvy 42 = some (bu Jw) := rfl
theorem Ux : qvy 41 = some (bu Jw) := rfl
theorem qaj : qvy 18 = some (Xq) := rfl
theorem Ga : qvy 31 = some (kc) := rfl
theorem Ge : qvy 30 = some (kb) := rfl
def Qc : AC := .seq (.region [oB 6 false]) (.seq (.region [oM 16 0,oM 17 1,oM 18 2,oC 19 41 [.t 16,.t 17,.t 18],oM 15 19,oE 20 0 15,oE 21 1 15,oZ 7,oS 4 7 20,oM 8 21]) (.seq (.region [oM 23 0,oM 24 1,oM 25 2,oC 26 42 [.t 23,.t 24,.t 25],oM 22 26,oE 27 0 22,oE 28 1 22,oZ 9,oS 4 9 27,oM 10 28]) (.seq (.seq (.region [oN 29 4 9,oN 30 4 7,oC 31 18 [.t 29,.t 30],o0 32 (.un .not (.t 31)),oM 33 32,oG 34 33 false (.mov (.t 10)),oG 35 33 false (.mov (.t 8)),oG 36 33 false (.bin .neq (.t 34) (.t 35)),o0 37 (.pick (.t 33) (.c (.bool true)) (.t 36))]) (.cond 37 (.seq (.region [oB 6 false]) .ret) .skip)) (.seq (.region [oI 11 1]) (.seq (.region [oN 38 4 9,oM 39 11,oC 40 30 [.t 38,.t 39],oM 11 40]) (.seq (.region [oI 12 1]) (.seq (.region [oN 41 4 9,oM 42 12,oC 43 31 [.t 41,.t 42],oM 12 43]) (.seq (.seq (.region [oM 44 12,oK 45 .lss 44 0]) (.cond 45 (.seq (.region [oB 6 false]) .ret) .skip)) (.seq (.seq (.region [oM 46 12,oM 47 11,oP 48 .neq 46 47]) (.cond 48 (.seq (.region [oB 6 false]) .ret) .skip)) (.seq (.region [oM 50 0,oM 51 1,oM 52 2,oC 53 42 [.t 50,.t 51,.t 52],oM 49 53,oE 54 0 49,oE 55 1 49,oZ 13,oS 4 13 54,oM 14 55]) (.seq (.seq (.region [oN 56 4 13,oN 57 4 7,oC 58 18 [.t 56,.t 57],o0 59 (.un .not (.t 58)),oM 60 59,oG 61 60 false (.mov (.t 14)),oG 62 60 false (.mov (.t 8)),oG 63 60 false (.bin .neq (.t 61) (.t 62)),o0 64 (.pick (.t 60) (.c (.bool true)) (.t 63))]) (.cond 64 (.seq (.region [oB 6 false]) .ret) .skip)) (.seq (.region [oI 12 1]) (.seq (.region [oN 65 4 9,oM 66 12,oC 67 31 [.t 65,.t 66],oM 12 67]) (.seq (.seq (.region [oM 68 12,oK 69 .lss 68 0]) (.cond 69 (.seq (.region [oB 6 false]) .ret) .skip)) (.seq (.seq (.region [oM 70 12,oM 71 11,oP 72 .neq 70 71]) (.cond 72 (.seq (.region [oB 6 false]) .ret) .skip)) (.seq (.region [oB 6 true]) .ret))))))))))))))))
theorem Yl : zj Try.prog 12 = some ⟨73, Qc, [.slot 6]⟩ := by kernel_rfl
theorem qeu (p c n : Int) : Am.Fn Try.prog 12 [.int .i64 p, .int .i64 c, .int .i64 n] [] (fun v H' => v = .bool true ∧ H' = []) := by
  refine Am.Fn.xm (R := fun v => v = _) q2u mixed Yl (by simp) (by simp) ?_
  have hr := q4q p c n
  generalize he : va p c n = r at hr
  obtain ⟨P, C, N, L, E⟩ := r
  obtain ⟨hL, hl⟩ := hr
  simp only at hL hl
  have h1 := zf hL
  have h2 := jx hL
  have h3 : Ji L.length (zc (marks L.length 1)) = some (marks L.length 1) := by have := jx (Yz L.length 1); rwa [z7] at this
  have h6 : ((1 + 18 * L.length : Nat) : Int) < 0 ↔ False := iff_false_intro (by omega)
  have h4 : L.length ≤ 2000000 := by omega
  simp (maxSteps := 3000000) only [qh, zH, Qc, Us, Ux, qaj, Ga, Ge, Xq, kc, kb, Jw, he, h1, h2, h3, h4, h6, Int.toNat_one, List.length_replicate, iE, iN, iB, iC, iL, iD, iA, iS, iM, G4, elemV, ku, qb _ _ (qc _), qb _ _ (qg _ _), q4y, qa, zZ, ↓qp, ↓reduceIte, reduceCtorEq, nA, nM, nS, nE, nL, nD]; try simp only [qa, zY]
  exact ⟨rfl, rfl, rfl⟩
end Go.Proofs.Ytfhckbbgmblhbaa
namespace Go.Proofs.Ytfhckbbgmblhbaa
open Go.Am
open Nat renaming reduceAdd → nA, reduceMul → nM, reduceSub → nS, reduceEqDiff → nE, reduceLT → nL, reduceLeDiff → nD, reduceBEq → nB
open Int renaming reduceEq → iE, reduceNe → iN, reduceBEq → iB, reduceBNe → iC, reduceLT → iL, reduceLE → iD, reduceAdd → iA, reduceSub → iS, reduceMul → iM
theorem q2y (ι : Nat → Am.Loc) (heap : Array Obj) : HOk ι [] heap := ⟨fun j o h => by simp at h, fun i j b ⟨o, h, _⟩ => by simp at h⟩
end Go.Proofs.Ytfhckbbgmblhbaa
namespace Go.Proofs.Ytfhckbbgmblhbaa.fnExactProjectionOf
open Go.ChangeShapes Go.WideShapes Go.ChangeAt Go.RowKit Go.Am Go.Proofs.Ytfhckbbgmblhbaa
set_option linter.unusedVariables false
set_option maxRecDepth 100000
theorem own : ownKnob Try.prog.godebug = none := by kernel_rfl
theorem laidOut : laidOutB Try.prog = true := by kernel_rfl
theorem full : ∀ t e, t < Try.prog.types.size → Try.prog.underlying t = some (.slice e) → 0 < Try.prog.cellsOf e := slices_full_of _ (by kernel_rfl)
theorem qye (H : Type) (enc : TypeId × Value → H) (W : World) (args : Array Value) (ds gs : List (DataW H)) (before : List MemPlace)
    (hval : ∀ (j : Nat) (t : TypeId) (v : Value), Try.f12.params[j]? = some t → args[j]? = some v → Value.okWide Try.prog W .any 0 t v)
    (hW : DataW.Whole enc Try.prog Try.f12.params.toList Rows.fnExactProjectionOfSpec.vars false W args.toList ds gs before) :
    Calls Try.prog 12 args W fun e W' => ∃ v, e = .returned v ∧ Rows.fnExactProjectionOfSpec.post enc Try.prog Try.f12 false true false false W args v W' := by
  have hW' := hW
  obtain ⟨p, q, hA0, hV, rfl, hfz, hnd⟩ := hW
  have hA : DataW.TrodAll enc Try.prog W 0 (fun _ => true) true Try.f12.params.toList args.toList ds p := hA0
  rw [Try.params12] at hA
  obtain ⟨v1, vs1, d1, ds1, p1, q1, ea1, ed1, _, h1, hA⟩ := trodAll_cons hA
  obtain ⟨v2, vs2, d2, ds2, p2, q2, ea2, ed2, _, h2, hA⟩ := trodAll_cons hA
  obtain ⟨v3, vs3, d3, ds3, p3, q3, ea3, ed3, _, h3, hA⟩ := trodAll_cons hA
  obtain ⟨ea5, ed5, _⟩ := trodAll_nil hA
  have ea : args.toList = [v1, v2, v3] := by rw [ea1, ea2, ea3, ea5]
  have hds : ds = [d1, d2, d3] := by rw [ed1, ed2, ed3, ed5]
  obtain rfl : args = #[v1, v2, v3] := by rw [← Array.toArray_toList (xs := args), ea]
  obtain ⟨n1, rfl, -, -, w1⟩ := open_int (k := .i64) (by kernel_rfl) (hval 0 _ v1 rfl rfl) h1
  obtain ⟨n2, rfl, -, -, w2⟩ := open_int (k := .i64) (by kernel_rfl) (hval 1 _ v2 rfl rfl) h2
  obtain ⟨n3, rfl, -, -, w3⟩ := open_int (k := .i64) (by kernel_rfl) (hval 2 _ v3 rfl rfl) h3
  have hlaw := (qeu n1 n2 n3).mono (R' := fun v _ => v = .bool true) fun v H' h => h.1
  have hc := qxe hlaw (by simp) (ι := fun _ => Loc.nil) (w := W) (q2y _ _) ⟨trivial, trivial, trivial, trivial⟩
  refine Calls.mono hc fun e W' ⟨he, hk, hh⟩ => ⟨_, he, ?_⟩
  refine qzu hW' rfl ?_ (t := 4) rfl (by kernel_rfl) laidOut full ?_ hk hh
  · subst hds
    obtain ⟨rfl, _⟩ := trodVars_none hV
    exact ⟨rfl, rfl, rfl⟩
  · rw [Try.params12]
    intro t ht
    simp only [List.mem_cons, List.not_mem_nil, or_false] at ht
    rcases ht with rfl | rfl | rfl <;> exact ⟨by kernel_rfl, of_decide_eq_true (by kernel_rfl)⟩
theorem lifted (os : Os) (started : os.Started) (H : Type) (enc : TypeId × Value → H) :
    ReturnsInHanded {} Try.checked os 12 .any (Rows.fnExactProjectionOfSpec.pre6 enc Try.prog Try.f12 Rows.fnExactProjectionOfRow.domain false) (Rows.fnExactProjectionOfSpec.post enc Try.prog Try.f12 false true false false) := by
  refine returnsInHanded_of_change (C := Try.checked) own started (by kernel_rfl) Try.func12
    (ChangeSpec.witness6 (enc := enc) (C := Try.checked) false ⟨#[], #[.int .i64 0, .int .i64 0, .int .i64 0], []⟩ 8 (by kernel_rfl) (by kernel_rfl) (by kernel_rfl) (by kernel_rfl)) ?_
  intro W base args ds gs before hval hW hcnd _
  exact qye H enc W args ds gs before hval hW
end Go.Proofs.Ytfhckbbgmblhbaa.fnExactProjectionOf
namespace Go.Proofs.Ytfhckbbgmblhbaa.fnExactProjectionOf
set_option linter.unusedVariables false
set_option maxRecDepth 100000
theorem qwi : (Rows.fnExactProjectionOfRow.inPlace == Try.pinned.checked.prog.inPlace 12) = true := by kernel_rfl
theorem qnj : (Rows.fnExactProjectionOfRow.unfollowed == Try.pinned.checked.prog.unfollowed 12) = true := by kernel_rfl
theorem qsp : (Rows.fnExactProjectionOfRow.recurses == Try.pinned.checked.prog.recurses 12) = true := by kernel_rfl
theorem q43 : (Rows.fnExactProjectionOfRow.named == Try.pinned.checked.prog.varsNamed 12) = true := by kernel_rfl
theorem q47 : Try.pinned.checked.prog.stopsHeard = true := by kernel_rfl
theorem q3z : Try.pinned.checked.prog.mayEnter = true := by kernel_rfl
theorem qv9 : (Rows.fnExactProjectionOfRow.lifted == Try.pinned.checked.prog.liftsFinal) = true := by kernel_rfl
theorem q5z : laidOutB Try.pinned.checked.prog = true := by kernel_rfl
theorem q21 : mapsRowed Try.pinned.checked.prog = true := by kernel_rfl
theorem q6e : (Rows.fnExactProjectionOfRow.plainKeys == Try.pinned.checked.prog.plainKeys) = true := by kernel_rfl
end Go.Proofs.Ytfhckbbgmblhbaa.fnExactProjectionOf

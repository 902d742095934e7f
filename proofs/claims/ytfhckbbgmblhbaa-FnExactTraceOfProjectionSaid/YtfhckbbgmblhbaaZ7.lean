/- Contracts of functions of the program, and plain laws, part 7: each text of this part is proved without further condition. -/
import Derived.Test.YtfhckbbgmblhbaaZ6
import Derived.Test.YtfhckbbgmblhbaaAmC
import Derived.Test.YtfhckbbgmblhbaaRows
import Derived.OpenShut
namespace Go.Proofs.Ytfhckbbgmblhbaa
open Go.Am Go.Dia
open Nat renaming reduceAdd → nA, reduceMul → nM, reduceSub → nS, reduceEqDiff → nE, reduceLT → nL, reduceLeDiff → nD, reduceBEq → nB
open Int renaming reduceEq → iE, reduceNe → iN, reduceBEq → iB, reduceBNe → iC, reduceLT → iL, reduceLE → iD, reduceAdd → iA, reduceSub → iS, reduceMul → iM
set_option linter.unusedSimpArgs false
set_option linter.unusedVariables false
set_option maxRecDepth 4000
set_option maxHeartbeats 2000000
def rdS (n : Nat) (s : List UInt8) : Nat → Option (List Nat × List Nat)
  | 0 => some (List.replicate 16 0, [])
  | k + 1 => match rdS n s k with
    | none => none
    | some (m, st) => if s.getD k 0 = 40 then some (m, k :: st) else if s.getD k 0 = 41 then (match st with
      | [] => none
      | i :: st' => some ((m.set (place n i) (place n k)).set (place n k) (place n i), st')) else none
theorem qyv {n : Nat} {s : List UInt8} {k : Nat} (h : rdS n s k = none) : ∀ j, rdS n s (k + j) = none
  | 0 => h
  | j + 1 => by
    show rdS n s ((k + j) + 1) = none
    simp only [rdS, qyv h j]
theorem qh6 {n : Nat} {s : List UInt8} (hn : n ≤ 8) : ∀ {k : Nat} {m st : List Nat}, k ≤ 2 * n → rdS n s k = some (m, st) → okD m ∧ st.length ≤ k ∧ ∀ i ∈ st, i < k
  | 0, m, st, _, h => by cases h; exact ⟨qkn, Nat.le_refl _, by simp⟩
  | k + 1, m, st, hk, h => by
    simp only [rdS] at h
    cases h0 : rdS n s k with
    | none => rw [h0] at h; cases h
    | some q =>
      obtain ⟨m0, st0⟩ := q
      obtain ⟨i1, i2, i3⟩ := qh6 hn (by omega) h0
      rw [h0] at h
      simp only at h
      split at h
      · cases h
        exact ⟨i1, by simp; omega, fun i hi => by
          rcases List.mem_cons.1 hi with rfl | hi
          · omega
          · have := i3 i hi; omega⟩
      · split at h
        · cases st0 with
          | nil => cases h
          | cons i st' =>
            cases h
            have := i3 i (by simp)
            have p1 := q7 (n := n) (i := i) (by omega)
            have p2 := q7 (n := n) (i := k) (by omega)
            exact ⟨X6 i1 (by omega) (by omega), by simp at i2; omega, fun j hj => by have := i3 j (by simp [hj]); omega⟩
        · cases h
def rdC (n : Nat) : Bool := (brs (2 * n) 0).all fun s => (rdS n s (2 * n) == some (dOf s, [])) && s.length == 2 * n
theorem q81 : rdC 1 = true := by kernel_rfl
theorem q8x : rdC 2 = true := by kernel_rfl
theorem q8z : rdC 3 = true := by kernel_rfl
theorem q86 : rdC 4 = true := by kernel_rfl
theorem q88 : rdC 5 = true := by kernel_rfl
theorem q87 : rdC 6 = true := by kernel_rfl
theorem q5n {n : Nat} (h : 1 ≤ n ∧ n ≤ 6) : ∀ s ∈ brs (2 * n) 0, rdS n s (2 * n) = some (dOf s, []) ∧ s.length = 2 * n := fun s hs => by
  have h0 : rdC n = true := by
    rcases (show n = 1 ∨ n = 2 ∨ n = 3 ∨ n = 4 ∨ n = 5 ∨ n = 6 by omega) with rfl | rfl | rfl | rfl | rfl | rfl
    · exact q81
    · exact q8x
    · exact q8z
    · exact q86
    · exact q88
    · exact q87
  have := List.all_eq_true.1 h0 s hs
  simp only [Bool.and_eq_true, beq_iff_eq] at this
  exact this
theorem Qc : qhe 66 = some (qk uk) := rfl
theorem bn : qhe 139 = some (qk j7) := rfl
theorem uc : qhe 165 = some (qk vd) := rfl
def Kg : AC := .seq (.region [oM 42 0,oM 43 7,o0 44 (.qjj (.t 42) (.t 43)),o0 45 (.bin .eql (.t 44) (.c (.int .u8 41))),oM 46 45,oG 47 46 true (.mov (.t 6)),oG 48 46 true (.len .slc (.t 47)),oG 49 46 true (.bin .gtr (.t 48) (.c (.int .i64 0))),o0 50 (.pick (.t 46) (.t 49) (.c (.bool false))),oM 41 50]) (.cond 41 (.seq (.region [oM 51 6,oM 52 6,o0 53 (.len .slc (.t 52)),oK 54 .sub 53 1,oX 55 1 51 54,oL 56 55,oM 8 56]) (.seq (.region [oM 57 6,oM 58 6,o0 59 (.len .slc (.t 58)),oK 60 .sub 59 1,o0 61 (.qh1 1 (.t 57) none (some (.t 60))),oM 6 61]) (.draw true [oN 62 17 5,oM 63 4,oM 64 8,oM 66 4,oM 67 7,oC 65 165 [.t 63,.t 64],oC 68 165 [.t 66,.t 67],oC 69 139 [.t 62,.t 65,.t 68],oS 17 5 69]))) (.seq (.region [o0 31 (.build [.int .i64 0,.int .u8 0,.int .u8 0,.int .u8 0,.int .u8 0,.int .u8 0,.int .u8 0,.int .u8 0,.int .u8 0,.int .u8 0,.int .u8 0,.int .u8 0,.int .u8 0,.int .u8 0,.int .u8 0,.int .u8 0,.int .u8 0] []),oS 17 2 31,oB 3 false]) .ret))
def Zl : AC := .seq (.seq (.region [oM 25 7,oM 26 4,o0 27 (.bin .mul (.c (.int .i64 2)) (.t 26)),oP 28 .lss 25 27]) (.cond 28 .skip (.exit 0))) (.seq (.block 1 (.block 2 (.seq (.region [oM 33 0,oM 34 7,o0 35 (.qjj (.t 33) (.t 34)),o0 36 (.bin .eql (.t 35) (.c (.int .u8 40))),oM 32 36]) (.cond 32 (.region [oM 37 6,oM 38 7,o0 39 (.gi 1 [.int .i64 0] [(0,1,.t 38)]),o0 40 (.append 1 8 (.t 37) (.t 39)),oM 6 40]) Kg)))) (.region [oM 29 7,oK 30 .add 29 1,oM 7 30]))
def G5 : AC := .seq (.seq (.region [oM 70 6,o0 71 (.len .slc (.t 70)),oK 72 .gtr 71 0]) (.cond 72 (.seq (.region [o0 73 (.build [.int .i64 0,.int .u8 0,.int .u8 0,.int .u8 0,.int .u8 0,.int .u8 0,.int .u8 0,.int .u8 0,.int .u8 0,.int .u8 0,.int .u8 0,.int .u8 0,.int .u8 0,.int .u8 0,.int .u8 0,.int .u8 0,.int .u8 0] []),oS 17 2 73,oB 3 false]) .ret) .skip)) (.seq (.region [oN 74 17 5,oS 17 2 74,oB 3 true]) .ret)
def qfa : AC := .seq (.region [oD 2,oB 3 false]) (.seq (.region [oM 9 0,o0 10 (.len .str (.t 9)),oK 11 .quo 10 2,oM 4 11]) (.seq (.seq (.region [oM 12 0,o0 13 (.len .str (.t 12)),oK 14 .rem 13 2,oK 15 .neq 14 0,oM 16 15,oG 17 16 false (.mov (.t 4)),⟨some 18,some (16,false),.call (.c (.fn 66 [] [])) [.t 17,(.c (.int .i64 1)),(.c (.int .i64 8))]⟩,oG 19 16 false (.un .not (.t 18)),o0 20 (.pick (.t 16) (.c (.bool true)) (.t 19))]) (.cond 20 (.seq (.region [o0 21 (.build [.int .i64 0,.int .u8 0,.int .u8 0,.int .u8 0,.int .u8 0,.int .u8 0,.int .u8 0,.int .u8 0,.int .u8 0,.int .u8 0,.int .u8 0,.int .u8 0,.int .u8 0,.int .u8 0,.int .u8 0,.int .u8 0,.int .u8 0] []),oS 17 2 21,oB 3 false]) .ret) .skip)) (.seq (.region [oM 22 4,o0 23 (.build [.int .i64 0,.int .u8 0,.int .u8 0,.int .u8 0,.int .u8 0,.int .u8 0,.int .u8 0,.int .u8 0,.int .u8 0,.int .u8 0,.int .u8 0,.int .u8 0,.int .u8 0,.int .u8 0,.int .u8 0,.int .u8 0,.int .u8 0] [(0,1,.t 22)]),o0 24 (.gi 0 [] []),oD 5,oS 17 5 23,oM 6 24]) (.seq (.seq (.region [oI 7 0]) (.block 0 (.loop Zl))) G5))))
theorem qny : zh Try.prog 134 = some ⟨75, qfa, [.bg 2 17, .slot 3]⟩ := by kernel_rfl
theorem qoj (n : Nat) (s : List UInt8) (m0 : List Nat) (hn : 1 ≤ n ∧ n ≤ 8) (hs : s.length = 2 * n) (h : rdS n s (2 * n) = some (m0, [])) :
    Am.Fn Try.prog 134 [.str s] [] (fun v H' => v = .tup [.agg (dia n m0), .bool true] ∧ H' = []) := by
  refine Am.Fn.xp (R := fun v => v = _) Ur mixed qny (by simp [AV.qt, AV.under]) (by simp) ?_
  have hl : (s.length : Int).tdiv 2 = (n : Int) := by rw [hs]; rw [show (((2 * n : Nat) : Int)).tdiv 2 = ((2 * n / 2 : Nat) : Int) from (Int.ofNat_tdiv (2 * n) 2).symm]; omega
  have hr : (s.length : Int).tmod 2 = 0 := by rw [hs]; rw [show (((2 * n : Nat) : Int)).tmod 2 = ((2 * n % 2 : Nat) : Int) from (Int.ofNat_tmod (2 * n) 2).symm]; omega
  have hw0 : qn .i64 (n : Int) = n := wrap64 (by omega) (by omega)
  have hn1 : (1 : Int) ≤ (n : Int) ∧ (n : Int) ≤ 8 := by omega
  have h2n : qn .i64 (2 * (n : Int)) = ((2 * n : Nat) : Int) := by rw [wrap64 (by omega) (by omega)]; simp
  simp (maxSteps := 3000000) only [qf, zH, qfa, Qc, bn, uc, uk, vd, j7, hl, hr, hw0, hn1, x8, zm, Qp, qe, zq, xn xd xd, List.length_replicate, and_self, iE, iN, iB, iC, iL, iD, iA, iS, iM, qa, zZ, ↓qp, ↓reduceIte, reduceCtorEq, nA, nM, nS, nE, nL, nD]; try simp only [qa, zY]
  refine WA.xo Ur (fun t => ∃ (k : Nat) (m st cl : List Nat), k ≤ 2 * n ∧ rdS n s k = some (m, st) ∧ st.length ≤ cl.length ∧ cl.take st.length = st.reverse ∧ t = ⟨[(0, .str s), (2, .ptr 0 0), (3, .bool false), (4, .int .i64 n), (5, .ptr 2 0), (6, .slc 1 0 st.length false 0), (7, .int .i64 k)], [.cells (dia 0 (List.replicate 16 0)), .vec 1 (Ga cl), .cells (dia n m)]⟩)
    (fun t => match get t.env 7 with | .int _ x => 2 * n - x.toNat | _ => 0) ⟨_, qu.trans (qu.qv [0, 2, 3, 4, 5, 6, 7]) (qu.vec 1 0 1 (by decide) rfl rfl ?_ ?_), 0, List.replicate 16 0, [], [], by omega, rfl, by simp, by simp, ?_⟩ ?_
  · simp only [qv, zu, zV, ↓reduceIte, nE, reduceCtorEq, nB]
  · simp only [zV, ↓reduceIte, nE, reduceCtorEq, nB]
  · simp only [qv, zu, zV, ↓reduceIte, nE, reduceCtorEq, nB]; rfl
  rintro t ⟨k, m, st, cl, hk, hrd, hcl, htk, rfl⟩
  have hw : qn .i64 ((k : Int) + 1) = ((k + 1 : Nat) : Int) := by rw [wrap64 (by omega) (by omega)]; rfl
  obtain ⟨hmo, hst, hsb⟩ := qh6 hn.2 hk hrd
  by_cases hlt : k < 2 * n
  · have hli : (k : Int) < ((2 * n : Nat) : Int) := by omega
    have hk0 : (0 : Int) ≤ (k : Int) := by omega
    have hks : (k : Int) < (s.length : Int) := by omega
    cases hnx : rdS n s (k + 1) with
    | none =>
      have := qyv hnx (2 * n - (k + 1))
      rw [show k + 1 + (2 * n - (k + 1)) = 2 * n by omega, h] at this
      cases this
    | some q =>
    obtain ⟨m', st'⟩ := q
    have hnx' := hnx
    simp only [rdS, hrd] at hnx
    by_cases h40 : s.getD k 0 = 40
    · rw [if_pos h40] at hnx
      cases hnx
      have hx : (((s.getD k 0).toNat : Nat) : Int) = 40 := by rw [h40]; rfl
      have hap : List.take st.length (Ga cl) ++ [AV.int .i64 (k : Int)] = Ga (k :: st).reverse := by
        rw [qv4, htk, List.reverse_cons, ← qnw]; rfl
      have hs1 : src [AO.cells (dia 0 (List.replicate 16 0)), .vec 1 (Ga cl), .cells (dia n m), .cells (over [AV.int .i64 0] 0 [AV.int .i64 k])] 1 (.slc 3 0 1 true 1) = some (1, [.int .i64 k]) := rfl
      have hnl := Gn (m := cl)
      have hbd : (st.length + 1) * 8 ≤ 1099511627776 := by omega
      simp (maxSteps := 3000000) only [qf, zH, Zl, Qc, bn, uc, uk, vd, j7, h2n, hli, hk0, hks, hx, hap, hs1, hnl, hcl, hbd, hw, Nat.mul_one, and_self, iE, iN, iB, iC, iL, iD, iA, iS, iM, qa, zZ, ↓qp, ↓reduceIte, reduceCtorEq, nA, nM, nS, nE, nL, nD]; try simp only [qa, zY]
      refine ⟨rfl, _, qu.xy [0, 4, 2] [0, 2, 3, 4, 5, 6, 7] ⟨by decide, ?_⟩ ?_, ⟨k + 1, m, k :: st, (k :: st).reverse, by omega, hnx', by simp, by rw [List.take_of_length_le (by simp)], ?_⟩, ?_⟩
      · simp only [zK, ↓reduceIte, reduceCtorEq, nE, nB, nA]
      · simp only [zK, ↓reduceIte, reduceCtorEq, nE, nB, nA]
      · simp only [zL, ↓reduceIte, reduceCtorEq, nE, nA]; rfl
      · simp only [zL, ↓reduceIte, reduceCtorEq, nE, nA]; omega
    · rw [if_neg h40] at hnx
      by_cases h41 : s.getD k 0 = 41
      · rw [if_pos h41] at hnx
        cases st with
        | nil => cases hnx
        | cons j st1 =>
          simp only [Option.some.injEq, Prod.mk.injEq] at hnx
          obtain ⟨e1, e2⟩ := hnx
          subst e2
          have hx : (((s.getD k 0).toNat : Nat) : Int) = 41 := by rw [h41]; rfl
          have hj := hsb j (by simp)
          have hsl : (j :: st1).length = st1.length + 1 := rfl
          have hpos : (0 : Int) < ((st1.length + 1 : Nat) : Int) := by omega
          have hw1 : qn .i64 (((st1.length + 1 : Nat) : Int) - 1) = ((st1.length : Nat) : Int) := by rw [wrap64 (by omega) (by omega)]; omega
          rw [hsl] at hcl htk hst
          have hcl1 : st1.length < cl.length := by omega
          have hcl2 : st1.length ≤ cl.length := by omega
          have hgj : cl.getD st1.length 0 = j := by
            have : (cl.take (st1.length + 1)).getD st1.length 0 = j := by rw [htk]; simp
            rw [← this, List.getD_eq_getElem?_getD, List.getD_eq_getElem?_getD, List.getElem?_take, if_pos (by omega)]
          have htk1 : cl.take st1.length = st1.reverse := by
            have : (cl.take (st1.length + 1)).take st1.length = st1.reverse := by rw [htk]; simp
            rwa [List.take_take, Nat.min_eq_left (by omega)] at this
          have hnl := Gn (m := cl)
          have c1 : (0 : Int) ≤ (st1.length : Int) := by omega
          have c2 : (st1.length : Int) < ((st1.length + 1 : Nat) : Int) := by omega
          have c3 : (st1.length : Int) ≤ ((st1.length + 1 : Nat) : Int) := by omega
          have p1 := q7 (n := n) (i := j) (by omega)
          have p2 := q7 (n := n) (i := k) (by omega)
          have pz1 := Xr (n := n) (k := j) (by omega)
          have pz2 := Xr (n := n) (k := k) (by omega)
          have z1 : u3 (n : Int) := jy (by omega)
          have z2 : u3 (j : Int) := jy (by omega)
          have z3 : u3 (k : Int) := jy (by omega)
          have j1 : (0 : Int) ≤ ((place n j : Nat) : Int) ∧ ((place n j : Nat) : Int) < 16 := by omega
          have j2 : (0 : Int) ≤ ((place n k : Nat) : Int) ∧ ((place n k : Nat) : Int) < 16 := by omega
          have hmo' := (qh6 hn.2 (by omega) hnx').1
          rw [← e1] at hmo'
          simp (maxSteps := 3000000) only [qf, zH, Zl, Kg, Qc, bn, uc, uk, vd, j7, h2n, hli, hk0, hks, hx, hnl, hw, hw1, hsl, hpos, hcl, hcl1, hcl2, hgj, c1, c2, c3, z1, z2, z3, pz1, pz2, j1, j2, qy hmo, qe, hmo.1, hmo'.1, qw hmo.1, qw hmo'.1, xn hmo.1 hmo'.1, zq, lim, qih, Option.map_some, Option.map_none, Nat.zero_add, Nat.zero_mul, Int.toNat_zero, Nat.mul_one, Nat.sub_zero, Int.toNat_natCast, and_self, iE, iN, iB, iC, iL, iD, iA, iS, iM, qa, zZ, ↓qp, ↓reduceIte, reduceCtorEq, nA, nM, nS, nE, nL, nD]; try simp only [qa, zY]
          repeat' refine And.intro (by first | rfl | exact ⟨_, rfl⟩) ?_
          refine ⟨_, qu.qv [0, 2, 3, 4, 5, 6, 7], ⟨k + 1, m', st1, cl, by omega, hnx', hcl2, htk1, ?_⟩, ?_⟩
          · simp only [zL, ↓reduceIte, reduceCtorEq, nE, nA]; rw [e1]
          · simp only [zL, ↓reduceIte, reduceCtorEq, nE, nA]; omega
      · rw [if_neg h41] at hnx
        cases hnx
  · have hli : ¬ (k : Int) < ((2 * n : Nat) : Int) := by omega
    have ek : k = 2 * n := by omega
    have hem : st = [] ∧ m = m0 := by
      rw [ek, h] at hrd
      cases hrd
      exact ⟨rfl, rfl⟩
    obtain ⟨e1, e2⟩ := hem
    subst e1 e2
    have hz0 : ((0 : Nat) : Int) = 0 := rfl
    simp (maxSteps := 3000000) only [qf, zH, Zl, G5, Qc, bn, uc, uk, vd, j7, h2n, hli, hz0, qe, hmo.1, qw hmo.1, xn xd hmo.1, zq, List.length_replicate, List.length_nil, Int.lt_irrefl, iE, iN, iB, iC, iL, iD, iA, iS, iM, qa, zZ, ↓qp, ↓reduceIte, reduceCtorEq, nA, nM, nS, nE, nL, nD]; try simp only [qa, zY]
    simp only [qg, Bool.and_self]
def wm (n : Int) (L : List (List Nat)) : List AV := L.flatMap (dia n)
def okL (L : List (List Nat)) : Prop := ∀ m ∈ L, okD m
theorem zk {n : Int} : ∀ L : List (List Nat), AV.zf (wm n L) = true
  | [] => rfl
  | t :: ts => by simp only [wm, List.flatMap_cons]; exact K6 _ _ (qg _ _) (zk ts)
theorem qec {n : Int} {m : List Nat} (h : okD m) : (dia n m).length = 17 := by rw [qe, h.1]
theorem ga {n : Int} : ∀ {L : List (List Nat)}, okL L → (wm n L).length = L.length * 17
  | [], _ => rfl
  | t :: ts, h => by
    have := ga (n := n) (L := ts) fun u hu => h u (List.mem_cons_of_mem _ hu)
    unfold wm at this ⊢
    simp only [List.flatMap_cons, List.length_append, qec (h t (by simp)), List.length_cons, this]
    omega
theorem Kx {n : Int} : ∀ {L : List (List Nat)} {i : Nat}, okL L → (h : i < L.length) → List.take 17 (List.drop (i * 17) (wm n L)) = dia n L[i]
  | t :: ts, 0, h, hi => by
    have := qec (n := n) (h t (by simp))
    simp only [wm, List.flatMap_cons, Nat.zero_mul, List.drop_zero, List.getElem_cons_zero]
    rw [List.take_append_of_le_length (by omega), List.take_of_length_le (by omega)]
  | t :: ts, i + 1, h, hi => by
    have h0 := qec (n := n) (h t (by simp))
    have h1 := Kx (n := n) (L := ts) (i := i) (fun u hu => h u (List.mem_cons_of_mem _ hu)) (by simpa using hi)
    simp only [wm, List.flatMap_cons, List.getElem_cons_succ] at h1 ⊢
    rw [List.drop_append, List.drop_of_length_le (by omega), List.nil_append, h0, ← h1]
    congr 2; omega
theorem qze {n : Int} {a b : List (List Nat)} : wm n (a ++ b) = wm n a ++ wm n b := by simp [wm]
theorem qae {N : Nat} (h : 1 ≤ N ∧ N ≤ 6) : okL (qd N) := fun m hm => (X1 h hm).2
theorem qud {N : Nat} : (brs (2 * N) 0).length = (qd N).length := by simp [qd]
theorem qxx {N i : Nat} (h : i < (brs (2 * N) 0).length) : (qd N)[i]'(by rw [← qud]; exact h) = dOf (brs (2 * N) 0)[i] := by simp [qd]
theorem qzd {l : List (List UInt8)} {i : Nat} (h : i < l.length) : (strs l)[i]? = some (.str l[i]) := by simp [strs, h]
noncomputable def Up : List AV → Option AV
  | [.str s] => match rdS (s.length / 2) s s.length with
    | some (m, []) => chk (s.length % 2 = 0 ∧ 2 ≤ s.length ∧ s.length ≤ 16) (some (.tup [.agg (dia ((s.length / 2 : Nat) : Int) m), .bool true]))
    | _ => none
  | _ => none
theorem q2v : Am.Callee Try.prog 134 (qk Up) := Am.Callee.plain fun xs v he => by
  unfold Up at he
  split at he
  · rename_i s
    split at he
    · rename_i m hr
      obtain ⟨⟨h1, h2, h3⟩, he⟩ := qm he
      cases he
      have e : s.length = 2 * (s.length / 2) := by omega
      have hr' : rdS (s.length / 2) s (2 * (s.length / 2)) = some (m, []) := by rw [← e]; exact hr
      exact ⟨rfl, by simp only [AV.zo, AV.zf, qg, Bool.and_self], qoj (s.length / 2) s m (by omega) e hr'⟩
    · cases he
  · cases he
theorem qv5 : Am.Callee Try.prog 133 (ve 14) := qbl 14 (by omega)
noncomputable def q3g : zb := ((q70.put 134 (qk Up)).put 133 (ve 14))
theorem qmc : qo Try.prog q3g := ((q2b.put (q2v)).put (qv5))
theorem Z8 : q3g 134 = some (qk Up) := rfl
theorem Qf : q3g 133 = some (ve 14) := rfl
def Yi : AC := .seq (.seq (.region [oM 11 5,oM 12 3,o0 13 (.len .slc (.t 12)),oP 14 .lss 11 13]) (.cond 14 .skip (.exit 0))) (.seq (.block 1 (.seq (.region [oM 18 3,oM 19 5,oX 20 1 18 19,oL 21 20,oC 22 134 [.t 21],oM 17 22,oE 23 0 17,oE 24 1 17,oD 6,oS 17 6 23,oM 7 24]) (.region [oM 25 4,oN 26 17 6,o0 27 (.gi 1 [.int .i64 0,.int .u8 0,.int .u8 0,.int .u8 0,.int .u8 0,.int .u8 0,.int .u8 0,.int .u8 0,.int .u8 0,.int .u8 0,.int .u8 0,.int .u8 0,.int .u8 0,.int .u8 0,.int .u8 0,.int .u8 0,.int .u8 0] [(0,17,.t 26)]),o0 28 (.append 17 24 (.t 25) (.t 27)),oM 4 28]))) (.region [oM 15 5,oK 16 .add 15 1,oM 5 16]))
def qa5 : AC := .seq (.region [oM 29 4,oM 2 29]) .ret
def qg3 : AC := .seq (.region [o0 2 (.mov (.c (.v (.slice none 0 0))))]) (.seq (.region [oM 8 0,⟨some 9,none,.call (.c (.fn 133 [] [])) [(.c (.v (.slice none 0 0))),(.c (.str [])),(.c (.int .i64 0)),.t 8]⟩,o0 10 (.gi 0 [] []),oM 3 9,oM 4 10]) (.seq (.seq (.region [oI 5 0]) (.block 0 (.loop Yi))) qa5))
theorem qsb : zh Try.prog 78 = some ⟨30, qg3, [.slot 2]⟩ := by kernel_rfl
theorem qrb (N : Nat) (hN : 1 ≤ N ∧ N ≤ 6) :
    Am.Fn Try.prog 78 [.int .i64 N] [] (fun v H' => v = .slc 0 0 (qd N).length false 0 ∧ H' = [.vec 17 (wm N (qd N))]) := by
  refine Am.Fn.ofW qmc mixed qsb (by simp [AV.qt, AV.under]) (by simp) ?_
  have hk : B0 14 0 0 0 (N : Int) := by
    refine Vd (o := 0) (by omega) (by omega) ?_
    have : 2 ^ (0 + 2 * N) ≤ 2 ^ 12 := Nat.pow_le_pow_right (by omega) (by omega)
    omega
  have ht : txs [] 0 N = brs (2 * N) 0 := by simp [txs]
  simp (maxSteps := 3000000) only [qf, zH, qg3, Z8, Qf, Up, ve, hk, ht, List.length_nil, Int.toNat_zero, Int.toNat_natCast, iE, iN, iB, iC, iL, iD, iA, iS, iM, qa, zZ, ↓qp, ↓reduceIte, reduceCtorEq, nA, nM, nS, nE, nL, nD]; try simp only [qa, zY]
  have hall := qud (N := N)
  have hlen := V6 hN
  have hT : ∀ i (h : i < (brs (2 * N) 0).length), rdS N (brs (2 * N) 0)[i] (2 * N) = some (dOf (brs (2 * N) 0)[i], []) ∧ (brs (2 * N) 0)[i].length = 2 * N ∧ (qd N)[i]'(by rw [← hall]; exact h) = dOf (brs (2 * N) 0)[i] := fun i h => by
    have := q5n hN _ (List.getElem_mem h)
    exact ⟨this.1, this.2, qxx h⟩
  have hL := qae hN
  generalize hTe : brs (2 * N) 0 = T at *
  refine WA.xo qmc (fun t => ∃ i : Nat, i ≤ T.length ∧ t = ⟨[(0, .int .i64 N), (3, .slc 0 0 T.length false 0), (4, .slc 1 0 i false 0), (5, .int .i64 i)], [.vec 1 (strs T), .vec 17 (wm N ((qd N).take i))]⟩)
    (fun t => match get t.env 5 with | .int _ x => T.length - x.toNat | _ => 0) ⟨_, qu.trans (qu.qv [0, 3, 4, 5]) (qu.vec 1 0 17 (by decide) rfl rfl ?_ ?_), 0, by omega, ?_⟩ ?_
  · simp only [qv, zu, zV, ↓reduceIte, nE, reduceCtorEq, nB]
  · simp only [vr _ _ (jl _), zV, ↓reduceIte, nE, reduceCtorEq, nB]
  · simp only [qv, zu, vq _ _ _ (jl _), zV, ↓reduceIte, nE, reduceCtorEq, nB]; rfl
  rintro t ⟨i, hi, rfl⟩
  have hw : qn .i64 ((i : Int) + 1) = ((i + 1 : Nat) : Int) := by rw [wrap64 (by omega) (by omega)]; rfl
  by_cases hlt : i < T.length
  · have hli : (i : Int) < (T.length : Int) := by omega
    have hi0 : (0 : Int) ≤ (i : Int) := by omega
    obtain ⟨t1, t2, t3⟩ := hT i hlt
    have hg := qzd hlt
    have hsl := qfb T
    have hia : i < (qd N).length := by omega
    have hmo := hL _ (List.getElem_mem hia)
    have hnx : wm N ((qd N).take (i + 1)) = wm N ((qd N).take i) ++ dia N (dOf T[i]) := by
      rw [List.take_succ_eq_append_getElem hia, qze, t3]; simp [wm]
    rw [t3] at hmo
    have hdl : (wm N ((qd N).take i)).length = i * 17 := by
      rw [ga (fun m hm => hL m (List.mem_of_mem_take hm)), List.length_take, Nat.min_eq_left (by omega)]
    have d2 : 2 * N / 2 = N := by omega
    have d3 : 2 * N % 2 = 0 ∧ 2 ≤ 2 * N ∧ 2 * N ≤ 16 := by omega
    generalize T[i] = s at hg t1 t2 hmo hnx
    generalize dOf s = m at t1 hmo hnx
    have hbd : (i + 1) * 24 ≤ 1099511627776 := by omega
    have hml := hmo.1
    have hs1 : src [.vec 1 (strs T), .vec 17 (wm N ((qd N).take i)), .cells (dia N m), .cells (dia N m)] 17 (.slc 3 0 1 true 1) = some (1, dia N m) := by
      simp [src, rd, chk, qe, hml, qw hml]
    have htk : List.take (i * 17) (wm N ((qd N).take i)) = wm N ((qd N).take i) := List.take_of_length_le (by omega)
    simp (maxSteps := 3000000) only [qf, zH, Yi, Z8, Qf, Up, ve, hlt, hs1, htk, ← hnx, Nat.le_refl, hli, hi0, hg, hsl, t1, t2, d2, d3, hdl, hbd, hw, x8, qe, hml, qw hml, xn xd hml, zq, List.length_replicate, Nat.mul_one, and_self, iE, iN, iB, iC, iL, iD, iA, iS, iM, qa, zZ, ↓qp, ↓reduceIte, reduceCtorEq, nA, nM, nS, nE, nL, nD]; try simp only [qa, zY]
    refine ⟨_, qu.can [0, 3, 4, 5] (by simp only [zy _ (jl _), zy _ (zk _), V8, zC, nB, nD, nA, nE, ↓reduceIte, reduceCtorEq]; rfl), ⟨i + 1, by omega, ?_⟩, ?_⟩
    · simp only [qb _ _ (jl _), qb _ _ (zk _), zL, ↓reduceIte, reduceCtorEq, nE, nA]
    · simp only [zL, ↓reduceIte, reduceCtorEq, nE, nA]; omega
  · have hli : ¬ (i : Int) < (T.length : Int) := by omega
    have ei : i = T.length := by omega
    subst ei
    have hall2 : (qd N).take T.length = qd N := List.take_of_length_le (by omega)
    simp (maxSteps := 3000000) only [qf, zH, Yi, qa5, Z8, Qf, Up, ve, hli, hall2, Int.lt_irrefl, iE, iN, iB, iC, iL, iD, iA, iS, iM, qa, zZ, ↓qp, ↓reduceIte, reduceCtorEq, nA, nM, nS, nE, nL, nD]; try simp only [qa, zY]
    refine ⟨_, qu.refl _, Ret.xy [1] ⟨⟨by simp, rfl, by decide⟩, ?_⟩ (rs := [.slc 1 0 T.length false 0]) ?_ ?_ (by simp [xt]) ?_ ⟨?_, ?_⟩⟩
    · simp only [qh _ _ (zk _), zK, ↓reduceIte, reduceCtorEq, nE, nB, nA]
    · rfl
    · rfl
    · intro j l; cases j <;> simp [zj, AO.ren]
    · simp only [xt]
      simp only [hall, zL, ↓reduceIte, reduceCtorEq, nE, nA]
    · simp only [qb _ _ (zk _), zL, ↓reduceIte, reduceCtorEq, nE, nA]
noncomputable def J6 : List AV → Option (AV × List AO)
  | [.int .i64 n] => chk (1 ≤ n ∧ n ≤ 6) (some (.slc 0 0 (qd n.toNat).length false 0, [.vec 17 (wm (n.toNat : Int) (qd n.toNat))]))
  | _ => none
theorem q7t : Am.Callee Try.prog 78 (kx J6) :=
  Am.Callee.new fun xs v H he => by
    unfold J6 at he
    split at he
    · rename_i n
      obtain ⟨h1, he⟩ := qm he
      obtain ⟨n, rfl⟩ : ∃ j : Nat, n = j := ⟨n.toNat, by omega⟩
      rw [Int.toNat_natCast] at he
      cases he
      exact ⟨rfl, qrb n (by omega)⟩
    · cases he
noncomputable def q6k : zb := (q3g.put 78 (kx J6))
theorem qm3 : qo Try.prog q6k := (qmc.put (q7t))
theorem bf : q6k 138 = some (qk Gr) := rfl
open Classical in
noncomputable def qws (l : List AV) : Option Nat := match l with
  | .int .i64 n :: _ => if (1 ≤ n.toNat ∧ n.toNat ≤ 6) ∧ l = wm (n.toNat : Int) (qd n.toNat) then some n.toNat else none
  | _ => none
theorem qky {l : List AV} {N : Nat} (h : qws l = some N) : (1 ≤ N ∧ N ≤ 6) ∧ l = wm (N : Int) (qd N) := by
  unfold qws at h
  split at h
  · split at h
    · rename_i hc
      cases h
      exact hc
    · cases h
  · cases h
theorem qn6 {N : Nat} (hN : 1 ≤ N ∧ N ≤ 6) : qws (wm (N : Int) (qd N)) = some N := by
  have hl := (V6 hN).1
  cases e : qd N with
  | nil => rw [e] at hl; simp at hl
  | cons m l =>
    have : wm (N : Int) (m :: l) = .int .i64 (N : Int) :: (u8s m ++ wm (N : Int) l) := by simp [wm, dia]
    unfold qws
    rw [this]
    simp only [Int.toNat_natCast]
    rw [if_pos ⟨hN, by rw [e, this]⟩]
def k8 : AC := .seq (.seq (.region [oM 11 5,oM 12 6,oP 13 .lss 11 12]) (.cond 13 .skip (.exit 0))) (.block 1 (.seq (.region [oM 14 5,oM 15 6,oP 16 .add 14 15,oK 17 .quo 16 2,oM 7 17]) (.seq (.draw false [oM 18 0,oM 19 7,oX 20 17 18 19,oN 21 17 20,oN 22 17 3,oC 23 138 [.t 21,.t 22]]) (.cond 23 (.region [oM 24 7,oK 25 .add 24 1,oM 5 25]) (.region [oM 26 7,oM 6 26])))))
def Bi : AC := .seq (.region [oM 27 5,oM 4 27]) .ret
def qcm : AC := .seq (.region [o0 3 (.box (.t 1)),oI 4 0]) (.seq (.region [oM 8 0,o0 9 (.len .slc (.t 8)),oK 10 .sub 9 1,oI 5 0,oM 6 10]) (.seq (.block 0 (.loop k8)) Bi))
theorem qll : zh Try.prog 82 = some ⟨28, qcm, [.slot 4]⟩ := by kernel_rfl
theorem qlg (N : Nat) (m : List Nat) (hN : 1 ≤ N ∧ N ≤ 6) (hm : m ∈ qd N) :
    Am.Fn Try.prog 82 [.slc 0 0 (qd N).length false 0, .agg (dia N m)] [.ro (wm N (qd N))] (fun v H' => v = .int .i64 ((qd N).idxOf m : Nat) ∧ H' = [.ro (wm N (qd N))]) := by
  refine Am.Fn.xp (R := fun v => v = _) qm3 mixed qll (by simp [AV.qt, AV.under, qj _ _ (qg _ _)]) (qcb (zk _)) ?_
  have hlen := V6 hN
  have hmo := (X1 hN hm).2
  have hL := qae hN
  have hal := ga (n := (N : Int)) hL
  have hix : (qd N).idxOf m < (qd N).length := List.idxOf_lt_length_of_mem hm
  have hpl := fun j h => qsa hN hm (j := j) h
  have hgt := fun j h => Kx (n := (N : Int)) hL (i := j) h
  have hw0 : qn .i64 (((qd N).length : Int) - 1) = (((qd N).length - 1 : Nat) : Int) := by rw [wrap64 (by omega) (by omega)]; omega
  generalize hI : (qd N).idxOf m = I at hix hpl ⊢
  generalize hA : qd N = A at *
  simp (maxSteps := 3000000) only [qf, zH, qcm, bf, Gr, hw0, iE, iN, iB, iC, iL, iD, iA, iS, iM, qa, zZ, ↓qp, ↓reduceIte, reduceCtorEq, nA, nM, nS, nE, nL, nD]; try simp only [qa, zY]
  refine WA.xo qm3 (fun s => ∃ lo hi : Nat, lo ≤ I ∧ I ≤ hi ∧ hi < A.length ∧ s = ⟨[(0, .slc 0 0 A.length false 0), (3, .ptr 1 0), (5, .int .i64 lo), (6, .int .i64 hi)], [.ro (wm N A), .cells (dia N m)]⟩)
    (fun s => match get s.env 5, get s.env 6 with | .int _ x, .int _ y => y.toNat - x.toNat | _, _ => 0) ⟨_, qu.qv [0, 3, 5, 6], 0, A.length - 1, by omega, by omega, by omega, rfl⟩ ?_
  rintro s ⟨lo, hi, h1, h2, h3, rfl⟩
  by_cases hlt : lo < hi
  · have hli : (lo : Int) < (hi : Int) := by omega
    obtain ⟨mid, hmid⟩ : ∃ mid, mid = (lo + hi) / 2 := ⟨_, rfl⟩
    have w1 : qn .i64 ((lo : Int) + (hi : Int)) = ((lo + hi : Nat) : Int) := by rw [wrap64 (by omega) (by omega)]; omega
    have w2 : ((lo + hi : Nat) : Int).tdiv 2 = (mid : Int) := by rw [hmid]; exact (Int.ofNat_tdiv (lo + hi) 2).symm
    have w3 : qn .i64 (mid : Int) = (mid : Int) := wrap64 (by omega) (by omega)
    have w4 : qn .i64 ((mid : Int) + 1) = ((mid + 1 : Nat) : Int) := by rw [wrap64 (by omega) (by omega)]; rfl
    have b1 : (0 : Int) ≤ (mid : Int) := by omega
    have b2 : (mid : Int) < (A.length : Int) := by omega
    have b3 : mid * 17 < A.length * 17 := by omega
    have b4 : mid * 17 + 17 ≤ A.length * 17 := by omega
    have hmA : mid < A.length := by omega
    have g1 := hgt mid hmA
    have g2 := hpl mid hmA
    have o1 : okD A[mid] := hL _ (List.getElem_mem hmA)
    have n8 : (0 : Int) ≤ (N : Int) ∧ (N : Int) ≤ 8 := by omega
    by_cases hc : mid < I
    · rw [decide_eq_true hc] at g2
      simp (maxSteps := 3000000) only [qf, zH, k8, bf, Gr, hli, w1, w2, w3, w4, b1, b2, b3, b4, hal, g1, g2, n8, qy o1, qy hmo, qe, hmo.1, qw hmo.1, Int.toNat_natCast, and_self, iE, iN, iB, iC, iL, iD, iA, iS, iM, qa, zZ, ↓qp, ↓reduceIte, reduceCtorEq, nA, nM, nS, nE, nL, nD]; try simp only [qa, zY]
      refine ⟨_, qu.qv [0, 3, 5, 6], ⟨mid + 1, hi, by omega, by omega, by omega, ?_⟩, ?_⟩
      · simp only [zL, ↓reduceIte, reduceCtorEq, nE, nA]
      · simp only [zL, ↓reduceIte, reduceCtorEq, nE, nA]; omega
    · rw [decide_eq_false hc] at g2
      simp (maxSteps := 3000000) only [qf, zH, k8, bf, Gr, hli, w1, w2, w3, w4, b1, b2, b3, b4, hal, g1, g2, n8, qy o1, qy hmo, qe, hmo.1, qw hmo.1, Int.toNat_natCast, and_self, iE, iN, iB, iC, iL, iD, iA, iS, iM, qa, zZ, ↓qp, ↓reduceIte, reduceCtorEq, nA, nM, nS, nE, nL, nD]; try simp only [qa, zY]
      refine ⟨_, qu.qv [0, 3, 5, 6], ⟨lo, mid, by omega, by omega, by omega, ?_⟩, ?_⟩
      · simp only [zL, ↓reduceIte, reduceCtorEq, nE, nA]
      · simp only [zL, ↓reduceIte, reduceCtorEq, nE, nA]; omega
  · have hli : ¬ (lo : Int) < (hi : Int) := by omega
    obtain rfl : lo = I := by omega
    simp (maxSteps := 3000000) only [qf, zH, k8, Bi, bf, Gr, hli, iE, iN, iB, iC, iL, iD, iA, iS, iM, qa, zZ, ↓qp, ↓reduceIte, reduceCtorEq, nA, nM, nS, nE, nL, nD]; try simp only [qa, zY]
    exact ⟨_, rfl⟩
noncomputable def kv : BE := fun hp xs => match xs with
  | [.slc b 0 k false 0, .agg d] => match rd hp b with
    | some l => match qws l, vy d with
      | some N, some (n, m) => chk ((k = (qd N).length ∧ n = (N : Int)) ∧ m ∈ qd N) (some (.int .i64 ((qd N).idxOf m : Nat), hp))
      | _, _ => none
    | none => none
  | _ => none
theorem q7j : Am.Callee Try.prog 82 kv := Callee.fp fun hp xs v hp' he => by
  unfold kv at he
  split at he
  · rename_i b k d
    split at he
    · rename_i l hl
      split at he
      · rename_i N n m hN hd
        obtain ⟨⟨⟨k1, k2⟩, k3⟩, he⟩ := qm he
        simp only [Option.some.injEq, Prod.mk.injEq] at he
        obtain ⟨rfl, rfl⟩ := he
        obtain ⟨h1, rfl⟩ := qky hN
        obtain ⟨rfl, hm⟩ := zl hd
        subst k1 k2
        refine ⟨[(b, 0)], [.slc 0 0 (qd N).length false 0, .agg (dia N m)], _, _, _, qlg N m h1 k3, by simp [AV.ren, AV.zg, ofL, qb _ _ (qg _ _)], rfl, ⟨⟨_, hl, by simp, by simp [qb _ _ (zk _)]⟩, trivial⟩, rfl, ⟨qj _ _ (zk _), trivial⟩, ⟨by simp [AV.under], qj _ _ (qg _ _), trivial⟩, by simp [AV.ren], ?_⟩
        simp [after, upd, AO.wr]
      · cases he
    · cases he
  · cases he
noncomputable def q27 : zb := (q6k.put 82 (kv))
theorem K0 : qo Try.prog q27 := (qm3.put (q7j))
theorem zt : q27 140 = some (qk jn) := rfl
theorem zs : q27 82 = some (kv) := rfl
theorem qwz {l l' l2 : List AV} (h : AV.zf l = true) (h' : AV.zf l' = true) (h2 : AV.zf l2 = true) : ∀ (j : Nat) (o : AO), [AO.ro l, AO.ro l', AO.ro l2][j]? = some o → o.under [AO.ro l, AO.ro l', AO.ro l2].length := by
  intro j o e
  match j, e with
  | 0, e => cases e; exact qj _ _ h
  | 1, e => cases e; exact qj _ _ h'
  | 2, e => cases e; exact qj _ _ h2
  | j + 3, e => simp at e
theorem qia : ∀ (n : Nat), rep n [.int .i64 0] = jk (List.replicate n 0)
  | 0 => rfl
  | n + 1 => by simp only [rep, qia n, List.replicate_succ, jk, List.map_cons]; rfl
theorem qxk {p : Int} {L : List (List Nat)} {v : List Int} (hp : 0 < p) (h : ∀ x ∈ v, 0 ≤ x ∧ x ≤ p - 1) (m : List Nat) : 0 ≤ atR L v m ∧ atR L v m ≤ p - 1 := by
  unfold atR
  rw [List.getD_eq_getElem?_getD]
  cases e : v[L.idxOf m]? with
  | none => simp; omega
  | some x => exact h x (List.mem_of_getElem? e)
def Bs : AT := (.one (oM 46 2) (.one (oM 47 12) (.one (oX 48 17 46 47) (.one (oN 49 17 48) (.one (oM 50 2) (.one (oM 51 13) (.one (oX 52 17 50 51) (.one (oN 53 17 52) (.alt (oC 54 140 [.t 49,.t 53]) (.one (oM 45 54) (.one (oE 55 0 45) (.one (oE 56 1 45) (.one (oD 14) (.one (oS 17 14 55) (.one (oM 15 56) (.nil))))))) (.alt (oD 14) (.one (oC 54 140 [.t 49,.t 53]) (.one (oM 45 54) (.one (oE 55 0 45) (.one (oE 56 1 45) (.one (oS 17 14 55) (.one (oM 15 56) (.nil))))))) (.none)))))))))))
def Jc : AC := .seq (.seq (.region [oM 68 15,oK 69 .gtr 68 0]) (.cond 69 .skip (.exit 4))) (.seq (.block 5 (.region [oM 72 16,oM 73 1,oP 74 .mul 72 73,oM 75 0,oP 76 .rem 74 75,oM 16 76])) (.region [oM 70 15,oK 71 .sub 70 1,oM 15 71]))
def Bm : AC := .seq (.region [oM 77 2,oN 78 17 14,oC 79 82 [.t 77,.t 78],oM 17 79]) (.region [oM 80 11,oM 81 17,oM 82 11,oM 83 17,oX 84 1 82 83,oL 85 84,oM 86 16,oP 87 .add 85 86,oM 88 0,oP 89 .rem 87 88,oX 90 1 80 81,oT 90 89])
def Bl : AC := .seq (.draw false [oM 57 3,oM 58 12,oX 59 1 57 58,oL 60 59,oM 61 4,oM 62 13,oX 63 1 61 62,oL 64 63,oP 65 .mul 60 64,oM 66 0,oP 67 .rem 65 66,oM 16 67]) (.seq (.block 4 (.loop Jc)) Bm)
def Jj : AC := .region [oM 38 13,oK 39 .add 38 1,oM 13 39]
def uo : AC := .seq (.seq (.region [oM 27 13,oM 28 2,o0 29 (.len .slc (.t 28)),oP 30 .lss 27 29,oM 31 30,oG 32 31 true (.mov (.t 3)),oG 33 31 true (.mov (.t 12)),oG 34 31 true (.Yd 1 (.t 32) (.t 33)),oG 35 31 true (.W5 (.t 34)),oG 36 31 true (.bin .neq (.t 35) (.c (.int .i64 0))),o0 37 (.pick (.t 31) (.t 36) (.c (.bool false)))]) (.cond 37 .skip (.exit 2))) (.seq (.block 3 (.seq (.seq (.region [oM 40 4,oM 41 13,oX 42 1 40 41,oL 43 42,oK 44 .eql 43 0]) (.cond 44 (.exit 3) .skip)) (.seq (.tree false Bs) Bl))) Jj)
def Jt : AC := .region [oM 25 12,oK 26 .add 25 1,oM 12 26]
def Jv : AC := .seq (.seq (.region [oM 21 12,oM 22 2,o0 23 (.len .slc (.t 22)),oP 24 .lss 21 23]) (.cond 24 .skip (.exit 0))) (.seq (.block 1 (.seq (.region [oI 13 0]) (.block 2 (.loop uo)))) Jt)
def Bn : AC := .seq (.region [oM 91 11,oM 10 91]) .ret
def qb1 : AC := .seq (.region [o0 10 (.mov (.c (.v (.slice none 0 0))))]) (.seq (.region [oM 18 2,o0 19 (.len .slc (.t 18)),o0 20 (.Qb 1 8 [.int .i64 0] (.t 19) (.t 19)),oM 11 20]) (.seq (.seq (.region [oI 12 0]) (.block 0 (.loop Jv))) Bn))
theorem qlc : zh Try.prog 85 = some ⟨92, qb1, [.slot 10]⟩ := by kernel_rfl
theorem ql9 (p c : Int) (N : Nat) (v w : List Int) (hp : 2 ≤ p ∧ p ≤ 97) (hc : 0 ≤ c ∧ c ≤ p - 1) (hN : 1 ≤ N ∧ N ≤ 6) (hv : v.length = (qd N).length) (hw : w.length = (qd N).length) (bv : ∀ x ∈ v, 0 ≤ x ∧ x ≤ p - 1) (bw : ∀ x ∈ w, 0 ≤ x ∧ x ≤ p - 1) :
    Am.Fn Try.prog 85 [.int .i64 p, .int .i64 c, .slc 0 0 (qd N).length false 0, .slc 1 0 (qd N).length true (qd N).length, .slc 2 0 (qd N).length true (qd N).length] [.ro (wm N (qd N)), .ro (jk v), .ro (jk w)]
      (fun r H' => r = .slc 3 0 (qd N).length true (qd N).length ∧ H' = [.ro (wm N (qd N)), .ro (jk v), .ro (jk w), .cells (jk (qda p c N v w))]) := by
  refine Am.Fn.ofB K0 mixed qlc (by simp [AV.qt, AV.under]) (qwz (zk _) (q6 _) (q6 _)) ?_
  have hlen := V6 hN
  have hL := qae hN
  have hal := ga (n := (N : Int)) hL
  have hgt := fun j h => Kx (n := (N : Int)) hL (i := j) h
  have hls := qn6 hN
  have hnd := Qn hN
  have hrow := qtr hnd hv
  have hrow' := qtr hnd hw
  have h0 := qrj (p := p) (c := c) (N := N) (v := v) (w := w) (by omega)
  have hz1 : (0 : Int) ≤ ((qd N).length : Int) ∧ ((qd N).length : Int) ≤ ((qd N).length : Int) ∧ ((qd N).length : Int) * 8 ≤ 281474976710656 := by omega
  simp (maxSteps := 3000000) only [qf, zH, qb1, zt, zs, kv, jn, qia, ← h0, Int.toNat_natCast, iE, iN, iB, iC, iL, iD, iA, iS, iM, qa, zZ, ↓qp, ↓reduceIte, reduceCtorEq, nA, nM, nS, nE, nL, nD]; try simp only [qa, zY]
  refine ⟨hz1, ?_⟩
  clear h0
  have hix : ∀ m, m ∈ qd N → (qd N).idxOf m < (qd N).length := fun m h => List.idxOf_lt_length_of_mem h
  refine WA.xo K0 (fun s => ∃ i : Nat, i ≤ (qd N).length ∧ s = ⟨[(0, .int .i64 p), (1, .int .i64 c), (2, .slc 0 0 (qd N).length false 0), (3, .slc 1 0 (qd N).length true (qd N).length), (4, .slc 2 0 (qd N).length true (qd N).length), (11, .slc 3 0 (qd N).length true (qd N).length), (12, .int .i64 i)], [.ro (wm N (qd N)), .ro (jk v), .ro (jk w), .cells (jk (X0 p c N v w i 0))]⟩)
    (fun s => match get s.env 12 with | .int _ x => (qd N).length - x.toNat | _ => 0) ⟨_, qu.qv [0, 1, 2, 3, 4, 11, 12], 0, by omega, rfl⟩ ?_
  rintro s ⟨i, hi, rfl⟩
  have hwi : qn .i64 ((i : Int) + 1) = ((i + 1 : Nat) : Int) := by rw [wrap64 (by omega) (by omega)]; rfl
  by_cases hlt : i < (qd N).length
  · have hli : (i : Int) < ((qd N).length : Int) := by omega
    have hi0 : (0 : Int) ≤ (i : Int) := by omega
    simp (maxSteps := 3000000) only [qf, zH, Jv, zt, zs, kv, jn, hli, iE, iN, iB, iC, iL, iD, iA, iS, iM, qa, zZ, ↓qp, ↓reduceIte, reduceCtorEq, nA, nM, nS, nE, nL, nD]; try simp only [qa, zY]
    refine WA.xo K0 (fun s => ∃ k : Nat, k ≤ (qd N).length ∧ s = ⟨[(0, .int .i64 p), (1, .int .i64 c), (2, .slc 0 0 (qd N).length false 0), (3, .slc 1 0 (qd N).length true (qd N).length), (4, .slc 2 0 (qd N).length true (qd N).length), (11, .slc 3 0 (qd N).length true (qd N).length), (12, .int .i64 i), (13, .int .i64 k)], [.ro (wm N (qd N)), .ro (jk v), .ro (jk w), .cells (jk (X0 p c N v w i k))]⟩)
      (fun s => match get s.env 13 with | .int _ x => (qd N).length - x.toNat | _ => 0) ⟨_, qu.qv [0, 1, 2, 3, 4, 11, 12, 13], 0, by omega, rfl⟩ ?_
    rintro s ⟨k, hk, rfl⟩
    have hwk : qn .i64 ((k : Int) + 1) = ((k + 1 : Nat) : Int) := by rw [wrap64 (by omega) (by omega)]; rfl
    have hvi : i < v.length := by omega
    have hla := jf v
    have hlb := jf w
    have bvi := qxk (L := qd N) (by omega) bv (qd N)[i]
    have avi : atR (qd N) v (qd N)[i] = v.getD i 0 := by unfold atR; rw [ql5 hnd hlt]
    by_cases hltk : k < (qd N).length
    · have hlk : (k : Int) < ((qd N).length : Int) := by omega
      have hk0 : (0 : Int) ≤ (k : Int) := by omega
      have hwk' : k < w.length := by omega
      by_cases hz : v.getD i 0 = 0
      · have hno := q1t (p := p) (c := c) (w := w) (k := k) hlt (avi.trans hz)
        simp (maxSteps := 3000000) only [qf, zH, uo, Jt, zt, zs, kv, jn, hlk, hli, hi0, hk0, hla, hlb, hvi, hwk', hz, hwi, hno, and_self, iE, iN, iB, iC, iL, iD, iA, iS, iM, qa, zZ, ↓qp, ↓reduceIte, reduceCtorEq, nA, nM, nS, nE, nL, nD]; try simp only [qa, zY]
        refine ⟨_, qu.qv [0, 1, 2, 3, 4, 11, 12], ⟨i + 1, by omega, ?_⟩, ?_⟩
        · simp only [zL, ↓reduceIte, reduceCtorEq, nE, nA]
        · simp only [zL, ↓reduceIte, reduceCtorEq, nE, nA]; omega
      · have hzb : (v.getD i 0 == 0) = false := beq_false_of_ne hz
        by_cases hzw : w.getD k 0 = 0
        · have awk : atR (qd N) w (qd N)[k] = 0 := by unfold atR; rw [ql5 hnd hltk]; exact hzw
          have hsk := qvr (p := p) (c := c) (v := v) (i := i) hltk awk
          simp (maxSteps := 3000000) only [qf, zH, uo, Jj, zt, zs, kv, jn, hlk, hli, hi0, hk0, hla, hlb, hvi, hwk', hz, hzb, hzw, hwk, hsk, and_self, iE, iN, iB, iC, iL, iD, iA, iS, iM, qa, zZ, ↓qp, ↓reduceIte, reduceCtorEq, nA, nM, nS, nE, nL, nD]; try simp only [qa, zY]
          refine ⟨_, qu.qv [0, 1, 2, 3, 4, 11, 12, 13], ⟨k + 1, by omega, ?_⟩, ?_⟩
          · simp only [zL, ↓reduceIte, reduceCtorEq, nE, nA]
          · simp only [zL, ↓reduceIte, reduceCtorEq, nE, nA]; omega
        · have hzwb : (w.getD k 0 == 0) = false := beq_false_of_ne hzw
          have awk : atR (qd N) w (qd N)[k] = w.getD k 0 := by unfold atR; rw [ql5 hnd hltk]
          have bwk := qxk (L := qd N) (by omega) bw (qd N)[k]
          have g1 := hgt i hlt
          have g2 := hgt k hltk
          have o1 : okD (qd N)[i] := hL _ (List.getElem_mem hlt)
          have o2 : okD (qd N)[k] := hL _ (List.getElem_mem hltk)
          have s1 := (X1 hN (List.getElem_mem hlt)).1
          have s2 := (X1 hN (List.getElem_mem hltk)).1
          have hpr := qnp s1 s2
          have hin : xr N (qd N)[i] (qd N)[k] ∈ qd N := qcg hpr.1 hpr.2.1
          have hput := fun x hx => qxc (p := p) (c := c) (v := v) (w := w) (x := x) hN hlt hltk hin hx
          have hiq := hix _ hin
          have hpo : okD (xr N (qd N)[i] (qd N)[k]) := (X1 hN hin).2
          have hlp := qiw N (qd N)[i] (qd N)[k] N
          have b1 : i * 17 < (qd N).length * 17 := by omega
          have b2 : i * 17 + 17 ≤ (qd N).length * 17 := by omega
          have b3 : k * 17 < (qd N).length * 17 := by omega
          have b4 : k * 17 + 17 ≤ (qd N).length * 17 := by omega
          have hn0 : (0 : Int) ≤ (N : Int) := by omega
          have hq := q1s (p := p) (c := c) (N := N) (v := v) (w := w) (i := i) (k := k) (by omega) ((qd N).idxOf (xr N (qd N)[i] (qd N)[k]))
          have hpl := q02 (p := p) (c := c) (N := N) (v := v) (w := w) (i := i) (k := k)
          rw [avi, awk] at hput
          rw [avi] at bvi
          rw [awk] at bwk
          generalize hxe : v.getD i 0 = x at *
          generalize hye : w.getD k 0 = y at *
          generalize hm : xr N (qd N)[i] (qd N)[k] = m at *
          generalize hll : lpN N (qd N)[i] (qd N)[k] N = lp at *
          generalize hRn : X0 p c N v w i (k + 1) = R' at *
          generalize hRe : X0 p c N v w i k = R at *
          generalize hqi : (qd N).idxOf m = q at *
          obtain ⟨m1, m2, m3, m4⟩ := pow_mul (p := p) (c := y) (x := x) hp bwk bvi
          have hp0 : ¬ p = 0 := by omega
          simp (maxSteps := 3000000) only [qf, zH, uo, zt, zs, kv, jn, hlk, hli, hi0, hk0, hla, hlb, hvi, hwk', hxe, hye, hz, hzb, hzw, hzwb, and_self, iE, iN, iB, iC, iL, iD, iA, iS, iM, qa, zZ, ↓qp, ↓reduceIte, reduceCtorEq, nA, nM, nS, nE, nL, nD]; try simp only [qa, zY]
          refine WA.qfi K0 (fun s => s = ⟨[(0, .int .i64 p), (1, .int .i64 c), (2, .slc 0 0 (qd N).length false 0), (3, .slc 1 0 (qd N).length true (qd N).length), (4, .slc 2 0 (qd N).length true (qd N).length), (11, .slc 3 0 (qd N).length true (qd N).length), (12, .int .i64 i), (13, .int .i64 k), (14, .ptr 4 0), (15, .int .i64 lp)], [.ro (wm N (qd N)), .ro (jk v), .ro (jk w), .cells (jk R), .cells (dia N m)]⟩) ?_ ?_
          · unfold Bs
            simp (maxSteps := 3000000) only [qf, zH, b8, Q3, zt, zs, kv, jn, hlk, hli, hi0, hk0, hal, b1, b2, b3, b4, g1, g2, qy o1, qy o2, s1, s2, hn0, hm, hll, x8, zm, Qy hpr.2.1, qe, hpr.2.1, zq, Int.toNat_natCast, List.length_replicate, Nat.le_refl, and_self, iE, iN, iB, iC, iL, iD, iA, iS, iM, qa, zZ, ↓qp, ↓reduceIte, reduceCtorEq, nA, nM, nS, nE, nL, nD]; try simp only [qa, zY]
            repeat' first | (with_reducible exact ⟨_, rfl⟩) | (exact rfl) | (with_reducible refine And.intro ?_ ?_)
            all_goals exact ⟨_, qu.qv [0, 1, 2, 3, 4, 11, 12, 13, 14, 15], rfl⟩
          rintro s rfl
          simp (maxSteps := 3000000) only [qf, zH, Bl, zt, zs, kv, jn, hlk, hli, hi0, hk0, hla, hlb, hvi, hwk', hxe, hye, m1, m2, hp0, and_self, iE, iN, iB, iC, iL, iD, iA, iS, iM, qa, zZ, ↓qp, ↓reduceIte, reduceCtorEq, nA, nM, nS, nE, nL, nD]; try simp only [qa, zY]
          refine WA.xo K0 (fun s => ∃ j : Nat, j ≤ lp ∧ s = ⟨[(0, .int .i64 p), (1, .int .i64 c), (2, .slc 0 0 (qd N).length false 0), (3, .slc 1 0 (qd N).length true (qd N).length), (4, .slc 2 0 (qd N).length true (qd N).length), (11, .slc 3 0 (qd N).length true (qd N).length), (12, .int .i64 i), (13, .int .i64 k), (14, .ptr 4 0), (15, .int .i64 (lp - j : Nat)), (16, .int .i64 (((x * y).emod p * xa p c j).emod p))], [.ro (wm N (qd N)), .ro (jk v), .ro (jk w), .cells (jk R), .cells (dia N m)]⟩)
            (fun s => match get s.env 15 with | .int _ x => x.toNat | _ => 0) ⟨_, qu.qv [0, 1, 2, 3, 4, 11, 12, 13, 14, 15, 16], 0, by omega, ?_⟩ ?_
          · have e0 : ((x * y).emod p * xa p c 0).emod p = (x * y).emod p := by
              rw [show xa p c 0 = 1 from rfl, Int.mul_one]; exact Int.emod_emod_of_dvd _ (Int.dvd_refl p)
            rw [e0]; rfl
          rintro s ⟨j, hj, rfl⟩
          have bz := Kz (p := p) (by omega) ((x * y).emod p * xa p c j)
          by_cases hlj : j < lp
          · have hlj' : (0 : Int) < ((lp - j : Nat) : Int) := by omega
            have hwj : qn .i64 (((lp - j : Nat) : Int) - 1) = ((lp - (j + 1) : Nat) : Int) := by rw [wrap64 (by omega) (by omega)]; omega
            obtain ⟨n1, n2, n3, n4⟩ := pow_mul (p := p) (c := c) (x := ((x * y).emod p * xa p c j).emod p) hp hc bz
            have hst := qpb (p := p) (c := c) (y := (x * y).emod p) (j := j)
            simp (maxSteps := 3000000) only [qf, zH, Jc, zt, zs, kv, jn, hlj', hwj, n1, n2, hst, hp0, and_self, iE, iN, iB, iC, iL, iD, iA, iS, iM, qa, zZ, ↓qp, ↓reduceIte, reduceCtorEq, nA, nM, nS, nE, nL, nD]; try simp only [qa, zY]
            refine ⟨_, qu.qv [0, 1, 2, 3, 4, 11, 12, 13, 14, 15, 16], ⟨j + 1, by omega, ?_⟩, ?_⟩
            · simp only [zL, ↓reduceIte, reduceCtorEq, nE, nA]
            · simp only [zL, ↓reduceIte, reduceCtorEq, nE, nA]; omega
          · have hlj' : ¬ (0 : Int) < ((lp - j : Nat) : Int) := by omega
            have ej : j = lp := by omega
            subst ej
            have hdv : p ∣ ((x * y).emod p * xa p c j).emod p - xa p c j * (x * y) := by
              obtain ⟨q1, hq1⟩ := gw p ((x * y).emod p * xa p c j)
              obtain ⟨q2, hq2⟩ := gw p (x * y)
              have e1 : (x * y).emod p = x * y + p * q2 := by omega
              refine ⟨q1 + q2 * xa p c j, ?_⟩
              have e2 : ((x * y).emod p * xa p c j).emod p = (x * y).emod p * xa p c j + p * q1 := by omega
              rw [e2, e1, Int.add_mul, Int.mul_add, Int.mul_assoc p, Int.mul_comm (xa p c j)]
              omega
            have hpt := hput _ hdv
            generalize ((x * y).emod p * xa p c j).emod p = z at *
            have hws : qn .i64 (R.getD q 0 + z) = R.getD q 0 + z := wrap64 (by omega) (by omega)
            have hts : (R.getD q 0 + z).tmod p = (R.getD q 0 + z).emod p := Int.tmod_eq_emod_of_nonneg (by omega)
            have hq0 : (0 : Int) ≤ (q : Int) := by omega
            have hqK : (q : Int) < ((qd N).length : Int) := by omega
            have hlr := jf R
            have hqR : q < R.length := by omega
            simp (maxSteps := 3000000) only [qf, zH, Jc, Bm, Jj, zt, zs, kv, jn, hlj', hls, qy hpo, hin, hqi, hq0, hqK, hlr, hpl, hiq, hws, hts, hpt, hwk, hp0, qb7, qe, hpr.2.1, qw hpr.2.1, Int.toNat_natCast, Int.lt_irrefl, and_self, iE, iN, iB, iC, iL, iD, iA, iS, iM, qa, zZ, ↓qp, ↓reduceIte, reduceCtorEq, nA, nM, nS, nE, nL, nD]; try simp only [qa, zY]
            refine ⟨rfl, _, qu.can [0, 1, 2, 3, 4, 11, 12, 13] (by simp only [zy _ (zk _), zy _ (q6 _), V8, zC, nB, nD, nA, nE, ↓reduceIte, reduceCtorEq]; rfl), ⟨k + 1, by omega, ?_⟩, ?_⟩
            · simp only [qb _ _ (zk _), qb _ _ (q6 _), zL, ↓reduceIte, reduceCtorEq, nE, nA]
              rw [hRn]
            · simp only [zL, ↓reduceIte, reduceCtorEq, nE, nA]; omega
    · have hlk : ¬ (k : Int) < ((qd N).length : Int) := by omega
      have ek : k = (qd N).length := by omega
      subst ek
      have hrw := qnd (p := p) (c := c) (v := v) (w := w) hlt
      simp (maxSteps := 3000000) only [qf, zH, uo, Jt, zt, zs, kv, jn, hlk, hwi, hrw, Int.lt_irrefl, and_self, iE, iN, iB, iC, iL, iD, iA, iS, iM, qa, zZ, ↓qp, ↓reduceIte, reduceCtorEq, nA, nM, nS, nE, nL, nD]; try simp only [qa, zY]
      refine ⟨_, qu.qv [0, 1, 2, 3, 4, 11, 12], ⟨i + 1, by omega, ?_⟩, ?_⟩
      · simp only [zL, ↓reduceIte, reduceCtorEq, nE, nA]
      · simp only [zL, ↓reduceIte, reduceCtorEq, nE, nA]; omega
  · have hli : ¬ (i : Int) < ((qd N).length : Int) := by omega
    have ei : i = (qd N).length := by omega
    subst ei
    rw [q0b]
    simp (maxSteps := 3000000) only [qf, zH, Jv, Bn, zt, zs, kv, jn, hli, Int.lt_irrefl, iE, iN, iB, iC, iL, iD, iA, iS, iM, qa, zZ, ↓qp, ↓reduceIte, reduceCtorEq, nA, nM, nS, nE, nL, nD]; try simp only [qa, zY]
    refine Ret.xy [0, 1, 2, 3] ⟨⟨by simp, rfl, by decide⟩, ?_⟩ (rs := [.slc 3 0 (qd N).length true (qd N).length]) ?_ ?_ (by simp [xt]) ?_ ⟨?_, ?_⟩
    · simp only [qh _ _ (zk _), qh _ _ (q6 _), zK, ↓reduceIte, reduceCtorEq, nE, nB, nA]
    · rfl
    · rfl
    · intro j l
      match j with
      | 0 => simp [zj, AO.ren]
      | 1 => simp [zj, AO.ren]
      | 2 => simp [zj, AO.ren]
      | 3 => simp [zj, AO.ren]
      | j + 4 => simp [zj]
    · rfl
    · simp only [qb _ _ (zk _), qb _ _ (q6 _), zL, ↓reduceIte, reduceCtorEq, nE, nA]
def qrh (p : Int) (v : List Int) : Prop := ∀ x ∈ v, 0 ≤ x ∧ x ≤ p - 1
instance {p : Int} {v : List Int} : Decidable (qrh p v) := inferInstanceAs (Decidable (∀ x ∈ v, _))
noncomputable def qb4 : BE := fun hp xs => match xs with
  | [.int .i64 p, .int .i64 c, .slc bl 0 k false 0, .slc bv 0 k1 true c1, .slc bw 0 k2 true c2] => match rd hp bl, rd hp bv, rd hp bw with
    | some l, some lv, some lw => match qws l, qnx lv, qnx lw with
      | some N, some v, some w => chk (((k = (qd N).length ∧ k1 = (qd N).length ∧ c1 = (qd N).length) ∧ k2 = (qd N).length ∧ c2 = (qd N).length) ∧ (v.length = (qd N).length ∧ w.length = (qd N).length) ∧ ((2 ≤ p ∧ p ≤ 97) ∧ (0 ≤ c ∧ c ≤ p - 1)) ∧ qrh p v ∧ qrh p w)
          (some (.slc hp.length 0 (qd N).length true (qd N).length, hp ++ [.cells (jk (qda p c N v w))]))
      | _, _, _ => none
    | _, _, _ => none
  | _ => none
theorem q8k : Am.Callee Try.prog 85 qb4 := Callee.fp fun hp xs v hp' he => by
  unfold qb4 at he
  split at he
  · rename_i p c bl k bv k1 c1 bw k2 c2
    split at he
    · rename_i l lv lw hl hlv hlw
      split at he
      · rename_i N v w hN hv hw
        obtain ⟨⟨⟨⟨a1, a2, a3⟩, a4, a5⟩, ⟨a6, a7⟩, ⟨a8, a9⟩, b1, b2⟩, he⟩ := qm he
        simp only [Option.some.injEq, Prod.mk.injEq] at he
        obtain ⟨rfl, rfl⟩ := he
        obtain ⟨h1, rfl⟩ := qky hN
        obtain rfl := qd1 hv
        obtain rfl := qd1 hw
        subst a1 a2 a3 a4 a5
        refine ⟨[(bl, 0), (bv, 0), (bw, 0)], [.int .i64 p, .int .i64 c, .slc 0 0 (qd N).length false 0, .slc 1 0 (qd N).length true (qd N).length, .slc 2 0 (qd N).length true (qd N).length], _, _, _,
          ql9 p c N v w a8 a9 h1 a6 a7 b1 b2, by simp [AV.ren, AV.zg, ofL], rfl,
          ⟨⟨_, hl, by simp, by simp [qb _ _ (zk _)]⟩, ⟨_, hlv, by simp, by simp [qb _ _ (q6 _)]⟩, ⟨_, hlw, by simp, by simp [qb _ _ (q6 _)]⟩, trivial⟩, rfl,
          ⟨qj _ _ (zk _), qj _ _ (q6 _), qj _ _ (q6 _), trivial⟩, ⟨trivial, trivial, by simp [AV.under], by simp [AV.under], by simp [AV.under], trivial⟩, by simp [AV.ren, Ren.ext], ?_⟩
        simp [after, upd, AO.wr, AO.ren, qb _ _ (q6 _)]
      · cases he
    · cases he
  · cases he
noncomputable def q72 : zb := (q27.put 85 (qb4))
theorem q36 : qo Try.prog q72 := (K0.put (q8k))
noncomputable def Yb : zb := q72
theorem qtd : qo Try.prog Yb := q36
theorem jm : Yb 135 = some (qk qcp) := rfl
theorem yn : Yb 78 = some (kx J6) := rfl
theorem yg : Yb 84 = some (qk Wo) := rfl
theorem va : Yb 67 = some (qk Uw) := rfl
theorem yx : Yb 70 = some (qk J0) := rfl
theorem yu : Yb 83 = some (qk jd) := rfl
theorem vm : Yb 136 = some (qk Yx) := rfl
theorem v8 : Yb 82 = some (kv) := rfl
theorem wc : Yb 85 = some (qb4) := rfl
noncomputable def u0 (M : Nat) : List AV → Option (AV × List AO)
  | [.int .i64 p, .int .i64 c, .int .i64 n] => chk ((zx p = true ∧ 0 ≤ c ∧ c ≤ p - 1) ∧ (1 ≤ n ∧ n ≤ 5) ∧ n ≤ M ∧ n ≤ jv p c) (some (.slc 0 0 (qd n.toNat).length true (qd n.toNat).length, [.cells (jk (Ym p c n.toNat))]))
  | _ => none
theorem qxt {M : Nat} (h : ∀ (p c : Int) (n : Nat), zx p = true → 0 ≤ c ∧ c ≤ p - 1 → 1 ≤ n ∧ n ≤ 5 → n ≤ M → n ≤ jv p c →
    Am.Fn Try.prog 79 [.int .i64 p, .int .i64 c, .int .i64 n] [] (fun v H' => v = .slc 0 0 (qd n).length true (qd n).length ∧ H' = [.cells (jk (Ym p c n))])) : Am.Callee Try.prog 79 (kx (u0 M)) :=
  Am.Callee.new fun xs v H he => by
    unfold u0 at he
    split at he
    · rename_i p c n
      obtain ⟨⟨⟨h1, h2⟩, h3, h4, h5⟩, he⟩ := qm he
      obtain ⟨n, rfl⟩ : ∃ j : Nat, n = j := ⟨n.toNat, by omega⟩
      rw [Int.toNat_natCast] at he
      cases he
      exact ⟨rfl, h p c n h1 h2 (by omega) (by omega) (by omega)⟩
    · cases he
noncomputable def BN (M : Nat) : zb := Yb.put 79 (kx (u0 M))
theorem q8g (M : Nat) : BN M 79 = some (kx (u0 M)) := rfl
theorem qkj {M : Nat} (h : Am.Callee Try.prog 79 (kx (u0 M))) : qo Try.prog (BN M) := qtd.put h
theorem qts (b k c m : Nat) : AV.ren (Yf m) (.slc b 0 k true c) = .slc (m + b) 0 k true c := rfl
def Ws : AT := (.one (oM 31 8) (.one (o0 32 (.len .slc (.t 31))) (.one (oM 34 8) (.one (o0 35 (.len .slc (.t 34))) (.alt (o0 33 (.Qb 1 8 [.int .i64 0] (.t 32) (.t 32))) (.one (oM 10 33) (.one (o0 36 (.Qb 1 8 [.int .i64 0] (.t 35) (.t 35))) (.one (oM 11 36) (.nil)))) (.alt (o0 36 (.Qb 1 8 [.int .i64 0] (.t 35) (.t 35))) (.one (o0 33 (.Qb 1 8 [.int .i64 0] (.t 32) (.t 32))) (.one (oM 10 33) (.one (oM 11 36) (.nil)))) (.none)))))))
def W9 : AT := (.one (oM 44 7) (.one (oM 45 12) (.one (oX 46 17 44 45) (.one (oN 47 17 46) (.alt (oC 48 83 [(.c (.int .i64 1))]) (.alt (oC 49 135 [.t 47,.t 48]) (.one (oM 43 49) (.one (oE 50 0 43) (.one (oE 51 1 43) (.one (oD 13) (.one (oS 17 13 50) (.one (oM 14 51) (.nil))))))) (.alt (oD 13) (.one (oC 49 135 [.t 47,.t 48]) (.one (oM 43 49) (.one (oE 50 0 43) (.one (oE 51 1 43) (.one (oS 17 13 50) (.one (oM 14 51) (.nil))))))) (.none))) (.alt (oD 13) (.one (oC 48 83 [(.c (.int .i64 1))]) (.one (oC 49 135 [.t 47,.t 48]) (.one (oM 43 49) (.one (oE 50 0 43) (.one (oE 51 1 43) (.one (oS 17 13 50) (.one (oM 14 51) (.nil)))))))) (.none)))))))
def Wz : AC := .draw true [oM 52 10,oM 53 8,oN 54 17 13,oM 56 9,oM 57 12,oX 58 1 56 57,oL 59 58,oC 55 82 [.t 53,.t 54],oX 60 1 52 55,oT 60 59]
def Wp : AC := .region [oM 41 12,oK 42 .add 41 1,oM 12 42]
def Zz : AC := .seq (.seq (.region [oM 37 12,oM 38 7,o0 39 (.len .slc (.t 38)),oP 40 .lss 37 39]) (.cond 40 .skip (.exit 0))) (.seq (.block 1 (.seq (.tree true W9) Wz)) Wp)
def Q7 : AC := .seq (.seq (.region [oM 95 17,oM 96 8,o0 97 (.len .slc (.t 96)),oP 98 .lss 95 97]) (.cond 98 .skip (.exit 2))) (.seq (.block 3 (.draw false [oM 101 10,oM 102 17,oM 103 0,oM 104 10,oM 105 17,oX 106 1 104 105,oL 107 106,oM 108 16,oM 109 15,oM 110 17,oX 111 1 109 110,oL 112 111,oP 113 .mul 108 112,oP 114 .sub 107 113,oC 115 70 [.t 103,.t 114],oX 116 1 101 102,oT 116 115])) (.region [oM 99 17,oK 100 .add 99 1,oM 17 100]))
def Ya : AC := .seq (.region [oM 117 10,oM 6 117]) .ret
def Wm : AC := .seq (.region [oM 61 11,oM 62 8,oM 63 2,oM 64 2,oK 65 .sub 64 2,oC 66 84 [.t 63,.t 65],oC 67 82 [.t 62,.t 66],oX 68 1 61 67,⟨none,none,.op (.ue (.t 68) (.c (.int .i64 1)))⟩]) (.seq (.region [oM 69 0,oM 70 1,oM 71 8,oM 72 0,oM 73 1,oM 74 8,oM 75 10,oM 76 11,oC 77 85 [.t 72,.t 73,.t 74,.t 75,.t 76],oM 78 10,oC 79 85 [.t 69,.t 70,.t 71,.t 77,.t 78],oM 15 79]) (.seq (.region [oM 80 0,oM 81 1,oM 82 2,oK 83 .sub 82 2,oC 84 136 [.t 80,.t 81,.t 83],oM 85 0,oM 86 0,oM 87 1,oM 88 2,oK 89 .sub 88 1,oC 90 136 [.t 86,.t 87,.t 89],oC 91 67 [.t 85,.t 90],oP 92 .mul 84 91,oM 93 0,oP 94 .rem 92 93,oM 16 94]) (.seq (.seq (.region [oI 17 0]) (.block 2 (.loop Q7))) Ya)))
def Wq : AC := .seq (.seq (.region [oI 12 0]) (.block 0 (.loop Zz))) Wm
def V3 : AC := .seq (.region [o0 6 (.mov (.c (.v (.slice none 0 0))))]) (.seq (.seq (.region [oM 18 2,oK 19 .eql 18 1]) (.cond 19 (.seq (.region [o0 20 (.gi 1 [.int .i64 0] [(0,1,(.c (.int .i64 1)))]),oM 6 20]) .ret) .skip)) (.seq (.region [oM 21 2,oK 22 .sub 21 1,oC 23 78 [.t 22],oM 24 2,oC 25 78 [.t 24],oM 26 0,oM 27 1,oM 28 2,oK 29 .sub 28 1,oC 30 79 [.t 26,.t 27,.t 29],oM 7 23,oM 8 25,oM 9 30]) (.seq (.tree false Ws) Wq)))
theorem G4 : zh Try.prog 79 = some ⟨118, V3, [.slot 6]⟩ := by kernel_rfl
theorem Zn (M : Nat) : BN M 78 = Yb 78 := rfl
theorem Q8 (M : Nat) : BN M 83 = Yb 83 := rfl
theorem wb (M : Nat) : BN M 135 = Yb 135 := rfl
theorem gr (M : Nat) : BN M 82 = Yb 82 := rfl
theorem Zx (M : Nat) : BN M 84 = Yb 84 := rfl
theorem gq (M : Nat) : BN M 85 = Yb 85 := rfl
theorem ur (M : Nat) : BN M 136 = Yb 136 := rfl
theorem yj (M : Nat) : BN M 67 = Yb 67 := rfl
theorem Q6 (M : Nat) : BN M 70 = Yb 70 := rfl
theorem q4r (M : Nat) (ih : Am.Callee Try.prog 79 (kx (u0 M))) (p c : Int) :
    Am.Fn Try.prog 79 [.int .i64 p, .int .i64 c, .int .i64 1] [] (fun v H' => v = .slc 0 0 (qd 1).length true (qd 1).length ∧ H' = [.cells (jk (Ym p c 1))]) := by
  refine Am.Fn.ofW (qkj ih) mixed G4 (by simp [AV.qt, AV.under]) (by simp) ?_
  have h1 : (qd 1).length = 1 := by kernel_rfl
  rw [h1, qxj]
  simp (maxSteps := 3000000) only [qf, zH, V3, iE, iN, iB, iC, iL, iD, iA, iS, iM, qa, zZ, ↓qp, ↓reduceIte, reduceCtorEq, nA, nM, nS, nE, nL, nD]; try simp only [qa, zY]
  refine ⟨_, qu.refl _, Ret.xy [0] ⟨⟨by simp, rfl, by decide⟩, ?_⟩ (rs := [.slc 0 0 1 true 1]) rfl rfl (by simp [xt]) ?_ ⟨rfl, rfl⟩⟩
  · simp only [zK, ↓reduceIte, reduceCtorEq, nE, nB, nA]; rfl
  · intro j l; cases j <;> simp [zj, AO.ren]
theorem q62 (M : Nat) (ih : Am.Callee Try.prog 79 (kx (u0 M))) (p c : Int) (k : Nat) (hP : zx p = true) (hc : 0 ≤ c ∧ c ≤ p - 1) (hk : k ≤ 3) (hM : k + 1 ≤ M) (hz : k + 2 ≤ jv p c) :
    Am.Fn Try.prog 79 [.int .i64 p, .int .i64 c, .int .i64 (k + 2 : Nat)] [] (fun v H' => v = .slc 0 0 (qd (k + 2)).length true (qd (k + 2)).length ∧ H' = [.cells (jk (Ym p c (k + 2)))]) := by
  refine Am.Fn.ofW (qkj ih) mixed G4 (by simp [AV.qt, AV.under]) (by simp) ?_
  have hb := uu hP
  have e1 : ((k + 2 : Nat) : Int) = 1 ↔ False := iff_false_intro (by omega)
  have w1 : qn .i64 (((k + 2 : Nat) : Int) - 1) = ((k + 1 : Nat) : Int) := by rw [wrap64 (by omega) (by omega)]; omega
  have w2 : qn .i64 (((k + 2 : Nat) : Int) - 2) = (k : Int) := by rw [wrap64 (by omega) (by omega)]; omega
  have c1 : (1 : Int) ≤ ((k + 1 : Nat) : Int) ∧ ((k + 1 : Nat) : Int) ≤ 6 := by omega
  have c2 : (1 : Int) ≤ ((k + 2 : Nat) : Int) ∧ ((k + 2 : Nat) : Int) ≤ 6 := by omega
  have c3 : (1 : Int) ≤ ((k + 1 : Nat) : Int) ∧ ((k + 1 : Nat) : Int) ≤ 5 := by omega
  have c4 : ((k + 1 : Nat) : Int) ≤ (M : Int) ∧ ((k + 1 : Nat) : Int) ≤ (jv p c : Int) := by omega
  have hN1 : 1 ≤ k + 1 ∧ k + 1 ≤ 6 := by omega
  have hN2 : 1 ≤ k + 2 ∧ k + 2 ≤ 6 := by omega
  have hlen1 := V6 hN1
  have hlen2 := V6 hN2
  have z1 : ((qd (k + 2)).length : Int) * ((8 : Nat) : Int) ≤ 281474976710656 := by omega
  have z0 : (0 : Int) ≤ ((qd (k + 2)).length : Int) ∧ ((qd (k + 2)).length : Int) ≤ ((qd (k + 2)).length : Int) ∧ ((qd (k + 2)).length : Int) * 8 ≤ 281474976710656 := by omega
  simp (maxSteps := 3000000) only [qf, zH, V3, q8g, u0, Zn, Q8, wb, gr, Zx, gq, ur, yj, Q6, jm, yn, yg, va, yx, yu, vm, v8, wc, J6, Yx, Wo, J0, kv, Uw, qb4, qcp, jd, e1, w1, c1, c2, c3, c4, hP, hc, qgn, qts, bc, qiq, qb _ _ (zk _), qb _ _ (q6 _), Int.toNat_natCast, and_self, iE, iN, iB, iC, iL, iD, iA, iS, iM, qa, zZ, ↓qp, ↓reduceIte, reduceCtorEq, nA, nM, nS, nE, nL, nD]; try simp only [qa, zY]
  refine WA.qfi (qkj ih) (fun s => s = ⟨[(0, .int .i64 p), (1, .int .i64 c), (2, .int .i64 (k + 2 : Nat)), (7, .slc 0 0 (qd (k + 1)).length false 0), (8, .slc 1 0 (qd (k + 2)).length false 0), (9, .slc 2 0 (qd (k + 1)).length true (qd (k + 1)).length), (10, .slc 3 0 (qd (k + 2)).length true (qd (k + 2)).length), (11, .slc 4 0 (qd (k + 2)).length true (qd (k + 2)).length)], [.vec 17 (wm (k + 1 : Nat) (qd (k + 1))), .vec 17 (wm (k + 2 : Nat) (qd (k + 2))), .cells (jk (Ym p c (k + 1))), .cells (jk (List.replicate (qd (k + 2)).length 0)), .cells (jk (List.replicate (qd (k + 2)).length 0))]⟩) ?_ ?_
  · unfold Ws
    simp (maxSteps := 3000000) only [qf, zH, b8, Q3, z0, z1, qia, Int.toNat_natCast, and_self, iE, iN, iB, iC, iL, iD, iA, iS, iM, qa, zZ, ↓qp, ↓reduceIte, reduceCtorEq, nA, nM, nS, nE, nL, nD]; try simp only [qa, zY]
    repeat' first | (with_reducible exact ⟨_, rfl⟩) | (exact rfl) | (with_reducible refine And.intro ?_ ?_)
    all_goals refine ⟨_, qu.can [0, 1, 2, 7, 8, 9, 10, 11] (by simp only [zy _ (zk _), zy _ (q6 _), V8, zC, nB, nD, nA, nE, ↓reduceIte, reduceCtorEq]; rfl), ?_⟩
    all_goals simp only [qb _ _ (zk _), qb _ _ (q6 _), zL, ↓reduceIte, reduceCtorEq, nE, nA]
  rintro s rfl
  have hP0 := Ua (c := c) hb hc k (by omega)
  have hgP := hP0.1
  simp (maxSteps := 3000000) only [qf, zH, Wq, iE, iN, iB, iC, iL, iD, iA, iS, iM, qa, zZ, ↓qp, ↓reduceIte, reduceCtorEq, nA, nM, nS, nE, nL, nD]; try simp only [qa, zY]
  refine WA.xo (qkj ih) (fun s => ∃ i : Nat, i ≤ (qd (k + 1)).length ∧ s = ⟨[(0, .int .i64 p), (1, .int .i64 c), (2, .int .i64 (k + 2 : Nat)), (7, .slc 0 0 (qd (k + 1)).length false 0), (8, .slc 1 0 (qd (k + 2)).length false 0), (9, .slc 2 0 (qd (k + 1)).length true (qd (k + 1)).length), (10, .slc 3 0 (qd (k + 2)).length true (qd (k + 2)).length), (11, .slc 4 0 (qd (k + 2)).length true (qd (k + 2)).length), (12, .int .i64 i)], [.vec 17 (wm (k + 1 : Nat) (qd (k + 1))), .vec 17 (wm (k + 2 : Nat) (qd (k + 2))), .cells (jk (Ym p c (k + 1))), .cells (jk (eR (k + 1) (jr p c k) i)), .cells (jk (List.replicate (qd (k + 2)).length 0))]⟩)
    (fun s => match get s.env 12 with | .int _ x => (qd (k + 1)).length - x.toNat | _ => 0) ⟨_, qu.qv [0, 1, 2, 7, 8, 9, 10, 11, 12], 0, by omega, ?_⟩ ?_
  · rw [qnz]; rfl
  rintro s ⟨i, hi, rfl⟩
  have hwi : qn .i64 ((i : Int) + 1) = ((i + 1 : Nat) : Int) := by rw [wrap64 (by omega) (by omega)]; rfl
  have hL1 := qae hN1
  have hL2 := qae hN2
  have hal1 := ga (n := ((k + 1 : Nat) : Int)) hL1
  have hal2 := ga (n := ((k + 2 : Nat) : Int)) hL2
  have hls2 := qn6 hN2
  by_cases hlt : i < (qd (k + 1)).length
  · have hli : (i : Int) < ((qd (k + 1)).length : Int) := by omega
    have hi0 : (0 : Int) ≤ (i : Int) := by omega
    have g1 := Kx (n := ((k + 1 : Nat) : Int)) hL1 hlt
    have o1 : okD (qd (k + 1))[i] := hL1 _ (List.getElem_mem hlt)
    have s1 := (X1 hN1 (List.getElem_mem hlt)).1
    have b1 : i * 17 < (qd (k + 1)).length * 17 := by omega
    have b2 : i * 17 + 17 ≤ (qd (k + 1)).length * 17 := by omega
    have hu := Vz (n := 1) (by omega)
    have c5 : (1 : Int) ≤ ((k + 1 : Nat) : Int) ∧ ((k + 1 : Nat) : Int) ≤ 7 := by omega
    have c6 : (0 : Int) ≤ 1 ∧ (1 : Int) ≤ 8 := by omega
    have hwd : u2 (k + 1) (qd (k + 1))[i] 2 = xg (k + 1) (qd (k + 1))[i] := (qqy (by omega)).1 _ (List.getElem_mem hlt)
    have hin : xg (k + 1) (qd (k + 1))[i] ∈ qd (k + 2) := qt3 (N := k + 1) (by omega) (List.getElem_mem hlt)
    have hwo : okD (xg (k + 1) (qd (k + 1))[i]) := hL2 _ hin
    have hq : (qd (k + 2)).idxOf (xg (k + 1) (qd (k + 1))[i]) < (qd (k + 2)).length := List.idxOf_lt_length_of_mem hin
    have hput := qzy (N := k + 1) (a := jr p c k) (by omega) hlt
    have hel := q42 (N := k + 1) (i := i) (a := jr p c k)
    have hnn : ((k + 1 : Nat) : Int) + 1 = ((k + 2 : Nat) : Int) := by omega
    have hpv : (Ym p c (k + 1)).getD i 0 = cf (qd (k + 1))[i] (jr p c k) := by unfold Ym vt; rw [Qo hlt, Nat.add_sub_cancel]
    have hpl : (Ym p c (k + 1)).length = (qd (k + 1)).length := by unfold Ym; exact Vv
    simp (maxSteps := 3000000) only [qf, zH, Zz, hli, iE, iN, iB, iC, iL, iD, iA, iS, iM, qa, zZ, ↓qp, ↓reduceIte, reduceCtorEq, nA, nM, nS, nE, nL, nD]; try simp only [qa, zY]
    refine WA.qfi (qkj ih) (fun s => s = ⟨[(0, .int .i64 p), (1, .int .i64 c), (2, .int .i64 (k + 2 : Nat)), (7, .slc 0 0 (qd (k + 1)).length false 0), (8, .slc 1 0 (qd (k + 2)).length false 0), (9, .slc 2 0 (qd (k + 1)).length true (qd (k + 1)).length), (10, .slc 3 0 (qd (k + 2)).length true (qd (k + 2)).length), (11, .slc 4 0 (qd (k + 2)).length true (qd (k + 2)).length), (12, .int .i64 i), (13, .ptr 5 0)], [.vec 17 (wm (k + 1 : Nat) (qd (k + 1))), .vec 17 (wm (k + 2 : Nat) (qd (k + 2))), .cells (jk (Ym p c (k + 1))), .cells (jk (eR (k + 1) (jr p c k) i)), .cells (jk (List.replicate (qd (k + 2)).length 0)), .cells (dia (k + 2 : Nat) (xg (k + 1) (qd (k + 1))[i]))]⟩) ?_ ?_
    · unfold W9
      simp (maxSteps := 3000000) only [qf, zH, b8, Q3, Zn, Q8, wb, gr, Zx, gq, ur, yj, Q6, jm, yn, yg, va, yx, yu, vm, v8, wc, J6, Yx, Wo, J0, kv, Uw, qb4, qcp, jd, hli, hi0, hal1, b1, b2, g1, qy o1, qy hu, s1, c5, c6, hwd, hnn, x8, zm, Qy hwo.1, qe, hwo.1, zq, Int.toNat_natCast, Int.toNat_one, List.length_replicate, Nat.le_refl, and_self, iE, iN, iB, iC, iL, iD, iA, iS, iM, qa, zZ, ↓qp, ↓reduceIte, reduceCtorEq, nA, nM, nS, nE, nL, nD]; try simp only [qa, zY]
      repeat' first | (with_reducible exact ⟨_, rfl⟩) | (exact rfl) | (with_reducible refine And.intro ?_ ?_)
      all_goals exact ⟨_, qu.qv [0, 1, 2, 7, 8, 9, 10, 11, 12, 13], rfl⟩
    rintro s rfl
    have hel' := jf (eR (k + 1) (jr p c k) i)
    have hpl' := jf (Ym p c (k + 1))
    have hq0 : (0 : Int) ≤ (((qd (k + 2)).idxOf (xg (k + 1) (qd (k + 1))[i]) : Nat) : Int) := by omega
    have hqK : (((qd (k + 2)).idxOf (xg (k + 1) (qd (k + 1))[i]) : Nat) : Int) < ((qd (k + 2)).length : Int) := by omega
    simp (maxSteps := 3000000) only [qf, zH, Wz, Wp, Zn, Q8, wb, gr, Zx, gq, ur, yj, Q6, jm, yn, yg, va, yx, yu, vm, v8, wc, J6, Yx, Wo, J0, kv, Uw, qb4, qcp, jd, hli, hi0, hls2, qy hwo, hin, hq, hpv, hpl, hlt, hel, hel', hpl', hq0, hqK, hput, hwi, qb7, qe, hwo.1, qw hwo.1, Int.toNat_natCast, and_self, iE, iN, iB, iC, iL, iD, iA, iS, iM, qa, zZ, ↓qp, ↓reduceIte, reduceCtorEq, nA, nM, nS, nE, nL, nD]; try simp only [qa, zY]
    repeat' first | (with_reducible exact ⟨_, rfl⟩) | (exact rfl) | (with_reducible refine And.intro ?_ ?_)
    refine ⟨_, qu.can [0, 1, 2, 7, 8, 9, 10, 11, 12] (by simp only [zy _ (zk _), zy _ (q6 _), V8, zC, nB, nD, nA, nE, ↓reduceIte, reduceCtorEq]; rfl), ⟨i + 1, by omega, ?_⟩, ?_⟩
    · simp only [qb _ _ (zk _), qb _ _ (q6 _), zL, ↓reduceIte, reduceCtorEq, nE, nA]
    · simp only [zL, ↓reduceIte, reduceCtorEq, nE, nA]; omega
  · have hli : ¬ (i : Int) < ((qd (k + 1)).length : Int) := by omega
    have ei : i = (qd (k + 1)).length := by omega
    subst ei
    have hee := q6v (N := k + 1) (by omega) hb hgP
    have hnn : ((k + 1 : Nat) : Int) + 1 = ((k + 2 : Nat) : Int) := by omega
    have hWg := (U7 hb (n := ((k + 1 : Nat) : Int)) (by omega) hgP).1
    rw [hnn] at hWg
    have hgn : z8 p ((k + 2 : Nat) : Int) [(((k + 2 : Nat) : Int), X2 (k + 2) k, 1)] := by
      have := qi8 (p := p) (n := ((k + 2 : Nat) : Int)) (k := 1) (i := k) (by omega) (by omega) (by omega)
      rwa [Int.toNat_natCast] at this
    have hgd := hgn.dia _ (List.mem_singleton.2 rfl)
    have hgo := (hgn.ok _ (List.mem_singleton.2 rfl))
    have hgin : X2 (k + 2) k ∈ qd (k + 2) := by
      have h1 := hgd.2
      simp only [Int.toNat_natCast] at h1
      exact qcg h1 hgo.1
    have hur := row_one hN2 hgin
    have hpn := qwn (p := p) (c := c) (k := k)
    generalize hWe : Xb p ((k + 1 : Nat) : Int) (jr p c k) = W at *
    have t1 := qks (c := c) hb hc hN2 hWg hgn
    have lW := X8 hWg (by omega)
    have hM1 := (U9 (c := c) hb hc hWg hgn ⟨by omega, by simp⟩).1
    have lM1 := X8 hM1 (by omega)
    generalize hM1e : MP p ((k + 2 : Nat) : Int) (vc p c ((k + 2 : Nat) : Int) W [(((k + 2 : Nat) : Int), X2 (k + 2) k, 1)]) = M1 at *
    have t2 := qks (c := c) hb hc hN2 hM1 hWg
    have hM2 := (U9 (c := c) hb hc hM1 hWg ⟨by omega, by omega⟩).1
    generalize hM2e : MP p ((k + 2 : Nat) : Int) (vc p c ((k + 2 : Nat) : Int) M1 W) = M2 at *
    have r1 : qrh p (vt (k + 2) W) := qga (by omega) hWg
    have r2 : qrh p (vt (k + 2) [(((k + 2 : Nat) : Int), X2 (k + 2) k, 1)]) := qga (by omega) hgn
    have r3 : qrh p (vt (k + 2) M1) := qga (by omega) hM1
    have r4 : qrh p (vt (k + 2) M2) := qga (by omega) hM2
    have l1 := Vv (N := k + 2) (a := W)
    have l2 := Vv (N := k + 2) (a := [(((k + 2 : Nat) : Int), X2 (k + 2) k, 1)])
    have l3 := Vv (N := k + 2) (a := M1)
    have l4 := Vv (N := k + 2) (a := M2)
    have hq : (qd (k + 2)).idxOf (X2 (k + 2) k) < (qd (k + 2)).length := List.idxOf_lt_length_of_mem hgin
    have hq0 : (0 : Int) ≤ (((qd (k + 2)).idxOf (X2 (k + 2) k) : Nat) : Int) := by omega
    have hqK : (((qd (k + 2)).idxOf (X2 (k + 2) k) : Nat) : Int) < ((qd (k + 2)).length : Int) := by omega
    have c7 : ((k + 2 : Nat) : Int) ≤ 8 ∧ (0 : Int) ≤ (k : Int) ∧ (k : Int) + 1 < ((k + 2 : Nat) : Int) := by omega
    have c8 : (0 : Int) ≤ (k : Int) ∧ (k : Int) ≤ 1000 := by omega
    have c9 : (0 : Int) ≤ ((k + 1 : Nat) : Int) ∧ ((k + 1 : Nat) : Int) ≤ 1000 := by omega
    have hrl := List.length_replicate (n := (qd (k + 2)).length) (a := (0 : Int))
    have hrl' := jf (List.replicate (qd (k + 2)).length (0 : Int))
    have hwf : ∀ L, qnx (jk L) = some L := qko
    have x1 := qbm (c := c) hb (k + 1)
    have x2 := qbm (c := c) hb (k + 2)
    have hnz : ¬ chb p c (k + 2) = 0 := (qcq hP hc).2.2 (k + 1) (by omega) (by omega)
    have hoi : okI p (chb p c (k + 2)) := ⟨hP, by omega, x2.2⟩
    have hv := (qg7 hoi.1 hoi.2).1
    have m1 : chb p c (k + 1) * V4 p (chb p c (k + 2)) ≤ 96 * 96 := Int.mul_le_mul (by omega) (by omega) (by omega) (by omega)
    have m0 : 0 ≤ chb p c (k + 1) * V4 p (chb p c (k + 2)) := Int.mul_nonneg x1.1 (by omega)
    have hwm : qn .i64 (chb p c (k + 1) * V4 p (chb p c (k + 2))) = chb p c (k + 1) * V4 p (chb p c (k + 2)) := wrap64 (by omega) (by omega)
    have hX : (chb p c (k + 1) * V4 p (chb p c (k + 2))).tmod p = Gt p c (k + 1) := rfl
    have hXb : 0 ≤ Gt p c (k + 1) ∧ Gt p c (k + 1) < p := ⟨Int.tmod_nonneg _ m0, Int.tmod_lt_of_pos _ (by omega)⟩
    have hp0 : ¬ p = 0 := by omega
    simp (maxSteps := 3000000) only [qf, zH, Zz, Wm, Zn, Q8, wb, gr, Zx, gq, ur, yj, Q6, jm, yn, yg, va, yx, yu, vm, v8, wc, J6, Yx, Wo, J0, kv, Uw, qb4, qcp, jd, hli, w1, w2, hee, hls2, qy hgo, hgin, hq, hq0, hqK, c7, c8, c9, hrl, hrl', hur, hwf, hb, hc, t1, t2, r1, r2, r3, r4, l1, l2, l3, l4, hoi, hwm, hX, hp0, qb7, Int.toNat_natCast, Int.lt_irrefl, and_self, iE, iN, iB, iC, iL, iD, iA, iS, iM, qa, zZ, ↓qp, ↓reduceIte, reduceCtorEq, nA, nM, nS, nE, nL, nD]; try simp only [qa, zY]
    refine ⟨rfl, ?_⟩
    have hlN := Vv (N := k + 2) (a := jr p c (k + 1))
    have hml := fun j => qz4 (v := vt (k + 2) (jr p c (k + 1))) (w := vt (k + 2) W) (i := j) (by omega)
    refine WA.xo (qkj ih) (fun s => ∃ i : Nat, i ≤ (qd (k + 2)).length ∧ s = ⟨[(0, .int .i64 p), (8, .slc 0 0 (qd (k + 2)).length false 0), (10, .slc 1 0 (qd (k + 2)).length true (qd (k + 2)).length), (15, .slc 2 0 (qd (k + 2)).length true (qd (k + 2)).length), (16, .int .i64 (Gt p c (k + 1))), (17, .int .i64 i)], [.vec 17 (wm (k + 2 : Nat) (qd (k + 2))), .cells (jk (qdw (vt (k + 2) (jr p c (k + 1))) (vt (k + 2) W) i)), .cells (jk (vt (k + 2) M2))]⟩)
      (fun s => match get s.env 17 with | .int _ x => (qd (k + 2)).length - x.toNat | _ => 0) ⟨_, qu.can [0, 8, 10, 15, 16, 17] (by simp only [zy _ (zk _), zy _ (q6 _), V8, zC, nB, nD, nA, nE, ↓reduceIte, reduceCtorEq]; rfl), 0, by omega, ?_⟩ ?_
    · simp only [qb _ _ (zk _), qb _ _ (q6 _), zL, ↓reduceIte, reduceCtorEq, nE, nA]
      rfl
    clear hli hlt hi hwi
    rintro s ⟨i, hi, rfl⟩
    have hwi : qn .i64 ((i : Int) + 1) = ((i + 1 : Nat) : Int) := by rw [wrap64 (by omega) (by omega)]; rfl
    by_cases hlt : i < (qd (k + 2)).length
    · have hli : (i : Int) < ((qd (k + 2)).length : Int) := by omega
      have hi0 : (0 : Int) ≤ (i : Int) := by omega
      have hlast := qxe (p := p) (c := c) (X := Gt p c (k + 1)) hb hWg hM2 hlt
      rw [← hpn] at hlast
      have hmg := q0v (v := vt (k + 2) (jr p c (k + 1))) (w := vt (k + 2) W) (i := i) (by omega) (by omega)
      have hms := qyd (v := vt (k + 2) (jr p c (k + 1))) (w := vt (k + 2) W) (i := i) (by omega) (by omega)
      have hmi := hml i
      have u1 : 0 ≤ (vt (k + 2) W).getD i 0 ∧ (vt (k + 2) W).getD i 0 ≤ p - 1 := by
        unfold vt; rw [Qo hlt]; exact (kz hWg (by omega) _).1
      have u2 : 0 ≤ (vt (k + 2) M2).getD i 0 ∧ (vt (k + 2) M2).getD i 0 ≤ p - 1 := by
        unfold vt; rw [Qo hlt]; exact (kz hM2 (by omega) _).1
      rw [hlast] at hms
      have hmi' := jf (qdw (vt (k + 2) (jr p c (k + 1))) (vt (k + 2) W) i)
      have l4' := jf (vt (k + 2) M2)
      generalize hRn : qdw (vt (k + 2) (jr p c (k + 1))) (vt (k + 2) W) (i + 1) = R' at *
      generalize qdw (vt (k + 2) (jr p c (k + 1))) (vt (k + 2) W) i = R at *
      generalize (vt (k + 2) W).getD i 0 = a at *
      generalize hbe : (vt (k + 2) M2).getD i 0 = b at *
      generalize Gt p c (k + 1) = X at *
      have n1 : X * b ≤ 96 * 96 := Int.mul_le_mul (by omega) (by omega) (by omega) (by omega)
      have n0 : 0 ≤ X * b := Int.mul_nonneg (by omega) (by omega)
      have w3 : qn .i64 (X * b) = X * b := wrap64 (by omega) (by omega)
      have w4 : qn .i64 (a - X * b) = a - X * b := wrap64 (by omega) (by omega)
      have p1 : 0 < p ∧ p ≤ 1000000 := by omega
      simp (maxSteps := 3000000) only [qf, zH, Q7, Zn, Q8, wb, gr, Zx, gq, ur, yj, Q6, jm, yn, yg, va, yx, yu, vm, v8, wc, J6, Yx, Wo, J0, kv, Uw, qb4, qcp, jd, hli, hi0, hlt, hmi, hmi', l1, l4, l4', hmg, hbe, w3, w4, p1, hms, hwi, qb7, Int.toNat_natCast, and_self, iE, iN, iB, iC, iL, iD, iA, iS, iM, qa, zZ, ↓qp, ↓reduceIte, reduceCtorEq, nA, nM, nS, nE, nL, nD]; try simp only [qa, zY]
      refine ⟨rfl, _, qu.can [0, 8, 10, 15, 16, 17] (by simp only [zy _ (zk _), zy _ (q6 _), V8, zC, nB, nD, nA, nE, ↓reduceIte, reduceCtorEq]; rfl), ⟨i + 1, by omega, ?_⟩, ?_⟩
      · simp only [qb _ _ (zk _), qb _ _ (q6 _), zL, ↓reduceIte, reduceCtorEq, nE, nA]
        rw [hRn]
      · simp only [zL, ↓reduceIte, reduceCtorEq, nE, nA]; omega
    · have hli : ¬ (i : Int) < ((qd (k + 2)).length : Int) := by omega
      have ei : i = (vt (k + 2) W).length := by omega
      have hal := qzj (v := vt (k + 2) (jr p c (k + 1))) (w := vt (k + 2) W) (by omega)
      rw [← ei] at hal
      simp (maxSteps := 3000000) only [qf, zH, Q7, Ya, hli, hal, Int.lt_irrefl, iE, iN, iB, iC, iL, iD, iA, iS, iM, qa, zZ, ↓qp, ↓reduceIte, reduceCtorEq, nA, nM, nS, nE, nL, nD]; try simp only [qa, zY]
      refine ⟨_, qu.refl _, Ret.xy [1] ⟨⟨by simp, rfl, by decide⟩, ?_⟩ (rs := [.slc 1 0 (qd (k + 2)).length true (qd (k + 2)).length]) rfl rfl (by simp [xt]) ?_ ⟨?_, ?_⟩⟩
      · simp only [qh _ _ (q6 _), zK, ↓reduceIte, reduceCtorEq, nE, nB, nA]
      · intro j l; cases j <;> simp [zj, AO.ren]
      · rfl
      · simp only [qb _ _ (zk _), qb _ _ (q6 _), zL, ↓reduceIte, reduceCtorEq, nE, nA]
        rfl
theorem qi6 : ∀ M, Am.Callee Try.prog 79 (kx (u0 M))
  | 0 => qxt fun p c n _ _ h1 h2 _ => absurd h2 (by omega)
  | M + 1 => qxt fun p c n hP hc h1 hM hz => by
    match n, h1, hM, hz with
    | 1, _, _, _ => exact q4r M (qi6 M) p c
    | k + 2, h1, hM, hz => exact q62 M (qi6 M) p c k hP hc (by omega) (by omega) hz
noncomputable def qvg : zb := (Yb.put 79 (kx (u0 5)))
theorem qf6 : qo Try.prog qvg := (qtd.put (qi6 5))
noncomputable def trD (p c : Int) (N : Nat) (a : List (Int × List Nat × Int)) (L : List (List Nat)) : Int := Zr (fun m => xa p c (clN N m) * cf m a) L
theorem q2y {p c : Int} {N : Nat} (hN : 1 ≤ N ∧ N ≤ 6) {a : List (Int × List Nat × Int)} (h : z8 p (N : Int) a) : trD p c N a (qd N) = trU p c 0 a := by
  unfold trD
  rw [qb3 (Qn hN) (qf4 hN rfl h)]
  have hd := h.dia
  clear h
  have hz : ∀ (l : List (Int × List Nat × Int)) (x : Int), (∀ t ∈ l, t.1 = (N : Int)) → l.foldl (fun acc t => acc + trK p c 0 t) x = x + Z9 (fun m => xa p c (clN N m)) l := fun l => by
    induction l with
    | nil => intro x _; simp [Z9]
    | cons t l ih =>
      intro x hs
      have h1 := hs t (List.mem_cons_self ..)
      rw [List.foldl_cons, ih _ fun u hu => hs u (List.mem_cons_of_mem _ hu)]
      simp only [Z9, trK, h1, Int.toNat_natCast, Nat.sub_zero]
      rw [Int.mul_comm t.2.2]
      omega
  have := hz a 0 fun t ht => (hd t ht).1
  unfold trU
  rw [this]; omega
theorem qxq {p c : Int} {N : Nat} {a : List (Int × List Nat × Int)} {i : Nat} (h : i < (qd N).length) : trD p c N a ((qd N).take (i + 1)) = trD p c N a ((qd N).take i) + xa p c (clN N (qd N)[i]) * cf (qd N)[i] a := Y2 h
theorem vv : qvg 78 = some (kx J6) := rfl
theorem jh : qvg 80 = some (qk V9) := rfl
theorem jg : qvg 79 = some (kx (u0 5)) := rfl
theorem j4 : qvg 77 = some (qk Xt) := rfl
def ya : AC := .seq (.seq (.region [oM 43 14,oK 44 .gtr 43 0]) (.cond 44 .skip (.exit 2))) (.seq (.block 3 (.region [oM 47 13,oM 48 1,oP 49 .mul 47 48,oM 50 0,oP 51 .rem 49 50,oM 13 51])) (.region [oM 45 14,oK 46 .sub 45 1,oM 14 46]))
def ko : AC := .region [oM 52 11,oM 53 13,oP 54 .add 52 53,oM 55 0,oP 56 .rem 54 55,oM 11 56]
def km : AC := .region [oM 32 12,oK 33 .add 32 1,oM 12 33]
def w9 : AC := .seq (.seq (.region [oM 28 12,oM 29 9,o0 30 (.len .slc (.t 29)),oP 31 .lss 28 30]) (.cond 31 .skip (.exit 0))) (.seq (.block 1 (.seq (.region [oM 34 10,oM 35 12,oX 36 1 34 35,oL 37 36,oM 13 37]) (.seq (.seq (.region [oM 38 9,oM 39 12,oX 40 17 38 39,oN 41 17 40,oC 42 80 [.t 41],oM 14 42]) (.block 2 (.loop ya))) ko))) km)
def kp : AC := .seq (.region [oM 57 11,oM 6 57,oI 7 0]) .ret
def wj : AC := .seq (.region [oI 6 0,oI 7 0]) (.seq (.seq (.region [oM 15 0,oM 16 1,oM 17 2,oC 18 77 [.t 15,.t 16,.t 17],oM 8 18]) (.seq (.region [oM 19 8,oK 20 .neq 19 0]) (.cond 20 (.seq (.region [oM 21 8,oI 6 0,oM 7 21]) .ret) .skip))) (.seq (.region [oM 22 2,oC 23 78 [.t 22],oM 24 0,oM 25 1,oM 26 2,oC 27 79 [.t 24,.t 25,.t 26],oM 9 23,oM 10 27,oI 11 0]) (.seq (.seq (.region [oI 12 0]) (.block 0 (.loop w9))) kp)))
theorem Gd : zh Try.prog 34 = some ⟨58, wj, [.slot 6, .slot 7]⟩ := by kernel_rfl
theorem By (p c n : Int) : Am.Fn Try.prog 34 [.int .i64 p, .int .i64 c, .int .i64 n] [] (fun v H' => v = .tup [.int .i64 (Bf p c n).1, .int .i64 (Bf p c n).2] ∧ H' = []) := by
  refine Am.Fn.xp (R := fun v => v = _) qf6 mixed Gd (by simp) (by simp) ?_
  by_cases hf : (zx p = true ∧ 0 ≤ c ∧ c ≤ p - 1) ∧ 1 ≤ n ∧ n ≤ 5
  · by_cases hz : n ≤ jv p c
    · have e' : Bf p c n = ((trU p c 0 (jr p c (n.toNat - 1))).emod p, 0) := by unfold Bf; rw [if_neg (fun h => h hf), if_neg (fun h => h hz)]
      have hC : V0 p c n = 0 := by unfold V0; rw [if_neg (fun h => h hf), if_neg (fun h => h hz)]
      obtain ⟨N, rfl⟩ : ∃ N : Nat, n = N := ⟨n.toNat, by omega⟩
      obtain ⟨⟨hP, hc⟩, hn⟩ := hf
      have hb := uu hP
      have hN : 1 ≤ N ∧ N ≤ 6 := by omega
      have c1 : (1 : Int) ≤ (N : Int) ∧ (N : Int) ≤ 6 := by omega
      have c2 : (N : Int) ≤ ((5 : Nat) : Int) ∧ (N : Int) ≤ (jv p c : Int) := by omega
      rw [Int.toNat_natCast] at e'
      have hg := (Ua (c := c) hb hc (N - 1) (by omega)).1
      rw [show ((N - 1 + 1 : Nat) : Int) = (N : Int) by omega] at hg
      have hlen := V6 hN
      have hL := qae hN
      have hal := ga (n := (N : Int)) hL
      have hrl : (Ym p c N).length = (qd N).length := Vv
      have hrl' := jf (Ym p c N)
      have hp0 : ¬ p = 0 := by omega
      simp (maxSteps := 3000000) only [qf, zH, wj, vv, jh, jg, j4, J6, V9, u0, Xt, u0, hC, hP, hc, hn, c1, c2, qgn, qts, bc, qiq, qb _ _ (zk _), qb _ _ (q6 _), Int.toNat_natCast, and_self, iE, iN, iB, iC, iL, iD, iA, iS, iM, qa, zZ, ↓qp, ↓reduceIte, reduceCtorEq, nA, nM, nS, nE, nL, nD]; try simp only [qa, zY]
      refine WA.xo qf6 (fun s => ∃ i : Nat, i ≤ (qd N).length ∧ s = ⟨[(0, .int .i64 p), (1, .int .i64 c), (9, .slc 0 0 (qd N).length false 0), (10, .slc 1 0 (qd N).length true (qd N).length), (11, .int .i64 ((trD p c N (jr p c (N - 1)) ((qd N).take i)).emod p)), (12, .int .i64 i)], [.vec 17 (wm N (qd N)), .cells (jk (Ym p c N))]⟩)
        (fun s => match get s.env 12 with | .int _ x => (qd N).length - x.toNat | _ => 0) ⟨_, qu.qv [0, 1, 9, 10, 11, 12], 0, by omega, ?_⟩ ?_
      · have e0 : (trD p c N (jr p c (N - 1)) ((qd N).take 0)).emod p = 0 := by
          rw [List.take_zero]; exact Int.zero_emod p
        rw [e0]; rfl
      rintro s ⟨i, hi, rfl⟩
      have hwi : qn .i64 ((i : Int) + 1) = ((i + 1 : Nat) : Int) := by rw [wrap64 (by omega) (by omega)]; rfl
      by_cases hlt : i < (qd N).length
      · have hli : (i : Int) < ((qd N).length : Int) := by omega
        have hi0 : (0 : Int) ≤ (i : Int) := by omega
        have g1 := Kx (n := (N : Int)) hL hlt
        have o1 : okD (qd N)[i] := hL _ (List.getElem_mem hlt)
        have s1 := (X1 hN (List.getElem_mem hlt)).1
        have b1 : i * 17 < (qd N).length * 17 := by omega
        have b2 : i * 17 + 17 ≤ (qd N).length * 17 := by omega
        have hn0 : (0 : Int) ≤ (N : Int) := by omega
        have hpv : (Ym p c N).getD i 0 = cf (qd N)[i] (jr p c (N - 1)) := by unfold Ym vt; rw [Qo hlt]
        have htk := qxq (p := p) (c := c) (a := jr p c (N - 1)) hlt
        have hcb := qzn (m := (qd N)[i]) (zz s1).1
        have hxb := (kz hg (by omega) (qd N)[i]).1
        have bA := Kz (p := p) (by omega) (trD p c N (jr p c (N - 1)) ((qd N).take i))
        generalize hce : clN N (qd N)[i] = K at *
        generalize cf (qd N)[i] (jr p c (N - 1)) = x at *
        generalize hA' : trD p c N (jr p c (N - 1)) ((qd N).take (i + 1)) = A' at *
        generalize trD p c N (jr p c (N - 1)) ((qd N).take i) = A at *
        simp (maxSteps := 3000000) only [qf, zH, w9, vv, jh, jg, j4, J6, V9, u0, Xt, hli, hi0, hlt, hrl, hrl', hpv, hal, b1, b2, g1, hn0, qy o1, s1, hce, Int.toNat_natCast, and_self, iE, iN, iB, iC, iL, iD, iA, iS, iM, qa, zZ, ↓qp, ↓reduceIte, reduceCtorEq, nA, nM, nS, nE, nL, nD]; try simp only [qa, zY]
        refine WA.xo qf6 (fun s => ∃ j : Nat, j ≤ K ∧ s = ⟨[(0, .int .i64 p), (1, .int .i64 c), (9, .slc 0 0 (qd N).length false 0), (10, .slc 1 0 (qd N).length true (qd N).length), (11, .int .i64 (A.emod p)), (12, .int .i64 i), (13, .int .i64 ((x * xa p c j).emod p)), (14, .int .i64 (K - j : Nat))], [.vec 17 (wm N (qd N)), .cells (jk (Ym p c N))]⟩)
          (fun s => match get s.env 14 with | .int _ x => x.toNat | _ => 0) ⟨_, qu.qv [0, 1, 9, 10, 11, 12, 13, 14], 0, by omega, ?_⟩ ?_
        · have e0 : (x * xa p c 0).emod p = x := by
            rw [show xa p c 0 = 1 from rfl, Int.mul_one]; exact Int.emod_eq_of_lt hxb.1 (by omega)
          rw [e0]; rfl
        rintro s ⟨j, hj, rfl⟩
        have bz := Kz (p := p) (by omega) (x * xa p c j)
        by_cases hlj : j < K
        · have hlj' : (0 : Int) < ((K - j : Nat) : Int) := by omega
          have hwj : qn .i64 (((K - j : Nat) : Int) - 1) = ((K - (j + 1) : Nat) : Int) := by rw [wrap64 (by omega) (by omega)]; omega
          obtain ⟨n1, n2, n3, n4⟩ := pow_mul (p := p) (c := c) (x := (x * xa p c j).emod p) hb hc bz
          have hst := qpb (p := p) (c := c) (y := x) (j := j)
          simp (maxSteps := 3000000) only [qf, zH, ya, vv, jh, jg, j4, J6, V9, u0, Xt, hlj', hwj, n1, n2, hst, hp0, and_self, iE, iN, iB, iC, iL, iD, iA, iS, iM, qa, zZ, ↓qp, ↓reduceIte, reduceCtorEq, nA, nM, nS, nE, nL, nD]; try simp only [qa, zY]
          refine ⟨_, qu.qv [0, 1, 9, 10, 11, 12, 13, 14], ⟨j + 1, by omega, ?_⟩, ?_⟩
          · simp only [zL, ↓reduceIte, reduceCtorEq, nE, nA]
          · simp only [zL, ↓reduceIte, reduceCtorEq, nE, nA]; omega
        · have hlj' : ¬ (0 : Int) < ((K - j : Nat) : Int) := by omega
          have ej : j = K := by omega
          subst ej
          have hadd : (A.emod p + (x * xa p c j).emod p).emod p = A'.emod p := by
            rw [htk]
            refine qkp ?_
            rw [Int.mul_comm (xa p c j)]
            exact gw p _
          have w5 : qn .i64 (A.emod p + (x * xa p c j).emod p) = A.emod p + (x * xa p c j).emod p := wrap64 (by omega) (by omega)
          have w6 : (A.emod p + (x * xa p c j).emod p).tmod p = A'.emod p := by rw [Int.tmod_eq_emod_of_nonneg (by omega)]; exact hadd
          simp (maxSteps := 3000000) only [qf, zH, ya, ko, km, vv, jh, jg, j4, J6, V9, u0, Xt, hlj', w5, w6, hp0, hwi, Int.lt_irrefl, and_self, iE, iN, iB, iC, iL, iD, iA, iS, iM, qa, zZ, ↓qp, ↓reduceIte, reduceCtorEq, nA, nM, nS, nE, nL, nD]; try simp only [qa, zY]
          refine ⟨_, qu.qv [0, 1, 9, 10, 11, 12], ⟨i + 1, by omega, ?_⟩, ?_⟩
          · simp only [zL, ↓reduceIte, reduceCtorEq, nE, nA]; rw [hA']
          · simp only [zL, ↓reduceIte, reduceCtorEq, nE, nA]; omega
      · have hli : ¬ (i : Int) < ((qd N).length : Int) := by omega
        have ei : i = (qd N).length := by omega
        subst ei
        have hta := q2y (p := p) (c := c) hN hg
        rw [e']
        simp (maxSteps := 3000000) only [qf, zH, w9, kp, hli, List.take_length, hta, Int.lt_irrefl, iE, iN, iB, iC, iL, iD, iA, iS, iM, qa, zZ, ↓qp, ↓reduceIte, reduceCtorEq, nA, nM, nS, nE, nL, nD]; try simp only [qa, zY]
        trace_state
    · have e' : Bf p c n = (0, 5) := by unfold Bf; rw [if_neg (fun h => h hf), if_pos hz]
      have hC : V0 p c n = 5 := by unfold V0; rw [if_neg (fun h => h hf), if_pos hz]
      rw [e']
      simp (maxSteps := 3000000) only [qf, zH, wj, vv, jh, jg, j4, J6, V9, u0, Xt, hC, and_self, iE, iN, iB, iC, iL, iD, iA, iS, iM, qa, zZ, ↓qp, ↓reduceIte, reduceCtorEq, nA, nM, nS, nE, nL, nD]; try simp only [qa, zY]
  · have e' : Bf p c n = (0, 2) := if_pos hf
    have hC : V0 p c n = 2 := if_pos hf
    rw [e']
    simp (maxSteps := 3000000) only [qf, zH, wj, vv, jh, jg, j4, J6, V9, u0, Xt, hC, and_self, iE, iN, iB, iC, iL, iD, iA, iS, iM, qa, zZ, ↓qp, ↓reduceIte, reduceCtorEq, nA, nM, nS, nE, nL, nD]; try simp only [qa, zY]
noncomputable def qse : List AV → Option AV
  | [.int .i64 p, .int .i64 c, .int .i64 n] => some (.tup [.int .i64 (Bf p c n).1, .int .i64 (Bf p c n).2])
  | _ => none
theorem qus {f : FuncId} (h : ∀ p c n : Int, Am.Fn Try.prog f [.int .i64 p, .int .i64 c, .int .i64 n] [] (fun v H' => v = .tup [.int .i64 (Bf p c n).1, .int .i64 (Bf p c n).2] ∧ H' = [])) : Am.Callee Try.prog f (qk qse) := Am.Callee.plain fun xs v he => by
  unfold qse at he
  split at he
  · rename_i p c n
    cases he
    exact ⟨rfl, rfl, h p c n⟩
  · cases he
noncomputable def q5i : zb := ((qvg.put 34 (qk qse)).put 35 (qk qse))
theorem q1v : qo Try.prog q5i := ((qf6.put (qus By)).put (qus Gb))
theorem Jg : q5i 35 = some (qk qse) := rfl
theorem Jb : q5i 34 = some (qk qse) := rfl
def uq : AC := .seq (.region [oB 6 false]) (.seq (.region [oM 12 0,oM 13 1,oM 14 2,oC 15 34 [.t 12,.t 13,.t 14],oM 11 15,oE 16 0 11,oE 17 1 11,oM 7 16,oM 8 17]) (.seq (.region [oM 19 0,oM 20 1,oM 21 2,oC 22 35 [.t 19,.t 20,.t 21],oM 18 22,oE 23 0 18,oE 24 1 18,oM 9 23,oM 10 24]) (.seq (.seq (.region [oM 25 9,oM 26 7,oP 27 .neq 25 26,oM 28 27,oG 29 28 false (.mov (.t 10)),oG 30 28 false (.mov (.t 8)),oG 31 28 false (.bin .neq (.t 29) (.t 30)),o0 32 (.pick (.t 28) (.c (.bool true)) (.t 31))]) (.cond 32 (.seq (.region [oB 6 false]) .ret) .skip)) (.seq (.region [oB 6 true]) .ret))))
theorem Js : zh Try.prog 9 = some ⟨33, uq, [.slot 6]⟩ := by kernel_rfl
theorem Bz (p c n : Int) : Am.Fn Try.prog 9 [.int .i64 p, .int .i64 c, .int .i64 n] [] (fun v H' => v = .bool true ∧ H' = []) := by
  refine Am.Fn.xp (R := fun v => v = _) q1v mixed Js (by simp) (by simp) ?_
  generalize he : Bf p c n = r
  obtain ⟨B, E⟩ := r
  simp (maxSteps := 3000000) only [qf, zH, uq, Jg, Jb, qse, he, iE, iN, iB, iC, iL, iD, iA, iS, iM, V1, elemV, bc, qb _ _ (qc _), qb _ _ (qg _ _), bne_self_eq_false, qa, zZ, ↓qp, ↓reduceIte, reduceCtorEq, nA, nM, nS, nE, nL, nD]; try simp only [qa, zY]
end Go.Proofs.Ytfhckbbgmblhbaa
namespace Go.Proofs.Ytfhckbbgmblhbaa
open Go.Am
open Nat renaming reduceAdd → nA, reduceMul → nM, reduceSub → nS, reduceEqDiff → nE, reduceLT → nL, reduceLeDiff → nD, reduceBEq → nB
open Int renaming reduceEq → iE, reduceNe → iN, reduceBEq → iB, reduceBNe → iC, reduceLT → iL, reduceLE → iD, reduceAdd → iA, reduceSub → iS, reduceMul → iM
theorem q2r (ι : Nat → Am.Loc) (heap : Array Obj) : HOk ι [] heap := ⟨fun j o h => by simp at h, fun i j b ⟨o, h, _⟩ => by simp at h⟩
end Go.Proofs.Ytfhckbbgmblhbaa
namespace Go.Proofs.Ytfhckbbgmblhbaa.fnExactTraceOfProjection
open Go.ChangeShapes Go.WideShapes Go.ChangeAt Go.RowKit Go.Am Go.Proofs.Ytfhckbbgmblhbaa
set_option linter.unusedVariables false
set_option maxRecDepth 100000
theorem own : ownKnob Try.prog.godebug = none := by kernel_rfl
theorem laidOut : laidOutB Try.prog = true := by kernel_rfl
theorem full : ∀ t e, t < Try.prog.types.size → Try.prog.underlying t = some (.slice e) → 0 < Try.prog.cellsOf e := slices_full_of _ (by kernel_rfl)
theorem qxr (H : Type) (enc : TypeId × Value → H) (W : World) (args : Array Value) (ds gs : List (DataW H)) (before : List MemPlace)
    (hval : ∀ (j : Nat) (t : TypeId) (v : Value), Try.f9.params[j]? = some t → args[j]? = some v → Value.okWide Try.prog W .any 0 t v)
    (hW : DataW.Whole enc Try.prog Try.f9.params.toList Rows.fnExactTraceOfProjectionSpec.vars false W args.toList ds gs before) :
    Calls Try.prog 9 args W fun e W' => ∃ v, e = .returned v ∧ Rows.fnExactTraceOfProjectionSpec.post enc Try.prog Try.f9 false true false false W args v W' := by
  have hW' := hW
  obtain ⟨p, q, hA0, hV, rfl, hfz, hnd⟩ := hW
  have hA : DataW.TrodAll enc Try.prog W 0 (fun _ => true) true Try.f9.params.toList args.toList ds p := hA0
  rw [Try.params9] at hA
  obtain ⟨v1, vs1, d1, ds1, p1, q1, ea1, ed1, _, h1, hA⟩ := trodAll_cons hA
  obtain ⟨v2, vs2, d2, ds2, p2, q2, ea2, ed2, _, h2, hA⟩ := trodAll_cons hA
  obtain ⟨v3, vs3, d3, ds3, p3, q3, ea3, ed3, _, h3, hA⟩ := trodAll_cons hA
  obtain ⟨ea5, ed5, _⟩ := trodAll_nil hA
  have ea : args.toList = [v1, v2, v3] := by rw [ea1, ea2, ea3, ea5]
  have hds : ds = [d1, d2, d3] := by rw [ed1, ed2, ed3, ed5]
  obtain rfl : args = #[v1, v2, v3] := by rw [← Array.toArray_toList (xs := args), ea]
  obtain ⟨n1, rfl, -, -, w1⟩ := open_int (k := .i64) (by kernel_rfl) (hval 0 _ v1 rfl rfl) h1
  obtain ⟨n2, rfl, -, -, w2⟩ := open_int (k := .i64) (by kernel_rfl) (hval 1 _ v2 rfl rfl) h2
  obtain ⟨n3, rfl, -, -, w3⟩ := open_int (k := .i64) (by kernel_rfl) (hval 2 _ v3 rfl rfl) h3
  have hlaw := (Bz n1 n2 n3).mono (R' := fun v _ => v = .bool true) fun v H' h => h.1
  have hc := qu6 hlaw (by simp) (ι := fun _ => Loc.nil) (w := W) (q2r _ _) ⟨trivial, trivial, trivial, trivial⟩
  refine Calls.mono hc fun e W' ⟨he, hk, hh⟩ => ⟨_, he, ?_⟩
  refine qzq hW' rfl ?_ (t := 4) rfl (by kernel_rfl) laidOut full ?_ hk hh
  · subst hds
    obtain ⟨rfl, _⟩ := trodVars_none hV
    exact ⟨rfl, rfl, rfl⟩
  · rw [Try.params9]
    intro t ht
    simp only [List.mem_cons, List.not_mem_nil, or_false] at ht
    rcases ht with rfl | rfl | rfl <;> exact ⟨by kernel_rfl, of_decide_eq_true (by kernel_rfl)⟩
theorem lifted (os : Os) (started : os.Started) (H : Type) (enc : TypeId × Value → H) :
    ReturnsInHanded {} Try.checked os 9 .any (Rows.fnExactTraceOfProjectionSpec.pre6 enc Try.prog Try.f9 Rows.fnExactTraceOfProjectionRow.domain false) (Rows.fnExactTraceOfProjectionSpec.post enc Try.prog Try.f9 false true false false) := by
  refine returnsInHanded_of_change (C := Try.checked) own started (by kernel_rfl) Try.func9
    (ChangeSpec.witness6 (enc := enc) (C := Try.checked) false ⟨#[], #[.int .i64 0, .int .i64 0, .int .i64 0], []⟩ 8 (by kernel_rfl) (by kernel_rfl) (by kernel_rfl) (by kernel_rfl)) ?_
  intro W base args ds gs before hval hW hcnd _
  exact qxr H enc W args ds gs before hval hW
end Go.Proofs.Ytfhckbbgmblhbaa.fnExactTraceOfProjection
namespace Go.Proofs.Ytfhckbbgmblhbaa.fnExactTraceOfProjection
set_option linter.unusedVariables false
set_option maxRecDepth 100000
theorem qw3 : (Rows.fnExactTraceOfProjectionRow.inPlace == Try.pinned.checked.prog.inPlace 9) = true := by kernel_rfl
theorem qmk : (Rows.fnExactTraceOfProjectionRow.unfollowed == Try.pinned.checked.prog.unfollowed 9) = true := by kernel_rfl
theorem qs5 : (Rows.fnExactTraceOfProjectionRow.recurses == Try.pinned.checked.prog.recurses 9) = true := by kernel_rfl
theorem q24 : (Rows.fnExactTraceOfProjectionRow.named == Try.pinned.checked.prog.varsNamed 9) = true := by kernel_rfl
theorem q3x : Try.pinned.checked.prog.stopsHeard = true := by kernel_rfl
theorem q2c : Try.pinned.checked.prog.mayEnter = true := by kernel_rfl
theorem qu2 : (Rows.fnExactTraceOfProjectionRow.lifted == Try.pinned.checked.prog.liftsFinal) = true := by kernel_rfl
theorem q6d : laidOutB Try.pinned.checked.prog = true := by kernel_rfl
theorem q32 : mapsRowed Try.pinned.checked.prog = true := by kernel_rfl
theorem q5f : (Rows.fnExactTraceOfProjectionRow.plainKeys == Try.pinned.checked.prog.plainKeys) = true := by kernel_rfl
end Go.Proofs.Ytfhckbbgmblhbaa.fnExactTraceOfProjection

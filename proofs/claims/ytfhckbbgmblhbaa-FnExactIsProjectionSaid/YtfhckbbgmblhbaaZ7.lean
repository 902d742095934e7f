/- Contracts of functions of the program, and plain laws, part 7: each text of this part is proved without further condition. -/
import Derived.Test.YtfhckbbgmblhbaaZ6
import Derived.Test.YtfhckbbgmblhbaaZ5
import Derived.Test.YtfhckbbgmblhbaaZ2
import Derived.Test.YtfhckbbgmblhbaaAmC
import Derived.OpenShut
import Derived.KernelRfl
import Derived.Test.YtfhckbbgmblhbaaRows
namespace Go.Proofs.Ytfhckbbgmblhbaa
open Go.Am Go.Dia
open Nat renaming reduceAdd → nA, reduceMul → nM, reduceSub → nS, reduceEqDiff → nE, reduceLT → nL, reduceLeDiff → nD, reduceBEq → nB
open Int renaming reduceEq → iE, reduceNe → iN, reduceBEq → iB, reduceBNe → iC, reduceLT → iL, reduceLE → iD, reduceAdd → iA, reduceSub → iS, reduceMul → iM
set_option linter.unusedSimpArgs false
set_option linter.unusedVariables false
set_option maxRecDepth 4000
set_option maxHeartbeats 2000000
noncomputable def qd2 (p c n : Int) (a : List (Int × List Nat × Int)) (i : Nat) : Bool := decide (MP p n (vo p c n a (Xo n i)) = [] ∧ MP p n (vo p c n (Xo n i) a) = [])
noncomputable def prB (p c n : Int) (a : List (Int × List Nat × Int)) : Nat → Bool
  | 0 => true
  | k + 1 => prB p c n a k && qd2 p c n a k
theorem qe8 {p c n : Int} {a : List (Int × List Nat × Int)} {i : Nat} (h : qd2 p c n a i = false) : ∀ {k : Nat}, i < k → prB p c n a k = false
  | k + 1, hi => by
    unfold prB
    by_cases e : i = k
    · subst e; rw [h, Bool.and_false]
    · rw [qe8 h (show i < k by omega), Bool.false_and]
noncomputable def isP (p c n : Int) (a : List (Int × List Nat × Int)) : Bool × Int :=
  if yg p c n a = false then (false, 1) else if 6 < n then (false, 2) else if ¬ cf (gh n.toNat) a = 1 then (false, 0) else (prB p c n a (n.toNat - 1), 0)
theorem qzi {m : List Nat} {a : List (Int × List Nat × Int)} {i : Nat} (h : i < a.length) : cf m (a.take (i + 1)) = cf m (a.take i) + if a[i].2.1 = m then a[i].2.2 else 0 := by
  rw [List.take_succ_eq_append_getElem h, qp2]
  simp only [cf]; omega
theorem qtp {N : Nat} (hN : 1 ≤ N ∧ N ≤ 6) {a : List (Int × List Nat × Int)} (ha : a.Pairwise fun a b => a.2.1 ≠ b.2.1) {i : Nat} (h : i < a.length) (hin : a[i].2.1 ∈ qi N) :
    (bm N (a.take i)).set ((qi N).idxOf a[i].2.1) a[i].2.2 = bm N (a.take (i + 1)) := by
  unfold bm
  rw [Bb hin (Va hN)]
  refine List.map_congr_left fun m hm => ?_
  rw [qzi h]
  split
  · rename_i e
    rw [if_pos e.symm]
    have : cf m (a.take i) = 0 := qa3 fun t ht e2 => by
      obtain ⟨j, hj, rfl⟩ := List.getElem_of_mem ht
      rw [List.length_take] at hj
      rw [List.getElem_take] at e2
      have := List.pairwise_iff_getElem.1 ha j i (by omega) h (by omega)
      exact this (e2.trans e)
    rw [this]; omega
  · rename_i e
    rw [if_neg fun h => e h.symm]
    omega
theorem qui {N : Nat} : bm N [] = List.replicate (qi N).length 0 := by
  rw [qrm]; rfl
theorem xi : qnc 78 = some (Gk Jp) := rfl
theorem xk : qnc 84 = some (qm Zi) := rfl
theorem xf : qnc 83 = some (qm jl) := rfl
theorem xq : qnc 81 = some (xx) := rfl
theorem zw : qnc 82 = some (ud) := rfl
theorem zz : qnc 85 = some (Jv) := rfl
def yu : AC := .seq (.seq (.region [oM 26 6,oF 27 3 1,oL 28 27,o0 29 (.len .slc (.t 28)),oP 30 .lss 26 29]) (.cond 30 .skip (.exit 1))) (.seq (.block 2 (.draw true [oM 33 5,oM 34 4,oF 35 3 1,oL 36 35,oM 37 6,oX 38 18 36 37,oF 39 0 38,oN 40 17 39,oF 42 3 1,oL 43 42,oM 44 6,oX 45 18 43 44,oF 46 17 45,oL 47 46,oC 41 82 [.t 34,.t 40],oX 48 1 33 41,oT 48 47])) (.region [oM 31 6,oK 32 .add 31 1,oM 6 32]))
def v8 : AC := .seq (.seq (.region [oM 92 11,oM 93 4,o0 94 (.len .slc (.t 93)),oP 95 .lss 92 94]) (.cond 95 .skip (.exit 5))) (.seq (.block 6 (.seq (.region [oM 98 9,oM 99 11,oX 100 1 98 99,oL 101 100,oK 102 .neq 101 0,oM 103 102,oG 104 103 false (.mov (.t 10)),oG 105 103 false (.mov (.t 11)),oG 106 103 false (.Q9 1 (.t 104) (.t 105)),oG 107 103 false (.wy (.t 106)),oG 108 103 false (.bin .neq (.t 107) (.c (.int .i64 0))),o0 109 (.pick (.t 103) (.c (.bool true)) (.t 108))]) (.cond 109 (.seq (.region [oB 2 false,oI 3 0]) .ret) .skip))) (.region [oM 96 11,oK 97 .add 96 1,oM 11 97]))
def X3 : AC := .region [oM 63 7,oK 64 .add 63 1,oM 7 64]
def kl : AC := .seq (.seq (.region [oM 58 7,oF 59 2 1,oL 60 59,oK 61 .sub 60 1,oP 62 .lss 58 61]) (.cond 62 .skip (.exit 3))) (.seq (.block 4 (.seq (.region [oM 65 4,o0 66 (.len .slc (.t 65)),o0 67 (.kx 1 8 [.int .i64 0] (.t 66) (.t 66)),oM 8 67]) (.seq (.region [oM 68 8,oM 69 4,oF 70 2 1,oL 71 70,oM 72 7,oC 73 84 [.t 71,.t 72],oC 74 82 [.t 69,.t 73],oX 75 1 68 74,⟨none,none,.op (.Qz (.t 75) (.c (.int .i64 1)))⟩]) (.seq (.draw true [oF 76 0 1,oL 77 76,oF 78 1 1,oL 79 78,oM 80 4,oM 81 8,oM 82 5,oF 84 0 1,oL 85 84,oF 86 1 1,oL 87 86,oM 88 4,oM 89 5,oM 90 8,oC 83 85 [.t 77,.t 79,.t 80,.t 81,.t 82],oC 91 85 [.t 85,.t 87,.t 88,.t 89,.t 90],oM 9 83,oM 10 91]) (.seq (.region [oI 11 0]) (.block 5 (.loop v8))))))) X3)
def Xx : AC := .seq (.region [oB 2 true,oI 3 0]) .ret
def km : AC := .seq (.seq (.region [oM 49 5,oM 50 4,oF 51 2 1,oL 52 51,oC 53 83 [.t 52],oC 54 82 [.t 50,.t 53],oX 55 1 49 54,oL 56 55,oK 57 .neq 56 1]) (.cond 57 (.seq (.region [oB 2 false,oI 3 0]) .ret) .skip)) (.seq (.seq (.region [oI 7 0]) (.block 3 (.loop kl))) Xx)
def ki : AC := .seq (.region [o0 1 (.box (.t 0)),oB 2 false,oI 3 0]) (.seq (.block 0 (.seq (.region [oN 13 4 1,oC 14 81 [.t 13],o0 15 (.un .not (.t 14)),oM 12 15]) (.cond 12 (.seq (.region [oB 2 false,oI 3 1]) .ret) (.seq (.region [oF 17 2 1,oL 18 17,oK 19 .gtr 18 6,oM 16 19]) (.cond 16 (.seq (.region [oB 2 false,oI 3 2]) .ret) .skip))))) (.seq (.region [oF 20 2 1,oL 21 20,oC 22 78 [.t 21],oM 4 22]) (.seq (.region [oM 23 4,o0 24 (.len .slc (.t 23)),o0 25 (.kx 1 8 [.int .i64 0] (.t 24) (.t 24)),oM 5 25]) (.seq (.seq (.region [oI 6 0]) (.block 1 (.loop yu))) km))))
theorem qbp : zr Try.prog 36 = some ⟨110, ki, [.slot 2, .slot 3]⟩ := by kernel_rfl
theorem qbv (p c n : Int) (a : List (Int × List Nat × Int)) (ha : okT a) (hl : a.length ≤ 1100000) :
    Am.Fn Try.prog 36 [elemV p c n 0 a.length] [.ro (zk a)] (fun v H' => v = .tup [.bool (isP p c n a).1, .int .i64 (isP p c n a).2] ∧ H' = [.ro (zk a)]) := by
  refine Am.Fn.jd (R := fun v => v = _) qan mixed qbp (by simp) (ku (qd _)) ?_
  have hal := zg ha
  have hts := gv ha
  have hle : a.length ≤ 1000000000 := by omega
  cases hE : yg p c n a with
  | false =>
    have e : isP p c n a = (false, 1) := if_pos hE
    rw [e]
    simp (maxSteps := 3000000) only [qg, zH, ki, xi, xk, xf, xq, zw, zz, Jp, Zi, xx, ud, Jv, jl, elemV, hal, hts, hle, hE, iE, iN, iB, iC, iL, iD, iA, iS, iM, qa, zZ, ↓qo, ↓reduceIte, reduceCtorEq, nA, nM, nS, nE, nL, nD]; try simp only [qa, zY]
    exact ⟨_, rfl⟩
  | true =>
    by_cases h6 : 6 < n
    · have e : isP p c n a = (false, 2) := by unfold isP; rw [if_neg (by rw [hE]; simp), if_pos h6]
      rw [e]
      simp (maxSteps := 3000000) only [qg, zH, ki, xi, xk, xf, xq, zw, zz, Jp, Zi, xx, ud, Jv, jl, elemV, hal, hts, hle, hE, h6, iE, iN, iB, iC, iL, iD, iA, iS, iM, qa, zZ, ↓qo, ↓reduceIte, reduceCtorEq, nA, nM, nS, nE, nL, nD]; try simp only [qa, zY]
      exact ⟨_, rfl⟩
    · obtain ⟨h1, h2, h3, h4⟩ := qrl hE
      have hg := qk7 ha hE
      have hap := qfc (fun t ht => (hg.dia t ht).1) hg.up
      obtain ⟨N, rfl⟩ : ∃ N : Nat, n = N := ⟨n.toNat, by omega⟩
      have hN : 1 ≤ N ∧ N ≤ 6 := by omega
      have c1 : (1 : Int) ≤ (N : Int) ∧ (N : Int) ≤ 6 := by omega
      have c3 : (0 : Int) ≤ (N : Int) ∧ (N : Int) ≤ 8 := by omega
      have hlen := Bm hN
      have hL := qd9 hN
      have hdl := Z5 (n := (N : Int)) hL
      have hls := qlw hN
      have hinA := qed hN rfl hg
      have z1 : ((qi N).length : Int) * ((8 : Nat) : Int) ≤ 281474976710656 := by omega
      have hn1 : bm N (a.take 0) = List.replicate (qi N).length 0 := qui
      simp (maxSteps := 3000000) only [qg, zH, ki, xi, xk, xf, xq, zw, zz, Jp, Zi, xx, ud, Jv, jl, elemV, hal, hts, hle, hE, h6, c1, z1, qbf, ← hn1, q2k, U5, qc _ _ (xj _), Int.toNat_natCast, and_self, iE, iN, iB, iC, iL, iD, iA, iS, iM, qa, zZ, ↓qo, ↓reduceIte, reduceCtorEq, nA, nM, nS, nE, nL, nD]; try simp only [qa, zY]
      refine ⟨by omega, ?_⟩
      refine WA.jn qan (fun s => ∃ i : Nat, i ≤ a.length ∧ s = ⟨[(1, .ptr 1 0), (4, .slc 2 0 (qi N).length false 0), (5, .slc 3 0 (qi N).length true (qi N).length), (6, .int .i64 i)], [.ro (zk a), .cells [.int .i64 p, .int .i64 c, .int .i64 N, .slc 0 0 a.length false 0], .vec 17 (u9 N (qi N)), .cells (u0 (bm N (a.take i)))]⟩)
        (fun s => match get s.env 6 with | .int _ x => a.length - x.toNat | _ => 0) ⟨_, qz.qx [1, 4, 5, 6], 0, by omega, rfl⟩ ?_
      rintro s ⟨i, hi, rfl⟩
      have hwi : qu .i64 ((i : Int) + 1) = ((i + 1 : Nat) : Int) := by rw [wrap64 (by omega) (by omega)]; rfl
      by_cases hlt : i < a.length
      · have hli : (i : Int) < (a.length : Int) := by omega
        have hi0 : (0 : Int) ≤ (i : Int) := by omega
        have hd := Yg ha hlt
        have hf := qk8 ha hlt
        have hok := ha _ (List.getElem_mem hlt)
        have hsz := (hg.dia _ (List.getElem_mem hlt)).1
        have hin := hinA _ (List.getElem_mem hlt)
        rw [hsz] at hd
        have hput := qtp hN hap hlt hin
        have hb1 : i * 18 < a.length * 18 := by omega
        have hb2 : i * 18 + 17 ≤ a.length * 18 := by omega
        have hb3 : i * 18 + 17 < a.length * 18 := by omega
        have hb4 : i * 18 + 18 ≤ a.length * 18 := by omega
        have hq : (qi N).idxOf a[i].2.1 < (qi N).length := List.idxOf_lt_length_of_mem hin
        have hq0 : (0 : Int) ≤ (((qi N).idxOf a[i].2.1 : Nat) : Int) := by omega
        have hqK : (((qi N).idxOf a[i].2.1 : Nat) : Int) < ((qi N).length : Int) := by omega
        have hrl := Wn (N := N) (a := a.take i)
        have hrl' := yk (bm N (a.take i))
        simp (maxSteps := 3000000) only [qg, zH, yu, xi, xk, xf, xq, zw, zz, Jp, Zi, xx, ud, Jv, jl, hli, hi0, hal, hd, hf, hb1, hb2, hb3, hb4, hls, qq hok, hin, hq, hq0, hqK, hrl, hrl', hput, hwi, qen, qb, hok.1, Int.toNat_natCast, and_self, iE, iN, iB, iC, iL, iD, iA, iS, iM, qa, zZ, ↓qo, ↓reduceIte, reduceCtorEq, nA, nM, nS, nE, nL, nD]; try simp only [qa, zY]
        repeat' refine And.intro (by first | rfl | exact ⟨_, rfl⟩) ?_
        refine ⟨_, qz.qx [1, 4, 5, 6], ⟨i + 1, by omega, ?_⟩, ?_⟩
        · simp only [zL, ↓reduceIte, reduceCtorEq, nE, nA]
        · simp only [zL, ↓reduceIte, reduceCtorEq, nE, nA]; omega
      · have hli : ¬ (i : Int) < (a.length : Int) := by omega
        have ei : i = a.length := by omega
        subst ei
        rw [List.take_length]
        have hu := Bj (n := N) (by omega)
        have hui := qyh (n := N) (by omega)
        have huin : gh N ∈ qi N := qbc hui hu.1
        have hq : (qi N).idxOf (gh N) < (qi N).length := List.idxOf_lt_length_of_mem huin
        have hq0 : (0 : Int) ≤ (((qi N).idxOf (gh N) : Nat) : Int) := by omega
        have hqK : (((qi N).idxOf (gh N) : Nat) : Int) < ((qi N).length : Int) := by omega
        have hrl := Wn (N := N) (a := a)
        have hrl' := yk (bm N a)
        have huv : (bm N a).getD ((qi N).idxOf (gh N)) 0 = cf (gh N) a := by unfold bm; rw [Ui huin]
        by_cases hone : cf (gh N) a = 1
        · have hob : (cf (gh N) a == 1) = true := by simp [hone]
          have e : isP p c (N : Int) a = (prB p c N a (N - 1), 0) := by unfold isP; rw [if_neg (by rw [hE]; simp), if_neg h6, Int.toNat_natCast, if_neg (fun h => h hone)]
          rw [e]
          simp (maxSteps := 3000000) only [qg, zH, yu, km, xi, xk, xf, xq, zw, zz, Jp, Zi, xx, ud, Jv, jl, hli, c3, hls, qq hu, huin, hq, hq0, hqK, hrl, hrl', huv, hob, hone, Int.lt_irrefl, Int.toNat_natCast, and_self, iE, iN, iB, iC, iL, iD, iA, iS, iM, qa, zZ, ↓qo, ↓reduceIte, reduceCtorEq, nA, nM, nS, nE, nL, nD]; try simp only [qa, zY]
          have hw1 : qu .i64 ((N : Int) - 1) = ((N - 1 : Nat) : Int) := by rw [wrap64 (by omega) (by omega)]; omega
          refine WA.jn qan (fun s => ∃ k : Nat, k ≤ N - 1 ∧ prB p c N a k = true ∧ s = ⟨[(1, .ptr 1 0), (4, .slc 2 0 (qi N).length false 0), (5, .slc 3 0 (qi N).length true (qi N).length), (7, .int .i64 k)], [.ro (zk a), .cells [.int .i64 p, .int .i64 c, .int .i64 N, .slc 0 0 a.length false 0], .vec 17 (u9 N (qi N)), .cells (u0 (bm N a))]⟩)
            (fun s => match get s.env 7 with | .int _ x => N - x.toNat | _ => 0) ⟨_, qz.qx [1, 4, 5, 7], 0, by omega, rfl, rfl⟩ ?_
          clear hli hlt hi hwi
          rintro s ⟨k, hk, hpk, rfl⟩
          have hwk : qu .i64 ((k : Int) + 1) = ((k + 1 : Nat) : Int) := by rw [wrap64 (by omega) (by omega)]; rfl
          by_cases hlt : k < N - 1
          · have hli : (k : Int) < ((N - 1 : Nat) : Int) := by omega
            have c5 : (N : Int) ≤ 8 ∧ (0 : Int) ≤ (k : Int) ∧ (k : Int) + 1 < (N : Int) := by omega
            have hgt := qhl (p := p) (n := (N : Int)) h1.1 h3 (show k + 1 < (N : Int).toNat by rw [Int.toNat_natCast]; omega)
            have hGe : Xo (N : Int) k = [((N : Int), Uv N k, 1)] := by simp [Xo]
            have hgo := qac (n := N) (i := k) (by omega) (by omega)
            have hgin : Uv N k ∈ qi N := qbc (qrt (by omega) (by omega)) hgo.1
            have hur := row_one hN hgin
            rw [← hGe] at hur
            have hqg : (qi N).idxOf (Uv N k) < (qi N).length := List.idxOf_lt_length_of_mem hgin
            have hqg0 : (0 : Int) ≤ (((qi N).idxOf (Uv N k) : Nat) : Int) := by omega
            have hqgK : (((qi N).idxOf (Uv N k) : Nat) : Int) < ((qi N).length : Int) := by omega
            have hl1 : a.length ≤ 300 := by omega
            have tX := qh1 (c := c) h1 h2 hN hg hgt
            have tY := qh1 (c := c) h1 h2 hN hgt hg
            have hXg := (qi0 (c := c) h1 h2 hg hgt ⟨hl1, by simp [Xo]⟩).1
            have hYg := (qi0 (c := c) h1 h2 hgt hg ⟨by simp [Xo], hl1⟩).1
            have hzd : qd2 p c N a k = decide (MP p N (vo p c N a (Xo N k)) = [] ∧ MP p N (vo p c N (Xo N k) a) = []) := rfl
            have hps : prB p c N a (k + 1) = (prB p c N a k && qd2 p c N a k) := rfl
            generalize MP p N (vo p c N a (Xo N k)) = X at *
            generalize MP p N (vo p c N (Xo N k) a) = Y at *
            generalize Xo (N : Int) k = G at *
            have r1 : qxa p (bm N a) := qrq (by omega) hg
            have r2 : qxa p (bm N G) := qrq (by omega) hgt
            have l1 := Wn (N := N) (a := G)
            have l2 := Wn (N := N) (a := X)
            have l3 := Wn (N := N) (a := Y)
            have l2' := yk (bm N X)
            have l3' := yk (bm N Y)
            have hrep := List.length_replicate (n := (qi N).length) (a := (0 : Int))
            have hrep' := yk (List.replicate (qi N).length (0 : Int))
            have hwf : ∀ L, qnx (u0 L) = some L := qh7
            have z2 : (0 : Int) ≤ ((qi N).length : Int) ∧ ((qi N).length : Int) ≤ ((qi N).length : Int) := by omega
            simp (maxSteps := 3000000) only [qg, zH, kl, xi, xk, xf, xq, zw, zz, Jp, Zi, xx, ud, Jv, jl, hw1, hli, z1, z2, c5, hls, qq hgo, hgin, hqg, hqg0, hqgK, hrep, hrep', hur, hwf, h1, h2, tX, tY, r1, r2, l1, hrl, qbf, qen, Int.toNat_natCast, and_self, iE, iN, iB, iC, iL, iD, iA, iS, iM, qa, zZ, ↓qo, ↓reduceIte, reduceCtorEq, nA, nM, nS, nE, nL, nD]; try simp only [qa, zY]
            repeat' refine And.intro (by first | rfl | exact ⟨_, rfl⟩) ?_
            refine WA.jn qan (fun s => ∃ i : Nat, i ≤ (qi N).length ∧ (∀ j, j < i → (bm N X).getD j 0 = 0 ∧ (bm N Y).getD j 0 = 0) ∧ s = ⟨[(1, .ptr 1 0), (4, .slc 2 0 (qi N).length false 0), (5, .slc 3 0 (qi N).length true (qi N).length), (7, .int .i64 k), (9, .slc 4 0 (qi N).length true (qi N).length), (10, .slc 5 0 (qi N).length true (qi N).length), (11, .int .i64 i)], [.ro (zk a), .cells [.int .i64 p, .int .i64 c, .int .i64 N, .slc 0 0 a.length false 0], .vec 17 (u9 N (qi N)), .cells (u0 (bm N a)), .cells (u0 (bm N Y)), .cells (u0 (bm N X))]⟩)
              (fun s => match get s.env 11 with | .int _ x => (qi N).length - x.toNat | _ => 0) ⟨_, qz.can [1, 4, 5, 7, 9, 10, 11] (by simp only [z6 _ (xj _), z6 _ (xc _), z6 _ (qd _), U6, zC, nB, nD, nA, nE, ↓reduceIte, reduceCtorEq]; rfl), 0, by omega, by omega, ?_⟩ ?_
            · simp only [qc _ _ (xj _), qc _ _ (xc _), qc _ _ (qd _), zL, ↓reduceIte, reduceCtorEq, nE, nA]
              rfl
            rintro s ⟨i, hi, hzz, rfl⟩
            have hwi : qu .i64 ((i : Int) + 1) = ((i + 1 : Nat) : Int) := by rw [wrap64 (by omega) (by omega)]; rfl
            by_cases hlt' : i < (qi N).length
            · have hli' : (i : Int) < ((qi N).length : Int) := by omega
              have hi0 : (0 : Int) ≤ (i : Int) := by omega
              have hno : ∀ Z : List (Int × List Nat × Int), (bm N Z).getD i 0 ≠ 0 → Z ≠ [] := fun Z h0 hZ => by
                subst hZ
                apply h0
                unfold bm
                rw [qpi hlt']
                rfl
              by_cases hy : (bm N Y).getD i 0 = 0
              · have hyb : ((bm N Y).getD i 0 == 0) = true := beq_iff_eq.2 hy
                by_cases hx : (bm N X).getD i 0 = 0
                · have hxb : ((bm N X).getD i 0 == 0) = true := beq_iff_eq.2 hx
                  simp (maxSteps := 3000000) only [qg, zH, v8, xi, xk, xf, xq, zw, zz, Jp, Zi, xx, ud, Jv, jl, hli', hi0, hlt', l2, l3, l2', l3', hy, hx, hyb, hxb, hwi, and_self, iE, iN, iB, iC, iL, iD, iA, iS, iM, qa, zZ, ↓qo, ↓reduceIte, reduceCtorEq, nA, nM, nS, nE, nL, nD]; try simp only [qa, zY]
                  refine ⟨_, qz.qx [1, 4, 5, 7, 9, 10, 11], ⟨i + 1, by omega, fun j hj => ?_, ?_⟩, ?_⟩
                  · by_cases e : j = i
                    · subst e; exact ⟨hx, hy⟩
                    · exact hzz j (by omega)
                  · simp only [zL, ↓reduceIte, reduceCtorEq, nE, nA]
                  · simp only [zL, ↓reduceIte, reduceCtorEq, nE, nA]; omega
                · have hxb : ((bm N X).getD i 0 == 0) = false := beq_false_of_ne hx
                  have hzf : qd2 p c N a k = false := by rw [hzd]; exact decide_eq_false fun h => hno X hx h.1
                  have hpf := qe8 hzf hlt
                  simp (maxSteps := 3000000) only [qg, zH, v8, xi, xk, xf, xq, zw, zz, Jp, Zi, xx, ud, Jv, jl, hli', hi0, hlt', l2, l3, l2', l3', hy, hx, hyb, hxb, hpf, and_self, iE, iN, iB, iC, iL, iD, iA, iS, iM, qa, zZ, ↓qo, ↓reduceIte, reduceCtorEq, nA, nM, nS, nE, nL, nD]; try simp only [qa, zY]
                  exact ⟨_, rfl⟩
              · have hyb : ((bm N Y).getD i 0 == 0) = false := beq_false_of_ne hy
                have hzf : qd2 p c N a k = false := by rw [hzd]; exact decide_eq_false fun h => hno Y hy h.2
                have hpf := qe8 hzf hlt
                simp (maxSteps := 3000000) only [qg, zH, v8, xi, xk, xf, xq, zw, zz, Jp, Zi, xx, ud, Jv, jl, hli', hi0, hlt', l2, l3, l2', l3', hy, hyb, hpf, and_self, iE, iN, iB, iC, iL, iD, iA, iS, iM, qa, zZ, ↓qo, ↓reduceIte, reduceCtorEq, nA, nM, nS, nE, nL, nD]; try simp only [qa, zY]
                exact ⟨_, rfl⟩
            · have hli' : ¬ (i : Int) < ((qi N).length : Int) := by omega
              have hall : ∀ (Z : List (Int × List Nat × Int)), (∀ j, j < i → (bm N Z).getD j 0 = 0) → ∀ x ∈ bm N Z, x = 0 := fun Z h x hx => by
                obtain ⟨j, hj, rfl⟩ := List.getElem_of_mem hx
                have := h j (by rw [Wn] at hj; omega)
                rwa [List.getD_eq_getElem?_getD, List.getElem?_eq_getElem hj] at this
              have eX : X = [] := (qii (by omega) hN hXg).1 (hall X fun j hj => (hzz j hj).1)
              have eY : Y = [] := (qii (by omega) hN hYg).1 (hall Y fun j hj => (hzz j hj).2)
              have hzt : qd2 p c N a k = true := by rw [hzd]; exact decide_eq_true ⟨eX, eY⟩
              have ei : i = (qi N).length := by omega
              subst ei
              simp (maxSteps := 3000000) only [qg, zH, v8, X3, xi, xk, xf, xq, zw, zz, Jp, Zi, xx, ud, Jv, jl, hli', hwk, Int.lt_irrefl, iE, iN, iB, iC, iL, iD, iA, iS, iM, qa, zZ, ↓qo, ↓reduceIte, reduceCtorEq, nA, nM, nS, nE, nL, nD]; try simp only [qa, zY]
              refine ⟨_, qz.can [1, 4, 5, 7] (by simp only [z6 _ (xj _), z6 _ (xc _), z6 _ (qd _), U6, zC, nB, nD, nA, nE, ↓reduceIte, reduceCtorEq]; rfl), ⟨k + 1, by omega, by rw [hps, hpk, hzt]; rfl, ?_⟩, ?_⟩
              · simp only [qc _ _ (xj _), qc _ _ (xc _), qc _ _ (qd _), zL, ↓reduceIte, reduceCtorEq, nE, nA]
              · simp only [zL, ↓reduceIte, reduceCtorEq, nE, nA]; omega
          · have hli : ¬ (k : Int) < ((N - 1 : Nat) : Int) := by omega
            have ek : k = N - 1 := by omega
            subst ek
            rw [hpk]
            simp (maxSteps := 3000000) only [qg, zH, kl, Xx, hw1, hli, Int.lt_irrefl, iE, iN, iB, iC, iL, iD, iA, iS, iM, qa, zZ, ↓qo, ↓reduceIte, reduceCtorEq, nA, nM, nS, nE, nL, nD]; try simp only [qa, zY]
            exact ⟨_, rfl⟩
        · have hob : (cf (gh N) a == 1) = false := by simp [hone]
          have e : isP p c (N : Int) a = (false, 0) := by unfold isP; rw [if_neg (by rw [hE]; simp), if_neg h6, Int.toNat_natCast, if_pos hone]
          rw [e]
          simp (maxSteps := 3000000) only [qg, zH, yu, km, xi, xk, xf, xq, zw, zz, Jp, Zi, xx, ud, Jv, jl, hli, c3, hls, qq hu, huin, hq, hq0, hqK, hrl, hrl', huv, hob, hone, Int.lt_irrefl, Int.toNat_natCast, and_self, iE, iN, iB, iC, iL, iD, iA, iS, iM, qa, zZ, ↓qo, ↓reduceIte, reduceCtorEq, nA, nM, nS, nE, nL, nD]; try simp only [qa, zY]
          exact ⟨_, rfl⟩
noncomputable def qog : za := (qnc.put 89 (Jk))
theorem qi8 : qn Try.prog qog := (qan.put (q24))
theorem zm : qog 87 = some (Ze) := rfl
theorem jg : qog 86 = some (xx) := rfl
theorem x9 : qog 90 = some (U3) := rfl
theorem wx : qog 88 = some (qm jl) := rfl
theorem zq : qog 89 = some (Jk) := rfl
theorem qmf {L r : List AO} {o : AO} (h : L[0]? = some o) : ∃ x, L ++ r = o :: x := by
  cases L with
  | nil => simp at h
  | cons y l =>
    simp only [List.getElem?_cons_zero, Option.some.injEq] at h
    subst h
    exact ⟨_, rfl⟩
def v7 : AC := .seq (.region [oP 22 .lss 21 20]) (.seq (.cond 22 .skip (.exit 1)) (.seq (.block 2 (.seq (.region [oX 23 4 19 21,oN 24 4 23,oZ 5,oS 4 5 24]) (.seq (.region [oN 25 4 1,oN 26 4 5,oC 27 90 [.t 25,.t 26],o0 28 (.field 3 1 false (.t 27)),o0 29 (.len .slc (.t 28)),oK 30 .gtr 29 0,oM 31 30,oG 32 31 false (.Qq 4 (.t 5)),oG 33 31 false (.Qq 4 (.t 1)),⟨some 34,some (31,false),.call (.c (.fn 90 [] [])) [.t 32,.t 33]⟩,oG 35 31 false (.field 3 1 false (.t 34)),oG 36 31 false (.len .slc (.t 35)),oG 37 31 false (.bin .gtr (.t 36) (.c (.int .i64 0))),o0 38 (.pick (.t 31) (.c (.bool true)) (.t 37))]) (.cond 38 (.seq (.region [oB 2 false,oI 3 0]) .ret) .skip)))) (.region [oK 39 .add 21 1,oM 21 39])))
def Xy : AC := .seq (.region [oB 2 true,oI 3 0]) .ret
def ub : AC := .seq (.region [o0 1 (.box (.t 0)),oB 2 false,oI 3 0]) (.seq (.block 0 (.seq (.region [oN 7 4 1,oC 8 86 [.t 7],o0 9 (.un .not (.t 8)),oM 6 9]) (.cond 6 (.seq (.region [oB 2 false,oI 3 1]) .ret) (.seq (.region [oF 11 2 1,oL 12 11,oK 13 .gtr 12 6,oM 10 13]) (.cond 10 (.seq (.region [oB 2 false,oI 3 2]) .ret) .skip))))) (.seq (.seq (.region [oF 14 2 1,oL 15 14,oC 16 88 [.t 15],oC 17 87 [.t 1,.t 16],oK 18 .neq 17 1]) (.cond 18 (.seq (.region [oB 2 false,oI 3 0]) .ret) .skip)) (.seq (.seq (.region [oC 19 89 [.t 1],o0 20 (.len .slc (.t 19)),oI 21 0]) (.block 1 (.loop v7))) Xy)))
theorem qb5 : zr Try.prog 37 = some ⟨40, ub, [.slot 2, .slot 3]⟩ := by kernel_rfl
theorem qcf (p c n : Int) (a : List (Int × List Nat × Int)) (ha : okT a) (hl : a.length ≤ 1100000) :
    Am.Fn Try.prog 37 [elemV p c n 0 a.length] [.ro (zk a)] (fun v H' => v = .tup [.bool (isP p c n a).1, .int .i64 (isP p c n a).2] ∧ H' = [.ro (zk a)]) := by
  refine Am.Fn.jd (R := fun v => v = _) qi8 mixed qb5 (by simp) (ku (qd _)) ?_
  have hal := zg ha
  have hts := gv ha
  have hle : a.length ≤ 1000000000 := by omega
  cases hE : yg p c n a with
  | false =>
    have e : isP p c n a = (false, 1) := if_pos hE
    rw [e]
    simp (maxSteps := 3000000) only [qg, zH, ub, zm, jg, x9, wx, zq, Ze, Jk, xx, U3, jl, elemV, hal, hts, hle, hE, iE, iN, iB, iC, iL, iD, iA, iS, iM, qa, zZ, ↓qo, ↓reduceIte, reduceCtorEq, nA, nM, nS, nE, nL, nD]; try simp only [qa, zY]
    exact ⟨_, rfl⟩
  | true =>
    by_cases h6 : 6 < n
    · have e : isP p c n a = (false, 2) := by unfold isP; rw [if_neg (by rw [hE]; simp), if_pos h6]
      rw [e]
      simp (maxSteps := 3000000) only [qg, zH, ub, zm, jg, x9, wx, zq, Ze, Jk, xx, U3, jl, elemV, hal, hts, hle, hE, h6, iE, iN, iB, iC, iL, iD, iA, iS, iM, qa, zZ, ↓qo, ↓reduceIte, reduceCtorEq, nA, nM, nS, nE, nL, nD]; try simp only [qa, zY]
      exact ⟨_, rfl⟩
    · obtain ⟨h1, h2, h3, h4⟩ := qrl hE
      have hg := qk7 ha hE
      have hg1 := hg.dec
      have c0 : 0 ≤ n ∧ n ≤ 8 := by omega
      have hl1 : a.length ≤ 300 := by omega
      have hu := Bj (n := n.toNat) (by omega)
      by_cases hone : cf (gh n.toNat) a = 1
      · have hob : (cf (gh n.toNat) a == 1) = true := beq_iff_eq.2 hone
        have e : isP p c n a = (prB p c n a (n.toNat - 1), 0) := by unfold isP; rw [if_neg (by rw [hE]; simp), if_neg h6, if_neg (fun h => h hone)]
        rw [e]
        simp (maxSteps := 3000000) only [qg, zH, ub, zm, jg, x9, wx, zq, Ze, Jk, xx, U3, jl, elemV, hal, hts, hle, hE, h6, c0, hl1, hg1, qq hu, hone, hob, h1, h3, and_self, iE, iN, iB, iC, iL, iD, iA, iS, iM, qa, zZ, ↓qo, ↓reduceIte, reduceCtorEq, nA, nM, nS, nE, nL, nD]; try simp only [qa, zY]
        refine WA.jn qi8 (fun s => ∃ i : Nat, i ≤ n.toNat - 1 ∧ prB p c n a i = true ∧ s = ⟨[(1, .ptr 1 0), (19, .slc (2 + (n.toNat - 1)) 0 (n.toNat - 1) false 0), (20, .int .i64 (n.toNat - 1 : Nat)), (21, .int .i64 i)], Gm p c n a⟩)
          (fun s => match get s.env 21 with | .int _ x => 8 - x.toNat | _ => 0) ⟨_, qz.qx [1, 19, 20, 21], 0, by omega, rfl, rfl⟩ ?_
        rintro s ⟨i, hi, hpi, rfl⟩
        have hw : qu .i64 ((i : Int) + 1) = ((i + 1 : Nat) : Int) := by rw [wrap64 (by omega) (by omega)]; rfl
        have hLok := qzs (p := p) (c := c) (n := n) (a := a)
        have hlen := qcr (p := p) (c := c) (n := n) (a := a)
        have hLn : 1 ≤ (Gm p c n a).length := by omega
        have hL0 : ∀ r, (Gm p c n a ++ r)[0]? = some (.ro (zk a)) := fun r => rfl
        have hL1 : ∀ r, (Gm p c n a ++ r)[1]? = some (.cells [.int .i64 p, .int .i64 c, .int .i64 n, .slc 0 0 a.length false 0]) := fun r => rfl
        have hLv := qw0 (p := p) (c := c) (n := n) (a := a)
        have hv : 2 + (n.toNat - 1) < (Gm p c n a).length := by omega
        have h01 : 1 < (Gm p c n a).length := by omega
        have h00 : 0 < (Gm p c n a).length := by omega
        have hL0n := hL0 []
        have hL1n := hL1 []
        have hLvn := hLv []
        have hcl := Zw (p := p) (c := c) (n := n) (base := 2) (n.toNat - 1)
        by_cases hlt : i < n.toNat - 1
        · have hli : (i : Int) < ((n.toNat - 1 : Nat) : Int) := by omega
          have hi0 : (0 : Int) ≤ i := by omega
          have hi8 : i < 8 := by omega
          have hLg := qxn (p := p) (c := c) (a := a) c0.1 hlt
          have hLgn := hLg []
          have hgt := qhl (p := p) h1.1 h3 (show i + 1 < n.toNat by omega)
          have hg2 := hgt.dec
          have hgl := qv9 (p := p) (c := c) (n := n) (base := 2) hlt
          have hb1 : i * 4 < (n.toNat - 1) * 4 := by omega
          have hb2 : i * 4 + 4 ≤ (n.toNat - 1) * 4 := by omega
          have hgv : 2 + i < (Gm p c n a).length := by omega
          have e7 : Ug 1 (zk (Xo n i)) = some (Xo n i) := gv hgt.ok
          have hzd : qd2 p c n a i = decide (MP p n (vo p c n a (Xo n i)) = [] ∧ MP p n (vo p c n (Xo n i) a) = []) := rfl
          have hps : prB p c n a (i + 1) = (prB p c n a i && qd2 p c n a i) := rfl
          have hgl3 : (Xo n i).length ≤ 300 := by simp [Xo]
          generalize hXe : MP p n (vo p c n a (Xo n i)) = X at *
          generalize hYe : MP p n (vo p c n (Xo n i) a) = Y at *
          rw [List.append_nil] at hL0n hL1n hLvn hLgn
          generalize Gm p c n a = L at *
          generalize 2 + (n.toNat - 1) = v at *
          generalize 2 + i = g at *
          generalize hK : n.toNat - 1 = K at *
          by_cases hX : X = []
          · have pX : (0 : Int) < (X.length : Int) ↔ False := iff_false_intro (by rw [hX]; simp)
            by_cases hY : Y = []
            · have pY : (0 : Int) < (Y.length : Int) ↔ False := iff_false_intro (by rw [hY]; simp)
              have hzt : qd2 p c n a i = true := by rw [hzd]; exact decide_eq_true ⟨hX, hY⟩
              simp (maxSteps := 3000000) only [qg, zH, zA, v7, zm, jg, x9, wx, zq, Ze, Jk, xx, U3, jl, elemV, hL0, hL1, hLv, hLg, hL0n, hL1n, hLvn, hLgn, hcl, hb1, hb2, hgl, hal, hts, hl1, hg1, hg2, hgl3, e7, h1, h2, c0, hXe, hYe, hli, hi0, hw, pX, pY, Int.toNat_natCast, Nat.zero_add, and_self, iE, iN, iB, iC, iL, iD, iA, iS, iM, qa, zZ, ↓qo, ↓reduceIte, reduceCtorEq, nA, nM, nS, nE, nL, nD]; try simp only [qa, zY]
              refine ⟨rfl, _, qz.q50 hLok hLn [1, 19, 20, 21] (by simp only [h00, h01, hv, hgv, U6, zC, zN, nB, nD, nA, nE, ↓reduceIte, reduceCtorEq]; rfl) (by simp only [h00, h01, hv, hgv, U6, zC, zN, nB, nD, nA, nE, ↓reduceIte, reduceCtorEq]), ⟨i + 1, by omega, by rw [hps, hpi, hzt]; rfl, ?_⟩, ?_⟩
              · simp only [Jj h01, Jj hv, qc _ _ (qd _), List.map_nil, List.append_nil, zM, zL, ↓reduceIte, reduceCtorEq, nE, nA]
              · simp only [zM, zL, ↓reduceIte, reduceCtorEq, nE, nA]; omega
            · have pY : (0 : Int) < (Y.length : Int) ↔ True := iff_true_intro (by have := List.length_pos_iff.2 hY; omega)
              have hzf : qd2 p c n a i = false := by rw [hzd]; exact decide_eq_false fun h => hY h.2
              have hpf := qe8 hzf hlt
              simp (maxSteps := 3000000) only [qg, zH, zA, v7, zm, jg, x9, wx, zq, Ze, Jk, xx, U3, jl, elemV, hL0, hL1, hLv, hLg, hL0n, hL1n, hLvn, hLgn, hcl, hb1, hb2, hgl, hal, hts, hl1, hg1, hg2, hgl3, e7, h1, h2, c0, hXe, hYe, hli, hi0, hw, pX, pY, hpf, Int.toNat_natCast, Nat.zero_add, and_self, iE, iN, iB, iC, iL, iD, iA, iS, iM, qa, zZ, ↓qo, ↓reduceIte, reduceCtorEq, nA, nM, nS, nE, nL, nD]; try simp only [qa, zY]
              exact ⟨rfl, qmf hL0n⟩
          · have pX : (0 : Int) < (X.length : Int) ↔ True := iff_true_intro (by have := List.length_pos_iff.2 hX; omega)
            have hzf : qd2 p c n a i = false := by rw [hzd]; exact decide_eq_false fun h => hX h.1
            have hpf := qe8 hzf hlt
            simp (maxSteps := 3000000) only [qg, zH, zA, v7, zm, jg, x9, wx, zq, Ze, Jk, xx, U3, jl, elemV, hL0, hL1, hLv, hLg, hL0n, hL1n, hLvn, hLgn, hcl, hb1, hb2, hgl, hal, hts, hl1, hg1, hg2, hgl3, e7, h1, h2, c0, hXe, hYe, hli, hi0, hw, pX, hpf, Int.toNat_natCast, Nat.zero_add, and_self, iE, iN, iB, iC, iL, iD, iA, iS, iM, qa, zZ, ↓qo, ↓reduceIte, reduceCtorEq, nA, nM, nS, nE, nL, nD]; try simp only [qa, zY]
            exact ⟨rfl, qmf hL0n⟩
        · have hli : ¬ (i : Int) < ((n.toNat - 1 : Nat) : Int) := by omega
          obtain rfl : i = n.toNat - 1 := by omega
          rw [hpi]
          simp (maxSteps := 3000000) only [qg, zH, zA, v7, Xy, hli, Int.lt_irrefl, List.append_nil, iE, iN, iB, iC, iL, iD, iA, iS, iM, qa, zZ, ↓qo, ↓reduceIte, reduceCtorEq, nA, nM, nS, nE, nL, nD]; try simp only [qa, zY]
          exact ⟨_, rfl⟩
      · have hob : (cf (gh n.toNat) a == 1) = false := beq_false_of_ne hone
        have e : isP p c n a = (false, 0) := by unfold isP; rw [if_neg (by rw [hE]; simp), if_neg h6, if_pos hone]
        rw [e]
        simp (maxSteps := 3000000) only [qg, zH, ub, zm, jg, x9, wx, zq, Ze, Jk, xx, U3, jl, elemV, hal, hts, hle, hE, h6, c0, hl1, hg1, qq hu, hone, hob, h1, h3, and_self, iE, iN, iB, iC, iL, iD, iA, iS, iM, qa, zZ, ↓qo, ↓reduceIte, reduceCtorEq, nA, nM, nS, nE, nL, nD]; try simp only [qa, zY]
        exact ⟨_, rfl⟩
end Go.Proofs.Ytfhckbbgmblhbaa
namespace Go.Proofs.Ytfhckbbgmblhbaa
open Go.Am Go.Dia
open Nat renaming reduceAdd → nA, reduceMul → nM, reduceSub → nS, reduceEqDiff → nE, reduceLT → nL, reduceLeDiff → nD, reduceBEq → nB
open Int renaming reduceEq → iE, reduceNe → iN, reduceBEq → iB, reduceBNe → iC, reduceLT → iL, reduceLE → iD, reduceAdd → iA, reduceSub → iS, reduceMul → iM
set_option linter.unusedSimpArgs false
set_option linter.unusedVariables false
set_option maxRecDepth 4000
set_option maxHeartbeats 1000000
def Gw (R : Int → Int → Int → List (Int × List Nat × Int) → AV) : BE := fun hp xs => match xs with
  | [.agg [.int .i64 p, .int .i64 c, .int .i64 n, .slc b 0 la false 0]] => match rd hp b with
    | some L => match Ug la L with
      | some a => chk (la ≤ 1100000) (some (R p c n a, hp))
      | none => none
    | none => none
  | _ => none
theorem q14 {f : FuncId} {R : Int → Int → Int → List (Int × List Nat × Int) → AV} (hs : ∀ p c n a, (R p c n a).zl = true)
    (h : ∀ p c n a, okT a → a.length ≤ 1100000 → Am.Fn Try.prog f [elemV p c n 0 a.length] [.ro (zk a)] (fun v H' => v = R p c n a ∧ H' = [.ro (zk a)])) : Am.Callee Try.prog f (Gw R) := Callee.fp fun hp xs v hp' he => by
  unfold Gw at he
  split at he
  · rename_i p c n b la
    split at he
    · rename_i L hL
      split at he
      · rename_i a h1
        obtain ⟨a1, he2⟩ := ql he
        simp only [Option.some.injEq, Prod.mk.injEq] at he2
        obtain ⟨rfl, rfl⟩ := he2
        obtain ⟨e1, e2, e3, e4⟩ := ya h1
        have g1 := zg e2
        refine ⟨[(b, 0)], [elemV p c n 0 a.length], _, _, _, h p c n a e2 (by omega), by simp [elemV, AV.ren, AV.zh, ofL, e1], rfl,
          ⟨⟨L, hL, by omega, by rw [List.drop_zero, qc _ _ (qd _), g1, e1]; exact e3⟩, trivial⟩, rfl,
          ⟨qh _ _ (qd _), trivial⟩, ⟨⟨trivial, trivial, trivial, by simp [AV.under], trivial⟩, trivial⟩, (Qr _ _ (hs p c n a)), ?_⟩
        simp [after, upd, AO.wr]
      · cases he
    · cases he
  · cases he
noncomputable def qtt (p c n : Int) (a : List (Int × List Nat × Int)) : AV := .tup [.bool (isP p c n a).1, .int .i64 (isP p c n a).2]
noncomputable def qsc : za := ((qog.put 36 (Gw qtt)).put 37 (Gw qtt))
theorem qy3 : qn Try.prog qsc := ((qi8.put (q14 (fun _ _ _ _ => rfl) qbv)).put (q14 (fun _ _ _ _ => rfl) qcf))
theorem yr : qsc 18 = some (uv) := rfl
theorem yp : qsc 14 = some (ur) := rfl
theorem yw : qsc 16 = some (uu) := rfl
theorem wg : qsc 36 = some (Gw qtt) := rfl
theorem we : qsc 37 = some (Gw qtt) := rfl
def js : AC := .seq (.region [o0 1 (.box (.t 0)),oB 2 false]) (.seq (.region [oI 3 1048576]) (.seq (.region [oN 9 4 1,oM 10 3,oC 11 14 [.t 9,.t 10],oM 3 11]) (.seq (.seq (.region [oM 12 3,oK 13 .lss 12 0]) (.cond 13 (.seq (.region [oB 2 true]) .ret) .skip)) (.seq (.region [oN 15 4 1,oC 16 16 [.t 15],oC 17 36 [.t 16],oM 14 17,oE 18 0 14,oE 19 1 14,oM 4 18,oM 5 19]) (.seq (.region [oN 20 4 1,oC 21 16 [.t 20],oZ 6,oS 4 6 21]) (.seq (.region [oN 23 4 6,oC 24 37 [.t 23],oM 22 24,oE 25 0 22,oE 26 1 22,oM 7 25,oM 8 26]) (.seq (.seq (.region [oM 27 7,oM 28 4,o0 29 (.eqb true (.t 27) (.t 28)),oM 30 29,oG 31 30 false (.mov (.t 8)),oG 32 30 false (.mov (.t 5)),oG 33 30 false (.bin .neq (.t 31) (.t 32)),o0 34 (.pick (.t 30) (.c (.bool true)) (.t 33))]) (.cond 34 (.seq (.region [oB 2 false]) .ret) .skip)) (.seq (.seq (.draw true [oN 35 4 6,oN 36 4 1,oC 37 16 [.t 36],oC 38 18 [.t 35,.t 37],o0 39 (.un .not (.t 38))]) (.cond 39 (.seq (.region [oB 2 false]) .ret) .skip)) (.seq (.region [oB 2 true]) .ret)))))))))
theorem Wy : zr Try.prog 10 = some ⟨40, js, [.slot 2]⟩ := by kernel_rfl
theorem qcd (H : List AO) (X : AV) (p c n : Int) (ts : List (Int × List Nat × Int)) (h : qd6 H X ts) (hl : ts.length ≤ 9223372036854775807) : Am.Fn Try.prog 10 [.agg [.int .i64 p, .int .i64 c, .int .i64 n, X]] H (fun v H' => v = .bool true ∧ H' = H) := by
  refine Am.Fn.jd (R := fun v => v = _) qy3 mixed Wy (by simp) (Zp h) ?_
  have hX := qf6 h
  have ho := h.1
  have hH : H = [] ∨ ∃ o, H = [o] := by
    rcases h.2 with ⟨_, rfl, _⟩ | ⟨_, rfl, _⟩ | ⟨_, _, _, _, rfl, _⟩
    · exact .inl rfl
    · exact .inr ⟨_, rfl⟩
    · exact .inr ⟨_, rfl⟩
  by_cases hlt : (1048576 : Int) - ts.length < 0
  · have hif : (if (1048576 : Int) - ts.length < 0 then (-1 : Int) else 1048576 - ts.length) = -1 := if_pos hlt
    rcases hH with rfl | ⟨o, rfl⟩
    · simp only [List.nil_append] at hX
      simp (maxSteps := 3000000) only [qg, zH, js, yr, yp, yw, wg, we, Gw, uv, ur, uu, iE, iN, iB, iC, iL, iD, iA, iS, iM, hX, hl, hif, qa, zZ, ↓qo, ↓reduceIte, reduceCtorEq, nA, nM, nS, nE, nL, nD]; try simp only [qa, zY]
    · simp only [List.cons_append, List.nil_append] at hX
      simp (maxSteps := 3000000) only [qg, zH, js, yr, yp, yw, wg, we, Gw, uv, ur, uu, iE, iN, iB, iC, iL, iD, iA, iS, iM, hX, hl, hif, qa, zZ, ↓qo, ↓reduceIte, reduceCtorEq, nA, nM, nS, nE, nL, nD]; try simp only [qa, zY]
      exact ⟨_, rfl⟩
  · have hif : (if (1048576 : Int) - ts.length < 0 then (-1 : Int) else 1048576 - ts.length) = 1048576 - ts.length := if_neg hlt
    generalize he : isP p c n ts = r
    obtain ⟨B, E⟩ := r
    have b0 := zg ho
    have b1 := gv ho
    have h8 : ts.length ≤ 1100000 := by omega
    have h9 : ts.length ≤ 2000000 := by omega
    rcases hH with rfl | ⟨o, rfl⟩
    · simp only [List.nil_append] at hX
      simp (maxSteps := 3000000) only [qg, zH, js, yr, yp, yw, wg, we, Gw, uv, ur, uu, iE, iN, iB, iC, iL, iD, iA, iS, iM, qoo, elemV, U5, qc _ _ (qd _), qc _ _ (qe _ _), hX, hl, hif, hlt, qtt, he, b0, b1, h8, h9, Int.toNat_one, qa, zZ, ↓qo, ↓reduceIte, reduceCtorEq, nA, nM, nS, nE, nL, nD]; try simp only [qa, zY]
      repeat' first | (with_reducible exact ⟨_, rfl⟩) | (exact rfl) | (with_reducible refine And.intro ?_ ?_)
    · simp only [List.cons_append, List.nil_append] at hX
      simp (maxSteps := 3000000) only [qg, zH, js, yr, yp, yw, wg, we, Gw, uv, ur, uu, iE, iN, iB, iC, iL, iD, iA, iS, iM, qoo, elemV, U5, qc _ _ (qd _), qc _ _ (qe _ _), hX, hl, hif, hlt, qtt, he, b0, b1, h8, h9, Int.toNat_one, qa, zZ, ↓qo, ↓reduceIte, reduceCtorEq, nA, nM, nS, nE, nL, nD]; try simp only [qa, zY]
      repeat' first | (with_reducible exact ⟨_, rfl⟩) | (exact rfl) | (with_reducible refine And.intro ?_ ?_)
end Go.Proofs.Ytfhckbbgmblhbaa
namespace Go.Proofs.Ytfhckbbgmblhbaa
open Go.Am Go.Dia Go.ChangeShapes
open Nat renaming reduceAdd → nA, reduceMul → nM, reduceSub → nS, reduceEqDiff → nE, reduceLT → nL, reduceLeDiff → nD, reduceBEq → nB
open Int renaming reduceEq → iE, reduceNe → iN, reduceBEq → iB, reduceBNe → iC, reduceLT → iL, reduceLE → iD, reduceAdd → iA, reduceSub → iS, reduceMul → iM
set_option linter.unusedSimpArgs false
set_option linter.unusedVariables false
set_option maxRecDepth 4000
set_option maxHeartbeats 1000000
section
variable {H : Type} {enc : TypeId × Value → H} {P : Program} {w : World} {base : Nat} {spare : Nat → Bool} {held : Bool}
theorem qw8 (ι : Nat → Am.Loc) {l : List AV} (h : AV.zb l = true) : qv (fun _ => Am.Loc.nil) l = qv ι l := by
  rw [vd (ι' := ι) (n := 0) (fun j hj => by omega) l (qh _ _ h)]
structure qjk (P : Program) (tE tX tT tD t8 tM tI : TypeId) : Prop where
  e : ∃ f0 f1 f2 f3 : Field, P.underlying tE = some (.struct #[f0, f1, f2, f3]) ∧ f0.type = tI ∧ f1.type = tI ∧ f2.type = tI ∧ f3.type = tX ∧ f0.offset = 0 ∧ f1.offset = 1 ∧ f2.offset = 2 ∧ f3.offset = 3
  x : P.underlying tX = some (.slice tT)
  t : ∃ f0 f1 : Field, P.underlying tT = some (.struct #[f0, f1]) ∧ f0.type = tD ∧ f1.type = tI ∧ f0.offset = 0 ∧ f1.offset = 17
  d : ∃ f0 f1 : Field, P.underlying tD = some (.struct #[f0, f1]) ∧ f0.type = tI ∧ f1.type = tM ∧ f0.offset = 0 ∧ f1.offset = 1
  m : P.underlying tM = some (.array 16 t8)
  b : P.underlying t8 = some (.int .u8)
  i : P.underlying tI = some (.int .i64)
  ce : P.cellsOf tE = 4
  cx : P.cellsOf tX = 1
  ct : P.cellsOf tT = 18
  cd : P.cellsOf tD = 17
  cm : P.cellsOf tM = 16
  c8 : P.cellsOf t8 = 1
  ci : P.cellsOf tI = 1
theorem qr8 {tE tX tT tD t8 tM tI : TypeId} (T : qjk P tE tX tT tD t8 tM tI) {fuel : Nat} {cs : List Value} {x : DataW H × List MemPlace} (h : DataW.trod enc P w base spare held fuel tT cs = some x) :
    ∃ t : Int × List Nat × Int, okD t.2.1 ∧ cs = qv (fun _ => Am.Loc.nil) (trm t) := by
  obtain ⟨f0, f1, ht, e0, e1, o0, o1⟩ := T.t
  obtain ⟨g0, g1, hd, i0, i1, p0, p1⟩ := T.d
  obtain ⟨y0, y1, k, rfl, hl, a0, a1⟩ := trod_struct2 ht h
  rw [o0, e0, T.cd] at a0
  rw [o1, e1, T.ci] at a1
  rw [T.ct] at hl
  obtain ⟨n, m, hm, hb, hcs, _, _⟩ := qs8 hd (by rw [i0]; exact T.i) (by rw [i1]; exact T.m) T.b p0 p1 (by rw [i0]; exact T.ci) (by rw [i1]; exact T.cm) T.c8 T.cd a0
  obtain ⟨v, hv, _, _⟩ := DataW.trod_int T.i a1
  refine ⟨(n, m, v), ⟨hm, hb⟩, ?_⟩
  have e2 : (cs.drop 17).take 1 = cs.drop 17 := List.take_of_length_le (by simp; omega)
  rw [e2] at hv
  rw [List.drop_zero] at hcs
  conv => lhs; rw [← List.take_append_drop 17 cs, hcs, hv]
  rw [trm, wi]
  rfl
theorem qh0 {ι : Nat → Am.Loc} : ∀ (ts : List (Int × List Nat × Int)) (L : List Value) (off : Nat), okT ts → (∀ i (hi : i < ts.length) j, j < 18 → L[off + i * 18 + j]? = (qv ι (trm ts[i]))[j]?) →
    (L.drop off).take (ts.length * 18) = qv ι (zk ts)
  | [], L, off, _, _ => by simp [zk, qv]
  | t :: ts, L, off, ho, h => by
    have ht := zt (ho t (List.mem_cons_self ..))
    have h0 : (L.drop off).take 18 = qv ι (trm t) := by
      apply List.ext_getElem?
      intro j
      by_cases hj : j < 18
      · have := h 0 (by simp) j hj
        simp only [Nat.zero_mul, Nat.add_zero, List.getElem_cons_zero] at this
        rw [List.getElem?_take_of_lt hj, List.getElem?_drop, this]
      · rw [List.getElem?_eq_none (by simp; omega), List.getElem?_eq_none (by rw [q6]; omega)]
    have hl : 18 ≤ (L.drop off).length := by
      have := congrArg List.length h0
      rw [q6, ht, List.length_take] at this
      omega
    have ih := qh0 ts L (off + 18) (fun u hu => ho u (List.mem_cons_of_mem _ hu)) fun i hi j hj => by
      have := h (i + 1) (by simpa using hi) j hj
      rw [show off + 18 + i * 18 + j = off + (i + 1) * 18 + j by omega]
      simpa using this
    rw [List.length_cons, show (ts.length + 1) * 18 = 18 + ts.length * 18 by omega, List.take_add, h0, List.drop_drop, ih]
    simp only [zk, List.flatMap_cons, wi]
theorem qp9 {tE tX tT tD t8 tM tI : TypeId} (T : qjk P tE tX tT tD t8 tM tI) {fuel : Nat} {cs : List Value} {x : DataW H × List MemPlace} (hs : ∀ b, spare b = true) (h : DataW.trod enc P w base spare held fuel tX cs = some x) :
    ∃ (X : AV) (Hp : List AO) (ts : List (Int × List Nat × Int)) (l : Am.Loc), qd6 Hp X ts ∧ cs = [gam (fun _ => l) X] ∧ (∀ o ∈ Hp, Xb (fun _ => l) w.heap l o ∧ o.wr = false) ∧ ts.length ≤ 9223372036854775807 := by
  have hts := T.x
  rcases DataW.trod_slice hts h with ⟨rfl, _⟩ | ⟨a, len, cap, elems, rest, n, rfl, rfl, rfl, hb, hlc, hcm, hel, hei, hrs, _⟩
  · exact ⟨.v (.slice none 0 0), [], [], Am.Loc.nil, ⟨(fun t h => by cases h), .inl ⟨rfl, rfl, rfl⟩⟩, rfl, (fun o h => by cases h), by simp⟩
  rw [T.ct] at hei hrs
  have hmax : len ≤ 9223372036854775807 := Nat.le_trans (Nat.le_trans hlc hcm) (by decide)
  have hget : ∀ i, i < len → ∃ t : Int × List Nat × Int, okD t.2.1 ∧ w.cells? base (a.add (i * 18)) 18 = some (qv (fun _ => Am.Loc.nil) (trm t)) := fun i hi => by
    have h1 := hei i hi
    rw [List.getElem?_eq_getElem (by omega)] at h1
    simp only [Option.bind_eq_some_iff] at h1
    obtain ⟨cs', h2, h3⟩ := h1
    obtain ⟨t, ht, rfl⟩ := qr8 T h3
    exact ⟨t, ht, h2⟩
  let f : Nat → Int × List Nat × Int := fun i => if hi : i < len then Classical.choose (hget i hi) else (0, [], 0)
  have hf : ∀ i, i < len → okD (f i).2.1 ∧ w.cells? base (a.add (i * 18)) 18 = some (qv (fun _ => Am.Loc.nil) (trm (f i))) := fun i hi => by
    have := Classical.choose_spec (hget i hi)
    simp only [f, dif_pos hi]; exact this
  have hlen : ((List.range len).map f).length = len := by simp
  have hok : okT ((List.range len).map f) := fun t ht => by
    obtain ⟨i, hi, rfl⟩ := List.mem_map.1 ht
    exact (hf i (List.mem_range.1 hi)).1
  have hcell : ∀ i, i < len → ∀ j, j < 18 → w.cell? ((a.add (i * 18)).add j) = (qv (fun _ => Am.Loc.nil) (trm (f i)))[j]? := fun i hi j hj => (World.cells?_some (hf i hi).2).2.2 j hj
  by_cases hc0 : cap = 0
  · obtain rfl : len = 0 := by omega
    subst hc0
    refine ⟨.slc 0 0 0 true 0, [.dead], [], ⟨a, false, 0⟩, ⟨(fun t h => by cases h), .inr (.inl ⟨rfl, rfl, rfl⟩)⟩, rfl, fun o h => ?_, by simp⟩
    rw [List.mem_singleton] at h; subst h; exact ⟨trivial, rfl⟩
  have h0 : ∃ v, w.cell? (a.add 0) = some v := by
    by_cases hl0 : len = 0
    · subst hl0
      obtain ⟨h1, h2⟩ := hrs (hs _)
      have h3 := h2 0 (by omega)
      rw [List.getElem?_eq_getElem (by omega)] at h3
      simp only [Option.bind_eq_some_iff] at h3
      obtain ⟨cs', h4, _⟩ := h3
      have h5 := World.cells?_some h4
      have h6 := h5.2.2 0 (by omega)
      have h7 : cs'.length = 18 := h5.2.1
      rw [List.getElem?_eq_getElem (by omega)] at h6
      simp only [Nat.zero_add, Nat.zero_mul, Addr.add_add] at h6
      exact ⟨_, h6⟩
    · have h6 := hcell 0 (by omega) 0 (by omega)
      rw [Addr.add_add] at h6
      have h7 : (qv (fun _ => Am.Loc.nil) (trm (f 0))).length = 18 := by rw [q6]; exact zt (hf 0 (by omega)).1
      rw [List.getElem?_eq_getElem (by omega)] at h6
      exact ⟨_, h6⟩
  obtain ⟨v0, h0⟩ := h0
  obtain ⟨blk, off, spot⟩ := a
  have hspot : spot = none := by simpa [Addr.add] using World.cell?_spot h0
  subst hspot
  have hheap : ∃ c ty fz, w.heap[blk]? = some (.cells c ty fz) := by
    simp only [World.cell?, Addr.add_plain] at h0
    split at h0
    · rename_i c ty fz hh; exact ⟨c, ty, fz, hh⟩
    · cases h0
  obtain ⟨c, ty, fz, hh⟩ := hheap
  have hc : ∀ i, w.cell? ⟨blk, i, none⟩ = c.toList[i]? := fun i => by simp [World.cell?, hh]
  have hoff : off ≤ c.toList.length := by
    rw [Addr.add_plain, Nat.add_zero, hc] at h0
    have := (List.getElem?_eq_some_iff.1 h0).1
    omega
  have hscan := qh0 (ι := fun _ => Am.Loc.nil) ((List.range len).map f) c.toList off hok fun i hi j hj => by
    rw [hlen] at hi
    have := hcell i hi j hj
    rw [Addr.add_add, Addr.add_plain, hc] at this
    rw [Nat.add_assoc, this]
    simp
  rw [hlen] at hscan
  refine ⟨.slc 0 0 ((List.range len).map f).length true cap, [.ro (zk ((List.range len).map f))], (List.range len).map f, ⟨⟨blk, off, none⟩, false, 0⟩, ⟨hok, .inr (.inr ⟨(List.range len).map f, cap, rfl, by rw [hlen]; exact hlc, rfl, hok, List.take_length, Nat.le_refl _⟩)⟩, ?_, fun o h => ?_, by rw [hlen]; exact hmax⟩
  · rw [hlen]; simp [gam, Addr.add_plain]
  · rw [List.mem_singleton] at h; subst h
    refine ⟨.inr ⟨rfl, blk, off, c, ty, fz, c.toList.take off, (c.toList.drop off).drop (len * 18), rfl, hh, by rw [List.length_take]; omega, ?_⟩, rfl⟩
    rw [← qw8 _ (qd _), ← hscan, List.append_assoc, List.take_append_drop, List.take_append_drop]
theorem qjp {tE tX tT tD t8 tM tI : TypeId} (T : qjk P tE tX tT tD t8 tM tI) {v : Value} {d : DataW H} {ps : List MemPlace} (hs : ∀ b, spare b = true) (h : DataW.Trod enc P w base spare held tE v d ps) :
    ∃ (p c n : Int) (X : AV) (Hp : List AO) (ts : List (Int × List Nat × Int)) (l : Am.Loc), qd6 Hp X ts ∧ v = gam (fun _ => l) (.agg [.int .i64 p, .int .i64 c, .int .i64 n, X]) ∧ (∀ o ∈ Hp, Xb (fun _ => l) w.heap l o ∧ o.wr = false) ∧ ts.length ≤ 9223372036854775807 ∧
      (-9223372036854775808 ≤ p ∧ p ≤ 9223372036854775807) ∧ (-9223372036854775808 ≤ c ∧ c ≤ 9223372036854775807) ∧ (-9223372036854775808 ≤ n ∧ n ≤ 9223372036854775807) := by
  obtain ⟨fuel, hf⟩ := h
  obtain ⟨f0, f1, f2, f3, he, e0, e1, e2, e3, o0, o1, o2, o3⟩ := T.e
  obtain ⟨xs, k, rfl, _, hl, hxl, hi⟩ := DataW.trod_struct he hf
  rw [T.ce] at hl
  have hxl4 : xs.length = 4 := hxl
  have a0 := hi 0 f0 rfl
  have a1 := hi 1 f1 rfl
  have a2 := hi 2 f2 rfl
  have a3 := hi 3 f3 rfl
  rw [List.getElem?_eq_getElem (by omega)] at a0 a1 a2 a3
  rw [o0, e0, T.ci] at a0
  rw [o1, e1, T.ci] at a1
  rw [o2, e2, T.ci] at a2
  rw [o3, e3, T.cx] at a3
  obtain ⟨p, hp, _, wp⟩ := DataW.trod_int T.i a0
  obtain ⟨c, hc, _, wc⟩ := DataW.trod_int T.i a1
  obtain ⟨n, hn, _, wn⟩ := DataW.trod_int T.i a2
  obtain ⟨X, Hp, ts, l, hX, hx, ho, hlen⟩ := qp9 T hs a3
  refine ⟨p, c, n, X, Hp, ts, l, hX, ?_, ho, hlen, bounds_i64 wp, bounds_i64 wc, bounds_i64 wn⟩
  generalize hcs : v.cells.toList = cs at *
  match cs, hl with
  | [x0, x1, x2, x3], _ =>
    simp only [List.drop_zero, List.drop_succ_cons, List.take_succ_cons, List.take_zero, List.cons.injEq, and_true] at hp hc hn hx
    subst hp; subst hc; subst hn; subst hx
    exact qsx hcs (by show (4 : Nat) ≠ 1; decide)
end
end Go.Proofs.Ytfhckbbgmblhbaa
namespace Go.Proofs.Ytfhckbbgmblhbaa
open Go.Am Go.Dia Go.ChangeShapes Go.WideShapes Go.ChangeAt Go.RowKit
open Nat renaming reduceAdd → nA, reduceMul → nM, reduceSub → nS, reduceEqDiff → nE, reduceLT → nL, reduceLeDiff → nD, reduceBEq → nB
open Int renaming reduceEq → iE, reduceNe → iN, reduceBEq → iB, reduceBNe → iC, reduceLT → iL, reduceLE → iD, reduceAdd → iA, reduceSub → iS, reduceMul → iM
set_option linter.unusedSimpArgs false
set_option linter.unusedVariables false
set_option maxRecDepth 100000
theorem q2s : qjk Try.prog 24 22 114 54 5 52 2 where
  e := ⟨_, _, _, _, Try.underlying24, rfl, rfl, rfl, rfl, rfl, rfl, rfl, rfl⟩
  x := Try.underlying22
  t := ⟨_, _, Try.underlying114, rfl, rfl, rfl, rfl⟩
  d := ⟨_, _, Try.underlying54, rfl, rfl, rfl, rfl⟩
  m := Try.underlying52
  b := by kernel_rfl
  i := by kernel_rfl
  ce := by kernel_rfl
  cx := by kernel_rfl
  ct := by kernel_rfl
  cd := by kernel_rfl
  cm := by kernel_rfl
  c8 := by kernel_rfl
  ci := by kernel_rfl
theorem qnf {H : List AO} {X : AV} {ts : List (Int × List Nat × Int)} (hX : qd6 H X ts) : X.under H.length := by
  rcases hX.2 with ⟨rfl, _⟩ | ⟨rfl, rfl, _⟩ | ⟨_, _, rfl, _, rfl, _⟩
  · trivial
  · simp [AV.under]
  · simp [AV.under]
theorem q07 {l : Am.Loc} {H : List AO} {X : AV} {ts : List (Int × List Nat × Int)} {heap : Array Obj} (hX : qd6 H X ts) (h : ∀ o ∈ H, Xb (fun _ => l) heap l o ∧ o.wr = false) : HOk (fun _ => l) H heap := by
  refine ⟨fun j o hj => ⟨Zp hX j o hj, (h o (List.mem_of_getElem? hj)).1⟩, fun i j b hi hj => ?_⟩
  obtain ⟨o, ho, hw, _⟩ := hi
  have := (h o (List.mem_of_getElem? ho)).2
  rw [this] at hw; cases hw
end Go.Proofs.Ytfhckbbgmblhbaa
namespace Go.Proofs.Ytfhckbbgmblhbaa.fnExactIsProjection
open Go.ChangeShapes Go.WideShapes Go.ChangeAt Go.RowKit Go.Am
set_option linter.unusedVariables false
set_option maxRecDepth 100000
theorem own : ownKnob Try.prog.godebug = none := by kernel_rfl
theorem laidOut : laidOutB Try.prog = true := by kernel_rfl
theorem full : ∀ t e, t < Try.prog.types.size → Try.prog.underlying t = some (.slice e) → 0 < Try.prog.cellsOf e := slices_full_of _ (by kernel_rfl)
theorem qxz (H : Type) (enc : TypeId × Value → H) (W : World) (args : Array Value) (ds gs : List (DataW H)) (before : List MemPlace)
    (hval : ∀ (j : Nat) (t : TypeId) (v : Value), Try.f10.params[j]? = some t → args[j]? = some v → Value.okWide Try.prog W .any 0 t v)
    (hW : DataW.Whole enc Try.prog Try.f10.params.toList Rows.fnExactIsProjectionSpec.vars false W args.toList ds gs before) :
    Calls Try.prog 10 args W fun e W' => ∃ v, e = .returned v ∧ Rows.fnExactIsProjectionSpec.post enc Try.prog Try.f10 false true false false W args v W' := by
  have hW' := hW
  obtain ⟨p, q, hA0, hV, rfl, hfz, hnd⟩ := hW
  have hA : DataW.TrodAll enc Try.prog W 0 (fun _ => true) true Try.f10.params.toList args.toList ds p := hA0
  rw [Try.params10] at hA
  obtain ⟨v1, vs1, d1, ds1, p1, q1, ea1, ed1, _, h1, hA⟩ := trodAll_cons hA
  obtain ⟨ea5, ed5, _⟩ := trodAll_nil hA
  have ea : args.toList = [v1] := by rw [ea1, ea5]
  have hds : ds = [d1] := by rw [ed1, ed5]
  obtain rfl : args = #[v1] := by rw [← Array.toArray_toList (xs := args), ea]
  obtain ⟨P, C, N, X, Hp, ts, l, hX, rfl, ho, hlen, _⟩ := qjp q2s (fun _ => rfl) h1
  have hlaw := (qcd Hp X P C N ts hX hlen).mono (R' := fun v _ => v = .bool true) fun v H' h => h.1
  have hc := qsm hlaw (fun o h => (ho o h).2) (ι := fun _ => l) (w := W) (q07 hX ho) ⟨⟨trivial, trivial, trivial, qnf hX, trivial⟩, trivial⟩
  refine Calls.mono hc fun e W' ⟨he, hk, hh⟩ => ⟨_, he, ?_⟩
  refine quk hW' rfl ?_ (t := 4) rfl (by kernel_rfl) laidOut full ?_ hk hh
  · subst hds
    obtain ⟨rfl, _⟩ := trodVars_none hV
    exact ⟨rfl, rfl, rfl⟩
  · rw [Try.params10]
    intro t ht
    simp only [List.mem_cons, List.not_mem_nil, or_false] at ht
    rcases ht with rfl
    exact ⟨by kernel_rfl, of_decide_eq_true (by kernel_rfl)⟩
theorem lifted (os : Os) (started : os.Started) (H : Type) (enc : TypeId × Value → H) :
    ReturnsInHanded {} Try.checked os 10 .any (Rows.fnExactIsProjectionSpec.pre6 enc Try.prog Try.f10 Rows.fnExactIsProjectionRow.domain false) (Rows.fnExactIsProjectionSpec.post enc Try.prog Try.f10 false true false false) := by
  refine returnsInHanded_of_change (C := Try.checked) own started (by kernel_rfl) Try.func10
    (ChangeSpec.witness6 (enc := enc) (C := Try.checked) false ⟨#[], #[.agg #[.int .i64 0, .int .i64 0, .int .i64 0, .slice none 0 0]], []⟩ 8 (by kernel_rfl) (by kernel_rfl) (by kernel_rfl) (by kernel_rfl)) ?_
  intro W base args ds gs before hval hW hcnd _
  exact qxz H enc W args ds gs before hval hW
end Go.Proofs.Ytfhckbbgmblhbaa.fnExactIsProjection
namespace Go.Proofs.Ytfhckbbgmblhbaa.fnExactIsProjection
set_option linter.unusedVariables false
set_option maxRecDepth 100000
theorem qty : (Rows.fnExactIsProjectionRow.inPlace == Try.pinned.checked.prog.inPlace 10) = true := by kernel_rfl
theorem qjr : (Rows.fnExactIsProjectionRow.unfollowed == Try.pinned.checked.prog.unfollowed 10) = true := by kernel_rfl
theorem qpj : (Rows.fnExactIsProjectionRow.recurses == Try.pinned.checked.prog.recurses 10) = true := by kernel_rfl
theorem qzc : (Rows.fnExactIsProjectionRow.named == Try.pinned.checked.prog.varsNamed 10) = true := by kernel_rfl
theorem q04 : Try.pinned.checked.prog.stopsHeard = true := by kernel_rfl
theorem qzv : Try.pinned.checked.prog.mayEnter = true := by kernel_rfl
theorem qt9 : (Rows.fnExactIsProjectionRow.lifted == Try.pinned.checked.prog.liftsFinal) = true := by kernel_rfl
theorem q2y : laidOutB Try.pinned.checked.prog = true := by kernel_rfl
theorem q1n : mapsRowed Try.pinned.checked.prog = true := by kernel_rfl
theorem q2x : (Rows.fnExactIsProjectionRow.plainKeys == Try.pinned.checked.prog.plainKeys) = true := by kernel_rfl
end Go.Proofs.Ytfhckbbgmblhbaa.fnExactIsProjection

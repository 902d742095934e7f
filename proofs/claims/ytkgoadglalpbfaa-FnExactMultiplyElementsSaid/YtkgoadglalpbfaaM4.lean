/- Contracts: products of elements. -/
import Derived.Test.YtkgoadglalpbfaaM3
import Derived.Test.YtkgoadglalpbfaaK5
namespace Go.Proofs.Ytkgoadglalpbfaa
open Go.Am Go.Dia
open Nat renaming reduceAdd → nA, reduceMul → nM, reduceSub → nS, reduceEqDiff → nE, reduceLT → nL, reduceLeDiff → nD, reduceBEq → nB
open Int renaming reduceEq → iE, reduceNe → iN, reduceBEq → iB, reduceBNe → iC, reduceLT → iL, reduceLE → iD, reduceAdd → iA, reduceSub → iS, reduceMul → iM
set_option linter.unusedSimpArgs false
set_option linter.unusedVariables false
set_option maxRecDepth 4000
set_option maxHeartbeats 1000000
theorem qht {p c n : Int} (hp : 2 ≤ p ∧ p ≤ 97) (hc : 0 ≤ c ∧ c ≤ p - 1) {a b : List (Int × List Nat × Int)} (ha : wk p n a) (hb : wk p n b) (hl : a.length ≤ 300 ∧ b.length ≤ 300) : wk p n (MP p n (vw p c n a b)) ∧ (MP p n (vw p c n a b)).length ≤ 100000 := by
  have h0 : wk p n [] := ⟨(fun t h => by cases h), (fun t h => by cases h), (fun t h => by cases h), .nil⟩
  have h := Kl (p := p) (F := 10000) (φ := id) (κ := fun _ => 1) (by omega) h0 (qh2 (c := c) hp hc ha hb)
  refine ⟨h.1, Nat.le_trans h.2 ?_⟩
  rw [List.length_nil, Gx]
  have h1 : a.length * b.length ≤ 300 * 300 := Nat.mul_le_mul hl.1 hl.2
  omega
noncomputable def Zs (p c n : Int) (a : List (Int × List Nat × Int)) (p' c' n' : Int) (b : List (Int × List Nat × Int)) : ER :=
  if jf p c n a p' c' n' b = 0 then G0 p c n (MP p n (vw p c n a b)) else (0, 0, 0, [], jf p c n a p' c' n' b)
theorem wy : B88 79 = some (Yb) := rfl
theorem vc : B88 90 = some (Yg) := rfl
theorem uh : B88 78 = some (Zi) := rfl
theorem w8 : B88 76 = some (J3) := rfl
theorem v8 : B88 88 = some (Yg) := rfl
theorem wx : B88 77 = some (Yb) := rfl
def yh : AC := .seq (.region [o0 2 (.box (.t 0)),o0 3 (.box (.t 1)),o0 4 (.alloc [.int .i64 0,.int .i64 0,.int .i64 0,(.v (.slice none 0 0))]),oI 5 0]) (.seq (.seq (.region [oN 9 4 2,oN 10 4 3,oC 11 76 [.t 9,.t 10],oM 6 11]) (.seq (.region [oM 12 6,oK 13 .neq 12 0]) (.cond 13 (.seq (.region [o0 14 (.build [.int .i64 0,.int .i64 0,.int .i64 0,(.v (.slice none 0 0))] []),oM 15 6,oS 4 4 14,oM 5 15]) .ret) .skip))) (.seq (.region [oN 17 4 2,oN 18 4 3,oC 19 88 [.t 17,.t 18],oC 20 77 [.t 19],oM 16 20,oE 21 0 16,oE 22 1 16,o0 7 (.alloc [.int .i64 0,.int .i64 0,.int .i64 0,(.v (.slice none 0 0))]),oS 4 7 21,oM 8 22]) (.seq (.region [oN 23 4 7,oM 24 8,oS 4 4 23,oM 5 24]) .ret)))
theorem Uc : zy Try.prog 39 = some ⟨25, yh, [.kd 4 4, .slot 5]⟩ := by kernel_rfl
theorem Uf (p c n p' c' n' : Int) (a b : List (Int × List Nat × Int)) (ha : okT a) (hb : okT b) (hl : a.length ≤ 1100000 ∧ b.length ≤ 1100000) :
    Am.Fn Try.prog 39 [elemV p c n 0 a.length, elemV p' c' n' 1 b.length] [.ro (qq a), .ro (qq b)] (qnd (qq a) (qq b) (Zs p c n a p' c' n' b)) := by
  refine Am.Fn.ofW qmq mixed Uc (by simp [elemV, AV.q7, AV.under]) (kz (qa _) (qa _)) ?_
  have hal := qt ha
  have hbl := qt hb
  have hta := xj ha
  have htb := xj hb
  have hl1 := hl.1
  have hl2 := hl.2
  by_cases h0 : jf p c n a p' c' n' b = 0
  · obtain ⟨⟨hE, hE2⟩, rfl, rfl, rfl⟩ := qah h0
    obtain ⟨b1, b2, b3, b4⟩ := Uu hE
    obtain ⟨_, _, _, b5⟩ := Uu hE2
    have hga := Vr ha hE
    have hgb := Vr hb hE2
    have hg1 := hga.dec
    have hg2 := hgb.dec
    have hs := qht (c := c') b1 b2 hga hgb (by omega)
    have hsl := hs.2
    have e1 : Zs p' c' n' a p' c' n' b = G0 p' c' n' (MP p' n' (vw p' c' n' a b)) := by unfold Zs; rw [if_pos h0]
    have c1 : 0 ≤ n' ∧ n' ≤ 8 := by omega
    have c2 : a.length ≤ 300 ∧ b.length ≤ 300 := by omega
    have c4 : (MP p' n' (vw p' c' n' a b)).length ≤ 1100000 := by omega
    rw [e1]
    generalize hSe : MP p' n' (vw p' c' n' a b) = S at *
    have hq0 : ((0 : Int) != 0) = false := rfl
    by_cases hle : S.length ≤ 140
    · have e2 : G0 p' c' n' S = (p', c', n', S, 0) := if_pos hle
      rw [e2]
      simp (maxSteps := 3000000) only [qf, zH, yh, wy, vc, uh, w8, v8, wx, J3, Yb, Yg, Zi, elemV, hal, hbl, hta, htb, hl1, hl2, h0, hq0, b1, c1, c2, b2, c4, hg1, hg2, hSe, hle, and_self, iE, iN, iB, iC, iL, iD, iA, iS, iM, qb, zZ, ↓qp, ↓reduceIte, reduceCtorEq, nA, nM, nS, nE, nL, nD]; try simp only [qb, zY]
      exact ⟨rfl, rfl, _, qz.refl _, qhj (qa a) (qa b) (qa _) rfl rfl rfl rfl rfl rfl⟩
    · have e2 : G0 p' c' n' S = (0, 0, 0, [], 3) := if_neg hle
      rw [e2]
      simp (maxSteps := 3000000) only [qf, zH, yh, wy, vc, uh, w8, v8, wx, J3, Yb, Yg, Zi, elemV, hal, hbl, hta, htb, hl1, hl2, h0, hq0, b1, c1, c2, b2, c4, hg1, hg2, hSe, hle, and_self, iE, iN, iB, iC, iL, iD, iA, iS, iM, qb, zZ, ↓qp, ↓reduceIte, reduceCtorEq, nA, nM, nS, nE, nL, nD]; try simp only [qb, zY]
      exact ⟨rfl, rfl, _, qz.refl _, qhj (qa a) (qa b) (qa _) rfl rfl rfl rfl rfl rfl⟩
  · have e1 : Zs p c n a p' c' n' b = (0, 0, 0, [], jf p c n a p' c' n' b) := by unfold Zs; rw [if_neg h0]
    have hq0 : (jf p c n a p' c' n' b != 0) = true := by simpa using h0
    rw [e1]
    simp (maxSteps := 3000000) only [qf, zH, yh, wy, vc, uh, w8, v8, wx, J3, Yb, Yg, Zi, elemV, hal, hbl, hta, htb, hl1, hl2, hq0, and_self, iE, iN, iB, iC, iL, iD, iA, iS, iM, qb, zZ, ↓qp, ↓reduceIte, reduceCtorEq, nA, nM, nS, nE, nL, nD]; try simp only [qb, zY]
    exact ⟨rfl, qm9 (qa a) (qa b) rfl rfl rfl rfl rfl (by decide)⟩
def yr : AC := .seq (.region [o0 2 (.box (.t 0)),o0 3 (.box (.t 1)),o0 4 (.alloc [.int .i64 0,.int .i64 0,.int .i64 0,(.v (.slice none 0 0))]),oI 5 0]) (.seq (.seq (.region [oN 7 4 2,oN 8 4 3,o0 9 (.gr 2 [.int .i64 0,.int .i64 0,.int .i64 0,(.v (.slice none 0 0)),.int .i64 0,.int .i64 0,.int .i64 0,(.v (.slice none 0 0))] [(0,4,.t 7),(4,4,.t 8)]),oC 10 78 [.t 9],oM 6 10]) (.seq (.region [oM 11 6,oK 12 .neq 11 0]) (.cond 12 (.seq (.region [o0 13 (.build [.int .i64 0,.int .i64 0,.int .i64 0,(.v (.slice none 0 0))] []),oM 14 6,oS 4 4 13,oM 5 14]) .ret) .skip))) (.seq (.region [oN 15 4 2,oN 16 4 3,oC 17 90 [.t 15,.t 16],oC 18 79 [.t 17],oE 19 0 18,oE 20 1 18,oS 4 4 19,oM 5 20]) .ret))
theorem Ud : zy Try.prog 40 = some ⟨21, yr, [.kd 4 4, .slot 5]⟩ := by kernel_rfl
theorem Yr (p c n p' c' n' : Int) (a b : List (Int × List Nat × Int)) (ha : okT a) (hb : okT b) (hl : a.length ≤ 1100000 ∧ b.length ≤ 1100000) :
    Am.Fn Try.prog 40 [elemV p c n 0 a.length, elemV p' c' n' 1 b.length] [.ro (qq a), .ro (qq b)] (qnd (qq a) (qq b) (Zs p c n a p' c' n' b)) := by
  refine Am.Fn.ofW qmq mixed Ud (by simp [elemV, AV.q7, AV.under]) (kz (qa _) (qa _)) ?_
  have hal := qt ha
  have hbl := qt hb
  have hta := xj ha
  have htb := xj hb
  have hl1 := hl.1
  have hl2 := hl.2
  by_cases h0 : jf p c n a p' c' n' b = 0
  · obtain ⟨⟨hE, hE2⟩, rfl, rfl, rfl⟩ := qah h0
    obtain ⟨b1, b2, b3, b4⟩ := Uu hE
    obtain ⟨_, _, _, b5⟩ := Uu hE2
    have hga := Vr ha hE
    have hgb := Vr hb hE2
    have hg1 := hga.dec
    have hg2 := hgb.dec
    have hs := qht (c := c') b1 b2 hga hgb (by omega)
    have hsl := hs.2
    have e1 : Zs p' c' n' a p' c' n' b = G0 p' c' n' (MP p' n' (vw p' c' n' a b)) := by unfold Zs; rw [if_pos h0]
    have c1 : 0 ≤ n' ∧ n' ≤ 8 := by omega
    have c2 : a.length ≤ 300 ∧ b.length ≤ 300 := by omega
    have c4 : (MP p' n' (vw p' c' n' a b)).length ≤ 1100000 := by omega
    rw [e1]
    generalize hSe : MP p' n' (vw p' c' n' a b) = S at *
    have hq0 : ((0 : Int) != 0) = false := rfl
    by_cases hle : S.length ≤ 140
    · have e2 : G0 p' c' n' S = (p', c', n', S, 0) := if_pos hle
      rw [e2]
      simp (maxSteps := 3000000) only [qf, zH, yr, wy, vc, uh, w8, v8, wx, J3, Yb, Yg, Zi, qgr, qhz, elemV, hal, hbl, hta, htb, hl1, hl2, h0, hq0, b1, c1, c2, b2, c4, hg1, hg2, hSe, hle, and_self, iE, iN, iB, iC, iL, iD, iA, iS, iM, qb, zZ, ↓qp, ↓reduceIte, reduceCtorEq, nA, nM, nS, nE, nL, nD]; try simp only [qb, zY]
      exact ⟨rfl, _, qz.refl _, qhj (qa a) (qa b) (qa _) rfl rfl rfl rfl rfl rfl⟩
    · have e2 : G0 p' c' n' S = (0, 0, 0, [], 3) := if_neg hle
      rw [e2]
      simp (maxSteps := 3000000) only [qf, zH, yr, wy, vc, uh, w8, v8, wx, J3, Yb, Yg, Zi, qgr, qhz, elemV, hal, hbl, hta, htb, hl1, hl2, h0, hq0, b1, c1, c2, b2, c4, hg1, hg2, hSe, hle, and_self, iE, iN, iB, iC, iL, iD, iA, iS, iM, qb, zZ, ↓qp, ↓reduceIte, reduceCtorEq, nA, nM, nS, nE, nL, nD]; try simp only [qb, zY]
      exact ⟨rfl, _, qz.refl _, qhj (qa a) (qa b) (qa _) rfl rfl rfl rfl rfl rfl⟩
  · have e1 : Zs p c n a p' c' n' b = (0, 0, 0, [], jf p c n a p' c' n' b) := by unfold Zs; rw [if_neg h0]
    have hq0 : (jf p c n a p' c' n' b != 0) = true := by simpa using h0
    rw [e1]
    simp (maxSteps := 3000000) only [qf, zH, yr, wy, vc, uh, w8, v8, wx, J3, Yb, Yg, Zi, qgr, qhz, elemV, hal, hbl, hta, htb, hl1, hl2, hq0, and_self, iE, iN, iB, iC, iL, iD, iA, iS, iM, qb, zZ, ↓qp, ↓reduceIte, reduceCtorEq, nA, nM, nS, nE, nL, nD]; try simp only [qb, zY]
    exact ⟨rfl, qm9 (qa a) (qa b) rfl rfl rfl rfl rfl (by decide)⟩
theorem qus (p c n p' c' n' : Int) (a b : List (Int × List Nat × Int)) (ha : okT a) (hb : okT b) : qx3 (Zs p c n a p' c' n' b) := by
  unfold Zs
  split
  · rename_i h0
    obtain ⟨⟨hE, hE2⟩, rfl, rfl, rfl⟩ := qah h0
    obtain ⟨b1, b2, b3, b4⟩ := Uu hE
    obtain ⟨_, _, _, b5⟩ := Uu hE2
    exact qhg (qht (c := c') b1 b2 (Vr ha hE) (Vr hb hE2) (by omega)).1.ok
  · exact ⟨(fun t h => by cases h), by simp⟩
noncomputable def B89 : z7 := ((B88.put 39 (wu Zs)).put 40 (wu Zs))
theorem Wi : ze Try.prog B89 := ((qmq.put (qwf Uf)).put (qwf Yr))
end Go.Proofs.Ytkgoadglalpbfaa

/- Contracts: commutators of elements. Contracts: the statement FnExactCommutatorElement. Elements that a law is handed, off their readings. The types of the elements that the laws are handed, and the top of a law of one element. Two elements that a law is handed, off their readings. -/
import Derived.Test.YtkgoadglalpbfaaP6
import Derived.Test.YtkgoadglalpbfaaP3
import Derived.Test.YtkgoadglalpbfaaAmC
import Derived.OpenShut
import Derived.KernelRfl
import Derived.Test.YtkgoadglalpbfaaP5
namespace Go.Proofs.Ytkgoadglalpbfaa
open Go.Am Go.Dia
open Nat renaming reduceAdd → nA, reduceMul → nM, reduceSub → nS, reduceEqDiff → nE, reduceLT → nL, reduceLeDiff → nD, reduceBEq → nB
open Int renaming reduceEq → iE, reduceNe → iN, reduceBEq → iB, reduceBNe → iC, reduceLT → iL, reduceLE → iD, reduceAdd → iA, reduceSub → iS, reduceMul → iM
set_option linter.unusedSimpArgs false
set_option linter.unusedVariables false
set_option maxRecDepth 4000
set_option maxHeartbeats 2000000
theorem Vz (l : List (Int × List Nat × Int)) : AV.bz (qn l) = [] := uk _ (qb l)
noncomputable def kg (p c n : Int) (a : List (Int × List Nat × Int)) (p' c' n' : Int) (b : List (Int × List Nat × Int)) : ER :=
  if ju p c n a p' c' n' b = 0 then (if (MP p n (vh p c n a b)).length ≤ 140 ∧ (MP p n (vh p c n b a)).length ≤ 140 then K4 p c n (ku p n (-1) (MP p n (vh p c n a b)) (MP p n (vh p c n b a))) else (0, 0, 0, [], 3)) else (0, 0, 0, [], ju p c n a p' c' n' b)
theorem z7 : B89 79 = some (Q6) := rfl
theorem zs : B89 90 = some (Qv) := rfl
theorem jb : B89 71 = some (gf) := rfl
theorem xm : B89 78 = some (yr) := rfl
theorem xb : B89 76 = some (gh) := rfl
theorem xe : B89 69 = some (Zt) := rfl
theorem zw : B89 88 = some (Qv) := rfl
theorem z8 : B89 77 = some (Q6) := rfl
def k9 : AT := (.one (oN 18 4 2) (.one (oN 19 4 3) (.one (oN 21 4 3) (.one (oN 22 4 2) (.alt (oC 20 88 [.t 18,.t 19]) (.alt (oC 23 88 [.t 21,.t 22]) (.alt (o0 7 (.alloc [.int .i64 0,.int .i64 0,.int .i64 0,(.v (.slice none 0 0))])) (.one (o0 8 (.alloc [.int .i64 0,.int .i64 0,.int .i64 0,(.v (.slice none 0 0))])) (.one (oS 4 7 20) (.one (oS 4 8 23) (.nil)))) (.alt (o0 8 (.alloc [.int .i64 0,.int .i64 0,.int .i64 0,(.v (.slice none 0 0))])) (.one (o0 7 (.alloc [.int .i64 0,.int .i64 0,.int .i64 0,(.v (.slice none 0 0))])) (.one (oS 4 7 20) (.one (oS 4 8 23) (.nil)))) (.none))) (.alt (o0 7 (.alloc [.int .i64 0,.int .i64 0,.int .i64 0,(.v (.slice none 0 0))])) (.alt (oC 23 88 [.t 21,.t 22]) (.one (o0 8 (.alloc [.int .i64 0,.int .i64 0,.int .i64 0,(.v (.slice none 0 0))])) (.one (oS 4 7 20) (.one (oS 4 8 23) (.nil)))) (.alt (o0 8 (.alloc [.int .i64 0,.int .i64 0,.int .i64 0,(.v (.slice none 0 0))])) (.one (oC 23 88 [.t 21,.t 22]) (.one (oS 4 7 20) (.one (oS 4 8 23) (.nil)))) (.none))) (.alt (o0 8 (.alloc [.int .i64 0,.int .i64 0,.int .i64 0,(.v (.slice none 0 0))])) (.alt (oC 23 88 [.t 21,.t 22]) (.one (o0 7 (.alloc [.int .i64 0,.int .i64 0,.int .i64 0,(.v (.slice none 0 0))])) (.one (oS 4 7 20) (.one (oS 4 8 23) (.nil)))) (.alt (o0 7 (.alloc [.int .i64 0,.int .i64 0,.int .i64 0,(.v (.slice none 0 0))])) (.one (oC 23 88 [.t 21,.t 22]) (.one (oS 4 7 20) (.one (oS 4 8 23) (.nil)))) (.none))) (.none)))) (.alt (o0 7 (.alloc [.int .i64 0,.int .i64 0,.int .i64 0,(.v (.slice none 0 0))])) (.alt (oC 20 88 [.t 18,.t 19]) (.alt (oC 23 88 [.t 21,.t 22]) (.one (o0 8 (.alloc [.int .i64 0,.int .i64 0,.int .i64 0,(.v (.slice none 0 0))])) (.one (oS 4 7 20) (.one (oS 4 8 23) (.nil)))) (.alt (o0 8 (.alloc [.int .i64 0,.int .i64 0,.int .i64 0,(.v (.slice none 0 0))])) (.one (oC 23 88 [.t 21,.t 22]) (.one (oS 4 7 20) (.one (oS 4 8 23) (.nil)))) (.none))) (.alt (o0 8 (.alloc [.int .i64 0,.int .i64 0,.int .i64 0,(.v (.slice none 0 0))])) (.one (oC 20 88 [.t 18,.t 19]) (.one (oC 23 88 [.t 21,.t 22]) (.one (oS 4 7 20) (.one (oS 4 8 23) (.nil))))) (.none))) (.alt (o0 8 (.alloc [.int .i64 0,.int .i64 0,.int .i64 0,(.v (.slice none 0 0))])) (.alt (oC 20 88 [.t 18,.t 19]) (.alt (oC 23 88 [.t 21,.t 22]) (.one (o0 7 (.alloc [.int .i64 0,.int .i64 0,.int .i64 0,(.v (.slice none 0 0))])) (.one (oS 4 7 20) (.one (oS 4 8 23) (.nil)))) (.alt (o0 7 (.alloc [.int .i64 0,.int .i64 0,.int .i64 0,(.v (.slice none 0 0))])) (.one (oC 23 88 [.t 21,.t 22]) (.one (oS 4 7 20) (.one (oS 4 8 23) (.nil)))) (.none))) (.alt (o0 7 (.alloc [.int .i64 0,.int .i64 0,.int .i64 0,(.v (.slice none 0 0))])) (.one (oC 20 88 [.t 18,.t 19]) (.one (oC 23 88 [.t 21,.t 22]) (.one (oS 4 7 20) (.one (oS 4 8 23) (.nil))))) (.none))) (.none))))))))
def j8 : AC := .seq (.seq (.region [oF 24 3 7,oL 25 24,o0 26 (.len .slc (.t 25)),oK 27 .gtr 26 140,oM 28 27,oG 29 28 false (.vi 3 (.t 8)),oG 30 28 false (.vv (.t 29)),oG 31 28 false (.len .slc (.t 30)),oG 32 28 false (.bin .gtr (.t 31) (.c (.int .i64 140))),o0 33 (.pick (.t 28) (.c (.bool true)) (.t 32))]) (.cond 33 (.seq (.region [o0 34 (.build [.int .i64 0,.int .i64 0,.int .i64 0,(.v (.slice none 0 0))] []),oS 4 4 34,oI 5 3]) .ret) .skip)) (.seq (.region [oN 36 4 7,oN 37 4 8,oC 38 69 [.t 36,.t 37,(.c (.int .i64 (-1)))],oC 39 77 [.t 38],oM 35 39,oE 40 0 35,oE 41 1 35,o0 9 (.alloc [.int .i64 0,.int .i64 0,.int .i64 0,(.v (.slice none 0 0))]),oS 4 9 40,oM 10 41]) (.seq (.region [oN 42 4 9,oM 43 10,oS 4 4 42,oM 5 43]) .ret))
def gm : AC := .seq (.region [o0 2 (.box (.t 0)),o0 3 (.box (.t 1)),o0 4 (.alloc [.int .i64 0,.int .i64 0,.int .i64 0,(.v (.slice none 0 0))]),oI 5 0]) (.seq (.seq (.region [oN 11 4 2,oN 12 4 3,oC 13 76 [.t 11,.t 12],oM 6 13]) (.seq (.region [oM 14 6,oK 15 .neq 14 0]) (.cond 15 (.seq (.region [o0 16 (.build [.int .i64 0,.int .i64 0,.int .i64 0,(.v (.slice none 0 0))] []),oM 17 6,oS 4 4 16,oM 5 17]) .ret) .skip))) (.seq (.tree true k9) j8))
theorem Ug : xa Try.prog 43 = some ⟨44, gm, [.kl 4 4, .slot 5]⟩ := by kernel_rfl
theorem Uj (p c n p' c' n' : Int) (a b : List (Int × List Nat × Int)) (ha : okT a) (hb : okT b) (hl : a.length ≤ 1100000 ∧ b.length ≤ 1100000) :
    Am.Fn Try.prog 43 [elemV p c n 0 a.length, elemV p' c' n' 1 b.length] [.ro (qn a), .ro (qn b)] (qo6 (qn a) (qn b) (kg p c n a p' c' n' b)) := by
  refine Am.Fn.ofW qd7 mixed Ug (by simp [elemV, AV.q8, AV.under]) (b9 (qb _) (qb _)) ?_
  have hal := qm ha
  have hbl := qm hb
  have hta := z6 ha
  have htb := z6 hb
  have hl1 := hl.1
  have hl2 := hl.2
  by_cases h0 : ju p c n a p' c' n' b = 0
  · obtain ⟨⟨hE, hE2⟩, rfl, rfl, rfl⟩ := qb0 h0
    obtain ⟨b1, b2, b3, b4⟩ := Bu hE
    obtain ⟨_, _, _, b5⟩ := Bu hE2
    have hga := Xg ha hE
    have hgb := Xg hb hE2
    have hg1 := hga.dec
    have hg2 := hgb.dec
    have hsX := Bx (c := c') b1 b2 hga hgb (by omega)
    have hsY := Bx (c := c') b1 b2 hgb hga (by omega)
    have e1 : kg p' c' n' a p' c' n' b = if (MP p' n' (vh p' c' n' a b)).length ≤ 140 ∧ (MP p' n' (vh p' c' n' b a)).length ≤ 140 then K4 p' c' n' (ku p' n' (-1) (MP p' n' (vh p' c' n' a b)) (MP p' n' (vh p' c' n' b a))) else (0, 0, 0, [], 3) := by unfold kg; rw [if_pos h0]
    have c1 : 0 ≤ n' ∧ n' ≤ 8 := by omega
    have c2 : a.length ≤ 300 ∧ b.length ≤ 300 := by omega
    have c2' : b.length ≤ 300 ∧ a.length ≤ 300 := by omega
    rw [e1]
    generalize hXe : MP p' n' (vh p' c' n' a b) = X at *
    generalize hYe : MP p' n' (vh p' c' n' b a) = Y at *
    have hq0 : ((0 : Int) != 0) = false := rfl
    have hX := qm hsX.1.ok
    have hY := qm hsY.1.ok
    have hxl := hsX.2
    have hyl := hsY.2
    simp (maxSteps := 3000000) only [qf, zH, gm, z7, zs, jb, xm, xb, xe, zw, z8, gh, Q6, Qv, gf, Zt, yr, elemV, hal, hbl, hta, htb, hl1, hl2, h0, hq0, and_self, iE, iN, iB, iC, iL, iD, iA, iS, iM, qa, zZ, ↓qp, ↓reduceIte, reduceCtorEq, nA, nM, nS, nE, nL, nD]; try simp only [qa, zY]
    refine WA.Jz qd7 (fun s => s = ⟨[(8, .ptr 2 0), (7, .ptr 4 0), (5, .int .i64 0), (4, .ptr 6 0), (3, .ptr 7 0), (2, .ptr 8 0)], [.ro (qn a), .ro (qn b), .cells [.int .i64 p', .int .i64 c', .int .i64 n', .slc 3 0 Y.length false 0], .vec 18 (qn Y), .cells [.int .i64 p', .int .i64 c', .int .i64 n', .slc 5 0 X.length false 0], .vec 18 (qn X), qbt, .cells [.int .i64 p', .int .i64 c', .int .i64 n', .slc 1 0 b.length false 0], .cells [.int .i64 p', .int .i64 c', .int .i64 n', .slc 0 0 a.length false 0]]⟩) ?_ ?_
    · unfold k9
      simp (maxSteps := 3000000) only [qf, zH, wj, uc, z7, zs, jb, xm, xb, xe, zw, z8, gh, Q6, Qv, gf, Zt, yr, elemV, hX, hY, hal, hbl, hta, htb, hl1, hl2, h0, hq0, b1, b2, c1, c2, c2', hg1, hg2, hXe, hYe, hxl, hyl, and_self, iE, iN, iB, iC, iL, iD, iA, iS, iM, qa, zZ, ↓qp, ↓reduceIte, reduceCtorEq, nA, nM, nS, nE, nL, nD]; try simp only [qa, zY]
      repeat' first | (with_reducible exact ⟨_, rfl⟩) | (exact rfl) | (with_reducible refine And.intro ?_ ?_)
      all_goals refine ⟨_, q6.can [8, 7, 5, 4, 3, 2] (by simp only [Vz, zC, nB, nD, nA, nE, ↓reduceIte, reduceCtorEq]; rfl), ?_⟩
      all_goals simp only [qc _ _ (qb _), zL, ↓reduceIte, reduceCtorEq, nE, nA]
    rintro s rfl
    have hgx := hsX.1.dec
    have hgy := hsY.1.dec
    have htx := z6 hsX.1.ok
    have hty := z6 hsY.1.ok
    have hs := Wj (k := -1) (by omega) hsX.1 hsY.1
    have hsl : (ku p' n' (-1) X Y).length ≤ 1100000 := by omega
    have c3 : (-1000000 : Int) ≤ -1 ∧ (-1 : Int) ≤ 1000000 := by omega
    have c4 : X.length ≤ 100000 ∧ Y.length ≤ 100000 := ⟨hxl, hyl⟩
    by_cases hx : X.length ≤ 140
    · have gx : ¬ ((140 : Int) < X.length) := by omega
      by_cases hy : Y.length ≤ 140
      · have gy : ¬ ((140 : Int) < Y.length) := by omega
        rw [if_pos ⟨hx, hy⟩]
        by_cases hle : (ku p' n' (-1) X Y).length ≤ 140
        · have e2 : K4 p' c' n' (ku p' n' (-1) X Y) = (p', c', n', ku p' n' (-1) X Y, 0) := if_pos hle
          rw [e2]
          simp (maxSteps := 3000000) only [qf, zH, j8, z7, zs, jb, xm, xb, xe, zw, z8, gh, Q6, Qv, gf, Zt, yr, elemV, hX, hY, hal, hbl, hta, htb, hl1, hl2, h0, hq0, b1, b2, c1, c2, c2', hg1, hg2, hXe, hYe, hxl, hyl, and_self, gx, gy, htx, hty, hgx, hgy, c3, c4, hsl, hle, iE, iN, iB, iC, iL, iD, iA, iS, iM, qa, zZ, ↓qp, ↓reduceIte, reduceCtorEq, nA, nM, nS, nE, nL, nD]; try simp only [qa, zY]
          exact ⟨rfl, rfl, _, q6.refl _, qjm (qb a) (qb b) (qb _) rfl rfl rfl rfl rfl rfl⟩
        · have e2 : K4 p' c' n' (ku p' n' (-1) X Y) = (0, 0, 0, [], 3) := if_neg hle
          rw [e2]
          simp (maxSteps := 3000000) only [qf, zH, j8, z7, zs, jb, xm, xb, xe, zw, z8, gh, Q6, Qv, gf, Zt, yr, elemV, hX, hY, hal, hbl, hta, htb, hl1, hl2, h0, hq0, b1, b2, c1, c2, c2', hg1, hg2, hXe, hYe, hxl, hyl, and_self, gx, gy, htx, hty, hgx, hgy, c3, c4, hsl, hle, iE, iN, iB, iC, iL, iD, iA, iS, iM, qa, zZ, ↓qp, ↓reduceIte, reduceCtorEq, nA, nM, nS, nE, nL, nD]; try simp only [qa, zY]
          exact ⟨rfl, rfl, _, q6.refl _, qjm (qb a) (qb b) (qb _) rfl rfl rfl rfl rfl rfl⟩
      · have gy : (140 : Int) < Y.length := by omega
        rw [if_neg fun h => hy h.2]
        simp (maxSteps := 3000000) only [qf, zH, j8, z7, zs, jb, xm, xb, xe, zw, z8, gh, Q6, Qv, gf, Zt, yr, elemV, hX, hY, hal, hbl, hta, htb, hl1, hl2, h0, hq0, b1, b2, c1, c2, c2', hg1, hg2, hXe, hYe, hxl, hyl, and_self, gx, gy, iE, iN, iB, iC, iL, iD, iA, iS, iM, qa, zZ, ↓qp, ↓reduceIte, reduceCtorEq, nA, nM, nS, nE, nL, nD]; try simp only [qa, zY]
        exact ⟨rfl, Bw (qb a) (qb b) rfl rfl rfl rfl rfl (by decide)⟩
    · have gx : (140 : Int) < X.length := by omega
      rw [if_neg fun h => hx h.1]
      simp (maxSteps := 3000000) only [qf, zH, j8, z7, zs, jb, xm, xb, xe, zw, z8, gh, Q6, Qv, gf, Zt, yr, elemV, hX, hY, hal, hbl, hta, htb, hl1, hl2, h0, hq0, b1, b2, c1, c2, c2', hg1, hg2, hXe, hYe, hxl, hyl, and_self, gx, iE, iN, iB, iC, iL, iD, iA, iS, iM, qa, zZ, ↓qp, ↓reduceIte, reduceCtorEq, nA, nM, nS, nE, nL, nD]; try simp only [qa, zY]
      exact ⟨rfl, Bw (qb a) (qb b) rfl rfl rfl rfl rfl (by decide)⟩
  · have e1 : kg p c n a p' c' n' b = (0, 0, 0, [], ju p c n a p' c' n' b) := by unfold kg; rw [if_neg h0]
    have hq0 : (ju p c n a p' c' n' b != 0) = true := by simpa using h0
    rw [e1]
    simp (maxSteps := 3000000) only [qf, zH, gm, z7, zs, jb, xm, xb, xe, zw, z8, gh, Q6, Qv, gf, Zt, yr, elemV, hal, hbl, hta, htb, hl1, hl2, hq0, and_self, iE, iN, iB, iC, iL, iD, iA, iS, iM, qa, zZ, ↓qp, ↓reduceIte, reduceCtorEq, nA, nM, nS, nE, nL, nD]; try simp only [qa, zY]
    exact ⟨rfl, Bw (qb a) (qb b) rfl rfl rfl rfl rfl (by decide)⟩
def Qi : AT := (.one (oN 17 4 2) (.one (oN 18 4 3) (.one (oN 20 4 3) (.one (oN 21 4 2) (.alt (oC 19 90 [.t 17,.t 18]) (.alt (oC 22 90 [.t 20,.t 21]) (.alt (o0 7 (.alloc [.int .i64 0,.int .i64 0,.int .i64 0,(.v (.slice none 0 0))])) (.one (o0 8 (.alloc [.int .i64 0,.int .i64 0,.int .i64 0,(.v (.slice none 0 0))])) (.one (oS 4 7 19) (.one (oS 4 8 22) (.nil)))) (.alt (o0 8 (.alloc [.int .i64 0,.int .i64 0,.int .i64 0,(.v (.slice none 0 0))])) (.one (o0 7 (.alloc [.int .i64 0,.int .i64 0,.int .i64 0,(.v (.slice none 0 0))])) (.one (oS 4 7 19) (.one (oS 4 8 22) (.nil)))) (.none))) (.alt (o0 7 (.alloc [.int .i64 0,.int .i64 0,.int .i64 0,(.v (.slice none 0 0))])) (.alt (oC 22 90 [.t 20,.t 21]) (.one (o0 8 (.alloc [.int .i64 0,.int .i64 0,.int .i64 0,(.v (.slice none 0 0))])) (.one (oS 4 7 19) (.one (oS 4 8 22) (.nil)))) (.alt (o0 8 (.alloc [.int .i64 0,.int .i64 0,.int .i64 0,(.v (.slice none 0 0))])) (.one (oC 22 90 [.t 20,.t 21]) (.one (oS 4 7 19) (.one (oS 4 8 22) (.nil)))) (.none))) (.alt (o0 8 (.alloc [.int .i64 0,.int .i64 0,.int .i64 0,(.v (.slice none 0 0))])) (.alt (oC 22 90 [.t 20,.t 21]) (.one (o0 7 (.alloc [.int .i64 0,.int .i64 0,.int .i64 0,(.v (.slice none 0 0))])) (.one (oS 4 7 19) (.one (oS 4 8 22) (.nil)))) (.alt (o0 7 (.alloc [.int .i64 0,.int .i64 0,.int .i64 0,(.v (.slice none 0 0))])) (.one (oC 22 90 [.t 20,.t 21]) (.one (oS 4 7 19) (.one (oS 4 8 22) (.nil)))) (.none))) (.none)))) (.alt (o0 7 (.alloc [.int .i64 0,.int .i64 0,.int .i64 0,(.v (.slice none 0 0))])) (.alt (oC 19 90 [.t 17,.t 18]) (.alt (oC 22 90 [.t 20,.t 21]) (.one (o0 8 (.alloc [.int .i64 0,.int .i64 0,.int .i64 0,(.v (.slice none 0 0))])) (.one (oS 4 7 19) (.one (oS 4 8 22) (.nil)))) (.alt (o0 8 (.alloc [.int .i64 0,.int .i64 0,.int .i64 0,(.v (.slice none 0 0))])) (.one (oC 22 90 [.t 20,.t 21]) (.one (oS 4 7 19) (.one (oS 4 8 22) (.nil)))) (.none))) (.alt (o0 8 (.alloc [.int .i64 0,.int .i64 0,.int .i64 0,(.v (.slice none 0 0))])) (.one (oC 19 90 [.t 17,.t 18]) (.one (oC 22 90 [.t 20,.t 21]) (.one (oS 4 7 19) (.one (oS 4 8 22) (.nil))))) (.none))) (.alt (o0 8 (.alloc [.int .i64 0,.int .i64 0,.int .i64 0,(.v (.slice none 0 0))])) (.alt (oC 19 90 [.t 17,.t 18]) (.alt (oC 22 90 [.t 20,.t 21]) (.one (o0 7 (.alloc [.int .i64 0,.int .i64 0,.int .i64 0,(.v (.slice none 0 0))])) (.one (oS 4 7 19) (.one (oS 4 8 22) (.nil)))) (.alt (o0 7 (.alloc [.int .i64 0,.int .i64 0,.int .i64 0,(.v (.slice none 0 0))])) (.one (oC 22 90 [.t 20,.t 21]) (.one (oS 4 7 19) (.one (oS 4 8 22) (.nil)))) (.none))) (.alt (o0 7 (.alloc [.int .i64 0,.int .i64 0,.int .i64 0,(.v (.slice none 0 0))])) (.one (oC 19 90 [.t 17,.t 18]) (.one (oC 22 90 [.t 20,.t 21]) (.one (oS 4 7 19) (.one (oS 4 8 22) (.nil))))) (.none))) (.none))))))))
def j6 : AC := .seq (.seq (.region [oF 23 3 7,oL 24 23,o0 25 (.len .slc (.t 24)),oK 26 .gtr 25 140,oM 27 26,oG 28 27 false (.vi 3 (.t 8)),oG 29 27 false (.vv (.t 28)),oG 30 27 false (.len .slc (.t 29)),oG 31 27 false (.bin .gtr (.t 30) (.c (.int .i64 140))),o0 32 (.pick (.t 27) (.c (.bool true)) (.t 31))]) (.cond 32 (.seq (.region [o0 33 (.build [.int .i64 0,.int .i64 0,.int .i64 0,(.v (.slice none 0 0))] []),oS 4 4 33,oI 5 3]) .ret) .skip)) (.seq (.region [oN 34 4 7,oN 35 4 8,oC 36 71 [.t 34,.t 35,(.c (.int .i64 (-1)))],oC 37 79 [.t 36],oE 38 0 37,oE 39 1 37,oS 4 4 38,oM 5 39]) .ret)
def gi : AC := .seq (.region [o0 2 (.box (.t 0)),o0 3 (.box (.t 1)),o0 4 (.alloc [.int .i64 0,.int .i64 0,.int .i64 0,(.v (.slice none 0 0))]),oI 5 0]) (.seq (.seq (.region [oN 9 4 2,oN 10 4 3,o0 11 (.Qc 2 [.int .i64 0,.int .i64 0,.int .i64 0,(.v (.slice none 0 0)),.int .i64 0,.int .i64 0,.int .i64 0,(.v (.slice none 0 0))] [(0,4,.t 9),(4,4,.t 10)]),oC 12 78 [.t 11],oM 6 12]) (.seq (.region [oM 13 6,oK 14 .neq 13 0]) (.cond 14 (.seq (.region [o0 15 (.build [.int .i64 0,.int .i64 0,.int .i64 0,(.v (.slice none 0 0))] []),oM 16 6,oS 4 4 15,oM 5 16]) .ret) .skip))) (.seq (.tree true Qi) j6))
theorem Uk : xa Try.prog 44 = some ⟨40, gi, [.kl 4 4, .slot 5]⟩ := by kernel_rfl
theorem Ui (p c n p' c' n' : Int) (a b : List (Int × List Nat × Int)) (ha : okT a) (hb : okT b) (hl : a.length ≤ 1100000 ∧ b.length ≤ 1100000) :
    Am.Fn Try.prog 44 [elemV p c n 0 a.length, elemV p' c' n' 1 b.length] [.ro (qn a), .ro (qn b)] (qo6 (qn a) (qn b) (kg p c n a p' c' n' b)) := by
  refine Am.Fn.ofW qd7 mixed Uk (by simp [elemV, AV.q8, AV.under]) (b9 (qb _) (qb _)) ?_
  have hal := qm ha
  have hbl := qm hb
  have hta := z6 ha
  have htb := z6 hb
  have hl1 := hl.1
  have hl2 := hl.2
  by_cases h0 : ju p c n a p' c' n' b = 0
  · obtain ⟨⟨hE, hE2⟩, rfl, rfl, rfl⟩ := qb0 h0
    obtain ⟨b1, b2, b3, b4⟩ := Bu hE
    obtain ⟨_, _, _, b5⟩ := Bu hE2
    have hga := Xg ha hE
    have hgb := Xg hb hE2
    have hg1 := hga.dec
    have hg2 := hgb.dec
    have hsX := Bx (c := c') b1 b2 hga hgb (by omega)
    have hsY := Bx (c := c') b1 b2 hgb hga (by omega)
    have e1 : kg p' c' n' a p' c' n' b = if (MP p' n' (vh p' c' n' a b)).length ≤ 140 ∧ (MP p' n' (vh p' c' n' b a)).length ≤ 140 then K4 p' c' n' (ku p' n' (-1) (MP p' n' (vh p' c' n' a b)) (MP p' n' (vh p' c' n' b a))) else (0, 0, 0, [], 3) := by unfold kg; rw [if_pos h0]
    have c1 : 0 ≤ n' ∧ n' ≤ 8 := by omega
    have c2 : a.length ≤ 300 ∧ b.length ≤ 300 := by omega
    have c2' : b.length ≤ 300 ∧ a.length ≤ 300 := by omega
    rw [e1]
    generalize hXe : MP p' n' (vh p' c' n' a b) = X at *
    generalize hYe : MP p' n' (vh p' c' n' b a) = Y at *
    have hq0 : ((0 : Int) != 0) = false := rfl
    have hX := qm hsX.1.ok
    have hY := qm hsY.1.ok
    have hxl := hsX.2
    have hyl := hsY.2
    simp (maxSteps := 3000000) only [qf, zH, gi, z7, zs, jb, xm, xb, xe, zw, z8, gh, Q6, Qv, gf, Zt, yr, W9, Yp, elemV, hal, hbl, hta, htb, hl1, hl2, h0, hq0, and_self, iE, iN, iB, iC, iL, iD, iA, iS, iM, qa, zZ, ↓qp, ↓reduceIte, reduceCtorEq, nA, nM, nS, nE, nL, nD]; try simp only [qa, zY]
    refine WA.Jz qd7 (fun s => s = ⟨[(8, .ptr 2 0), (7, .ptr 4 0), (5, .int .i64 0), (4, .ptr 6 0), (3, .ptr 7 0), (2, .ptr 8 0)], [.ro (qn a), .ro (qn b), .cells [.int .i64 p', .int .i64 c', .int .i64 n', .slc 3 0 Y.length false 0], .vec 18 (qn Y), .cells [.int .i64 p', .int .i64 c', .int .i64 n', .slc 5 0 X.length false 0], .vec 18 (qn X), qbt, .cells [.int .i64 p', .int .i64 c', .int .i64 n', .slc 1 0 b.length false 0], .cells [.int .i64 p', .int .i64 c', .int .i64 n', .slc 0 0 a.length false 0]]⟩) ?_ ?_
    · unfold Qi
      simp (maxSteps := 3000000) only [qf, zH, wj, uc, z7, zs, jb, xm, xb, xe, zw, z8, gh, Q6, Qv, gf, Zt, yr, W9, Yp, elemV, hX, hY, hal, hbl, hta, htb, hl1, hl2, h0, hq0, b1, b2, c1, c2, c2', hg1, hg2, hXe, hYe, hxl, hyl, and_self, iE, iN, iB, iC, iL, iD, iA, iS, iM, qa, zZ, ↓qp, ↓reduceIte, reduceCtorEq, nA, nM, nS, nE, nL, nD]; try simp only [qa, zY]
      repeat' first | (with_reducible exact ⟨_, rfl⟩) | (exact rfl) | (with_reducible refine And.intro ?_ ?_)
      all_goals refine ⟨_, q6.can [8, 7, 5, 4, 3, 2] (by simp only [Vz, zC, nB, nD, nA, nE, ↓reduceIte, reduceCtorEq]; rfl), ?_⟩
      all_goals simp only [qc _ _ (qb _), zL, ↓reduceIte, reduceCtorEq, nE, nA]
    rintro s rfl
    have hgx := hsX.1.dec
    have hgy := hsY.1.dec
    have htx := z6 hsX.1.ok
    have hty := z6 hsY.1.ok
    have hs := Wj (k := -1) (by omega) hsX.1 hsY.1
    have hsl : (ku p' n' (-1) X Y).length ≤ 1100000 := by omega
    have c3 : (-1000001 : Int) ≤ -1 ∧ (-1 : Int) ≤ 1000001 := by omega
    have c4 : X.length ≤ 100000 ∧ Y.length ≤ 100000 := ⟨hxl, hyl⟩
    by_cases hx : X.length ≤ 140
    · have gx : ¬ ((140 : Int) < X.length) := by omega
      by_cases hy : Y.length ≤ 140
      · have gy : ¬ ((140 : Int) < Y.length) := by omega
        rw [if_pos ⟨hx, hy⟩]
        by_cases hle : (ku p' n' (-1) X Y).length ≤ 140
        · have e2 : K4 p' c' n' (ku p' n' (-1) X Y) = (p', c', n', ku p' n' (-1) X Y, 0) := if_pos hle
          rw [e2]
          simp (maxSteps := 3000000) only [qf, zH, j6, z7, zs, jb, xm, xb, xe, zw, z8, gh, Q6, Qv, gf, Zt, yr, W9, Yp, elemV, hX, hY, hal, hbl, hta, htb, hl1, hl2, h0, hq0, b1, b2, c1, c2, c2', hg1, hg2, hXe, hYe, hxl, hyl, and_self, gx, gy, htx, hty, hgx, hgy, c3, c4, hsl, hle, iE, iN, iB, iC, iL, iD, iA, iS, iM, qa, zZ, ↓qp, ↓reduceIte, reduceCtorEq, nA, nM, nS, nE, nL, nD]; try simp only [qa, zY]
          exact ⟨rfl, _, q6.refl _, qjm (qb a) (qb b) (qb _) rfl rfl rfl rfl rfl rfl⟩
        · have e2 : K4 p' c' n' (ku p' n' (-1) X Y) = (0, 0, 0, [], 3) := if_neg hle
          rw [e2]
          simp (maxSteps := 3000000) only [qf, zH, j6, z7, zs, jb, xm, xb, xe, zw, z8, gh, Q6, Qv, gf, Zt, yr, W9, Yp, elemV, hX, hY, hal, hbl, hta, htb, hl1, hl2, h0, hq0, b1, b2, c1, c2, c2', hg1, hg2, hXe, hYe, hxl, hyl, and_self, gx, gy, htx, hty, hgx, hgy, c3, c4, hsl, hle, iE, iN, iB, iC, iL, iD, iA, iS, iM, qa, zZ, ↓qp, ↓reduceIte, reduceCtorEq, nA, nM, nS, nE, nL, nD]; try simp only [qa, zY]
          exact ⟨rfl, _, q6.refl _, qjm (qb a) (qb b) (qb _) rfl rfl rfl rfl rfl rfl⟩
      · have gy : (140 : Int) < Y.length := by omega
        rw [if_neg fun h => hy h.2]
        simp (maxSteps := 3000000) only [qf, zH, j6, z7, zs, jb, xm, xb, xe, zw, z8, gh, Q6, Qv, gf, Zt, yr, W9, Yp, elemV, hX, hY, hal, hbl, hta, htb, hl1, hl2, h0, hq0, b1, b2, c1, c2, c2', hg1, hg2, hXe, hYe, hxl, hyl, and_self, gx, gy, iE, iN, iB, iC, iL, iD, iA, iS, iM, qa, zZ, ↓qp, ↓reduceIte, reduceCtorEq, nA, nM, nS, nE, nL, nD]; try simp only [qa, zY]
        exact ⟨rfl, Bw (qb a) (qb b) rfl rfl rfl rfl rfl (by decide)⟩
    · have gx : (140 : Int) < X.length := by omega
      rw [if_neg fun h => hx h.1]
      simp (maxSteps := 3000000) only [qf, zH, j6, z7, zs, jb, xm, xb, xe, zw, z8, gh, Q6, Qv, gf, Zt, yr, W9, Yp, elemV, hX, hY, hal, hbl, hta, htb, hl1, hl2, h0, hq0, b1, b2, c1, c2, c2', hg1, hg2, hXe, hYe, hxl, hyl, and_self, gx, iE, iN, iB, iC, iL, iD, iA, iS, iM, qa, zZ, ↓qp, ↓reduceIte, reduceCtorEq, nA, nM, nS, nE, nL, nD]; try simp only [qa, zY]
      exact ⟨rfl, Bw (qb a) (qb b) rfl rfl rfl rfl rfl (by decide)⟩
  · have e1 : kg p c n a p' c' n' b = (0, 0, 0, [], ju p c n a p' c' n' b) := by unfold kg; rw [if_neg h0]
    have hq0 : (ju p c n a p' c' n' b != 0) = true := by simpa using h0
    rw [e1]
    simp (maxSteps := 3000000) only [qf, zH, gi, z7, zs, jb, xm, xb, xe, zw, z8, gh, Q6, Qv, gf, Zt, yr, W9, Yp, elemV, hal, hbl, hta, htb, hl1, hl2, hq0, and_self, iE, iN, iB, iC, iL, iD, iA, iS, iM, qa, zZ, ↓qp, ↓reduceIte, reduceCtorEq, nA, nM, nS, nE, nL, nD]; try simp only [qa, zY]
    exact ⟨rfl, Bw (qb a) (qb b) rfl rfl rfl rfl rfl (by decide)⟩
theorem qw1 (p c n p' c' n' : Int) (a b : List (Int × List Nat × Int)) (ha : okT a) (hb : okT b) : qzr (kg p c n a p' c' n' b) := by
  unfold kg
  split
  · rename_i h0
    obtain ⟨⟨hE, hE2⟩, rfl, rfl, rfl⟩ := qb0 h0
    obtain ⟨b1, b2, b3, b4⟩ := Bu hE
    obtain ⟨_, _, _, b5⟩ := Bu hE2
    split
    · exact qim (Wj (by omega) (Bx (c := c') b1 b2 (Xg ha hE) (Xg hb hE2) (by omega)).1 (Bx (c := c') b1 b2 (Xg hb hE2) (Xg ha hE) (by omega)).1).1.ok
    · exact ⟨(fun t h => by cases h), by simp⟩
  · exact ⟨(fun t h => by cases h), by simp⟩
noncomputable def B90 : xh := ((B89.put 43 (yg kg)).put 44 (yg kg))
theorem Yf : zf Try.prog B90 := ((qd7.put (qx6 Uj)).put (qx6 Ui))
end Go.Proofs.Ytkgoadglalpbfaa
namespace Go.Proofs.Ytkgoadglalpbfaa
open Go.Am Go.Dia
open Nat renaming reduceAdd → nA, reduceMul → nM, reduceSub → nS, reduceEqDiff → nE, reduceLT → nL, reduceLeDiff → nD, reduceBEq → nB
open Int renaming reduceEq → iE, reduceNe → iN, reduceBEq → iB, reduceBNe → iC, reduceLT → iL, reduceLE → iD, reduceAdd → iA, reduceSub → iS, reduceMul → iM
set_option linter.unusedSimpArgs false
set_option linter.unusedVariables false
set_option maxRecDepth 4000
set_option maxHeartbeats 1000000
theorem qj : B90 44 = some (yg kg) := rfl
theorem qi : B90 43 = some (yg kg) := rfl
theorem qw : B90 19 = some (zl) := rfl
theorem qq : B90 26 = some (zd) := rfl
theorem qt : B90 20 = some (zc) := rfl
theorem qv : B90 14 = some (zn) := rfl
theorem qx : B90 16 = some (zm) := rfl
def xu : AT := (.one (oN 28 4 2) (.one (oN 30 4 3) (.alt (oC 29 16 [.t 28]) (.alt (oC 31 16 [.t 30]) (.alt (oC 32 43 [.t 29,.t 31]) (.one (oM 27 32) (.one (oE 33 0 27) (.one (oE 34 1 27) (.one (o0 6 (.alloc [.int .i64 0,.int .i64 0,.int .i64 0,(.v (.slice none 0 0))])) (.one (oS 4 6 33) (.one (oM 7 34) (.nil))))))) (.alt (o0 6 (.alloc [.int .i64 0,.int .i64 0,.int .i64 0,(.v (.slice none 0 0))])) (.one (oC 32 43 [.t 29,.t 31]) (.one (oM 27 32) (.one (oE 33 0 27) (.one (oE 34 1 27) (.one (oS 4 6 33) (.one (oM 7 34) (.nil))))))) (.none))) (.alt (o0 6 (.alloc [.int .i64 0,.int .i64 0,.int .i64 0,(.v (.slice none 0 0))])) (.one (oC 31 16 [.t 30]) (.one (oC 32 43 [.t 29,.t 31]) (.one (oM 27 32) (.one (oE 33 0 27) (.one (oE 34 1 27) (.one (oS 4 6 33) (.one (oM 7 34) (.nil)))))))) (.none))) (.alt (o0 6 (.alloc [.int .i64 0,.int .i64 0,.int .i64 0,(.v (.slice none 0 0))])) (.one (oC 29 16 [.t 28]) (.one (oC 31 16 [.t 30]) (.one (oC 32 43 [.t 29,.t 31]) (.one (oM 27 32) (.one (oE 33 0 27) (.one (oE 34 1 27) (.one (oS 4 6 33) (.one (oM 7 34) (.nil))))))))) (.none)))))
def xx : AT := (.one (oN 95 4 2) (.one (oN 97 4 3) (.alt (oC 96 16 [.t 95]) (.alt (oC 98 16 [.t 97]) (.alt (oC 99 44 [.t 96,.t 98]) (.one (oM 94 99) (.one (oE 100 0 94) (.one (oE 101 1 94) (.one (o0 15 (.alloc [.int .i64 0,.int .i64 0,.int .i64 0,(.v (.slice none 0 0))])) (.one (oS 4 15 100) (.one (oM 16 101) (.nil))))))) (.alt (o0 15 (.alloc [.int .i64 0,.int .i64 0,.int .i64 0,(.v (.slice none 0 0))])) (.one (oC 99 44 [.t 96,.t 98]) (.one (oM 94 99) (.one (oE 100 0 94) (.one (oE 101 1 94) (.one (oS 4 15 100) (.one (oM 16 101) (.nil))))))) (.none))) (.alt (o0 15 (.alloc [.int .i64 0,.int .i64 0,.int .i64 0,(.v (.slice none 0 0))])) (.one (oC 98 16 [.t 97]) (.one (oC 99 44 [.t 96,.t 98]) (.one (oM 94 99) (.one (oE 100 0 94) (.one (oE 101 1 94) (.one (oS 4 15 100) (.one (oM 16 101) (.nil)))))))) (.none))) (.alt (o0 15 (.alloc [.int .i64 0,.int .i64 0,.int .i64 0,(.v (.slice none 0 0))])) (.one (oC 96 16 [.t 95]) (.one (oC 98 16 [.t 97]) (.one (oC 99 44 [.t 96,.t 98]) (.one (oM 94 99) (.one (oE 100 0 94) (.one (oE 101 1 94) (.one (oS 4 15 100) (.one (oM 16 101) (.nil))))))))) (.none)))))
def xv : AC := .seq (.seq (.region [oN 102 4 15,oN 103 4 6,oC 104 19 [.t 102,.t 103],o0 105 (.un .not (.t 104)),oM 106 105,oG 107 106 false (.mov (.t 16)),oG 108 106 false (.mov (.t 7)),oG 109 106 false (.bin .neq (.t 107) (.t 108)),o0 110 (.pick (.t 106) (.c (.bool true)) (.t 109))]) (.cond 110 (.seq (.region [oB 4 false]) .ret) .skip)) (.seq (.region [oI 14 1]) (.seq (.region [oN 111 4 10,oM 112 14,oC 113 26 [.t 111,.t 112],oM 14 113]) (.seq (.seq (.region [oM 114 14,oK 115 .lss 114 0]) (.cond 115 (.seq (.region [oB 4 false]) .ret) .skip)) (.seq (.seq (.region [oM 116 14,oM 117 13,oP 118 .neq 116 117]) (.cond 118 (.seq (.region [oB 4 false]) .ret) .skip)) (.seq (.region [oB 4 true]) .ret)))))
def xw : AC := .seq (.region [oN 35 4 2,oC 36 16 [.t 35],o0 8 (.alloc [.int .i64 0,.int .i64 0,.int .i64 0,(.v (.slice none 0 0))]),oS 4 8 36]) (.seq (.region [oN 37 4 3,oC 38 16 [.t 37],o0 9 (.alloc [.int .i64 0,.int .i64 0,.int .i64 0,(.v (.slice none 0 0))]),oS 4 9 38]) (.seq (.region [oN 40 4 8,oN 41 4 9,oC 42 44 [.t 40,.t 41],oM 39 42,oE 43 0 39,oE 44 1 39,o0 10 (.alloc [.int .i64 0,.int .i64 0,.int .i64 0,(.v (.slice none 0 0))]),oS 4 10 43,oM 11 44]) (.seq (.seq (.region [oN 45 4 10,oN 46 4 6,oC 47 19 [.t 45,.t 46],o0 48 (.un .not (.t 47)),oM 49 48,oG 50 49 false (.mov (.t 11)),oG 51 49 false (.mov (.t 7)),oG 52 49 false (.bin .neq (.t 50) (.t 51)),o0 53 (.pick (.t 49) (.c (.bool true)) (.t 52))]) (.cond 53 (.seq (.region [oB 4 false]) .ret) .skip)) (.seq (.seq (.draw true [oN 54 4 8,oN 55 4 2,oC 56 16 [.t 55],oC 57 19 [.t 54,.t 56],o0 58 (.un .not (.t 57))]) (.cond 58 (.seq (.region [oB 4 false]) .ret) .skip)) (.seq (.seq (.draw true [oN 59 4 9,oN 60 4 3,oC 61 16 [.t 60],oC 62 19 [.t 59,.t 61],o0 63 (.un .not (.t 62))]) (.cond 63 (.seq (.region [oB 4 false]) .ret) .skip)) (.seq (.region [oI 12 1]) (.seq (.region [oN 64 4 8,oM 65 12,oC 66 20 [.t 64,.t 65],oM 12 66]) (.seq (.region [oN 67 4 9,oM 68 12,oC 69 20 [.t 67,.t 68],oM 12 69]) (.seq (.seq (.region [oM 70 12,oK 71 .lss 70 0,oM 72 71,oG 73 72 false (.kx 4 (.t 10)),oG 74 72 false (.kx 4 (.t 6)),⟨some 75,some (72,false),.call (.c (.fn 19 [] [])) [.t 73,.t 74]⟩,oG 76 72 false (.un .not (.t 75)),o0 77 (.pick (.t 72) (.c (.bool true)) (.t 76)),oM 78 77,oG 79 78 false (.mov (.t 11)),oG 80 78 false (.mov (.t 7)),oG 81 78 false (.bin .neq (.t 79) (.t 80)),o0 82 (.pick (.t 78) (.c (.bool true)) (.t 81))]) (.cond 82 (.seq (.region [oB 4 false]) .ret) .skip)) (.seq (.region [oI 13 1]) (.seq (.region [oN 83 4 10,oM 84 13,oC 85 20 [.t 83,.t 84],oM 13 85]) (.seq (.region [oI 14 1]) (.seq (.region [oN 86 4 10,oM 87 14,oC 88 26 [.t 86,.t 87],oM 14 88]) (.seq (.seq (.region [oM 89 14,oK 90 .lss 89 0]) (.cond 90 (.seq (.region [oB 4 false]) .ret) .skip)) (.seq (.seq (.region [oM 91 14,oM 92 13,oP 93 .neq 91 92]) (.cond 93 (.seq (.region [oB 4 false]) .ret) .skip)) (.seq (.tree true xx) xv))))))))))))))))
def zi : AC := .seq (.region [o0 2 (.box (.t 0)),o0 3 (.box (.t 1)),oB 4 false]) (.seq (.region [oI 5 1048576]) (.seq (.region [oN 17 4 2,oM 18 5,oC 19 14 [.t 17,.t 18],oM 5 19]) (.seq (.seq (.region [oM 20 5,oK 21 .lss 20 0]) (.cond 21 (.seq (.region [oB 4 true]) .ret) .skip)) (.seq (.region [oN 22 4 3,oM 23 5,oC 24 14 [.t 22,.t 23],oM 5 24]) (.seq (.seq (.region [oM 25 5,oK 26 .lss 25 0]) (.cond 26 (.seq (.region [oB 4 true]) .ret) .skip)) (.seq (.tree true xu) xw))))))
theorem Xu : xa Try.prog 13 = some ⟨119, zi, [.slot 4]⟩ := by kernel_rfl
theorem Uh (H : List AO) (X Y : AV) (p c n p' c' n' : Int) (ts us : List (Int × List Nat × Int)) (h : qqb H X Y ts us) (hl : ts.length ≤ 9223372036854775807 ∧ us.length ≤ 9223372036854775807) :
    Am.Fn Try.prog 13 [.agg [.int .i64 p, .int .i64 c, .int .i64 n, X], .agg [.int .i64 p', .int .i64 c', .int .i64 n', Y]] H (fun v H' => v = .bool true ∧ H' = H) := by
  refine Am.Fn.vb (R := fun v => v = _) Yf mixed Xu (by simp) h.un ?_
  have hX := h.x
  have hY := h.y
  have ho := h.ok.1
  have ho2 := h.ok.2
  have hl1 := hl.1
  have hl2 := hl.2
  by_cases hlt : (1048576 : Int) - ts.length < 0
  · have hif : (if (1048576 : Int) - ts.length < 0 then (-1 : Int) else 1048576 - ts.length) = -1 := if_pos hlt
    rcases h.h with rfl | ⟨o, rfl⟩ | ⟨o, o', rfl⟩
    · simp only [List.nil_append] at hX
      simp (maxSteps := 3000000) only [qf, zH, zi, qj, qi, qw, qq, qt, qv, qx, yg, zl, zd, zc, zn, zm, iE, iN, iB, iC, iL, iD, iA, iS, iM, hX, hl1, hif, qa, zZ, ↓qp, ↓reduceIte, reduceCtorEq, nA, nM, nS, nE, nL, nD]; try simp only [qa, zY]
    · simp only [List.cons_append, List.nil_append] at hX
      simp (maxSteps := 3000000) only [qf, zH, zi, qj, qi, qw, qq, qt, qv, qx, yg, zl, zd, zc, zn, zm, iE, iN, iB, iC, iL, iD, iA, iS, iM, hX, hl1, hif, qa, zZ, ↓qp, ↓reduceIte, reduceCtorEq, nA, nM, nS, nE, nL, nD]; try simp only [qa, zY]
      exact ⟨_, rfl⟩
    · simp only [List.cons_append, List.nil_append] at hX
      simp (maxSteps := 3000000) only [qf, zH, zi, qj, qi, qw, qq, qt, qv, qx, yg, zl, zd, zc, zn, zm, iE, iN, iB, iC, iL, iD, iA, iS, iM, hX, hl1, hif, qa, zZ, ↓qp, ↓reduceIte, reduceCtorEq, nA, nM, nS, nE, nL, nD]; try simp only [qa, zY]
      exact ⟨_, rfl⟩
  have hif : (if (1048576 : Int) - ts.length < 0 then (-1 : Int) else 1048576 - ts.length) = 1048576 - ts.length := if_neg hlt
  have c1 : (0 : Int) ≤ 1048576 - ts.length ∧ 1048576 - (ts.length : Int) ≤ 1000000000 := by omega
  by_cases hlt2 : (1048576 : Int) - ts.length - us.length < 0
  · have hif2 : (if (1048576 : Int) - ts.length - us.length < 0 then (-1 : Int) else 1048576 - ts.length - us.length) = -1 := if_pos hlt2
    rcases h.h with rfl | ⟨o, rfl⟩ | ⟨o, o', rfl⟩
    · simp only [List.nil_append] at hX hY
      simp (maxSteps := 3000000) only [qf, zH, zi, qj, qi, qw, qq, qt, qv, qx, yg, zl, zd, zc, zn, zm, iE, iN, iB, iC, iL, iD, iA, iS, iM, hX, hY, hl1, hl2, hif, hlt, hif2, c1, qa, zZ, ↓qp, ↓reduceIte, reduceCtorEq, nA, nM, nS, nE, nL, nD]; try simp only [qa, zY]
    · simp only [List.cons_append, List.nil_append] at hX hY
      simp (maxSteps := 3000000) only [qf, zH, zi, qj, qi, qw, qq, qt, qv, qx, yg, zl, zd, zc, zn, zm, iE, iN, iB, iC, iL, iD, iA, iS, iM, hX, hY, hl1, hl2, hif, hlt, hif2, c1, qa, zZ, ↓qp, ↓reduceIte, reduceCtorEq, nA, nM, nS, nE, nL, nD]; try simp only [qa, zY]
      exact ⟨_, rfl⟩
    · simp only [List.cons_append, List.nil_append] at hX hY
      simp (maxSteps := 3000000) only [qf, zH, zi, qj, qi, qw, qq, qt, qv, qx, yg, zl, zd, zc, zn, zm, iE, iN, iB, iC, iL, iD, iA, iS, iM, hX, hY, hl1, hl2, hif, hlt, hif2, c1, qa, zZ, ↓qp, ↓reduceIte, reduceCtorEq, nA, nM, nS, nE, nL, nD]; try simp only [qa, zY]
      exact ⟨_, rfl⟩
  have hif2 : (if (1048576 : Int) - ts.length - us.length < 0 then (-1 : Int) else 1048576 - ts.length - us.length) = 1048576 - ts.length - us.length := if_neg hlt2
  have hr := qw1 p c n p' c' n' ts us ho ho2
  generalize he : kg p c n ts p' c' n' us = r at hr
  obtain ⟨P, C, N, L, E⟩ := r
  obtain ⟨hL, hLl⟩ := hr
  simp only at hL hLl
  have b0 := qm ho
  have b1 := z6 ho
  have b2 := qm ho2
  have b3 := z6 ho2
  have h1 := qm hL
  have h2 := z6 hL
  have h3 : Qa L.length (qn (marks L.length 1)) = some (marks L.length 1) := by have := z6 (V4 L.length 1); rwa [xn] at this
  have h6 : ((1 + 18 * L.length : Nat) : Int) < 0 ↔ False := iff_false_intro (by omega)
  have h7 : ((1 + 18 * ts.length + 18 * us.length : Nat) : Int) < 0 ↔ False := iff_false_intro (by omega)
  have h4 : L.length ≤ 2000000 := by omega
  have h8 : ts.length ≤ 1100000 ∧ us.length ≤ 1100000 := by omega
  have h9 : ts.length ≤ 2000000 ∧ us.length ≤ 2000000 := by omega
  have c2 : (0 : Int) ≤ ((1 + 18 * ts.length : Nat) : Int) ∧ ((1 + 18 * ts.length : Nat) : Int) ≤ 100000000 := by omega
  rcases h.sh with ⟨rfl, rfl, rfl⟩ | ⟨o, nx, cx, rfl, rfl, rfl, hg1, hg2⟩ | ⟨o, ny, cy, rfl, rfl, rfl, hg1, hg2⟩ | ⟨o, o', nx, cx, ny, cy, rfl, rfl, rfl, hg1, hg2, hg3, hg4⟩
  · simp only [List.nil_append] at hX hY
    obtain rfl : us = ts := Option.some.inj ((hY []).symm.trans (hX []))
    simp (maxSteps := 3000000) only [qf, zH, zi, qj, qi, qw, qq, qt, qv, qx, yg, zl, zd, zc, zn, zm, iE, iN, iB, iC, iL, iD, iA, iS, iM, hX, hY, hl1, hl2, hif, hlt, hif2, hlt2, c1, qa, zZ, ↓qp, ↓reduceIte, reduceCtorEq, nA, nM, nS, nE, nL, nD]; try simp only [qa, zY]
    refine WA.Jz Yf (fun s => s = ⟨[(2, .ptr 0 0), (3, .ptr 1 0), (6, .ptr 2 0), (7, .int .i64 E)], [.cells [.int .i64 p, .int .i64 c, .int .i64 n, .v (.slice none 0 0)], .cells [.int .i64 p', .int .i64 c', .int .i64 n', .v (.slice none 0 0)], .cells [.int .i64 P, .int .i64 C, .int .i64 N, .slc 3 0 L.length false 0], .vec 18 (qn L)]⟩) ?_ ?_
    · unfold xu
      simp (maxSteps := 3000000) only [qf, zH, qj, qi, qw, qq, qt, qv, qx, yg, zl, zd, zc, zn, zm, iE, iN, iB, iC, iL, iD, iA, iS, iM, k8, elemV, yo, qc _ _ (qb _), qc _ _ (qh _ _), wj, uc, hX, hY, he, b0, b1, b2, b3, h1, h2, h8, and_self, uy, qa, zZ, ↓qp, ↓reduceIte, reduceCtorEq, nA, nM, nS, nE, nL, nD]; try simp only [qa, zY]
      repeat' first | (with_reducible exact ⟨_, rfl⟩) | (exact rfl) | (with_reducible refine And.intro ?_ ?_)
      all_goals refine ⟨_, q6.can [2, 3, 6, 7] (by simp only [Vz, zC, nB, nD, nA, nE, ↓reduceIte, reduceCtorEq]; rfl), ?_⟩
      all_goals simp only [qc _ _ (qb _), zL, ↓reduceIte, reduceCtorEq, nE, nA]
    rintro s rfl
    simp (maxSteps := 3000000) only [qf, zH, xw, qj, qi, qw, qq, qt, qv, qx, yg, zl, zd, zc, zn, zm, iE, iN, iB, iC, iL, iD, iA, iS, iM, k8, elemV, yo, qc _ _ (qb _), qc _ _ (qh _ _), hX, hY, he, b0, b1, b2, b3, h1, h2, h3, h4, h6, h7, h8, h9, c2, and_self, Int.toNat_one, Int.toNat_natCast, uy, qa, zZ, ↓qp, ↓reduceIte, reduceCtorEq, nA, nM, nS, nE, nL, nD]; try simp only [qa, zY]
    repeat' first | (with_reducible exact ⟨_, rfl⟩) | (exact rfl) | (with_reducible refine And.intro ?_ ?_)
    refine WA.Jz Yf (fun s => s = ⟨[(6, .ptr 0 0), (7, .int .i64 E), (10, .ptr 2 0), (13, .int .i64 (1 + 18 * L.length : Nat)), (15, .ptr 4 0), (16, .int .i64 E)], [.cells [.int .i64 P, .int .i64 C, .int .i64 N, .slc 1 0 L.length false 0], .vec 18 (qn L), .cells [.int .i64 P, .int .i64 C, .int .i64 N, .slc 3 0 L.length false 0], .vec 18 (qn (marks L.length 1)), .cells [.int .i64 P, .int .i64 C, .int .i64 N, .slc 5 0 L.length false 0], .vec 18 (qn L)]⟩) ?_ ?_
    · unfold xx
      simp (maxSteps := 3000000) only [qf, zH, qj, qi, qw, qq, qt, qv, qx, yg, zl, zd, zc, zn, zm, iE, iN, iB, iC, iL, iD, iA, iS, iM, k8, elemV, yo, qc _ _ (qb _), qc _ _ (qh _ _), wj, uc, hX, hY, he, b0, b1, b2, b3, h1, h2, h8, and_self, uy, qa, zZ, ↓qp, ↓reduceIte, reduceCtorEq, nA, nM, nS, nE, nL, nD]; try simp only [qa, zY]
      repeat' first | (with_reducible exact ⟨_, rfl⟩) | (exact rfl) | (with_reducible refine And.intro ?_ ?_)
      all_goals refine ⟨_, q6.can [6, 7, 10, 13, 15, 16] (by simp only [Vz, zC, nB, nD, nA, nE, ↓reduceIte, reduceCtorEq]; rfl), ?_⟩
      all_goals simp only [qc _ _ (qb _), zL, ↓reduceIte, reduceCtorEq, nE, nA]
    rintro s rfl
    simp (maxSteps := 3000000) only [qf, zH, xv, qj, qi, qw, qq, qt, qv, qx, yg, zl, zd, zc, zn, zm, iE, iN, iB, iC, iL, iD, iA, iS, iM, k8, elemV, yo, qc _ _ (qb _), qc _ _ (qh _ _), h1, h2, h3, h4, h6, Int.toNat_one, uy, qa, zZ, ↓qp, ↓reduceIte, reduceCtorEq, nA, nM, nS, nE, nL, nD]; try simp only [qa, zY]
  · simp only [List.cons_append, List.nil_append] at hX hY
    have k1 := AO.qa7 _ (hg1 [])
    simp (maxSteps := 3000000) only [qf, zH, zi, qj, qi, qw, qq, qt, qv, qx, yg, zl, zd, zc, zn, zm, iE, iN, iB, iC, iL, iD, iA, iS, iM, hX, hY, hl1, hl2, hif, hlt, hif2, hlt2, c1, qa, zZ, ↓qp, ↓reduceIte, reduceCtorEq, nA, nM, nS, nE, nL, nD]; try simp only [qa, zY]
    refine WA.Jz Yf (fun s => s = ⟨[(2, .ptr 1 0), (3, .ptr 2 0), (6, .ptr 3 0), (7, .int .i64 E)], [o, .cells [.int .i64 p, .int .i64 c, .int .i64 n, .slc 0 0 nx true cx], .cells [.int .i64 p', .int .i64 c', .int .i64 n', .v (.slice none 0 0)], .cells [.int .i64 P, .int .i64 C, .int .i64 N, .slc 4 0 L.length false 0], .vec 18 (qn L)]⟩) ?_ ?_
    · unfold xu
      simp (maxSteps := 3000000) only [qf, zH, qj, qi, qw, qq, qt, qv, qx, yg, zl, zd, zc, zn, zm, iE, iN, iB, iC, iL, iD, iA, iS, iM, k8, elemV, yo, qc _ _ (qb _), qc _ _ (qh _ _), wj, uc, hX, hY, he, b0, b1, b2, b3, h1, h2, h8, and_self, uy, qa, zZ, ↓qp, ↓reduceIte, reduceCtorEq, nA, nM, nS, nE, nL, nD]; try simp only [qa, zY]
      repeat' first | (with_reducible exact ⟨_, rfl⟩) | (exact rfl) | (with_reducible refine And.intro ?_ ?_)
      all_goals refine ⟨_, q6.can [2, 3, 6, 7] (by simp only [k1, Vz, zC, nB, nD, nA, nE, ↓reduceIte, reduceCtorEq]; rfl), ?_⟩
      all_goals simp only [hg2, qc _ _ (qb _), zL, ↓reduceIte, reduceCtorEq, nE, nA]
    rintro s rfl
    simp (maxSteps := 3000000) only [qf, zH, xw, qj, qi, qw, qq, qt, qv, qx, yg, zl, zd, zc, zn, zm, iE, iN, iB, iC, iL, iD, iA, iS, iM, k8, elemV, yo, qc _ _ (qb _), qc _ _ (qh _ _), hX, hY, he, b0, b1, b2, b3, h1, h2, h3, h4, h6, h7, h8, h9, c2, and_self, Int.toNat_one, Int.toNat_natCast, uy, qa, zZ, ↓qp, ↓reduceIte, reduceCtorEq, nA, nM, nS, nE, nL, nD]; try simp only [qa, zY]
    repeat' first | (with_reducible exact ⟨_, rfl⟩) | (exact rfl) | (with_reducible refine And.intro ?_ ?_)
    refine WA.Jz Yf (fun s => s = ⟨[(6, .ptr 1 0), (7, .int .i64 E), (10, .ptr 3 0), (13, .int .i64 (1 + 18 * L.length : Nat)), (15, .ptr 5 0), (16, .int .i64 E)], [o, .cells [.int .i64 P, .int .i64 C, .int .i64 N, .slc 2 0 L.length false 0], .vec 18 (qn L), .cells [.int .i64 P, .int .i64 C, .int .i64 N, .slc 4 0 L.length false 0], .vec 18 (qn (marks L.length 1)), .cells [.int .i64 P, .int .i64 C, .int .i64 N, .slc 6 0 L.length false 0], .vec 18 (qn L)]⟩) ?_ ?_
    · unfold xx
      simp (maxSteps := 3000000) only [qf, zH, qj, qi, qw, qq, qt, qv, qx, yg, zl, zd, zc, zn, zm, iE, iN, iB, iC, iL, iD, iA, iS, iM, k8, elemV, yo, qc _ _ (qb _), qc _ _ (qh _ _), wj, uc, hX, hY, he, b0, b1, b2, b3, h1, h2, h8, and_self, uy, qa, zZ, ↓qp, ↓reduceIte, reduceCtorEq, nA, nM, nS, nE, nL, nD]; try simp only [qa, zY]
      repeat' first | (with_reducible exact ⟨_, rfl⟩) | (exact rfl) | (with_reducible refine And.intro ?_ ?_)
      all_goals refine ⟨_, q6.can [6, 7, 10, 13, 15, 16] (by simp only [k1, Vz, zC, nB, nD, nA, nE, ↓reduceIte, reduceCtorEq]; rfl), ?_⟩
      all_goals simp only [hg2, qc _ _ (qb _), zL, ↓reduceIte, reduceCtorEq, nE, nA]
    rintro s rfl
    simp (maxSteps := 3000000) only [qf, zH, xv, qj, qi, qw, qq, qt, qv, qx, yg, zl, zd, zc, zn, zm, iE, iN, iB, iC, iL, iD, iA, iS, iM, k8, elemV, yo, qc _ _ (qb _), qc _ _ (qh _ _), h1, h2, h3, h4, h6, Int.toNat_one, uy, qa, zZ, ↓qp, ↓reduceIte, reduceCtorEq, nA, nM, nS, nE, nL, nD]; try simp only [qa, zY]
    exact ⟨_, rfl⟩
  · simp only [List.cons_append, List.nil_append] at hX hY
    have k1 := AO.qa7 _ (hg1 [])
    simp (maxSteps := 3000000) only [qf, zH, zi, qj, qi, qw, qq, qt, qv, qx, yg, zl, zd, zc, zn, zm, iE, iN, iB, iC, iL, iD, iA, iS, iM, hX, hY, hl1, hl2, hif, hlt, hif2, hlt2, c1, qa, zZ, ↓qp, ↓reduceIte, reduceCtorEq, nA, nM, nS, nE, nL, nD]; try simp only [qa, zY]
    refine WA.Jz Yf (fun s => s = ⟨[(2, .ptr 1 0), (3, .ptr 2 0), (6, .ptr 3 0), (7, .int .i64 E)], [o, .cells [.int .i64 p, .int .i64 c, .int .i64 n, .v (.slice none 0 0)], .cells [.int .i64 p', .int .i64 c', .int .i64 n', .slc 0 0 ny true cy], .cells [.int .i64 P, .int .i64 C, .int .i64 N, .slc 4 0 L.length false 0], .vec 18 (qn L)]⟩) ?_ ?_
    · unfold xu
      simp (maxSteps := 3000000) only [qf, zH, qj, qi, qw, qq, qt, qv, qx, yg, zl, zd, zc, zn, zm, iE, iN, iB, iC, iL, iD, iA, iS, iM, k8, elemV, yo, qc _ _ (qb _), qc _ _ (qh _ _), wj, uc, hX, hY, he, b0, b1, b2, b3, h1, h2, h8, and_self, uy, qa, zZ, ↓qp, ↓reduceIte, reduceCtorEq, nA, nM, nS, nE, nL, nD]; try simp only [qa, zY]
      repeat' first | (with_reducible exact ⟨_, rfl⟩) | (exact rfl) | (with_reducible refine And.intro ?_ ?_)
      all_goals refine ⟨_, q6.can [2, 3, 6, 7] (by simp only [k1, Vz, zC, nB, nD, nA, nE, ↓reduceIte, reduceCtorEq]; rfl), ?_⟩
      all_goals simp only [hg2, qc _ _ (qb _), zL, ↓reduceIte, reduceCtorEq, nE, nA]
    rintro s rfl
    simp (maxSteps := 3000000) only [qf, zH, xw, qj, qi, qw, qq, qt, qv, qx, yg, zl, zd, zc, zn, zm, iE, iN, iB, iC, iL, iD, iA, iS, iM, k8, elemV, yo, qc _ _ (qb _), qc _ _ (qh _ _), hX, hY, he, b0, b1, b2, b3, h1, h2, h3, h4, h6, h7, h8, h9, c2, and_self, Int.toNat_one, Int.toNat_natCast, uy, qa, zZ, ↓qp, ↓reduceIte, reduceCtorEq, nA, nM, nS, nE, nL, nD]; try simp only [qa, zY]
    repeat' first | (with_reducible exact ⟨_, rfl⟩) | (exact rfl) | (with_reducible refine And.intro ?_ ?_)
    refine WA.Jz Yf (fun s => s = ⟨[(6, .ptr 1 0), (7, .int .i64 E), (10, .ptr 3 0), (13, .int .i64 (1 + 18 * L.length : Nat)), (15, .ptr 5 0), (16, .int .i64 E)], [o, .cells [.int .i64 P, .int .i64 C, .int .i64 N, .slc 2 0 L.length false 0], .vec 18 (qn L), .cells [.int .i64 P, .int .i64 C, .int .i64 N, .slc 4 0 L.length false 0], .vec 18 (qn (marks L.length 1)), .cells [.int .i64 P, .int .i64 C, .int .i64 N, .slc 6 0 L.length false 0], .vec 18 (qn L)]⟩) ?_ ?_
    · unfold xx
      simp (maxSteps := 3000000) only [qf, zH, qj, qi, qw, qq, qt, qv, qx, yg, zl, zd, zc, zn, zm, iE, iN, iB, iC, iL, iD, iA, iS, iM, k8, elemV, yo, qc _ _ (qb _), qc _ _ (qh _ _), wj, uc, hX, hY, he, b0, b1, b2, b3, h1, h2, h8, and_self, uy, qa, zZ, ↓qp, ↓reduceIte, reduceCtorEq, nA, nM, nS, nE, nL, nD]; try simp only [qa, zY]
      repeat' first | (with_reducible exact ⟨_, rfl⟩) | (exact rfl) | (with_reducible refine And.intro ?_ ?_)
      all_goals refine ⟨_, q6.can [6, 7, 10, 13, 15, 16] (by simp only [k1, Vz, zC, nB, nD, nA, nE, ↓reduceIte, reduceCtorEq]; rfl), ?_⟩
      all_goals simp only [hg2, qc _ _ (qb _), zL, ↓reduceIte, reduceCtorEq, nE, nA]
    rintro s rfl
    simp (maxSteps := 3000000) only [qf, zH, xv, qj, qi, qw, qq, qt, qv, qx, yg, zl, zd, zc, zn, zm, iE, iN, iB, iC, iL, iD, iA, iS, iM, k8, elemV, yo, qc _ _ (qb _), qc _ _ (qh _ _), h1, h2, h3, h4, h6, Int.toNat_one, uy, qa, zZ, ↓qp, ↓reduceIte, reduceCtorEq, nA, nM, nS, nE, nL, nD]; try simp only [qa, zY]
    exact ⟨_, rfl⟩
  · simp only [List.cons_append, List.nil_append] at hX hY
    have k1 := AO.qa7 _ (hg1 [])
    have k2 := AO.qa7 _ (hg3 [])
    simp (maxSteps := 3000000) only [qf, zH, zi, qj, qi, qw, qq, qt, qv, qx, yg, zl, zd, zc, zn, zm, iE, iN, iB, iC, iL, iD, iA, iS, iM, hX, hY, hl1, hl2, hif, hlt, hif2, hlt2, c1, qa, zZ, ↓qp, ↓reduceIte, reduceCtorEq, nA, nM, nS, nE, nL, nD]; try simp only [qa, zY]
    refine WA.Jz Yf (fun s => s = ⟨[(2, .ptr 2 0), (3, .ptr 3 0), (6, .ptr 4 0), (7, .int .i64 E)], [o, o', .cells [.int .i64 p, .int .i64 c, .int .i64 n, .slc 0 0 nx true cx], .cells [.int .i64 p', .int .i64 c', .int .i64 n', .slc 1 0 ny true cy], .cells [.int .i64 P, .int .i64 C, .int .i64 N, .slc 5 0 L.length false 0], .vec 18 (qn L)]⟩) ?_ ?_
    · unfold xu
      simp (maxSteps := 3000000) only [qf, zH, qj, qi, qw, qq, qt, qv, qx, yg, zl, zd, zc, zn, zm, iE, iN, iB, iC, iL, iD, iA, iS, iM, k8, elemV, yo, qc _ _ (qb _), qc _ _ (qh _ _), wj, uc, hX, hY, he, b0, b1, b2, b3, h1, h2, h8, and_self, uy, qa, zZ, ↓qp, ↓reduceIte, reduceCtorEq, nA, nM, nS, nE, nL, nD]; try simp only [qa, zY]
      repeat' first | (with_reducible exact ⟨_, rfl⟩) | (exact rfl) | (with_reducible refine And.intro ?_ ?_)
      all_goals refine ⟨_, q6.can [2, 3, 6, 7] (by simp only [k1, k2, Vz, zC, nB, nD, nA, nE, ↓reduceIte, reduceCtorEq]; rfl), ?_⟩
      all_goals simp only [hg2, hg4, qc _ _ (qb _), zL, ↓reduceIte, reduceCtorEq, nE, nA]
    rintro s rfl
    simp (maxSteps := 3000000) only [qf, zH, xw, qj, qi, qw, qq, qt, qv, qx, yg, zl, zd, zc, zn, zm, iE, iN, iB, iC, iL, iD, iA, iS, iM, k8, elemV, yo, qc _ _ (qb _), qc _ _ (qh _ _), hX, hY, he, b0, b1, b2, b3, h1, h2, h3, h4, h6, h7, h8, h9, c2, and_self, Int.toNat_one, Int.toNat_natCast, uy, qa, zZ, ↓qp, ↓reduceIte, reduceCtorEq, nA, nM, nS, nE, nL, nD]; try simp only [qa, zY]
    repeat' first | (with_reducible exact ⟨_, rfl⟩) | (exact rfl) | (with_reducible refine And.intro ?_ ?_)
    refine WA.Jz Yf (fun s => s = ⟨[(6, .ptr 2 0), (7, .int .i64 E), (10, .ptr 4 0), (13, .int .i64 (1 + 18 * L.length : Nat)), (15, .ptr 6 0), (16, .int .i64 E)], [o, o', .cells [.int .i64 P, .int .i64 C, .int .i64 N, .slc 3 0 L.length false 0], .vec 18 (qn L), .cells [.int .i64 P, .int .i64 C, .int .i64 N, .slc 5 0 L.length false 0], .vec 18 (qn (marks L.length 1)), .cells [.int .i64 P, .int .i64 C, .int .i64 N, .slc 7 0 L.length false 0], .vec 18 (qn L)]⟩) ?_ ?_
    · unfold xx
      simp (maxSteps := 3000000) only [qf, zH, qj, qi, qw, qq, qt, qv, qx, yg, zl, zd, zc, zn, zm, iE, iN, iB, iC, iL, iD, iA, iS, iM, k8, elemV, yo, qc _ _ (qb _), qc _ _ (qh _ _), wj, uc, hX, hY, he, b0, b1, b2, b3, h1, h2, h8, and_self, uy, qa, zZ, ↓qp, ↓reduceIte, reduceCtorEq, nA, nM, nS, nE, nL, nD]; try simp only [qa, zY]
      repeat' first | (with_reducible exact ⟨_, rfl⟩) | (exact rfl) | (with_reducible refine And.intro ?_ ?_)
      all_goals refine ⟨_, q6.can [6, 7, 10, 13, 15, 16] (by simp only [k1, k2, Vz, zC, nB, nD, nA, nE, ↓reduceIte, reduceCtorEq]; rfl), ?_⟩
      all_goals simp only [hg2, hg4, qc _ _ (qb _), zL, ↓reduceIte, reduceCtorEq, nE, nA]
    rintro s rfl
    simp (maxSteps := 3000000) only [qf, zH, xv, qj, qi, qw, qq, qt, qv, qx, yg, zl, zd, zc, zn, zm, iE, iN, iB, iC, iL, iD, iA, iS, iM, k8, elemV, yo, qc _ _ (qb _), qc _ _ (qh _ _), h1, h2, h3, h4, h6, Int.toNat_one, uy, qa, zZ, ↓qp, ↓reduceIte, reduceCtorEq, nA, nM, nS, nE, nL, nD]; try simp only [qa, zY]
    exact ⟨_, rfl⟩
end Go.Proofs.Ytkgoadglalpbfaa
namespace Go.Proofs.Ytkgoadglalpbfaa
open Go.Am Go.Dia Go.ChangeShapes
open Nat renaming reduceAdd → nA, reduceMul → nM, reduceSub → nS, reduceEqDiff → nE, reduceLT → nL, reduceLeDiff → nD, reduceBEq → nB
open Int renaming reduceEq → iE, reduceNe → iN, reduceBEq → iB, reduceBNe → iC, reduceLT → iL, reduceLE → iD, reduceAdd → iA, reduceSub → iS, reduceMul → iM
set_option linter.unusedSimpArgs false
set_option linter.unusedVariables false
set_option maxRecDepth 4000
set_option maxHeartbeats 1000000
section
variable {H : Type} {enc : TypeId × Value → H} {P : Program} {w : World} {base : Nat} {spare : Nat → Bool} {held : Bool}
theorem qtg (ι : Nat → Am.Loc) {l : List AV} (h : AV.zr l = true) : qz (fun _ => Am.Loc.nil) l = qz ι l := by
  rw [vq (ι' := ι) (n := 0) (fun j hj => by omega) l (qk _ _ h)]
structure qjg (P : Program) (tE tX tT tD t8 tM tI : TypeId) : Prop where
  e : ∃ f0 f1 f2 f3 : Field, P.underlying tE = some (.struct #[f0, f1, f2, f3]) ∧ f0.type = tI ∧ f1.type = tI ∧ f2.type = tI ∧ f3.type = tX ∧ f0.offset = 0 ∧ f1.offset = 1 ∧ f2.offset = 2 ∧ f3.offset = 3
  x : P.underlying tX = some (.slice tT)
  t : ∃ f0 f1 : Field, P.underlying tT = some (.struct #[f0, f1]) ∧ f0.type = tD ∧ f1.type = tI ∧ f0.offset = 0 ∧ f1.offset = 17
  d : ∃ f0 f1 : Field, P.underlying tD = some (.struct #[f0, f1]) ∧ f0.type = tI ∧ f1.type = tM ∧ f0.offset = 0 ∧ f1.offset = 1
  m : P.underlying tM = some (.array 16 t8)
  b : P.underlying t8 = some (.int .u8)
  i : P.underlying tI = some (.int .i64)
  ce : P.cellsOf tE = 4
  cx : P.cellsOf tX = 1
  ct : P.cellsOf tT = 18
  cd : P.cellsOf tD = 17
  cm : P.cellsOf tM = 16
  c8 : P.cellsOf t8 = 1
  ci : P.cellsOf tI = 1
theorem qr1 {tE tX tT tD t8 tM tI : TypeId} (T : qjg P tE tX tT tD t8 tM tI) {fuel : Nat} {cs : List Value} {x : DataW H × List MemPlace} (h : DataW.trod enc P w base spare held fuel tT cs = some x) :
    ∃ t : Int × List Nat × Int, okD t.2.1 ∧ cs = qz (fun _ => Am.Loc.nil) (trm t) := by
  obtain ⟨f0, f1, ht, e0, e1, o0, o1⟩ := T.t
  obtain ⟨g0, g1, hd, i0, i1, p0, p1⟩ := T.d
  obtain ⟨y0, y1, k, rfl, hl, a0, a1⟩ := trod_struct2 ht h
  rw [o0, e0, T.cd] at a0
  rw [o1, e1, T.ci] at a1
  rw [T.ct] at hl
  obtain ⟨n, m, hm, hb, hcs, _, _⟩ := qqi hd (by rw [i0]; exact T.i) (by rw [i1]; exact T.m) T.b p0 p1 (by rw [i0]; exact T.ci) (by rw [i1]; exact T.cm) T.c8 T.cd a0
  obtain ⟨v, hv, _, _⟩ := DataW.trod_int T.i a1
  refine ⟨(n, m, v), ⟨hm, hb⟩, ?_⟩
  have e2 : (cs.drop 17).take 1 = cs.drop 17 := List.take_of_length_le (by simp; omega)
  rw [e2] at hv
  rw [List.drop_zero] at hcs
  conv => lhs; rw [← List.take_append_drop 17 cs, hcs, hv]
  rw [trm, yf]
  rfl
theorem qh4 {ι : Nat → Am.Loc} : ∀ (ts : List (Int × List Nat × Int)) (L : List Value) (off : Nat), okT ts → (∀ i (hi : i < ts.length) j, j < 18 → L[off + i * 18 + j]? = (qz ι (trm ts[i]))[j]?) →
    (L.drop off).take (ts.length * 18) = qz ι (qn ts)
  | [], L, off, _, _ => by simp [qn, qz]
  | t :: ts, L, off, ho, h => by
    have ht := zx (ho t (List.mem_cons_self ..))
    have h0 : (L.drop off).take 18 = qz ι (trm t) := by
      apply List.ext_getElem?
      intro j
      by_cases hj : j < 18
      · have := h 0 (by simp) j hj
        simp only [Nat.zero_mul, Nat.add_zero, List.getElem_cons_zero] at this
        rw [List.getElem?_take_of_lt hj, List.getElem?_drop, this]
      · rw [List.getElem?_eq_none (by simp; omega), List.getElem?_eq_none (by rw [zg]; omega)]
    have hl : 18 ≤ (L.drop off).length := by
      have := congrArg List.length h0
      rw [zg, ht, List.length_take] at this
      omega
    have ih := qh4 ts L (off + 18) (fun u hu => ho u (List.mem_cons_of_mem _ hu)) fun i hi j hj => by
      have := h (i + 1) (by simpa using hi) j hj
      rw [show off + 18 + i * 18 + j = off + (i + 1) * 18 + j by omega]
      simpa using this
    rw [List.length_cons, show (ts.length + 1) * 18 = 18 + ts.length * 18 by omega, List.take_add, h0, List.drop_drop, ih]
    simp only [qn, List.flatMap_cons, yf]
theorem qn9 {tE tX tT tD t8 tM tI : TypeId} (T : qjg P tE tX tT tD t8 tM tI) {fuel : Nat} {cs : List Value} {x : DataW H × List MemPlace} (hs : ∀ b, spare b = true) (h : DataW.trod enc P w base spare held fuel tX cs = some x) :
    ∃ (X : AV) (Hp : List AO) (ts : List (Int × List Nat × Int)) (l : Am.Loc), qb6 Hp X ts ∧ cs = [gam (fun _ => l) X] ∧ (∀ o ∈ Hp, Qs (fun _ => l) w.heap l o ∧ o.wr = false) ∧ ts.length ≤ 9223372036854775807 := by
  have hts := T.x
  rcases DataW.trod_slice hts h with ⟨rfl, _⟩ | ⟨a, len, cap, elems, rest, n, rfl, rfl, rfl, hb, hlc, hcm, hel, hei, hrs, _⟩
  · exact ⟨.v (.slice none 0 0), [], [], Am.Loc.nil, ⟨(fun t h => by cases h), .inl ⟨rfl, rfl, rfl⟩⟩, rfl, (fun o h => by cases h), by simp⟩
  rw [T.ct] at hei hrs
  have hmax : len ≤ 9223372036854775807 := Nat.le_trans (Nat.le_trans hlc hcm) (by decide)
  have hget : ∀ i, i < len → ∃ t : Int × List Nat × Int, okD t.2.1 ∧ w.cells? base (a.add (i * 18)) 18 = some (qz (fun _ => Am.Loc.nil) (trm t)) := fun i hi => by
    have h1 := hei i hi
    rw [List.getElem?_eq_getElem (by omega)] at h1
    simp only [Option.bind_eq_some_iff] at h1
    obtain ⟨cs', h2, h3⟩ := h1
    obtain ⟨t, ht, rfl⟩ := qr1 T h3
    exact ⟨t, ht, h2⟩
  let f : Nat → Int × List Nat × Int := fun i => if hi : i < len then Classical.choose (hget i hi) else (0, [], 0)
  have hf : ∀ i, i < len → okD (f i).2.1 ∧ w.cells? base (a.add (i * 18)) 18 = some (qz (fun _ => Am.Loc.nil) (trm (f i))) := fun i hi => by
    have := Classical.choose_spec (hget i hi)
    simp only [f, dif_pos hi]; exact this
  have hlen : ((List.range len).map f).length = len := by simp
  have hok : okT ((List.range len).map f) := fun t ht => by
    obtain ⟨i, hi, rfl⟩ := List.mem_map.1 ht
    exact (hf i (List.mem_range.1 hi)).1
  have hcell : ∀ i, i < len → ∀ j, j < 18 → w.cell? ((a.add (i * 18)).add j) = (qz (fun _ => Am.Loc.nil) (trm (f i)))[j]? := fun i hi j hj => (World.cells?_some (hf i hi).2).2.2 j hj
  by_cases hc0 : cap = 0
  · obtain rfl : len = 0 := by omega
    subst hc0
    refine ⟨.slc 0 0 0 true 0, [.dead], [], ⟨a, false, 0⟩, ⟨(fun t h => by cases h), .inr (.inl ⟨rfl, rfl, rfl⟩)⟩, rfl, fun o h => ?_, by simp⟩
    rw [List.mem_singleton] at h; subst h; exact ⟨trivial, rfl⟩
  have h0 : ∃ v, w.cell? (a.add 0) = some v := by
    by_cases hl0 : len = 0
    · subst hl0
      obtain ⟨h1, h2⟩ := hrs (hs _)
      have h3 := h2 0 (by omega)
      rw [List.getElem?_eq_getElem (by omega)] at h3
      simp only [Option.bind_eq_some_iff] at h3
      obtain ⟨cs', h4, _⟩ := h3
      have h5 := World.cells?_some h4
      have h6 := h5.2.2 0 (by omega)
      have h7 : cs'.length = 18 := h5.2.1
      rw [List.getElem?_eq_getElem (by omega)] at h6
      simp only [Nat.zero_add, Nat.zero_mul, Addr.add_add] at h6
      exact ⟨_, h6⟩
    · have h6 := hcell 0 (by omega) 0 (by omega)
      rw [Addr.add_add] at h6
      have h7 : (qz (fun _ => Am.Loc.nil) (trm (f 0))).length = 18 := by rw [zg]; exact zx (hf 0 (by omega)).1
      rw [List.getElem?_eq_getElem (by omega)] at h6
      exact ⟨_, h6⟩
  obtain ⟨v0, h0⟩ := h0
  obtain ⟨blk, off, spot⟩ := a
  have hspot : spot = none := by simpa [Addr.add] using World.cell?_spot h0
  subst hspot
  have hheap : ∃ c ty fz, w.heap[blk]? = some (.cells c ty fz) := by
    simp only [World.cell?, Addr.add_plain] at h0
    split at h0
    · rename_i c ty fz hh; exact ⟨c, ty, fz, hh⟩
    · cases h0
  obtain ⟨c, ty, fz, hh⟩ := hheap
  have hc : ∀ i, w.cell? ⟨blk, i, none⟩ = c.toList[i]? := fun i => by simp [World.cell?, hh]
  have hoff : off ≤ c.toList.length := by
    rw [Addr.add_plain, Nat.add_zero, hc] at h0
    have := (List.getElem?_eq_some_iff.1 h0).1
    omega
  have hscan := qh4 (ι := fun _ => Am.Loc.nil) ((List.range len).map f) c.toList off hok fun i hi j hj => by
    rw [hlen] at hi
    have := hcell i hi j hj
    rw [Addr.add_add, Addr.add_plain, hc] at this
    rw [Nat.add_assoc, this]
    simp
  rw [hlen] at hscan
  refine ⟨.slc 0 0 ((List.range len).map f).length true cap, [.ro (qn ((List.range len).map f))], (List.range len).map f, ⟨⟨blk, off, none⟩, false, 0⟩, ⟨hok, .inr (.inr ⟨(List.range len).map f, cap, rfl, by rw [hlen]; exact hlc, rfl, hok, List.take_length, Nat.le_refl _⟩)⟩, ?_, fun o h => ?_, by rw [hlen]; exact hmax⟩
  · rw [hlen]; simp [gam, Addr.add_plain]
  · rw [List.mem_singleton] at h; subst h
    refine ⟨.inr ⟨rfl, blk, off, c, ty, fz, c.toList.take off, (c.toList.drop off).drop (len * 18), rfl, hh, by rw [List.length_take]; omega, ?_⟩, rfl⟩
    rw [← qtg _ (qb _), ← hscan, List.append_assoc, List.take_append_drop, List.take_append_drop]
theorem qa0 {tE tX tT tD t8 tM tI : TypeId} (T : qjg P tE tX tT tD t8 tM tI) {v : Value} {d : DataW H} {ps : List MemPlace} (hs : ∀ b, spare b = true) (h : DataW.Trod enc P w base spare held tE v d ps) :
    ∃ (p c n : Int) (X : AV) (Hp : List AO) (ts : List (Int × List Nat × Int)) (l : Am.Loc), qb6 Hp X ts ∧ v = gam (fun _ => l) (.agg [.int .i64 p, .int .i64 c, .int .i64 n, X]) ∧ (∀ o ∈ Hp, Qs (fun _ => l) w.heap l o ∧ o.wr = false) ∧ ts.length ≤ 9223372036854775807 ∧
      (-9223372036854775808 ≤ p ∧ p ≤ 9223372036854775807) ∧ (-9223372036854775808 ≤ c ∧ c ≤ 9223372036854775807) ∧ (-9223372036854775808 ≤ n ∧ n ≤ 9223372036854775807) := by
  obtain ⟨fuel, hf⟩ := h
  obtain ⟨f0, f1, f2, f3, he, e0, e1, e2, e3, o0, o1, o2, o3⟩ := T.e
  obtain ⟨xs, k, rfl, _, hl, hxl, hi⟩ := DataW.trod_struct he hf
  rw [T.ce] at hl
  have hxl4 : xs.length = 4 := hxl
  have a0 := hi 0 f0 rfl
  have a1 := hi 1 f1 rfl
  have a2 := hi 2 f2 rfl
  have a3 := hi 3 f3 rfl
  rw [List.getElem?_eq_getElem (by omega)] at a0 a1 a2 a3
  rw [o0, e0, T.ci] at a0
  rw [o1, e1, T.ci] at a1
  rw [o2, e2, T.ci] at a2
  rw [o3, e3, T.cx] at a3
  obtain ⟨p, hp, _, wp⟩ := DataW.trod_int T.i a0
  obtain ⟨c, hc, _, wc⟩ := DataW.trod_int T.i a1
  obtain ⟨n, hn, _, wn⟩ := DataW.trod_int T.i a2
  obtain ⟨X, Hp, ts, l, hX, hx, ho, hlen⟩ := qn9 T hs a3
  refine ⟨p, c, n, X, Hp, ts, l, hX, ?_, ho, hlen, bounds_i64 wp, bounds_i64 wc, bounds_i64 wn⟩
  generalize hcs : v.cells.toList = cs at *
  match cs, hl with
  | [x0, x1, x2, x3], _ =>
    simp only [List.drop_zero, List.drop_succ_cons, List.take_succ_cons, List.take_zero, List.cons.injEq, and_true] at hp hc hn hx
    subst hp; subst hc; subst hn; subst hx
    exact qq2 hcs (by show (4 : Nat) ≠ 1; decide)
end
end Go.Proofs.Ytkgoadglalpbfaa
namespace Go.Proofs.Ytkgoadglalpbfaa
open Go.Am Go.Dia Go.ChangeShapes Go.WideShapes Go.ChangeAt Go.RowKit
open Nat renaming reduceAdd → nA, reduceMul → nM, reduceSub → nS, reduceEqDiff → nE, reduceLT → nL, reduceLeDiff → nD, reduceBEq → nB
open Int renaming reduceEq → iE, reduceNe → iN, reduceBEq → iB, reduceBNe → iC, reduceLT → iL, reduceLE → iD, reduceAdd → iA, reduceSub → iS, reduceMul → iM
set_option linter.unusedSimpArgs false
set_option linter.unusedVariables false
set_option maxRecDepth 100000
theorem qs8 : qjg Try.prog 24 22 100 40 5 38 2 where
  e := ⟨_, _, _, _, Try.underlying24, rfl, rfl, rfl, rfl, rfl, rfl, rfl, rfl⟩
  x := Try.underlying22
  t := ⟨_, _, Try.underlying100, rfl, rfl, rfl, rfl⟩
  d := ⟨_, _, Try.underlying40, rfl, rfl, rfl, rfl⟩
  m := Try.underlying38
  b := by kernel_rfl
  i := by kernel_rfl
  ce := by kernel_rfl
  cx := by kernel_rfl
  ct := by kernel_rfl
  cd := by kernel_rfl
  cm := by kernel_rfl
  c8 := by kernel_rfl
  ci := by kernel_rfl
end Go.Proofs.Ytkgoadglalpbfaa
namespace Go.Proofs.Ytkgoadglalpbfaa
open Go.Am Go.Dia Go.ChangeShapes
open Nat renaming reduceAdd → nA, reduceMul → nM, reduceSub → nS, reduceEqDiff → nE, reduceLT → nL, reduceLeDiff → nD, reduceBEq → nB
open Int renaming reduceEq → iE, reduceNe → iN, reduceBEq → iB, reduceBNe → iC, reduceLT → iL, reduceLE → iD, reduceAdd → iA, reduceSub → iS, reduceMul → iM
set_option linter.unusedSimpArgs false
set_option linter.unusedVariables false
set_option maxRecDepth 4000
set_option maxHeartbeats 1000000
theorem qm0 {ι ι' : Nat → Am.Loc} {heap : Array Obj} {l : Am.Loc} {H : List AO} {X : AV} {ts : List (Int × List Nat × Int)} (hX : qb6 H X ts) {o : AO} (ho : o ∈ H) (h : Qs ι heap l o) : Qs ι' heap l o := by
  rcases hX.2 with ⟨_, rfl, _⟩ | ⟨_, rfl, _⟩ | ⟨all, _, _, _, rfl, _⟩
  · cases ho
  · rw [List.mem_singleton] at ho; subst ho; trivial
  · rw [List.mem_singleton] at ho; subst ho
    rcases h with h | ⟨hn, blk, off, c, ty, fz, pre, ex, ha, h1, h2, h3⟩
    · exact .inl h
    · refine .inr ⟨hn, blk, off, c, ty, fz, pre, ex, ha, h1, h2, ?_⟩
      rw [h3, vq (ι := ι) (ι' := ι') (n := 0) (fun j hj => by omega) _ (qk _ _ (qb _))]
theorem qh1 {H : List AO} {X : AV} {ts : List (Int × List Nat × Int)} (hX : qb6 H X ts) : (H = [] ∧ X = .v (.slice none 0 0) ∧ ts = []) ∨ ∃ (o : AO) (n c : Nat), H = [o] ∧ X = .slc 0 0 n true c ∧ (∀ ids, o.within ids = true) ∧ (∀ ρ, o.ren ρ = o) ∧ (∀ n, o.under n) ∧ ∀ hp : List AO, Xs (hp ++ [o]) (.slc hp.length 0 n true c) = some ts ∧ ∀ rest, Xs (hp ++ o :: rest) (.slc hp.length 0 n true c) = some ts := by
  have ha := qe5 hX
  rcases hX.2 with ⟨rfl, rfl, rfl⟩ | ⟨rfl, rfl, rfl⟩ | ⟨all, cap, rfl, hc, rfl, hall, _⟩
  · exact .inl ⟨rfl, rfl, rfl⟩
  · refine .inr ⟨_, _, _, rfl, rfl, fun ids => rfl, fun ρ => rfl, fun n => trivial, fun hp => ⟨?_, fun rest => ?_⟩⟩
    · simp [Xs]
    · simp [Xs]
  · have h1 : ∀ hp rest : List AO, Xs (hp ++ .ro (qn all) :: rest) (.slc hp.length 0 ts.length true cap) = some ts := fun hp rest => by
      rw [← ha []]
      simp [Xs]
    refine .inr ⟨_, _, _, rfl, rfl, fun ids => qd _ _ (qb _), fun ρ => by simp only [AO.ren, qc _ _ (qb _)], fun n => qk _ _ (qb _), fun hp => ⟨h1 hp [], fun rest => h1 hp rest⟩⟩
theorem qt6 {H1 H2 : List AO} {X Y : AV} {ts us : List (Int × List Nat × Int)} {heap : Array Obj} {l1 l2 : Am.Loc} (hX : qb6 H1 X ts) (hY : qb6 H2 Y us)
    (h1 : ∀ o ∈ H1, Qs (fun _ => l1) heap l1 o ∧ o.wr = false) (h2 : ∀ o ∈ H2, Qs (fun _ => l2) heap l2 o ∧ o.wr = false) :
    ∃ (Y' : AV) (ι : Nat → Am.Loc), qqb (H1 ++ H2) X Y' ts us ∧ (∀ o ∈ H1 ++ H2, o.wr = false) ∧ HOk ι (H1 ++ H2) heap ∧ (∀ p c n : Int, gam (fun _ => l1) (.agg [.int .i64 p, .int .i64 c, .int .i64 n, X]) = gam ι (.agg [.int .i64 p, .int .i64 c, .int .i64 n, X])) ∧
      ∀ p c n : Int, gam (fun _ => l2) (.agg [.int .i64 p, .int .i64 c, .int .i64 n, Y]) = gam ι (.agg [.int .i64 p, .int .i64 c, .int .i64 n, Y']) := by
  have hw : ∀ o ∈ H1 ++ H2, o.wr = false := fun o ho => by
    rcases List.mem_append.1 ho with h | h
    · exact (h1 o h).2
    · exact (h2 o h).2
  have hinj : ∀ (ι : Nat → Am.Loc) (i j b : Nat), AtW ι (H1 ++ H2) i b → At ι (H1 ++ H2) j b → i = j := fun ι i j b hi _ => by
    obtain ⟨o, ho, hw', _⟩ := hi
    rw [hw o (List.mem_of_getElem? ho)] at hw'; cases hw'
  have a1 : ∀ o ∈ H1, ∀ ι', Qs ι' heap l1 o := fun o ho ι' => qm0 hX ho (h1 o ho).1
  have a2 : ∀ o ∈ H2, ∀ ι', Qs ι' heap l2 o := fun o ho ι' => qm0 hY ho (h2 o ho).1
  have hokX := hX.1
  have hokY := hY.1
  rcases qh1 hX with ⟨rfl, rfl, rfl⟩ | ⟨o, nx, cx, rfl, rfl, k1, k2, k3, k4⟩ <;> rcases qh1 hY with ⟨rfl, rfl, rfl⟩ | ⟨o', ny, cy, rfl, rfl, q1, q2, q3, q4⟩
  · refine ⟨.v (.slice none 0 0), fun _ => l1, ⟨fun rest => rfl, fun rest => rfl, ⟨hokX, hokY⟩, fun j o h => (by simp at h), ⟨trivial, trivial⟩, .inl ⟨rfl, rfl, rfl⟩⟩, hw, ⟨fun j o h => (by simp at h), hinj _⟩, fun _ _ _ => rfl, fun _ _ _ => rfl⟩
  · refine ⟨.slc 0 0 ny true cy, fun _ => l2, ⟨fun rest => rfl, fun rest => (q4 []).2 rest, ⟨hokX, hokY⟩, ?_, ⟨trivial, by simp [AV.under]⟩, .inr (.inr (.inl ⟨_, _, _, rfl, rfl, rfl, q1, q2⟩))⟩, hw, ⟨?_, hinj _⟩, fun _ _ _ => rfl, fun _ _ _ => rfl⟩
    · intro j o h
      have := List.mem_of_getElem? h
      simp only [List.nil_append, List.mem_singleton] at this
      subst this; exact q3 _
    · intro j o h
      have := List.mem_of_getElem? h
      simp only [List.nil_append, List.mem_singleton] at this
      subst this; exact ⟨q3 _, a2 _ (List.mem_singleton.2 rfl) _⟩
  · refine ⟨.v (.slice none 0 0), fun _ => l1, ⟨fun rest => (k4 []).2 rest, fun rest => rfl, ⟨hokX, hokY⟩, ?_, ⟨by simp [AV.under], trivial⟩, .inr (.inl ⟨_, _, _, rfl, rfl, rfl, k1, k2⟩)⟩, hw, ⟨?_, hinj _⟩, fun _ _ _ => rfl, fun _ _ _ => rfl⟩
    · intro j o h
      have := List.mem_of_getElem? h
      simp only [List.append_nil, List.mem_singleton] at this
      subst this; exact k3 _
    · intro j o h
      have := List.mem_of_getElem? h
      simp only [List.append_nil, List.mem_singleton] at this
      subst this; exact ⟨k3 _, a1 _ (List.mem_singleton.2 rfl) _⟩
  · refine ⟨.slc 1 0 ny true cy, fun j => if j = 0 then l1 else l2, ⟨fun rest => (k4 []).2 (o' :: rest), fun rest => (q4 [o]).2 rest, ⟨hokX, hokY⟩, ?_, ⟨by simp [AV.under], by simp [AV.under]⟩, .inr (.inr (.inr ⟨_, _, _, _, _, _, rfl, rfl, rfl, k1, k2, q1, q2⟩))⟩, hw, ⟨?_, hinj _⟩, fun _ _ _ => rfl, fun _ _ _ => rfl⟩
    · intro j w h
      have := List.mem_of_getElem? h
      simp only [List.cons_append, List.nil_append, List.mem_cons, List.not_mem_nil, or_false] at this
      rcases this with rfl | rfl
      · exact k3 _
      · exact q3 _
    · intro j w h
      match j with
      | 0 => simp at h; subst h; exact ⟨k3 _, a1 _ (List.mem_singleton.2 rfl) _⟩
      | 1 => simp at h; subst h; exact ⟨q3 _, a2 _ (List.mem_singleton.2 rfl) _⟩
      | j + 2 => simp at h
end Go.Proofs.Ytkgoadglalpbfaa

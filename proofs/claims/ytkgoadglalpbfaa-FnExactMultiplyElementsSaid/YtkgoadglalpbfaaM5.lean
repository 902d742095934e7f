/- Contracts: the statement FnExactMultiplyElements. -/
import Derived.Test.YtkgoadglalpbfaaM4
namespace Go.Proofs.Ytkgoadglalpbfaa
open Go.Am Go.Dia
open Nat renaming reduceAdd → nA, reduceMul → nM, reduceSub → nS, reduceEqDiff → nE, reduceLT → nL, reduceLeDiff → nD, reduceBEq → nB
open Int renaming reduceEq → iE, reduceNe → iN, reduceBEq → iB, reduceBNe → iC, reduceLT → iL, reduceLE → iD, reduceAdd → iA, reduceSub → iS, reduceMul → iM
set_option linter.unusedSimpArgs false
set_option linter.unusedVariables false
set_option maxRecDepth 4000
set_option maxHeartbeats 1000000
theorem qj : B89 40 = some (wu Zs) := rfl
theorem qi : B89 39 = some (wu Zs) := rfl
theorem qw : B89 19 = some (zl) := rfl
theorem qn : B89 26 = some (za) := rfl
theorem qo : B89 20 = some (zb) := rfl
theorem qv : B89 14 = some (zm) := rfl
theorem qx : B89 16 = some (zn) := rfl
def xo : AT := (.one (oN 28 4 2) (.one (oN 30 4 3) (.alt (oC 29 16 [.t 28]) (.alt (oC 31 16 [.t 30]) (.alt (oC 32 39 [.t 29,.t 31]) (.one (oM 27 32) (.one (oE 33 0 27) (.one (oE 34 1 27) (.one (o0 6 (.alloc [.int .i64 0,.int .i64 0,.int .i64 0,(.v (.slice none 0 0))])) (.one (oS 4 6 33) (.one (oM 7 34) (.nil))))))) (.alt (o0 6 (.alloc [.int .i64 0,.int .i64 0,.int .i64 0,(.v (.slice none 0 0))])) (.one (oC 32 39 [.t 29,.t 31]) (.one (oM 27 32) (.one (oE 33 0 27) (.one (oE 34 1 27) (.one (oS 4 6 33) (.one (oM 7 34) (.nil))))))) (.none))) (.alt (o0 6 (.alloc [.int .i64 0,.int .i64 0,.int .i64 0,(.v (.slice none 0 0))])) (.one (oC 31 16 [.t 30]) (.one (oC 32 39 [.t 29,.t 31]) (.one (oM 27 32) (.one (oE 33 0 27) (.one (oE 34 1 27) (.one (oS 4 6 33) (.one (oM 7 34) (.nil)))))))) (.none))) (.alt (o0 6 (.alloc [.int .i64 0,.int .i64 0,.int .i64 0,(.v (.slice none 0 0))])) (.one (oC 29 16 [.t 28]) (.one (oC 31 16 [.t 30]) (.one (oC 32 39 [.t 29,.t 31]) (.one (oM 27 32) (.one (oE 33 0 27) (.one (oE 34 1 27) (.one (oS 4 6 33) (.one (oM 7 34) (.nil))))))))) (.none)))))
def xk : AT := (.one (oN 95 4 2) (.one (oN 97 4 3) (.alt (oC 96 16 [.t 95]) (.alt (oC 98 16 [.t 97]) (.alt (oC 99 40 [.t 96,.t 98]) (.one (oM 94 99) (.one (oE 100 0 94) (.one (oE 101 1 94) (.one (o0 15 (.alloc [.int .i64 0,.int .i64 0,.int .i64 0,(.v (.slice none 0 0))])) (.one (oS 4 15 100) (.one (oM 16 101) (.nil))))))) (.alt (o0 15 (.alloc [.int .i64 0,.int .i64 0,.int .i64 0,(.v (.slice none 0 0))])) (.one (oC 99 40 [.t 96,.t 98]) (.one (oM 94 99) (.one (oE 100 0 94) (.one (oE 101 1 94) (.one (oS 4 15 100) (.one (oM 16 101) (.nil))))))) (.none))) (.alt (o0 15 (.alloc [.int .i64 0,.int .i64 0,.int .i64 0,(.v (.slice none 0 0))])) (.one (oC 98 16 [.t 97]) (.one (oC 99 40 [.t 96,.t 98]) (.one (oM 94 99) (.one (oE 100 0 94) (.one (oE 101 1 94) (.one (oS 4 15 100) (.one (oM 16 101) (.nil)))))))) (.none))) (.alt (o0 15 (.alloc [.int .i64 0,.int .i64 0,.int .i64 0,(.v (.slice none 0 0))])) (.one (oC 96 16 [.t 95]) (.one (oC 98 16 [.t 97]) (.one (oC 99 40 [.t 96,.t 98]) (.one (oM 94 99) (.one (oE 100 0 94) (.one (oE 101 1 94) (.one (oS 4 15 100) (.one (oM 16 101) (.nil))))))))) (.none)))))
def xm : AC := .seq (.seq (.region [oN 102 4 15,oN 103 4 6,oC 104 19 [.t 102,.t 103],o0 105 (.un .not (.t 104)),oM 106 105,oG 107 106 false (.mov (.t 16)),oG 108 106 false (.mov (.t 7)),oG 109 106 false (.bin .neq (.t 107) (.t 108)),o0 110 (.pick (.t 106) (.c (.bool true)) (.t 109))]) (.cond 110 (.seq (.region [oB 4 false]) .ret) .skip)) (.seq (.region [oI 14 1]) (.seq (.region [oN 111 4 10,oM 112 14,oC 113 26 [.t 111,.t 112],oM 14 113]) (.seq (.seq (.region [oM 114 14,oK 115 .lss 114 0]) (.cond 115 (.seq (.region [oB 4 false]) .ret) .skip)) (.seq (.seq (.region [oM 116 14,oM 117 13,oP 118 .neq 116 117]) (.cond 118 (.seq (.region [oB 4 false]) .ret) .skip)) (.seq (.region [oB 4 true]) .ret)))))
def xi : AC := .seq (.region [oN 35 4 2,oC 36 16 [.t 35],o0 8 (.alloc [.int .i64 0,.int .i64 0,.int .i64 0,(.v (.slice none 0 0))]),oS 4 8 36]) (.seq (.region [oN 37 4 3,oC 38 16 [.t 37],o0 9 (.alloc [.int .i64 0,.int .i64 0,.int .i64 0,(.v (.slice none 0 0))]),oS 4 9 38]) (.seq (.region [oN 40 4 8,oN 41 4 9,oC 42 40 [.t 40,.t 41],oM 39 42,oE 43 0 39,oE 44 1 39,o0 10 (.alloc [.int .i64 0,.int .i64 0,.int .i64 0,(.v (.slice none 0 0))]),oS 4 10 43,oM 11 44]) (.seq (.seq (.region [oN 45 4 10,oN 46 4 6,oC 47 19 [.t 45,.t 46],o0 48 (.un .not (.t 47)),oM 49 48,oG 50 49 false (.mov (.t 11)),oG 51 49 false (.mov (.t 7)),oG 52 49 false (.bin .neq (.t 50) (.t 51)),o0 53 (.pick (.t 49) (.c (.bool true)) (.t 52))]) (.cond 53 (.seq (.region [oB 4 false]) .ret) .skip)) (.seq (.seq (.draw true [oN 54 4 8,oN 55 4 2,oC 56 16 [.t 55],oC 57 19 [.t 54,.t 56],o0 58 (.un .not (.t 57))]) (.cond 58 (.seq (.region [oB 4 false]) .ret) .skip)) (.seq (.seq (.draw true [oN 59 4 9,oN 60 4 3,oC 61 16 [.t 60],oC 62 19 [.t 59,.t 61],o0 63 (.un .not (.t 62))]) (.cond 63 (.seq (.region [oB 4 false]) .ret) .skip)) (.seq (.region [oI 12 1]) (.seq (.region [oN 64 4 8,oM 65 12,oC 66 20 [.t 64,.t 65],oM 12 66]) (.seq (.region [oN 67 4 9,oM 68 12,oC 69 20 [.t 67,.t 68],oM 12 69]) (.seq (.seq (.region [oM 70 12,oK 71 .lss 70 0,oM 72 71,oG 73 72 false (.gn 4 (.t 10)),oG 74 72 false (.gn 4 (.t 6)),⟨some 75,some (72,false),.call (.c (.fn 19 [] [])) [.t 73,.t 74]⟩,oG 76 72 false (.un .not (.t 75)),o0 77 (.pick (.t 72) (.c (.bool true)) (.t 76)),oM 78 77,oG 79 78 false (.mov (.t 11)),oG 80 78 false (.mov (.t 7)),oG 81 78 false (.bin .neq (.t 79) (.t 80)),o0 82 (.pick (.t 78) (.c (.bool true)) (.t 81))]) (.cond 82 (.seq (.region [oB 4 false]) .ret) .skip)) (.seq (.region [oI 13 1]) (.seq (.region [oN 83 4 10,oM 84 13,oC 85 20 [.t 83,.t 84],oM 13 85]) (.seq (.region [oI 14 1]) (.seq (.region [oN 86 4 10,oM 87 14,oC 88 26 [.t 86,.t 87],oM 14 88]) (.seq (.seq (.region [oM 89 14,oK 90 .lss 89 0]) (.cond 90 (.seq (.region [oB 4 false]) .ret) .skip)) (.seq (.seq (.region [oM 91 14,oM 92 13,oP 93 .neq 91 92]) (.cond 93 (.seq (.region [oB 4 false]) .ret) .skip)) (.seq (.tree true xk) xm))))))))))))))))
def zj : AC := .seq (.region [o0 2 (.box (.t 0)),o0 3 (.box (.t 1)),oB 4 false]) (.seq (.region [oI 5 1048576]) (.seq (.region [oN 17 4 2,oM 18 5,oC 19 14 [.t 17,.t 18],oM 5 19]) (.seq (.seq (.region [oM 20 5,oK 21 .lss 20 0]) (.cond 21 (.seq (.region [oB 4 true]) .ret) .skip)) (.seq (.region [oN 22 4 3,oM 23 5,oC 24 14 [.t 22,.t 23],oM 5 24]) (.seq (.seq (.region [oM 25 5,oK 26 .lss 25 0]) (.cond 26 (.seq (.region [oB 4 true]) .ret) .skip)) (.seq (.tree true xo) xi))))))
theorem Xo : zy Try.prog 11 = some ⟨119, zj, [.slot 4]⟩ := by kernel_rfl
theorem Yy (H : List AO) (X Y : AV) (p c n p' c' n' : Int) (ts us : List (Int × List Nat × Int)) (h : qog H X Y ts us) (hl : ts.length ≤ 9223372036854775807 ∧ us.length ≤ 9223372036854775807) :
    Am.Fn Try.prog 11 [.agg [.int .i64 p, .int .i64 c, .int .i64 n, X], .agg [.int .i64 p', .int .i64 c', .int .i64 n', Y]] H (fun v H' => v = .bool true ∧ H' = H) := by
  refine Am.Fn.jw (R := fun v => v = _) Wi mixed Xo (by simp) h.un ?_
  have hX := h.x
  have hY := h.y
  have ho := h.ok.1
  have ho2 := h.ok.2
  have hl1 := hl.1
  have hl2 := hl.2
  by_cases hlt : (1048576 : Int) - ts.length < 0
  · have hif : (if (1048576 : Int) - ts.length < 0 then (-1 : Int) else 1048576 - ts.length) = -1 := if_pos hlt
    rcases h.h with rfl | ⟨o, rfl⟩ | ⟨o, o', rfl⟩
    · simp only [List.nil_append] at hX
      simp (maxSteps := 3000000) only [qf, zH, zj, qj, qi, qw, qn, qo, qv, qx, wu, zl, za, zb, zm, zn, iE, iN, iB, iC, iL, iD, iA, iS, iM, hX, hl1, hif, qb, zZ, ↓qp, ↓reduceIte, reduceCtorEq, nA, nM, nS, nE, nL, nD]; try simp only [qb, zY]
    · simp only [List.cons_append, List.nil_append] at hX
      simp (maxSteps := 3000000) only [qf, zH, zj, qj, qi, qw, qn, qo, qv, qx, wu, zl, za, zb, zm, zn, iE, iN, iB, iC, iL, iD, iA, iS, iM, hX, hl1, hif, qb, zZ, ↓qp, ↓reduceIte, reduceCtorEq, nA, nM, nS, nE, nL, nD]; try simp only [qb, zY]
      exact ⟨_, rfl⟩
    · simp only [List.cons_append, List.nil_append] at hX
      simp (maxSteps := 3000000) only [qf, zH, zj, qj, qi, qw, qn, qo, qv, qx, wu, zl, za, zb, zm, zn, iE, iN, iB, iC, iL, iD, iA, iS, iM, hX, hl1, hif, qb, zZ, ↓qp, ↓reduceIte, reduceCtorEq, nA, nM, nS, nE, nL, nD]; try simp only [qb, zY]
      exact ⟨_, rfl⟩
  have hif : (if (1048576 : Int) - ts.length < 0 then (-1 : Int) else 1048576 - ts.length) = 1048576 - ts.length := if_neg hlt
  have c1 : (0 : Int) ≤ 1048576 - ts.length ∧ 1048576 - (ts.length : Int) ≤ 1000000000 := by omega
  by_cases hlt2 : (1048576 : Int) - ts.length - us.length < 0
  · have hif2 : (if (1048576 : Int) - ts.length - us.length < 0 then (-1 : Int) else 1048576 - ts.length - us.length) = -1 := if_pos hlt2
    rcases h.h with rfl | ⟨o, rfl⟩ | ⟨o, o', rfl⟩
    · simp only [List.nil_append] at hX hY
      simp (maxSteps := 3000000) only [qf, zH, zj, qj, qi, qw, qn, qo, qv, qx, wu, zl, za, zb, zm, zn, iE, iN, iB, iC, iL, iD, iA, iS, iM, hX, hY, hl1, hl2, hif, hlt, hif2, c1, qb, zZ, ↓qp, ↓reduceIte, reduceCtorEq, nA, nM, nS, nE, nL, nD]; try simp only [qb, zY]
    · simp only [List.cons_append, List.nil_append] at hX hY
      simp (maxSteps := 3000000) only [qf, zH, zj, qj, qi, qw, qn, qo, qv, qx, wu, zl, za, zb, zm, zn, iE, iN, iB, iC, iL, iD, iA, iS, iM, hX, hY, hl1, hl2, hif, hlt, hif2, c1, qb, zZ, ↓qp, ↓reduceIte, reduceCtorEq, nA, nM, nS, nE, nL, nD]; try simp only [qb, zY]
      exact ⟨_, rfl⟩
    · simp only [List.cons_append, List.nil_append] at hX hY
      simp (maxSteps := 3000000) only [qf, zH, zj, qj, qi, qw, qn, qo, qv, qx, wu, zl, za, zb, zm, zn, iE, iN, iB, iC, iL, iD, iA, iS, iM, hX, hY, hl1, hl2, hif, hlt, hif2, c1, qb, zZ, ↓qp, ↓reduceIte, reduceCtorEq, nA, nM, nS, nE, nL, nD]; try simp only [qb, zY]
      exact ⟨_, rfl⟩
  have hif2 : (if (1048576 : Int) - ts.length - us.length < 0 then (-1 : Int) else 1048576 - ts.length - us.length) = 1048576 - ts.length - us.length := if_neg hlt2
  have hr := qus p c n p' c' n' ts us ho ho2
  generalize he : Zs p c n ts p' c' n' us = r at hr
  obtain ⟨P, C, N, L, E⟩ := r
  obtain ⟨hL, hLl⟩ := hr
  simp only at hL hLl
  have b0 := qt ho
  have b1 := xj ho
  have b2 := qt ho2
  have b3 := xj ho2
  have h1 := qt hL
  have h2 := xj hL
  have h3 : Qz L.length (qq (marks L.length 1)) = some (marks L.length 1) := by have := xj (Vn L.length 1); rwa [xf] at this
  have h6 : ((1 + 18 * L.length : Nat) : Int) < 0 ↔ False := iff_false_intro (by omega)
  have h7 : ((1 + 18 * ts.length + 18 * us.length : Nat) : Int) < 0 ↔ False := iff_false_intro (by omega)
  have h4 : L.length ≤ 2000000 := by omega
  have h8 : ts.length ≤ 1100000 ∧ us.length ≤ 1100000 := by omega
  have h9 : ts.length ≤ 2000000 ∧ us.length ≤ 2000000 := by omega
  have c2 : (0 : Int) ≤ ((1 + 18 * ts.length : Nat) : Int) ∧ ((1 + 18 * ts.length : Nat) : Int) ≤ 100000000 := by omega
  rcases h.sh with ⟨rfl, rfl, rfl⟩ | ⟨o, nx, cx, rfl, rfl, rfl, hg1, hg2⟩ | ⟨o, ny, cy, rfl, rfl, rfl, hg1, hg2⟩ | ⟨o, o', nx, cx, ny, cy, rfl, rfl, rfl, hg1, hg2, hg3, hg4⟩
  · simp only [List.nil_append] at hX hY
    obtain rfl : us = ts := Option.some.inj ((hY []).symm.trans (hX []))
    simp (maxSteps := 3000000) only [qf, zH, zj, qj, qi, qw, qn, qo, qv, qx, wu, zl, za, zb, zm, zn, iE, iN, iB, iC, iL, iD, iA, iS, iM, hX, hY, hl1, hl2, hif, hlt, hif2, hlt2, c1, qb, zZ, ↓qp, ↓reduceIte, reduceCtorEq, nA, nM, nS, nE, nL, nD]; try simp only [qb, zY]
    refine WA.Y0 Wi (fun s => s = ⟨[(7, .int .i64 E), (6, .ptr 2 0), (3, .ptr 1 0), (2, .ptr 0 0)], [.cells [.int .i64 p, .int .i64 c, .int .i64 n, .v (.slice none 0 0)], .cells [.int .i64 p', .int .i64 c', .int .i64 n', .v (.slice none 0 0)], .cells [.int .i64 P, .int .i64 C, .int .i64 N, .slc 3 0 L.length false 0], .vec 18 (qq L)]⟩) ?_ ?_
    · unfold xo
      simp (maxSteps := 3000000) only [qf, zH, qj, qi, qw, qn, qo, qv, qx, wu, zl, za, zb, zm, zn, iE, iN, iB, iC, iL, iD, iA, iS, iM, gq, elemV, yc, qd _ _ (qa _), qd _ _ (qh _ _), b9, Qx, hX, hY, he, b0, b1, b2, b3, h1, h2, h8, and_self, y7, qb, zZ, ↓qp, ↓reduceIte, reduceCtorEq, nA, nM, nS, nE, nL, nD]; try simp only [qb, zY]
      repeat' first | (with_reducible exact ⟨_, rfl⟩) | (exact rfl) | (with_reducible refine And.intro ?_ ?_)
      · refine ⟨_, qz.zw [0, 1, 5, 4] [7, 6, 3, 2] ⟨by decide, ?_⟩ ?_, ?_⟩
        · simp only [qc _ _ (qa _), zK, ↓reduceIte, reduceCtorEq, nE, nB, nA]
        · simp only [qc _ _ (qa _), zK, ↓reduceIte, reduceCtorEq, nE, nB, nA]
        · simp only [qd _ _ (qa _), zL, ↓reduceIte, reduceCtorEq, nE, nA]
      · refine ⟨_, qz.zw [0, 1, 4, 5] [7, 6, 3, 2] ⟨by decide, ?_⟩ ?_, ?_⟩
        · simp only [qc _ _ (qa _), zK, ↓reduceIte, reduceCtorEq, nE, nB, nA]
        · simp only [qc _ _ (qa _), zK, ↓reduceIte, reduceCtorEq, nE, nB, nA]
        · simp only [qd _ _ (qa _), zL, ↓reduceIte, reduceCtorEq, nE, nA]
      · refine ⟨_, qz.zw [0, 1, 3, 5] [7, 6, 3, 2] ⟨by decide, ?_⟩ ?_, ?_⟩
        · simp only [qc _ _ (qa _), zK, ↓reduceIte, reduceCtorEq, nE, nB, nA]
        · simp only [qc _ _ (qa _), zK, ↓reduceIte, reduceCtorEq, nE, nB, nA]
        · simp only [qd _ _ (qa _), zL, ↓reduceIte, reduceCtorEq, nE, nA]
      · refine ⟨_, qz.zw [0, 1, 2, 5] [7, 6, 3, 2] ⟨by decide, ?_⟩ ?_, ?_⟩
        · simp only [qc _ _ (qa _), zK, ↓reduceIte, reduceCtorEq, nE, nB, nA]
        · simp only [qc _ _ (qa _), zK, ↓reduceIte, reduceCtorEq, nE, nB, nA]
        · simp only [qd _ _ (qa _), zL, ↓reduceIte, reduceCtorEq, nE, nA]
    rintro s rfl
    simp (maxSteps := 3000000) only [qf, zH, xi, qj, qi, qw, qn, qo, qv, qx, wu, zl, za, zb, zm, zn, iE, iN, iB, iC, iL, iD, iA, iS, iM, gq, elemV, yc, qd _ _ (qa _), qd _ _ (qh _ _), hX, hY, he, b0, b1, b2, b3, h1, h2, h3, h4, h6, h7, h8, h9, c2, and_self, Int.toNat_one, Int.toNat_natCast, y7, qb, zZ, ↓qp, ↓reduceIte, reduceCtorEq, nA, nM, nS, nE, nL, nD]; try simp only [qb, zY]
    repeat' first | (with_reducible exact ⟨_, rfl⟩) | (exact rfl) | (with_reducible refine And.intro ?_ ?_)
    refine WA.Y0 Wi (fun s => s = ⟨[(16, .int .i64 E), (15, .ptr 4 0), (13, .int .i64 (1 + 18 * L.length : Nat)), (10, .ptr 2 0), (7, .int .i64 E), (6, .ptr 0 0)], [.cells [.int .i64 P, .int .i64 C, .int .i64 N, .slc 1 0 L.length false 0], .vec 18 (qq L), .cells [.int .i64 P, .int .i64 C, .int .i64 N, .slc 3 0 L.length false 0], .vec 18 (qq (marks L.length 1)), .cells [.int .i64 P, .int .i64 C, .int .i64 N, .slc 5 0 L.length false 0], .vec 18 (qq L)]⟩) ?_ ?_
    · unfold xk
      simp (maxSteps := 3000000) only [qf, zH, qj, qi, qw, qn, qo, qv, qx, wu, zl, za, zb, zm, zn, iE, iN, iB, iC, iL, iD, iA, iS, iM, gq, elemV, yc, qd _ _ (qa _), qd _ _ (qh _ _), b9, Qx, hX, hY, he, b0, b1, b2, b3, h1, h2, h8, and_self, y7, qb, zZ, ↓qp, ↓reduceIte, reduceCtorEq, nA, nM, nS, nE, nL, nD]; try simp only [qb, zY]
      repeat' first | (with_reducible exact ⟨_, rfl⟩) | (exact rfl) | (with_reducible refine And.intro ?_ ?_)
      · refine ⟨_, qz.zw [2, 3, 9, 8, 15, 14] [16, 15, 13, 10, 7, 6] ⟨by decide, ?_⟩ ?_, ?_⟩
        · simp only [qc _ _ (qa _), zK, ↓reduceIte, reduceCtorEq, nE, nB, nA]
        · simp only [qc _ _ (qa _), zK, ↓reduceIte, reduceCtorEq, nE, nB, nA]
        · simp only [qd _ _ (qa _), zL, ↓reduceIte, reduceCtorEq, nE, nA]
      · refine ⟨_, qz.zw [2, 3, 9, 8, 14, 15] [16, 15, 13, 10, 7, 6] ⟨by decide, ?_⟩ ?_, ?_⟩
        · simp only [qc _ _ (qa _), zK, ↓reduceIte, reduceCtorEq, nE, nB, nA]
        · simp only [qc _ _ (qa _), zK, ↓reduceIte, reduceCtorEq, nE, nB, nA]
        · simp only [qd _ _ (qa _), zL, ↓reduceIte, reduceCtorEq, nE, nA]
      · refine ⟨_, qz.zw [2, 3, 9, 8, 13, 15] [16, 15, 13, 10, 7, 6] ⟨by decide, ?_⟩ ?_, ?_⟩
        · simp only [qc _ _ (qa _), zK, ↓reduceIte, reduceCtorEq, nE, nB, nA]
        · simp only [qc _ _ (qa _), zK, ↓reduceIte, reduceCtorEq, nE, nB, nA]
        · simp only [qd _ _ (qa _), zL, ↓reduceIte, reduceCtorEq, nE, nA]
      · refine ⟨_, qz.zw [2, 3, 9, 8, 12, 15] [16, 15, 13, 10, 7, 6] ⟨by decide, ?_⟩ ?_, ?_⟩
        · simp only [qc _ _ (qa _), zK, ↓reduceIte, reduceCtorEq, nE, nB, nA]
        · simp only [qc _ _ (qa _), zK, ↓reduceIte, reduceCtorEq, nE, nB, nA]
        · simp only [qd _ _ (qa _), zL, ↓reduceIte, reduceCtorEq, nE, nA]
    rintro s rfl
    simp (maxSteps := 3000000) only [qf, zH, xm, qj, qi, qw, qn, qo, qv, qx, wu, zl, za, zb, zm, zn, iE, iN, iB, iC, iL, iD, iA, iS, iM, gq, elemV, yc, qd _ _ (qa _), qd _ _ (qh _ _), h1, h2, h3, h4, h6, Int.toNat_one, y7, qb, zZ, ↓qp, ↓reduceIte, reduceCtorEq, nA, nM, nS, nE, nL, nD]; try simp only [qb, zY]
  · simp only [List.cons_append, List.nil_append] at hX hY
    simp (maxSteps := 3000000) only [qf, zH, zj, qj, qi, qw, qn, qo, qv, qx, wu, zl, za, zb, zm, zn, iE, iN, iB, iC, iL, iD, iA, iS, iM, hX, hY, hl1, hl2, hif, hlt, hif2, hlt2, c1, qb, zZ, ↓qp, ↓reduceIte, reduceCtorEq, nA, nM, nS, nE, nL, nD]; try simp only [qb, zY]
    refine WA.Y0 Wi (fun s => s = ⟨[(7, .int .i64 E), (6, .ptr 3 0), (3, .ptr 2 0), (2, .ptr 1 0)], [o, .cells [.int .i64 p, .int .i64 c, .int .i64 n, .slc 0 0 nx true cx], .cells [.int .i64 p', .int .i64 c', .int .i64 n', .v (.slice none 0 0)], .cells [.int .i64 P, .int .i64 C, .int .i64 N, .slc 4 0 L.length false 0], .vec 18 (qq L)]⟩) ?_ ?_
    · unfold xo
      simp (maxSteps := 3000000) only [qf, zH, qj, qi, qw, qn, qo, qv, qx, wu, zl, za, zb, zm, zn, iE, iN, iB, iC, iL, iD, iA, iS, iM, gq, elemV, yc, qd _ _ (qa _), qd _ _ (qh _ _), b9, Qx, hX, hY, he, b0, b1, b2, b3, h1, h2, h8, and_self, y7, qb, zZ, ↓qp, ↓reduceIte, reduceCtorEq, nA, nM, nS, nE, nL, nD]; try simp only [qb, zY]
      repeat' first | (with_reducible exact ⟨_, rfl⟩) | (exact rfl) | (with_reducible refine And.intro ?_ ?_)
      · refine ⟨_, qz.zw [0, 1, 2, 6, 5] [7, 6, 3, 2] ⟨by decide, ?_⟩ ?_, ?_⟩
        · simp only [hg1, hg2, qc _ _ (qa _), zK, ↓reduceIte, reduceCtorEq, nE, nB, nA]
        · simp only [hg1, hg2, qc _ _ (qa _), zK, ↓reduceIte, reduceCtorEq, nE, nB, nA]
        · simp only [hg1, hg2, qd _ _ (qa _), zL, ↓reduceIte, reduceCtorEq, nE, nA]
      · refine ⟨_, qz.zw [0, 1, 2, 5, 6] [7, 6, 3, 2] ⟨by decide, ?_⟩ ?_, ?_⟩
        · simp only [hg1, hg2, qc _ _ (qa _), zK, ↓reduceIte, reduceCtorEq, nE, nB, nA]
        · simp only [hg1, hg2, qc _ _ (qa _), zK, ↓reduceIte, reduceCtorEq, nE, nB, nA]
        · simp only [hg1, hg2, qd _ _ (qa _), zL, ↓reduceIte, reduceCtorEq, nE, nA]
      · refine ⟨_, qz.zw [0, 1, 2, 4, 6] [7, 6, 3, 2] ⟨by decide, ?_⟩ ?_, ?_⟩
        · simp only [hg1, hg2, qc _ _ (qa _), zK, ↓reduceIte, reduceCtorEq, nE, nB, nA]
        · simp only [hg1, hg2, qc _ _ (qa _), zK, ↓reduceIte, reduceCtorEq, nE, nB, nA]
        · simp only [hg1, hg2, qd _ _ (qa _), zL, ↓reduceIte, reduceCtorEq, nE, nA]
      · refine ⟨_, qz.zw [0, 1, 2, 3, 6] [7, 6, 3, 2] ⟨by decide, ?_⟩ ?_, ?_⟩
        · simp only [hg1, hg2, qc _ _ (qa _), zK, ↓reduceIte, reduceCtorEq, nE, nB, nA]
        · simp only [hg1, hg2, qc _ _ (qa _), zK, ↓reduceIte, reduceCtorEq, nE, nB, nA]
        · simp only [hg1, hg2, qd _ _ (qa _), zL, ↓reduceIte, reduceCtorEq, nE, nA]
    rintro s rfl
    simp (maxSteps := 3000000) only [qf, zH, xi, qj, qi, qw, qn, qo, qv, qx, wu, zl, za, zb, zm, zn, iE, iN, iB, iC, iL, iD, iA, iS, iM, gq, elemV, yc, qd _ _ (qa _), qd _ _ (qh _ _), hX, hY, he, b0, b1, b2, b3, h1, h2, h3, h4, h6, h7, h8, h9, c2, and_self, Int.toNat_one, Int.toNat_natCast, y7, qb, zZ, ↓qp, ↓reduceIte, reduceCtorEq, nA, nM, nS, nE, nL, nD]; try simp only [qb, zY]
    repeat' first | (with_reducible exact ⟨_, rfl⟩) | (exact rfl) | (with_reducible refine And.intro ?_ ?_)
    refine WA.Y0 Wi (fun s => s = ⟨[(16, .int .i64 E), (15, .ptr 5 0), (13, .int .i64 (1 + 18 * L.length : Nat)), (10, .ptr 3 0), (7, .int .i64 E), (6, .ptr 1 0)], [o, .cells [.int .i64 P, .int .i64 C, .int .i64 N, .slc 2 0 L.length false 0], .vec 18 (qq L), .cells [.int .i64 P, .int .i64 C, .int .i64 N, .slc 4 0 L.length false 0], .vec 18 (qq (marks L.length 1)), .cells [.int .i64 P, .int .i64 C, .int .i64 N, .slc 6 0 L.length false 0], .vec 18 (qq L)]⟩) ?_ ?_
    · unfold xk
      simp (maxSteps := 3000000) only [qf, zH, qj, qi, qw, qn, qo, qv, qx, wu, zl, za, zb, zm, zn, iE, iN, iB, iC, iL, iD, iA, iS, iM, gq, elemV, yc, qd _ _ (qa _), qd _ _ (qh _ _), b9, Qx, hX, hY, he, b0, b1, b2, b3, h1, h2, h8, and_self, y7, qb, zZ, ↓qp, ↓reduceIte, reduceCtorEq, nA, nM, nS, nE, nL, nD]; try simp only [qb, zY]
      repeat' first | (with_reducible exact ⟨_, rfl⟩) | (exact rfl) | (with_reducible refine And.intro ?_ ?_)
      · refine ⟨_, qz.zw [0, 3, 4, 10, 9, 16, 15] [16, 15, 13, 10, 7, 6] ⟨by decide, ?_⟩ ?_, ?_⟩
        · simp only [hg1, hg2, qc _ _ (qa _), zK, ↓reduceIte, reduceCtorEq, nE, nB, nA]
        · simp only [hg1, hg2, qc _ _ (qa _), zK, ↓reduceIte, reduceCtorEq, nE, nB, nA]
        · simp only [hg1, hg2, qd _ _ (qa _), zL, ↓reduceIte, reduceCtorEq, nE, nA]
      · refine ⟨_, qz.zw [0, 3, 4, 10, 9, 15, 16] [16, 15, 13, 10, 7, 6] ⟨by decide, ?_⟩ ?_, ?_⟩
        · simp only [hg1, hg2, qc _ _ (qa _), zK, ↓reduceIte, reduceCtorEq, nE, nB, nA]
        · simp only [hg1, hg2, qc _ _ (qa _), zK, ↓reduceIte, reduceCtorEq, nE, nB, nA]
        · simp only [hg1, hg2, qd _ _ (qa _), zL, ↓reduceIte, reduceCtorEq, nE, nA]
      · refine ⟨_, qz.zw [0, 3, 4, 10, 9, 14, 16] [16, 15, 13, 10, 7, 6] ⟨by decide, ?_⟩ ?_, ?_⟩
        · simp only [hg1, hg2, qc _ _ (qa _), zK, ↓reduceIte, reduceCtorEq, nE, nB, nA]
        · simp only [hg1, hg2, qc _ _ (qa _), zK, ↓reduceIte, reduceCtorEq, nE, nB, nA]
        · simp only [hg1, hg2, qd _ _ (qa _), zL, ↓reduceIte, reduceCtorEq, nE, nA]
      · refine ⟨_, qz.zw [0, 3, 4, 10, 9, 13, 16] [16, 15, 13, 10, 7, 6] ⟨by decide, ?_⟩ ?_, ?_⟩
        · simp only [hg1, hg2, qc _ _ (qa _), zK, ↓reduceIte, reduceCtorEq, nE, nB, nA]
        · simp only [hg1, hg2, qc _ _ (qa _), zK, ↓reduceIte, reduceCtorEq, nE, nB, nA]
        · simp only [hg1, hg2, qd _ _ (qa _), zL, ↓reduceIte, reduceCtorEq, nE, nA]
    rintro s rfl
    simp (maxSteps := 3000000) only [qf, zH, xm, qj, qi, qw, qn, qo, qv, qx, wu, zl, za, zb, zm, zn, iE, iN, iB, iC, iL, iD, iA, iS, iM, gq, elemV, yc, qd _ _ (qa _), qd _ _ (qh _ _), h1, h2, h3, h4, h6, Int.toNat_one, y7, qb, zZ, ↓qp, ↓reduceIte, reduceCtorEq, nA, nM, nS, nE, nL, nD]; try simp only [qb, zY]
    exact ⟨_, rfl⟩
  · simp only [List.cons_append, List.nil_append] at hX hY
    simp (maxSteps := 3000000) only [qf, zH, zj, qj, qi, qw, qn, qo, qv, qx, wu, zl, za, zb, zm, zn, iE, iN, iB, iC, iL, iD, iA, iS, iM, hX, hY, hl1, hl2, hif, hlt, hif2, hlt2, c1, qb, zZ, ↓qp, ↓reduceIte, reduceCtorEq, nA, nM, nS, nE, nL, nD]; try simp only [qb, zY]
    refine WA.Y0 Wi (fun s => s = ⟨[(7, .int .i64 E), (6, .ptr 3 0), (3, .ptr 2 0), (2, .ptr 1 0)], [o, .cells [.int .i64 p, .int .i64 c, .int .i64 n, .v (.slice none 0 0)], .cells [.int .i64 p', .int .i64 c', .int .i64 n', .slc 0 0 ny true cy], .cells [.int .i64 P, .int .i64 C, .int .i64 N, .slc 4 0 L.length false 0], .vec 18 (qq L)]⟩) ?_ ?_
    · unfold xo
      simp (maxSteps := 3000000) only [qf, zH, qj, qi, qw, qn, qo, qv, qx, wu, zl, za, zb, zm, zn, iE, iN, iB, iC, iL, iD, iA, iS, iM, gq, elemV, yc, qd _ _ (qa _), qd _ _ (qh _ _), b9, Qx, hX, hY, he, b0, b1, b2, b3, h1, h2, h8, and_self, y7, qb, zZ, ↓qp, ↓reduceIte, reduceCtorEq, nA, nM, nS, nE, nL, nD]; try simp only [qb, zY]
      repeat' first | (with_reducible exact ⟨_, rfl⟩) | (exact rfl) | (with_reducible refine And.intro ?_ ?_)
      · refine ⟨_, qz.zw [0, 1, 2, 6, 5] [7, 6, 3, 2] ⟨by decide, ?_⟩ ?_, ?_⟩
        · simp only [hg1, hg2, qc _ _ (qa _), zK, ↓reduceIte, reduceCtorEq, nE, nB, nA]
        · simp only [hg1, hg2, qc _ _ (qa _), zK, ↓reduceIte, reduceCtorEq, nE, nB, nA]
        · simp only [hg1, hg2, qd _ _ (qa _), zL, ↓reduceIte, reduceCtorEq, nE, nA]
      · refine ⟨_, qz.zw [0, 1, 2, 5, 6] [7, 6, 3, 2] ⟨by decide, ?_⟩ ?_, ?_⟩
        · simp only [hg1, hg2, qc _ _ (qa _), zK, ↓reduceIte, reduceCtorEq, nE, nB, nA]
        · simp only [hg1, hg2, qc _ _ (qa _), zK, ↓reduceIte, reduceCtorEq, nE, nB, nA]
        · simp only [hg1, hg2, qd _ _ (qa _), zL, ↓reduceIte, reduceCtorEq, nE, nA]
      · refine ⟨_, qz.zw [0, 1, 2, 4, 6] [7, 6, 3, 2] ⟨by decide, ?_⟩ ?_, ?_⟩
        · simp only [hg1, hg2, qc _ _ (qa _), zK, ↓reduceIte, reduceCtorEq, nE, nB, nA]
        · simp only [hg1, hg2, qc _ _ (qa _), zK, ↓reduceIte, reduceCtorEq, nE, nB, nA]
        · simp only [hg1, hg2, qd _ _ (qa _), zL, ↓reduceIte, reduceCtorEq, nE, nA]
      · refine ⟨_, qz.zw [0, 1, 2, 3, 6] [7, 6, 3, 2] ⟨by decide, ?_⟩ ?_, ?_⟩
        · simp only [hg1, hg2, qc _ _ (qa _), zK, ↓reduceIte, reduceCtorEq, nE, nB, nA]
        · simp only [hg1, hg2, qc _ _ (qa _), zK, ↓reduceIte, reduceCtorEq, nE, nB, nA]
        · simp only [hg1, hg2, qd _ _ (qa _), zL, ↓reduceIte, reduceCtorEq, nE, nA]
    rintro s rfl
    simp (maxSteps := 3000000) only [qf, zH, xi, qj, qi, qw, qn, qo, qv, qx, wu, zl, za, zb, zm, zn, iE, iN, iB, iC, iL, iD, iA, iS, iM, gq, elemV, yc, qd _ _ (qa _), qd _ _ (qh _ _), hX, hY, he, b0, b1, b2, b3, h1, h2, h3, h4, h6, h7, h8, h9, c2, and_self, Int.toNat_one, Int.toNat_natCast, y7, qb, zZ, ↓qp, ↓reduceIte, reduceCtorEq, nA, nM, nS, nE, nL, nD]; try simp only [qb, zY]
    repeat' first | (with_reducible exact ⟨_, rfl⟩) | (exact rfl) | (with_reducible refine And.intro ?_ ?_)
    refine WA.Y0 Wi (fun s => s = ⟨[(16, .int .i64 E), (15, .ptr 5 0), (13, .int .i64 (1 + 18 * L.length : Nat)), (10, .ptr 3 0), (7, .int .i64 E), (6, .ptr 1 0)], [o, .cells [.int .i64 P, .int .i64 C, .int .i64 N, .slc 2 0 L.length false 0], .vec 18 (qq L), .cells [.int .i64 P, .int .i64 C, .int .i64 N, .slc 4 0 L.length false 0], .vec 18 (qq (marks L.length 1)), .cells [.int .i64 P, .int .i64 C, .int .i64 N, .slc 6 0 L.length false 0], .vec 18 (qq L)]⟩) ?_ ?_
    · unfold xk
      simp (maxSteps := 3000000) only [qf, zH, qj, qi, qw, qn, qo, qv, qx, wu, zl, za, zb, zm, zn, iE, iN, iB, iC, iL, iD, iA, iS, iM, gq, elemV, yc, qd _ _ (qa _), qd _ _ (qh _ _), b9, Qx, hX, hY, he, b0, b1, b2, b3, h1, h2, h8, and_self, y7, qb, zZ, ↓qp, ↓reduceIte, reduceCtorEq, nA, nM, nS, nE, nL, nD]; try simp only [qb, zY]
      repeat' first | (with_reducible exact ⟨_, rfl⟩) | (exact rfl) | (with_reducible refine And.intro ?_ ?_)
      · refine ⟨_, qz.zw [0, 3, 4, 10, 9, 16, 15] [16, 15, 13, 10, 7, 6] ⟨by decide, ?_⟩ ?_, ?_⟩
        · simp only [hg1, hg2, qc _ _ (qa _), zK, ↓reduceIte, reduceCtorEq, nE, nB, nA]
        · simp only [hg1, hg2, qc _ _ (qa _), zK, ↓reduceIte, reduceCtorEq, nE, nB, nA]
        · simp only [hg1, hg2, qd _ _ (qa _), zL, ↓reduceIte, reduceCtorEq, nE, nA]
      · refine ⟨_, qz.zw [0, 3, 4, 10, 9, 15, 16] [16, 15, 13, 10, 7, 6] ⟨by decide, ?_⟩ ?_, ?_⟩
        · simp only [hg1, hg2, qc _ _ (qa _), zK, ↓reduceIte, reduceCtorEq, nE, nB, nA]
        · simp only [hg1, hg2, qc _ _ (qa _), zK, ↓reduceIte, reduceCtorEq, nE, nB, nA]
        · simp only [hg1, hg2, qd _ _ (qa _), zL, ↓reduceIte, reduceCtorEq, nE, nA]
      · refine ⟨_, qz.zw [0, 3, 4, 10, 9, 14, 16] [16, 15, 13, 10, 7, 6] ⟨by decide, ?_⟩ ?_, ?_⟩
        · simp only [hg1, hg2, qc _ _ (qa _), zK, ↓reduceIte, reduceCtorEq, nE, nB, nA]
        · simp only [hg1, hg2, qc _ _ (qa _), zK, ↓reduceIte, reduceCtorEq, nE, nB, nA]
        · simp only [hg1, hg2, qd _ _ (qa _), zL, ↓reduceIte, reduceCtorEq, nE, nA]
      · refine ⟨_, qz.zw [0, 3, 4, 10, 9, 13, 16] [16, 15, 13, 10, 7, 6] ⟨by decide, ?_⟩ ?_, ?_⟩
        · simp only [hg1, hg2, qc _ _ (qa _), zK, ↓reduceIte, reduceCtorEq, nE, nB, nA]
        · simp only [hg1, hg2, qc _ _ (qa _), zK, ↓reduceIte, reduceCtorEq, nE, nB, nA]
        · simp only [hg1, hg2, qd _ _ (qa _), zL, ↓reduceIte, reduceCtorEq, nE, nA]
    rintro s rfl
    simp (maxSteps := 3000000) only [qf, zH, xm, qj, qi, qw, qn, qo, qv, qx, wu, zl, za, zb, zm, zn, iE, iN, iB, iC, iL, iD, iA, iS, iM, gq, elemV, yc, qd _ _ (qa _), qd _ _ (qh _ _), h1, h2, h3, h4, h6, Int.toNat_one, y7, qb, zZ, ↓qp, ↓reduceIte, reduceCtorEq, nA, nM, nS, nE, nL, nD]; try simp only [qb, zY]
    exact ⟨_, rfl⟩
  · simp only [List.cons_append, List.nil_append] at hX hY
    simp (maxSteps := 3000000) only [qf, zH, zj, qj, qi, qw, qn, qo, qv, qx, wu, zl, za, zb, zm, zn, iE, iN, iB, iC, iL, iD, iA, iS, iM, hX, hY, hl1, hl2, hif, hlt, hif2, hlt2, c1, qb, zZ, ↓qp, ↓reduceIte, reduceCtorEq, nA, nM, nS, nE, nL, nD]; try simp only [qb, zY]
    refine WA.Y0 Wi (fun s => s = ⟨[(7, .int .i64 E), (6, .ptr 4 0), (3, .ptr 3 0), (2, .ptr 2 0)], [o, o', .cells [.int .i64 p, .int .i64 c, .int .i64 n, .slc 0 0 nx true cx], .cells [.int .i64 p', .int .i64 c', .int .i64 n', .slc 1 0 ny true cy], .cells [.int .i64 P, .int .i64 C, .int .i64 N, .slc 5 0 L.length false 0], .vec 18 (qq L)]⟩) ?_ ?_
    · unfold xo
      simp (maxSteps := 3000000) only [qf, zH, qj, qi, qw, qn, qo, qv, qx, wu, zl, za, zb, zm, zn, iE, iN, iB, iC, iL, iD, iA, iS, iM, gq, elemV, yc, qd _ _ (qa _), qd _ _ (qh _ _), b9, Qx, hX, hY, he, b0, b1, b2, b3, h1, h2, h8, and_self, y7, qb, zZ, ↓qp, ↓reduceIte, reduceCtorEq, nA, nM, nS, nE, nL, nD]; try simp only [qb, zY]
      repeat' first | (with_reducible exact ⟨_, rfl⟩) | (exact rfl) | (with_reducible refine And.intro ?_ ?_)
      · refine ⟨_, qz.zw [0, 1, 2, 3, 7, 6] [7, 6, 3, 2] ⟨by decide, ?_⟩ ?_, ?_⟩
        · simp only [hg1, hg2, hg3, hg4, qc _ _ (qa _), zK, ↓reduceIte, reduceCtorEq, nE, nB, nA]
        · simp only [hg1, hg2, hg3, hg4, qc _ _ (qa _), zK, ↓reduceIte, reduceCtorEq, nE, nB, nA]
        · simp only [hg1, hg2, hg3, hg4, qd _ _ (qa _), zL, ↓reduceIte, reduceCtorEq, nE, nA]
      · refine ⟨_, qz.zw [0, 1, 2, 3, 6, 7] [7, 6, 3, 2] ⟨by decide, ?_⟩ ?_, ?_⟩
        · simp only [hg1, hg2, hg3, hg4, qc _ _ (qa _), zK, ↓reduceIte, reduceCtorEq, nE, nB, nA]
        · simp only [hg1, hg2, hg3, hg4, qc _ _ (qa _), zK, ↓reduceIte, reduceCtorEq, nE, nB, nA]
        · simp only [hg1, hg2, hg3, hg4, qd _ _ (qa _), zL, ↓reduceIte, reduceCtorEq, nE, nA]
      · refine ⟨_, qz.zw [0, 1, 2, 3, 5, 7] [7, 6, 3, 2] ⟨by decide, ?_⟩ ?_, ?_⟩
        · simp only [hg1, hg2, hg3, hg4, qc _ _ (qa _), zK, ↓reduceIte, reduceCtorEq, nE, nB, nA]
        · simp only [hg1, hg2, hg3, hg4, qc _ _ (qa _), zK, ↓reduceIte, reduceCtorEq, nE, nB, nA]
        · simp only [hg1, hg2, hg3, hg4, qd _ _ (qa _), zL, ↓reduceIte, reduceCtorEq, nE, nA]
      · refine ⟨_, qz.zw [0, 1, 2, 3, 4, 7] [7, 6, 3, 2] ⟨by decide, ?_⟩ ?_, ?_⟩
        · simp only [hg1, hg2, hg3, hg4, qc _ _ (qa _), zK, ↓reduceIte, reduceCtorEq, nE, nB, nA]
        · simp only [hg1, hg2, hg3, hg4, qc _ _ (qa _), zK, ↓reduceIte, reduceCtorEq, nE, nB, nA]
        · simp only [hg1, hg2, hg3, hg4, qd _ _ (qa _), zL, ↓reduceIte, reduceCtorEq, nE, nA]
    rintro s rfl
    simp (maxSteps := 3000000) only [qf, zH, xi, qj, qi, qw, qn, qo, qv, qx, wu, zl, za, zb, zm, zn, iE, iN, iB, iC, iL, iD, iA, iS, iM, gq, elemV, yc, qd _ _ (qa _), qd _ _ (qh _ _), hX, hY, he, b0, b1, b2, b3, h1, h2, h3, h4, h6, h7, h8, h9, c2, and_self, Int.toNat_one, Int.toNat_natCast, y7, qb, zZ, ↓qp, ↓reduceIte, reduceCtorEq, nA, nM, nS, nE, nL, nD]; try simp only [qb, zY]
    repeat' first | (with_reducible exact ⟨_, rfl⟩) | (exact rfl) | (with_reducible refine And.intro ?_ ?_)
    refine WA.Y0 Wi (fun s => s = ⟨[(16, .int .i64 E), (15, .ptr 6 0), (13, .int .i64 (1 + 18 * L.length : Nat)), (10, .ptr 4 0), (7, .int .i64 E), (6, .ptr 2 0)], [o, o', .cells [.int .i64 P, .int .i64 C, .int .i64 N, .slc 3 0 L.length false 0], .vec 18 (qq L), .cells [.int .i64 P, .int .i64 C, .int .i64 N, .slc 5 0 L.length false 0], .vec 18 (qq (marks L.length 1)), .cells [.int .i64 P, .int .i64 C, .int .i64 N, .slc 7 0 L.length false 0], .vec 18 (qq L)]⟩) ?_ ?_
    · unfold xk
      simp (maxSteps := 3000000) only [qf, zH, qj, qi, qw, qn, qo, qv, qx, wu, zl, za, zb, zm, zn, iE, iN, iB, iC, iL, iD, iA, iS, iM, gq, elemV, yc, qd _ _ (qa _), qd _ _ (qh _ _), b9, Qx, hX, hY, he, b0, b1, b2, b3, h1, h2, h8, and_self, y7, qb, zZ, ↓qp, ↓reduceIte, reduceCtorEq, nA, nM, nS, nE, nL, nD]; try simp only [qb, zY]
      repeat' first | (with_reducible exact ⟨_, rfl⟩) | (exact rfl) | (with_reducible refine And.intro ?_ ?_)
      · refine ⟨_, qz.zw [0, 1, 4, 5, 11, 10, 17, 16] [16, 15, 13, 10, 7, 6] ⟨by decide, ?_⟩ ?_, ?_⟩
        · simp only [hg1, hg2, hg3, hg4, qc _ _ (qa _), zK, ↓reduceIte, reduceCtorEq, nE, nB, nA]
        · simp only [hg1, hg2, hg3, hg4, qc _ _ (qa _), zK, ↓reduceIte, reduceCtorEq, nE, nB, nA]
        · simp only [hg1, hg2, hg3, hg4, qd _ _ (qa _), zL, ↓reduceIte, reduceCtorEq, nE, nA]
      · refine ⟨_, qz.zw [0, 1, 4, 5, 11, 10, 16, 17] [16, 15, 13, 10, 7, 6] ⟨by decide, ?_⟩ ?_, ?_⟩
        · simp only [hg1, hg2, hg3, hg4, qc _ _ (qa _), zK, ↓reduceIte, reduceCtorEq, nE, nB, nA]
        · simp only [hg1, hg2, hg3, hg4, qc _ _ (qa _), zK, ↓reduceIte, reduceCtorEq, nE, nB, nA]
        · simp only [hg1, hg2, hg3, hg4, qd _ _ (qa _), zL, ↓reduceIte, reduceCtorEq, nE, nA]
      · refine ⟨_, qz.zw [0, 1, 4, 5, 11, 10, 15, 17] [16, 15, 13, 10, 7, 6] ⟨by decide, ?_⟩ ?_, ?_⟩
        · simp only [hg1, hg2, hg3, hg4, qc _ _ (qa _), zK, ↓reduceIte, reduceCtorEq, nE, nB, nA]
        · simp only [hg1, hg2, hg3, hg4, qc _ _ (qa _), zK, ↓reduceIte, reduceCtorEq, nE, nB, nA]
        · simp only [hg1, hg2, hg3, hg4, qd _ _ (qa _), zL, ↓reduceIte, reduceCtorEq, nE, nA]
      · refine ⟨_, qz.zw [0, 1, 4, 5, 11, 10, 14, 17] [16, 15, 13, 10, 7, 6] ⟨by decide, ?_⟩ ?_, ?_⟩
        · simp only [hg1, hg2, hg3, hg4, qc _ _ (qa _), zK, ↓reduceIte, reduceCtorEq, nE, nB, nA]
        · simp only [hg1, hg2, hg3, hg4, qc _ _ (qa _), zK, ↓reduceIte, reduceCtorEq, nE, nB, nA]
        · simp only [hg1, hg2, hg3, hg4, qd _ _ (qa _), zL, ↓reduceIte, reduceCtorEq, nE, nA]
    rintro s rfl
    simp (maxSteps := 3000000) only [qf, zH, xm, qj, qi, qw, qn, qo, qv, qx, wu, zl, za, zb, zm, zn, iE, iN, iB, iC, iL, iD, iA, iS, iM, gq, elemV, yc, qd _ _ (qa _), qd _ _ (qh _ _), h1, h2, h3, h4, h6, Int.toNat_one, y7, qb, zZ, ↓qp, ↓reduceIte, reduceCtorEq, nA, nM, nS, nE, nL, nD]; try simp only [qb, zY]
    exact ⟨_, rfl⟩
end Go.Proofs.Ytkgoadglalpbfaa

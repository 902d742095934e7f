/- Contracts: elements that are right, the program's side. -/
import Derived.Test.YtkgoadglalpbfaaG2
namespace Go.Proofs.Ytkgoadglalpbfaa
open Go.Am Go.Dia
open Nat renaming reduceAdd → nA, reduceMul → nM, reduceSub → nS, reduceEqDiff → nE, reduceLT → nL, reduceLeDiff → nD, reduceBEq → nB
open Int renaming reduceEq → iE, reduceNe → iN, reduceBEq → iB, reduceBNe → iC, reduceLT → iL, reduceLE → iD, reduceAdd → iA, reduceSub → iS, reduceMul → iM
set_option linter.unusedSimpArgs false
set_option linter.unusedVariables false
set_option maxRecDepth 4000
set_option maxHeartbeats 1000000
theorem Vl {t : Int × List Nat × Int} : (trm t)[0]? = some (.int .i64 t.1) := rfl
theorem qdm {t : Int × List Nat × Int} (h : okD t.2.1) : List.take 17 (trm t) = dia t.1 t.2.1 := by
  have := Jw h
  rwa [List.drop_zero] at this
theorem zu : B33 100 = some (Zm 17 vq) := rfl
theorem xg : B33 99 = some (qu yd) := rfl
theorem x6 : B33 64 = some (qu wa) := rfl
theorem wo : B33 93 = some (qu vx) := rfl
def j0 : AC := .seq (.region [oP 27 .lss 26 25]) (.seq (.cond 27 .skip (.exit 0)) (.seq (.block 1 (.seq (.region [oM 28 26,oX 29 18 24 26,oN 30 18 29,o0 4 (.alloc [.int .i64 0,.int .u8 0,.int .u8 0,.int .u8 0,.int .u8 0,.int .u8 0,.int .u8 0,.int .u8 0,.int .u8 0,.int .u8 0,.int .u8 0,.int .u8 0,.int .u8 0,.int .u8 0,.int .u8 0,.int .u8 0,.int .u8 0,.int .i64 0]),oM 3 28,oS 18 4 30]) (.seq (.seq (.region [oF 31 0 4,oF 32 0 31,oL 33 32,oF 34 2 1,oL 35 34,oP 36 .neq 33 35,oM 37 36,oG 38 37 false (.ve 0 (.t 4)),oG 39 37 false (.gn 17 (.t 38)),⟨some 40,some (37,false),.call (.c (.fn 99 [] [])) [.t 39]⟩,oG 41 37 false (.un .not (.t 40)),o0 42 (.pick (.t 37) (.c (.bool true)) (.t 41)),oM 43 42,oG 44 43 false (.ve 17 (.t 4)),oG 45 43 false (.vn (.t 44)),oG 46 43 false (.ve 0 (.t 1)),oG 47 43 false (.vn (.t 46)),oG 48 43 false (.bin .sub (.t 47) (.c (.int .i64 1))),⟨some 49,some (43,false),.call (.c (.fn 93 [] [])) [.t 45,(.c (.int .i64 1)),.t 48]⟩,oG 50 43 false (.un .not (.t 49)),o0 51 (.pick (.t 43) (.c (.bool true)) (.t 50))]) (.cond 51 (.seq (.region [oB 2 false]) .ret) .skip)) (.seq (.region [oM 52 3,oK 53 .gtr 52 0,oM 54 53,oG 55 54 true (.ve 3 (.t 1)),oG 56 54 true (.vn (.t 55)),oG 57 54 true (.mov (.t 3)),oG 58 54 true (.bin .sub (.t 57) (.c (.int .i64 1))),oG 59 54 true (.Qu 18 (.t 56) (.t 58)),oG 60 54 true (.ve 0 (.t 59)),⟨some 61,some (54,true),.call (.c (.fn 100 [] [])) [.t 60]⟩,oG 62 54 true (.ve 0 (.t 4)),⟨some 63,some (54,true),.call (.c (.fn 100 [] [])) [.t 62]⟩,oG 64 54 true (.bin .geq (.t 61) (.t 63)),o0 65 (.pick (.t 54) (.t 64) (.c (.bool false)))]) (.cond 65 (.seq (.region [oB 2 false]) .ret) .skip))))) (.region [oK 66 .add 26 1,oM 26 66])))
def vl : AC := .seq (.region [oB 2 true]) .ret
def gz : AC := .seq (.region [o0 1 (.box (.t 0)),oB 2 false]) (.seq (.seq (.region [oF 5 0 1,oL 6 5,oF 7 1 1,oL 8 7,oC 9 64 [.t 6,.t 8],o0 10 (.un .not (.t 9)),oM 11 10,oG 12 11 false (.ve 2 (.t 1)),oG 13 11 false (.vn (.t 12)),⟨some 14,some (11,false),.call (.c (.fn 93 [] [])) [.t 13,(.c (.int .i64 1)),(.c (.int .i64 8))]⟩,oG 15 11 false (.un .not (.t 14)),o0 16 (.pick (.t 11) (.c (.bool true)) (.t 15)),oM 17 16,oG 18 17 false (.ve 3 (.t 1)),oG 19 17 false (.vn (.t 18)),oG 20 17 false (.len .slc (.t 19)),oG 21 17 false (.bin .gtr (.t 20) (.c (.int .i64 140))),o0 22 (.pick (.t 17) (.c (.bool true)) (.t 21))]) (.cond 22 (.seq (.region [oB 2 false]) .ret) .skip)) (.seq (.seq (.region [oF 23 3 1,oL 24 23,o0 25 (.len .slc (.t 24)),oI 26 0]) (.block 0 (.loop j0))) vl))
theorem qel : zy Try.prog 48 = some ⟨67, gz, [.slot 2]⟩ := by kernel_rfl
theorem qfb (p c n : Int) (ts : List (Int × List Nat × Int)) (ht : okT ts) (hl : ts.length ≤ 1000000000) :
    Am.Fn Try.prog 48 [elemV p c n 0 ts.length] [.ro (qq ts)] (fun v H' => v = .bool (js p c n ts) ∧ H' = [.ro (qq ts)]) := by
  refine Am.Fn.jw (R := fun v => v = _) qme mixed qel (by simp) (Zu (qa _)) ?_
  have htl := qt ht
  cases hP : yu p && decide (0 ≤ c ∧ c ≤ p - 1) with
  | false =>
    have : js p c n ts = false := by simp only [js, hP, Bool.false_and]
    simp (maxSteps := 3000000) only [qf, zH, gz, zu, xg, x6, wo, wa, vx, yd, vq, elemV, hP, iE, iN, iB, iC, iL, iD, iA, iS, iM, this, qb, zZ, ↓qp, ↓reduceIte, reduceCtorEq, nA, nM, nS, nE, nL, nD]; try simp only [qb, zY]
    exact ⟨_, rfl⟩
  | true =>
  have hP' := hP
  rw [Bool.and_eq_true, decide_eq_true_eq] at hP'
  obtain ⟨hpb, hc⟩ := hP'
  have hpr := qbg hpb
  have hwp : q8 .i64 (p - 1) = p - 1 := wrap64 (by omega) (by omega)
  by_cases hn : 1 ≤ n ∧ n ≤ 8
  case neg =>
    have : js p c n ts = false := by simp only [js, decide_eq_false hn, Bool.and_false, Bool.false_and]
    simp (maxSteps := 3000000) only [qf, zH, gz, zu, xg, x6, wo, wa, vx, yd, vq, elemV, hP, hwp, hn, and_self, iE, iN, iB, iC, iL, iD, iA, iS, iM, this, qb, zZ, ↓qp, ↓reduceIte, reduceCtorEq, nA, nM, nS, nE, nL, nD]; try simp only [qb, zY]
    exact ⟨_, rfl⟩
  by_cases h140 : ts.length ≤ 140
  case neg =>
    have : js p c n ts = false := by simp only [js, decide_eq_false h140, Bool.and_false, Bool.false_and]
    have h140' : (140 : Int) < ts.length := by omega
    simp (maxSteps := 3000000) only [qf, zH, gz, zu, xg, x6, wo, wa, vx, yd, vq, elemV, hP, hwp, hn, and_self, h140', gt_iff_lt, iE, iN, iB, iC, iL, iD, iA, iS, iM, this, qb, zZ, ↓qp, ↓reduceIte, reduceCtorEq, nA, nM, nS, nE, nL, nD]; try simp only [qb, zY]
    exact ⟨_, rfl⟩
  have h140' : ¬ ((140 : Int) < ts.length) := by omega
  simp (maxSteps := 3000000) only [qf, zH, gz, zu, xg, x6, wo, wa, vx, yd, vq, elemV, hP, hwp, hn, and_self, h140', gt_iff_lt, iE, iN, iB, iC, iL, iD, iA, iS, iM, qb, zZ, ↓qp, ↓reduceIte, reduceCtorEq, nA, nM, nS, nE, nL, nD]; try simp only [qb, zY]
  refine WA.j8 qme (fun s => ∃ i : Nat, s = ⟨[(26, .int .i64 i), (25, .int .i64 ts.length), (24, .slc 0 0 ts.length false 0), (1, .ptr 1 0)], [.ro (qq ts), .cells [.int .i64 p, .int .i64 c, .int .i64 n, .slc 0 0 ts.length false 0]]⟩ ∧ i ≤ ts.length ∧ ∀ j, j < i → Xa p n ts j = true)
    (fun s => match get s.env 26 with | .int _ k => (200 - k).toNat | _ => 0) ⟨_, qz.zc [26, 25, 24, 1], 0, rfl, by omega, by intros; omega⟩ ?_
  rintro s ⟨i, rfl, hi, hgood⟩
  by_cases hlt : i < ts.length
  case neg =>
    have hli : ¬ ((i : Int) < ts.length) := by omega
    simp (maxSteps := 3000000) only [qf, zH, j0, vl, hli, iE, iN, iB, iC, iL, iD, iA, iS, iM, qb, zZ, ↓qp, ↓reduceIte, reduceCtorEq, nA, nM, nS, nE, nL, nD]; try simp only [qb, zY]
    exact ⟨⟨_, rfl⟩, qgj hpb hc hn h140 fun j hj => hgood j (by omega)⟩
  have hli : (i : Int) < ts.length := by omega
  have hli' : (0 : Int) ≤ i := by omega
  have hw : q8 .i64 ((i : Int) + 1) = ((i + 1 : Nat) : Int) := by rw [wrap64 (by omega) (by omega)]; rfl
  have hd := gw ht hlt
  have hok := ht _ (List.getElem_mem hlt)
  have hb1 : i * 18 < ts.length * 18 := by omega
  have hb2 : i * 18 + 18 ≤ ts.length * 18 := by omega
  have hG : Xa p n ts i = (isS ts[i].1.toNat ts[i].2.1 && (ts[i].1 == n) && decide (1 ≤ ts[i].2.2 ∧ ts[i].2.2 ≤ p - 1) && (i == 0 || ltT (ts.getD (i - 1) zT) ts[i])) := by
    simp only [Xa, u5 hlt]
  generalize hT : ts[i] = T at hd hok hG
  have hu1 : List.take 17 (trm T) = dia T.1 T.2.1 := qdm hok
  have hu2 : (trm T)[17]? = some (.int .i64 T.2.2) := bz hok
  have hu3 := zx hok
  have hu4 : over (trm (0, List.replicate 16 0, 0)) 0 (trm T) = trm T := Zx (by simp) hok.1
  obtain ⟨a, m, k⟩ := T
  simp only at hd hok hG hu1 hu2
  by_cases han : a = n
  case neg =>
    have hr := Zv (c := c) (p := p) (n := n) hlt (by rw [hG, beq_false_of_ne han]; simp)
    simp (maxSteps := 3000000) only [qf, zH, j0, zu, xg, x6, wo, wa, vx, yd, vq, hli, hli', hd, htl, hb1, hb2, han, jt, xt, hu1, hu2, hu3, hu4, Vl, j1, hwp, gt_iff_lt, iE, iN, iB, iC, iL, iD, iA, iS, iM, and_self, qb, zZ, ↓qp, ↓reduceIte, reduceCtorEq, nA, nM, nS, nE, nL, nD]; try simp only [qb, zY]
    exact ⟨⟨_, rfl⟩, hr⟩
  subst han
  cases hA : isS a.toNat m with
  | false =>
    have hr := Zv (c := c) (p := p) (n := a) hlt (by rw [hG, hA]; rfl)
    simp (maxSteps := 3000000) only [qf, zH, j0, vl, zu, xg, x6, wo, wa, vx, yd, vq, hli, hli', hd, htl, hb1, hb2, jt, xt, hu1, hu2, hu3, hu4, Vl, j1, hwp, gt_iff_lt, zd hok, hA, iE, iN, iB, iC, iL, iD, iA, iS, iM, and_self, qb, zZ, ↓qp, ↓reduceIte, reduceCtorEq, nA, nM, nS, nE, nL, nD]; try simp only [qb, zY]
    exact ⟨⟨_, rfl⟩, hr⟩
  | true =>
  by_cases hk : 1 ≤ k ∧ k ≤ p - 1
  case neg =>
    have hr := Zv (c := c) (p := p) (n := a) hlt (by rw [hG, hA, beq_self_eq_true, decide_eq_false hk]; rfl)
    simp (maxSteps := 3000000) only [qf, zH, j0, vl, zu, xg, x6, wo, wa, vx, yd, vq, hli, hli', hd, htl, hb1, hb2, jt, xt, hu1, hu2, hu3, hu4, Vl, j1, hwp, gt_iff_lt, zd hok, hA, hk, iE, iN, iB, iC, iL, iD, iA, iS, iM, and_self, qb, zZ, ↓qp, ↓reduceIte, reduceCtorEq, nA, nM, nS, nE, nL, nD]; try simp only [qb, zY]
    exact ⟨⟨_, rfl⟩, hr⟩
  have hnext : (i == 0 || ltT (ts.getD (i - 1) zT) (a, m, k)) = true → ∀ j, j < i + 1 → Xa p a ts j = true := by
    intro h j hj
    by_cases e : j = i
    · subst e; rw [hG, hA, beq_self_eq_true, decide_eq_true hk, h]; rfl
    · exact hgood j (by omega)
  by_cases hpos : 0 < i
  case neg =>
    have hk0 : ¬ ((0 : Int) < (i : Int)) := by omega
    simp (maxSteps := 3000000) only [qf, zH, j0, vl, zu, xg, x6, wo, wa, vx, yd, vq, hli, hli', hd, htl, hb1, hb2, jt, xt, hu1, hu2, hu3, hu4, Vl, j1, hwp, gt_iff_lt, zd hok, hA, hk, hk0, hw, iE, iN, iB, iC, iL, iD, iA, iS, iM, and_self, qb, zZ, ↓qp, ↓reduceIte, reduceCtorEq, nA, nM, nS, nE, nL, nD]; try simp only [qb, zY]
    refine ⟨_, qz.zw [0, 1] [26, 25, 24, 1] ⟨by decide, ?_⟩ ?_, ⟨i + 1, ?_, by omega, hnext (by simp; omega)⟩, ?_⟩
    · simp only [qc _ _ (qa _), zK, ↓reduceIte, reduceCtorEq, nE, nB, nA]
    · simp only [qc _ _ (qa _), zK, ↓reduceIte, reduceCtorEq, nE, nB, nA]
    · simp only [qd _ _ (qa _), zL, ↓reduceIte, reduceCtorEq, nE, nA]
    · simp only [zL, ↓reduceIte, reduceCtorEq, nE, nA]; omega
  have hk0 : (0 : Int) < (i : Int) := by omega
  have hprev := hgood (i - 1) (by omega)
  have hlt' : i - 1 < ts.length := by omega
  have hw' : q8 .i64 ((i : Int) - 1) = ((i - 1 : Nat) : Int) := by rw [wrap64 (by omega) (by omega)]; omega
  have hd' := kq ht hlt'
  have hok' := ht _ (List.getElem_mem hlt')
  simp only [u5 hlt'] at hnext hprev
  have hlt0 : ts.getD (i - 1) zT = ts[i - 1] := u5 hlt'
  generalize hT' : ts[i - 1] = T' at hd' hok' hprev hnext hlt0
  obtain ⟨a', m', k'⟩ := T'
  simp only at hd' hok' hprev hnext hlt0
  have ha' : a' = a := by
    simp only [Xa, hlt0, Bool.and_eq_true, beq_iff_eq] at hprev
    exact hprev.1.1.2
  subst ha'
  have hc1 : (((i - 1 : Nat) : Int)) < ts.length := by omega
  have hc2 : (0 : Int) ≤ ((i - 1 : Nat) : Int) := by omega
  have hc3 : (i - 1) * 18 < ts.length * 18 := by omega
  have hc4 : (i - 1) * 18 + 18 ≤ ts.length * 18 := by omega
  have hc5 : (i - 1) * 18 + 17 ≤ ts.length * 18 := by omega
  have hn8 : 0 ≤ a' ∧ a' ≤ 8 := by omega
  cases hL : ltT (a', m', k') (a', m, k) with
  | false =>
    have hr := Zv (c := c) (p := p) (n := a') hlt (by rw [hG, hA, beq_self_eq_true, decide_eq_true hk, hlt0, hL]; simp; omega)
    have hL' : Op.bytesLess (xw a'.toNat m') (xw a'.toNat m) = false := hL
    simp (maxSteps := 3000000) only [qf, zH, j0, vl, zu, xg, x6, wo, wa, vx, yd, vq, hli, hli', hd, htl, hb1, hb2, jt, xt, hu1, hu2, hu3, hu4, Vl, j1, hwp, gt_iff_lt, zd hok, hA, hk, hk0, hw, hw', hd', hc1, hc2, hc3, hc4, hc5, zd hok', hn8, hL', iE, iN, iB, iC, iL, iD, iA, iS, iM, and_self, qb, zZ, ↓qp, ↓reduceIte, reduceCtorEq, nA, nM, nS, nE, nL, nD]; try simp only [qb, zY]
    exact ⟨⟨_, rfl⟩, hr⟩
  | true =>
    have hL' : Op.bytesLess (xw a'.toNat m') (xw a'.toNat m) = true := hL
    simp (maxSteps := 3000000) only [qf, zH, j0, vl, zu, xg, x6, wo, wa, vx, yd, vq, hli, hli', hd, htl, hb1, hb2, jt, xt, hu1, hu2, hu3, hu4, Vl, j1, hwp, gt_iff_lt, zd hok, hA, hk, hk0, hw, hw', hd', hc1, hc2, hc3, hc4, hc5, zd hok', hn8, hL', iE, iN, iB, iC, iL, iD, iA, iS, iM, and_self, qb, zZ, ↓qp, ↓reduceIte, reduceCtorEq, nA, nM, nS, nE, nL, nD]; try simp only [qb, zY]
    refine ⟨_, qz.zw [0, 1] [26, 25, 24, 1] ⟨by decide, ?_⟩ ?_, ⟨i + 1, ?_, by omega, hnext (by rw [hL]; simp)⟩, ?_⟩
    · simp only [qc _ _ (qa _), zK, ↓reduceIte, reduceCtorEq, nE, nB, nA]
    · simp only [qc _ _ (qa _), zK, ↓reduceIte, reduceCtorEq, nE, nB, nA]
    · simp only [qd _ _ (qa _), zL, ↓reduceIte, reduceCtorEq, nE, nA]
    · simp only [zL, ↓reduceIte, reduceCtorEq, nE, nA]; omega
def B34 : z7 := (B33.put 48 (jc))
theorem qml : ze Try.prog B34 := (qme.put (qa9 qfb))
end Go.Proofs.Ytkgoadglalpbfaa

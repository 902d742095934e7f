/- Contracts of functions of the program, and plain laws, part 3: each text of this part is proved without further condition. -/
import Derived.Test.YtfhckbbgmblhbaaZ2
namespace Go.Proofs.Ytfhckbbgmblhbaa
open Go.Am Go.Dia
open Nat renaming reduceAdd → nA, reduceMul → nM, reduceSub → nS, reduceEqDiff → nE, reduceLT → nL, reduceLeDiff → nD, reduceBEq → nB
open Int renaming reduceEq → iE, reduceNe → iN, reduceBEq → iB, reduceBNe → iC, reduceLT → iL, reduceLE → iD, reduceAdd → iA, reduceSub → iS, reduceMul → iM
set_option linter.unusedSimpArgs false
set_option linter.unusedVariables false
set_option maxRecDepth 4000
set_option maxHeartbeats 1000000
theorem qff {α : Type} (l : List α) (a b k : Nat) (h : a ≤ b) : List.take a (List.drop k l) = List.take a (List.take b (List.drop k l)) := by
  rw [List.take_take, Nat.min_eq_left h]
theorem Yg {ts : List (Int × List Nat × Int)} {i : Nat} (h : okT ts) (hi : i < ts.length) : List.take 17 (List.drop (i * 18) (zk ts)) = dia ts[i].1 ts[i].2.1 := by
  rw [qff _ 17 18 _ (by decide), kq h hi]
  have := Vv (h _ (List.getElem_mem hi))
  rwa [List.drop_zero] at this
theorem qk8 {ts : List (Int × List Nat × Int)} {i : Nat} (h : okT ts) (hi : i < ts.length) : (zk ts)[i * 18 + 17]? = some (.int .i64 ts[i].2.2) := by
  have h1 := gr (h _ (List.getElem_mem hi))
  rw [← kq h hi, List.getElem?_take, if_pos (by decide), List.getElem?_drop] at h1
  exact h1
def y6 : List AV → Option AV
  | [.agg l, .agg l'] => match ui l, ui l' with
    | some (n, m), some (n', m') => chk ((0 ≤ n ∧ n ≤ 8) ∧ 0 ≤ n' ∧ n' ≤ 8) (some (.bool (Op.bytesLess (xm n.toNat m) (xm n'.toNat m'))))
    | _, _ => none
  | _ => none
theorem qeu : B30 66 = some (qm j7) := rfl
theorem qfw : B30 91 = some (qm wu) := rfl
theorem qay : B30 137 = some (qm vq) := rfl
theorem qb7 : B30 150 = some (qm yl) := rfl
def qdp : AC := .seq (.region [o0 2 (.box (.t 0)),o0 3 (.box (.t 1)),oB 4 false]) (.seq (.draw true [oN 5 17 2,oN 7 17 3,oC 6 150 [.t 5],oC 8 150 [.t 7],oP 9 .lss 6 8,oM 4 9]) .ret)
theorem qnh : zr Try.prog 138 = some ⟨10, qdp, [.slot 4]⟩ := by kernel_rfl
theorem q3x (n n' : Int) (m m' : List Nat) (hm : okD m) (hm' : okD m') (hn : 0 ≤ n ∧ n ≤ 8) (hn' : 0 ≤ n' ∧ n' ≤ 8) :
    Am.Fn Try.prog 138 [.agg (dia n m), .agg (dia n' m')] [] (fun v H' => v = .bool (Op.bytesLess (xm n.toNat m) (xm n'.toNat m')) ∧ H' = []) := by
  refine Am.Fn.jd (R := fun v => v = _) qoi mixed qnh (by simp) (by simp) ?_
  simp (maxSteps := 3000000) only [qg, zH, qdp, qeu, qfw, qay, qb7, j7, wu, vq, yl, qb, hm.1, hm'.1, qq hm, qq hm', qt hm.1, qt hm'.1, hn, hn', iE, iN, iB, iC, iL, iD, iA, iS, iM, qa, zZ, ↓qo, ↓reduceIte, reduceCtorEq, nA, nM, nS, nE, nL, nD]; try simp only [qa, zY]
  exact ⟨⟨_, rfl⟩, _, rfl⟩
theorem q3i : Am.Callee Try.prog 138 (qm y6) := Am.Callee.plain fun xs v he => by
  unfold y6 at he
  split at he
  · split at he
    · rename_i l l' n m n' m' hd hd'
      obtain ⟨⟨h1, h2⟩, he⟩ := ql he
      cases he
      obtain ⟨rfl, hm⟩ := zp hd
      obtain ⟨rfl, hm'⟩ := zp hd'
      exact ⟨by simp only [AV.zb, AV.zl, qe, Bool.and_self], rfl, q3x _ _ _ _ hm hm' h1 h2⟩
    · cases he
  · cases he
def B32 : za := (B31.put 138 (qm y6))
theorem qpy : qn Try.prog B32 := (q22.put (q3i))
theorem x7 : B32 66 = some (qm j7) := rfl
theorem x8 : B32 91 = some (qm wu) := rfl
theorem xa : B32 137 = some (qm vq) := rfl
theorem xl : B32 150 = some (qm yl) := rfl
theorem xh : B32 138 = some (qm y6) := rfl
def zT : Int × List Nat × Int := (0, [], 0)
def X2 (p n : Int) (ts : List (Int × List Nat × Int)) (i : Nat) : Bool :=
  isS (ts.getD i zT).1.toNat (ts.getD i zT).2.1 && ((ts.getD i zT).1 == n) && decide (1 ≤ (ts.getD i zT).2.2 ∧ (ts.getD i zT).2.2 ≤ p - 1) && (i == 0 || ltT (ts.getD (i - 1) zT) (ts.getD i zT))
def yg (p c n : Int) (ts : List (Int × List Nat × Int)) : Bool :=
  w9 p && decide (0 ≤ c ∧ c ≤ p - 1) && decide (1 ≤ n ∧ n ≤ 8) && decide (ts.length ≤ 140) && (List.range ts.length).all (X2 p n ts)
theorem Qw {ts : List (Int × List Nat × Int)} {i : Nat} (h : i < ts.length) : ts.getD i zT = ts[i] := by
  rw [List.getD_eq_getElem?_getD, List.getElem?_eq_getElem h]; rfl
theorem Xd {p c n : Int} {ts : List (Int × List Nat × Int)} {i : Nat} (h : i < ts.length) (hg : X2 p n ts i = false) : false = yg p c n ts := by
  have : (List.range ts.length).all (X2 p n ts) = false := by
    rw [← Bool.not_eq_true, List.all_eq_true]
    intro h2
    have := h2 i (List.mem_range.2 h)
    rw [hg] at this; cases this
  simp [yg, this]
theorem qht {p c n : Int} {ts : List (Int × List Nat × Int)} (hp : w9 p = true) (hc : 0 ≤ c ∧ c ≤ p - 1) (hn : 1 ≤ n ∧ n ≤ 8) (hl : ts.length ≤ 140) (h : ∀ i, i < ts.length → X2 p n ts i = true) : true = yg p c n ts := by
  have : (List.range ts.length).all (X2 p n ts) = true := by
    rw [List.all_eq_true]
    exact fun i hi => h i (List.mem_range.1 hi)
  simp only [yg, this, hp, decide_eq_true hc, decide_eq_true hn, decide_eq_true hl, Bool.and_self]
theorem qcy {p : Int} (h : w9 p = true) : 2 ≤ p ∧ p ≤ 97 := by
  simp only [w9, Bool.and_eq_true, decide_eq_true_eq] at h
  exact h.1
def bd : AC := .cond 81 (.seq (.region [oB 2 false]) .ret) .skip
def bc : AC := .region [oM 35 3,oK 36 .add 35 1,oM 3 36]
def ye : AC := .seq (.seq (.region [oM 30 3,oF 31 3 1,oL 32 31,o0 33 (.len .slc (.t 32)),oP 34 .lss 30 33]) (.cond 34 .skip (.exit 0))) (.seq (.block 1 (.seq (.region [oF 37 3 1,oL 38 37,oM 39 3,oX 40 18 38 39,oF 41 0 40,oN 42 17 41,oD 4,oS 17 4 42]) (.seq (.draw false [oN 43 17 4,oC 44 91 [.t 43],o0 45 (.un .not (.t 44)),oM 46 45,oG 47 46 false (.ym 0 (.t 4)),oG 48 46 false (.wy (.t 47)),oG 49 46 false (.ym 2 (.t 1)),oG 50 46 false (.wy (.t 49)),oG 51 46 false (.bin .neq (.t 48) (.t 50)),o0 52 (.pick (.t 46) (.c (.bool true)) (.t 51)),oM 53 52,oG 54 53 false (.ym 3 (.t 1)),oG 55 53 false (.wy (.t 54)),oG 56 53 false (.mov (.t 3)),oG 57 53 false (.Q9 18 (.t 55) (.t 56)),oG 58 53 false (.ym 17 (.t 57)),oG 59 53 false (.wy (.t 58)),oG 60 53 false (.ym 0 (.t 1)),oG 61 53 false (.wy (.t 60)),oG 62 53 false (.bin .sub (.t 61) (.c (.int .i64 1))),⟨some 63,some (53,false),.call (.c (.fn 66 [] [])) [.t 59,(.c (.int .i64 1)),.t 62]⟩,oG 64 53 false (.un .not (.t 63)),o0 65 (.pick (.t 53) (.c (.bool true)) (.t 64)),oM 66 65,oG 67 66 false (.mov (.t 3)),oG 68 66 false (.bin .gtr (.t 67) (.c (.int .i64 0))),oG 69 66 false (.mov (.t 68)),oG 70 69 true (.ym 3 (.t 1)),oG 71 69 true (.wy (.t 70)),oG 72 69 true (.mov (.t 3)),oG 73 69 true (.bin .sub (.t 72) (.c (.int .i64 1))),oG 74 69 true (.Q9 18 (.t 71) (.t 73)),oG 75 69 true (.ym 0 (.t 74)),oG 76 69 true (.Qq 17 (.t 75)),oG 77 69 true (.Qq 17 (.t 4)),⟨some 78,some (69,true),.call (.c (.fn 138 [] [])) [.t 76,.t 77]⟩,oG 79 69 true (.un .not (.t 78)),oG 80 66 false (.pick (.t 69) (.t 79) (.c (.bool false))),o0 81 (.pick (.t 66) (.c (.bool true)) (.t 80))]) bd))) bc)
def qam : AC := .seq (.region [oB 2 true]) .ret
def Jf : AC := .seq (.region [o0 1 (.box (.t 0)),oB 2 false]) (.seq (.seq (.region [oF 5 0 1,oL 6 5,oC 7 137 [.t 6],o0 8 (.un .not (.t 7)),oM 9 8,oG 10 9 false (.ym 1 (.t 1)),oG 11 9 false (.wy (.t 10)),oG 12 9 false (.ym 0 (.t 1)),oG 13 9 false (.wy (.t 12)),oG 14 9 false (.bin .sub (.t 13) (.c (.int .i64 1))),⟨some 15,some (9,false),.call (.c (.fn 66 [] [])) [.t 11,(.c (.int .i64 0)),.t 14]⟩,oG 16 9 false (.un .not (.t 15)),o0 17 (.pick (.t 9) (.c (.bool true)) (.t 16)),oM 18 17,oG 19 18 false (.ym 2 (.t 1)),oG 20 18 false (.wy (.t 19)),⟨some 21,some (18,false),.call (.c (.fn 66 [] [])) [.t 20,(.c (.int .i64 1)),(.c (.int .i64 8))]⟩,oG 22 18 false (.un .not (.t 21)),o0 23 (.pick (.t 18) (.c (.bool true)) (.t 22)),oM 24 23,oG 25 24 false (.ym 3 (.t 1)),oG 26 24 false (.wy (.t 25)),oG 27 24 false (.len .slc (.t 26)),oG 28 24 false (.bin .gtr (.t 27) (.c (.int .i64 140))),o0 29 (.pick (.t 24) (.c (.bool true)) (.t 28))]) (.cond 29 (.seq (.region [oB 2 false]) .ret) .skip)) (.seq (.seq (.region [oI 3 0]) (.block 0 (.loop ye))) qam))
theorem qr2 : zr Try.prog 81 = some ⟨82, Jf, [.slot 2]⟩ := by kernel_rfl
theorem qs6 (p c n : Int) (ts : List (Int × List Nat × Int)) (ht : okT ts) (hl : ts.length ≤ 1000000000) :
    Am.Fn Try.prog 81 [elemV p c n 0 ts.length] [.ro (zk ts)] (fun v H' => v = .bool (yg p c n ts) ∧ H' = [.ro (zk ts)]) := by
  refine Am.Fn.jd (R := fun v => v = _) qpy mixed qr2 (by simp) (ku (qd _)) ?_
  have htl := zg ht
  cases hP : w9 p with
  | false =>
    have : yg p c n ts = false := by simp [yg, hP]
    simp (maxSteps := 3000000) only [qg, zH, Jf, x7, x8, xa, xl, xh, j7, wu, y6, vq, yl, elemV, hP, iE, iN, iB, iC, iL, iD, iA, iS, iM, this, qa, zZ, ↓qo, ↓reduceIte, reduceCtorEq, nA, nM, nS, nE, nL, nD]; try simp only [qa, zY]
    exact ⟨_, rfl⟩
  | true =>
  have hpr := qcy hP
  have hwp : qu .i64 (p - 1) = p - 1 := wrap64 (by omega) (by omega)
  by_cases hc : 0 ≤ c ∧ c ≤ p - 1
  case neg =>
    have : yg p c n ts = false := by simp only [yg, decide_eq_false hc, Bool.and_false, Bool.false_and]
    simp (maxSteps := 3000000) only [qg, zH, Jf, x7, x8, xa, xl, xh, j7, wu, y6, vq, yl, elemV, hP, hwp, hc, iE, iN, iB, iC, iL, iD, iA, iS, iM, this, qa, zZ, ↓qo, ↓reduceIte, reduceCtorEq, nA, nM, nS, nE, nL, nD]; try simp only [qa, zY]
    exact ⟨_, rfl⟩
  by_cases hn : 1 ≤ n ∧ n ≤ 8
  case neg =>
    have : yg p c n ts = false := by simp only [yg, decide_eq_false hn, Bool.and_false, Bool.false_and]
    simp (maxSteps := 3000000) only [qg, zH, Jf, x7, x8, xa, xl, xh, j7, wu, y6, vq, yl, elemV, hP, hwp, hc, hn, and_self, iE, iN, iB, iC, iL, iD, iA, iS, iM, this, qa, zZ, ↓qo, ↓reduceIte, reduceCtorEq, nA, nM, nS, nE, nL, nD]; try simp only [qa, zY]
    exact ⟨_, rfl⟩
  by_cases h140 : ts.length ≤ 140
  case neg =>
    have : yg p c n ts = false := by simp only [yg, decide_eq_false h140, Bool.and_false, Bool.false_and]
    have h140' : (140 : Int) < ts.length := by omega
    simp (maxSteps := 3000000) only [qg, zH, Jf, x7, x8, xa, xl, xh, j7, wu, y6, vq, yl, elemV, hP, hwp, hc, hn, and_self, h140', gt_iff_lt, iE, iN, iB, iC, iL, iD, iA, iS, iM, this, qa, zZ, ↓qo, ↓reduceIte, reduceCtorEq, nA, nM, nS, nE, nL, nD]; try simp only [qa, zY]
    exact ⟨_, rfl⟩
  have h140' : ¬ ((140 : Int) < ts.length) := by omega
  simp (maxSteps := 3000000) only [qg, zH, Jf, x7, x8, xa, xl, xh, j7, wu, y6, vq, yl, elemV, hP, hwp, hc, hn, and_self, h140', gt_iff_lt, iE, iN, iB, iC, iL, iD, iA, iS, iM, qa, zZ, ↓qo, ↓reduceIte, reduceCtorEq, nA, nM, nS, nE, nL, nD]; try simp only [qa, zY]
  refine WA.jn qpy (fun s => ∃ i : Nat, s = ⟨[(3, .int .i64 i), (1, .ptr 1 0)], [.ro (zk ts), .cells [.int .i64 p, .int .i64 c, .int .i64 n, .slc 0 0 ts.length false 0]]⟩ ∧ i ≤ ts.length ∧ ∀ j, j < i → X2 p n ts j = true)
    (fun s => match get s.env 3 with | .int _ k => (200 - k).toNat | _ => 0) ⟨_, qz.qx [3, 1], 0, rfl, by omega, by intros; omega⟩ ?_
  rintro s ⟨i, rfl, hi, hgood⟩
  by_cases hlt : i < ts.length
  case neg =>
    have hli : ¬ ((i : Int) < ts.length) := by omega
    simp (maxSteps := 3000000) only [qg, zH, ye, qam, hli, iE, iN, iB, iC, iL, iD, iA, iS, iM, qa, zZ, ↓qo, ↓reduceIte, reduceCtorEq, nA, nM, nS, nE, nL, nD]; try simp only [qa, zY]
    exact ⟨⟨_, rfl⟩, qht hP hc hn h140 fun j hj => hgood j (by omega)⟩
  have hli : (i : Int) < ts.length := by omega
  have hli' : (0 : Int) ≤ i := by omega
  have hw : qu .i64 ((i : Int) + 1) = ((i + 1 : Nat) : Int) := by rw [wrap64 (by omega) (by omega)]; rfl
  have hd := Yg ht hlt
  have hf := qk8 ht hlt
  have hok := ht _ (List.getElem_mem hlt)
  have hb1 : i * 18 < ts.length * 18 := by omega
  have hb2 : i * 18 + 18 ≤ ts.length * 18 := by omega
  have hb3 : i * 18 + 17 ≤ ts.length * 18 := by omega
  have hb4 : i * 18 + 17 < ts.length * 18 := by omega
  have hG : X2 p n ts i = (isS ts[i].1.toNat ts[i].2.1 && (ts[i].1 == n) && decide (1 ≤ ts[i].2.2 ∧ ts[i].2.2 ≤ p - 1) && (i == 0 || ltT (ts.getD (i - 1) zT) ts[i])) := by
    simp only [X2, Qw hlt]
  generalize hT : ts[i] = T at hd hf hok hG
  obtain ⟨a, m, k⟩ := T
  simp only at hd hf hok hG
  cases hA : isS a.toNat m with
  | false =>
    have hr := Xd (c := c) (p := p) (n := n) hlt (by rw [hG, hA]; rfl)
    simp (maxSteps := 3000000) only [qg, zH, ye, bd, bc, x7, x8, xa, xl, xh, j7, wu, y6, vq, yl, hli, hli', hd, hf, htl, hb1, hb2, hb3, hb4, hA, qq hok, qt hok.1, qb, hok.1, ze, zn, List.length_replicate, Nat.le_refl, yx hok.1, vg, hwp, gt_iff_lt, iE, iN, iB, iC, iL, iD, iA, iS, iM, and_self, qa, zZ, ↓qo, ↓reduceIte, reduceCtorEq, nA, nM, nS, nE, nL, nD]; try simp only [qa, zY]
    first | exact hr | exact hr.symm | exact ⟨⟨_, rfl⟩, hr⟩ | trace_state
  | true =>
  by_cases han : a = n
  case neg =>
    have hr := Xd (c := c) (p := p) (n := n) hlt (by rw [hG, hA, beq_false_of_ne han]; rfl)
    simp (maxSteps := 3000000) only [qg, zH, ye, bd, bc, x7, x8, xa, xl, xh, j7, wu, y6, vq, yl, hli, hli', hd, hf, htl, hb1, hb2, hb3, hb4, hA, qq hok, qt hok.1, qb, hok.1, ze, zn, List.length_replicate, Nat.le_refl, yx hok.1, vg, hwp, gt_iff_lt, han, iE, iN, iB, iC, iL, iD, iA, iS, iM, and_self, qa, zZ, ↓qo, ↓reduceIte, reduceCtorEq, nA, nM, nS, nE, nL, nD]; try simp only [qa, zY]
    first | exact hr | exact hr.symm | exact ⟨⟨_, rfl⟩, hr⟩ | trace_state
  subst han
  by_cases hk : 1 ≤ k ∧ k ≤ p - 1
  case neg =>
    have hr := Xd (c := c) (p := p) (n := a) hlt (by rw [hG, hA, beq_self_eq_true, decide_eq_false hk]; rfl)
    simp (maxSteps := 3000000) only [qg, zH, ye, bd, bc, x7, x8, xa, xl, xh, j7, wu, y6, vq, yl, hli, hli', hd, hf, htl, hb1, hb2, hb3, hb4, hA, qq hok, qt hok.1, qb, hok.1, ze, zn, List.length_replicate, Nat.le_refl, yx hok.1, vg, hwp, gt_iff_lt, hk, iE, iN, iB, iC, iL, iD, iA, iS, iM, and_self, qa, zZ, ↓qo, ↓reduceIte, reduceCtorEq, nA, nM, nS, nE, nL, nD]; try simp only [qa, zY]
    first | exact hr | exact hr.symm | exact ⟨⟨_, rfl⟩, hr⟩ | trace_state
  have hnext : (i == 0 || ltT (ts.getD (i - 1) zT) (a, m, k)) = true → ∀ j, j < i + 1 → X2 p a ts j = true := by
    intro h j hj
    by_cases e : j = i
    · subst e; rw [hG, hA, beq_self_eq_true, decide_eq_true hk, h]; rfl
    · exact hgood j (by omega)
  by_cases hpos : 0 < i
  case neg =>
    have hk0 : ¬ ((0 : Int) < (i : Int)) := by omega
    simp (maxSteps := 3000000) only [qg, zH, ye, bd, bc, x7, x8, xa, xl, xh, j7, wu, y6, vq, yl, hli, hli', hd, hf, htl, hb1, hb2, hb3, hb4, hA, qq hok, qt hok.1, qb, hok.1, ze, zn, List.length_replicate, Nat.le_refl, yx hok.1, vg, hwp, gt_iff_lt, hk, hk0, hw, iE, iN, iB, iC, iL, iD, iA, iS, iM, and_self, qa, zZ, ↓qo, ↓reduceIte, reduceCtorEq, nA, nM, nS, nE, nL, nD]; try simp only [qa, zY]
    refine ⟨_, qz.ve [0, 1] [3, 1] ⟨by decide, ?_⟩ ?_, ⟨i + 1, ?_, by omega, hnext (by simp; omega)⟩, ?_⟩
    · simp only [qk _ _ (qd _), zK, ↓reduceIte, reduceCtorEq, nE, nB, nA]
    · simp only [qk _ _ (qd _), zK, ↓reduceIte, reduceCtorEq, nE, nB, nA]
    · simp only [qc _ _ (qd _), zL, ↓reduceIte, reduceCtorEq, nE, nA]
    · simp only [zL, ↓reduceIte, reduceCtorEq, nE, nA]; omega
  have hk0 : (0 : Int) < (i : Int) := by omega
  have hprev := hgood (i - 1) (by omega)
  have hlt' : i - 1 < ts.length := by omega
  have hw' : qu .i64 ((i : Int) - 1) = ((i - 1 : Nat) : Int) := by rw [wrap64 (by omega) (by omega)]; omega
  have hd' := Yg ht hlt'
  have hok' := ht _ (List.getElem_mem hlt')
  simp only [Qw hlt'] at hnext hprev
  have hlt0 : ts.getD (i - 1) zT = ts[i - 1] := Qw hlt'
  generalize hT' : ts[i - 1] = T' at hd' hok' hprev hnext hlt0
  obtain ⟨a', m', k'⟩ := T'
  simp only at hd' hok' hprev hnext hlt0
  have ha' : a' = a := by
    simp only [X2, hlt0, Bool.and_eq_true, beq_iff_eq] at hprev
    exact hprev.1.1.2
  subst ha'
  have hc1 : (((i - 1 : Nat) : Int)) < ts.length := by omega
  have hc2 : (0 : Int) ≤ ((i - 1 : Nat) : Int) := by omega
  have hc3 : (i - 1) * 18 < ts.length * 18 := by omega
  have hc4 : (i - 1) * 18 + 18 ≤ ts.length * 18 := by omega
  have hc5 : (i - 1) * 18 + 17 ≤ ts.length * 18 := by omega
  have hn8 : 0 ≤ a' ∧ a' ≤ 8 := by omega
  cases hL : ltT (a', m', k') (a', m, k) with
  | false =>
    have hr := Xd (c := c) (p := p) (n := a') hlt (by rw [hG, hA, beq_self_eq_true, decide_eq_true hk, hlt0, hL]; simp; omega)
    have hL' : Op.bytesLess (xm a'.toNat m') (xm a'.toNat m) = false := hL
    simp (maxSteps := 3000000) only [qg, zH, ye, bd, bc, x7, x8, xa, xl, xh, j7, wu, y6, vq, yl, hli, hli', hd, hf, htl, hb1, hb2, hb3, hb4, hA, qq hok, qt hok.1, qb, hok.1, ze, zn, List.length_replicate, Nat.le_refl, yx hok.1, vg, hwp, gt_iff_lt, hk, hk0, hw, hw', hd', hc1, hc2, hc3, hc4, hc5, qq hok', hn8, hL', iE, iN, iB, iC, iL, iD, iA, iS, iM, and_self, qa, zZ, ↓qo, ↓reduceIte, reduceCtorEq, nA, nM, nS, nE, nL, nD]; try simp only [qa, zY]
    first | exact hr | exact hr.symm | exact ⟨⟨_, rfl⟩, hr⟩ | trace_state
  | true =>
    have hL' : Op.bytesLess (xm a'.toNat m') (xm a'.toNat m) = true := hL
    simp (maxSteps := 3000000) only [qg, zH, ye, bd, bc, x7, x8, xa, xl, xh, j7, wu, y6, vq, yl, hli, hli', hd, hf, htl, hb1, hb2, hb3, hb4, hA, qq hok, qt hok.1, qb, hok.1, ze, zn, List.length_replicate, Nat.le_refl, yx hok.1, vg, hwp, gt_iff_lt, hk, hk0, hw, hw', hd', hc1, hc2, hc3, hc4, hc5, qq hok', hn8, hL', iE, iN, iB, iC, iL, iD, iA, iS, iM, and_self, qa, zZ, ↓qo, ↓reduceIte, reduceCtorEq, nA, nM, nS, nE, nL, nD]; try simp only [qa, zY]
    refine ⟨_, qz.ve [0, 1] [3, 1] ⟨by decide, ?_⟩ ?_, ⟨i + 1, ?_, by omega, hnext (by rw [hL]; simp)⟩, ?_⟩
    · simp only [qk _ _ (qd _), zK, ↓reduceIte, reduceCtorEq, nE, nB, nA]
    · simp only [qk _ _ (qd _), zK, ↓reduceIte, reduceCtorEq, nE, nB, nA]
    · simp only [qc _ _ (qd _), zL, ↓reduceIte, reduceCtorEq, nE, nA]
    · simp only [zL, ↓reduceIte, reduceCtorEq, nE, nA]; omega
def xx : BE := fun hp xs => match xs with
  | [.agg [.int .i64 p, .int .i64 c, .int .i64 n, .slc b 0 k false 0]] => match rd hp b with
    | some L => match Ug k L with
      | some ts => chk (k ≤ 1000000000) (some (.bool (yg p c n ts), hp))
      | none => none
    | _ => none
  | _ => none
theorem qdr {f : FuncId} (h : ∀ p c n ts, okT ts → ts.length ≤ 1000000000 → Am.Fn Try.prog f [elemV p c n 0 ts.length] [.ro (zk ts)] (fun v H' => v = .bool (yg p c n ts) ∧ H' = [.ro (zk ts)])) : Am.Callee Try.prog f xx := Callee.ro1 fun hp xs v hp' he => by
  unfold xx at he
  split at he
  · rename_i p c n b k
    split at he
    · rename_i L hL
      split at he
      · rename_i ts hts
        obtain ⟨h0, he⟩ := ql he
        simp only [Option.some.injEq, Prod.mk.injEq] at he
        obtain ⟨rfl, rfl⟩ := he
        obtain ⟨e1, e2, e3, e4⟩ := ya hts
        have g1 := zg e2
        refine ⟨zk ts, b, [elemV p c n 0 ts.length], rfl, ⟨L, hL, by omega, by rw [g1, e1]; exact e3⟩, qd _, ?_, rfl, ⟨⟨trivial, trivial, trivial, by simp [AV.under], trivial⟩, trivial⟩, rfl, h p c n ts e2 (by omega)⟩
        simp only [elemV, AV.zh, AV.ren, one, if_true, e1, Nat.zero_add]
      · cases he
    · cases he
  · cases he
def B33 : za := (B32.put 81 (xx))
theorem qo6 : qn Try.prog B33 := (qpy.put (qdr qs6))
theorem V8 {t : Int × List Nat × Int} : (trm t)[0]? = some (.int .i64 t.1) := rfl
theorem qai {t : Int × List Nat × Int} (h : okD t.2.1) : List.take 17 (trm t) = dia t.1 t.2.1 := by
  have := Vv h
  rwa [List.drop_zero] at this
theorem zo : B33 142 = some (Z4 17 vj) := rfl
theorem xb : B33 141 = some (qm wu) := rfl
theorem xt : B33 94 = some (qm vu) := rfl
theorem wh : B33 71 = some (qm j7) := rfl
def jt : AC := .seq (.region [oP 27 .lss 26 25]) (.seq (.cond 27 .skip (.exit 0)) (.seq (.block 1 (.seq (.region [oM 28 26,oX 29 18 24 26,oN 30 18 29,o0 4 (.alloc [.int .i64 0,.int .u8 0,.int .u8 0,.int .u8 0,.int .u8 0,.int .u8 0,.int .u8 0,.int .u8 0,.int .u8 0,.int .u8 0,.int .u8 0,.int .u8 0,.int .u8 0,.int .u8 0,.int .u8 0,.int .u8 0,.int .u8 0,.int .i64 0]),oM 3 28,oS 18 4 30]) (.seq (.seq (.region [oF 31 0 4,oF 32 0 31,oL 33 32,oF 34 2 1,oL 35 34,oP 36 .neq 33 35,oM 37 36,oG 38 37 false (.ym 0 (.t 4)),oG 39 37 false (.Qq 17 (.t 38)),⟨some 40,some (37,false),.call (.c (.fn 141 [] [])) [.t 39]⟩,oG 41 37 false (.un .not (.t 40)),o0 42 (.pick (.t 37) (.c (.bool true)) (.t 41)),oM 43 42,oG 44 43 false (.ym 17 (.t 4)),oG 45 43 false (.wy (.t 44)),oG 46 43 false (.ym 0 (.t 1)),oG 47 43 false (.wy (.t 46)),oG 48 43 false (.bin .sub (.t 47) (.c (.int .i64 1))),⟨some 49,some (43,false),.call (.c (.fn 71 [] [])) [.t 45,(.c (.int .i64 1)),.t 48]⟩,oG 50 43 false (.un .not (.t 49)),o0 51 (.pick (.t 43) (.c (.bool true)) (.t 50))]) (.cond 51 (.seq (.region [oB 2 false]) .ret) .skip)) (.seq (.region [oM 52 3,oK 53 .gtr 52 0,oM 54 53,oG 55 54 true (.ym 3 (.t 1)),oG 56 54 true (.wy (.t 55)),oG 57 54 true (.mov (.t 3)),oG 58 54 true (.bin .sub (.t 57) (.c (.int .i64 1))),oG 59 54 true (.Q9 18 (.t 56) (.t 58)),oG 60 54 true (.ym 0 (.t 59)),⟨some 61,some (54,true),.call (.c (.fn 142 [] [])) [.t 60]⟩,oG 62 54 true (.ym 0 (.t 4)),⟨some 63,some (54,true),.call (.c (.fn 142 [] [])) [.t 62]⟩,oG 64 54 true (.bin .geq (.t 61) (.t 63)),o0 65 (.pick (.t 54) (.t 64) (.c (.bool false)))]) (.cond 65 (.seq (.region [oB 2 false]) .ret) .skip))))) (.region [oK 66 .add 26 1,oM 26 66])))
def vc : AC := .seq (.region [oB 2 true]) .ret
def ko : AC := .seq (.region [o0 1 (.box (.t 0)),oB 2 false]) (.seq (.seq (.region [oF 5 0 1,oL 6 5,oF 7 1 1,oL 8 7,oC 9 94 [.t 6,.t 8],o0 10 (.un .not (.t 9)),oM 11 10,oG 12 11 false (.ym 2 (.t 1)),oG 13 11 false (.wy (.t 12)),⟨some 14,some (11,false),.call (.c (.fn 71 [] [])) [.t 13,(.c (.int .i64 1)),(.c (.int .i64 8))]⟩,oG 15 11 false (.un .not (.t 14)),o0 16 (.pick (.t 11) (.c (.bool true)) (.t 15)),oM 17 16,oG 18 17 false (.ym 3 (.t 1)),oG 19 17 false (.wy (.t 18)),oG 20 17 false (.len .slc (.t 19)),oG 21 17 false (.bin .gtr (.t 20) (.c (.int .i64 140))),o0 22 (.pick (.t 17) (.c (.bool true)) (.t 21))]) (.cond 22 (.seq (.region [oB 2 false]) .ret) .skip)) (.seq (.seq (.region [oF 23 3 1,oL 24 23,o0 25 (.len .slc (.t 24)),oI 26 0]) (.block 0 (.loop jt))) vc))
theorem qgl : zr Try.prog 86 = some ⟨67, ko, [.slot 2]⟩ := by kernel_rfl
theorem qhh (p c n : Int) (ts : List (Int × List Nat × Int)) (ht : okT ts) (hl : ts.length ≤ 1000000000) :
    Am.Fn Try.prog 86 [elemV p c n 0 ts.length] [.ro (zk ts)] (fun v H' => v = .bool (yg p c n ts) ∧ H' = [.ro (zk ts)]) := by
  refine Am.Fn.jd (R := fun v => v = _) qo6 mixed qgl (by simp) (ku (qd _)) ?_
  have htl := zg ht
  cases hP : w9 p && decide (0 ≤ c ∧ c ≤ p - 1) with
  | false =>
    have : yg p c n ts = false := by simp only [yg, hP, Bool.false_and]
    simp (maxSteps := 3000000) only [qg, zH, ko, zo, xb, xt, wh, vu, j7, wu, vj, elemV, hP, iE, iN, iB, iC, iL, iD, iA, iS, iM, this, qa, zZ, ↓qo, ↓reduceIte, reduceCtorEq, nA, nM, nS, nE, nL, nD]; try simp only [qa, zY]
    exact ⟨_, rfl⟩
  | true =>
  have hP' := hP
  rw [Bool.and_eq_true, decide_eq_true_eq] at hP'
  obtain ⟨hpb, hc⟩ := hP'
  have hpr := qcy hpb
  have hwp : qu .i64 (p - 1) = p - 1 := wrap64 (by omega) (by omega)
  by_cases hn : 1 ≤ n ∧ n ≤ 8
  case neg =>
    have : yg p c n ts = false := by simp only [yg, decide_eq_false hn, Bool.and_false, Bool.false_and]
    simp (maxSteps := 3000000) only [qg, zH, ko, zo, xb, xt, wh, vu, j7, wu, vj, elemV, hP, hwp, hn, and_self, iE, iN, iB, iC, iL, iD, iA, iS, iM, this, qa, zZ, ↓qo, ↓reduceIte, reduceCtorEq, nA, nM, nS, nE, nL, nD]; try simp only [qa, zY]
    exact ⟨_, rfl⟩
  by_cases h140 : ts.length ≤ 140
  case neg =>
    have : yg p c n ts = false := by simp only [yg, decide_eq_false h140, Bool.and_false, Bool.false_and]
    have h140' : (140 : Int) < ts.length := by omega
    simp (maxSteps := 3000000) only [qg, zH, ko, zo, xb, xt, wh, vu, j7, wu, vj, elemV, hP, hwp, hn, and_self, h140', gt_iff_lt, iE, iN, iB, iC, iL, iD, iA, iS, iM, this, qa, zZ, ↓qo, ↓reduceIte, reduceCtorEq, nA, nM, nS, nE, nL, nD]; try simp only [qa, zY]
    exact ⟨_, rfl⟩
  have h140' : ¬ ((140 : Int) < ts.length) := by omega
  simp (maxSteps := 3000000) only [qg, zH, ko, zo, xb, xt, wh, vu, j7, wu, vj, elemV, hP, hwp, hn, and_self, h140', gt_iff_lt, iE, iN, iB, iC, iL, iD, iA, iS, iM, qa, zZ, ↓qo, ↓reduceIte, reduceCtorEq, nA, nM, nS, nE, nL, nD]; try simp only [qa, zY]
  refine WA.jn qo6 (fun s => ∃ i : Nat, s = ⟨[(26, .int .i64 i), (25, .int .i64 ts.length), (24, .slc 0 0 ts.length false 0), (1, .ptr 1 0)], [.ro (zk ts), .cells [.int .i64 p, .int .i64 c, .int .i64 n, .slc 0 0 ts.length false 0]]⟩ ∧ i ≤ ts.length ∧ ∀ j, j < i → X2 p n ts j = true)
    (fun s => match get s.env 26 with | .int _ k => (200 - k).toNat | _ => 0) ⟨_, qz.qx [26, 25, 24, 1], 0, rfl, by omega, by intros; omega⟩ ?_
  rintro s ⟨i, rfl, hi, hgood⟩
  by_cases hlt : i < ts.length
  case neg =>
    have hli : ¬ ((i : Int) < ts.length) := by omega
    simp (maxSteps := 3000000) only [qg, zH, jt, vc, hli, iE, iN, iB, iC, iL, iD, iA, iS, iM, qa, zZ, ↓qo, ↓reduceIte, reduceCtorEq, nA, nM, nS, nE, nL, nD]; try simp only [qa, zY]
    exact ⟨⟨_, rfl⟩, qht hpb hc hn h140 fun j hj => hgood j (by omega)⟩
  have hli : (i : Int) < ts.length := by omega
  have hli' : (0 : Int) ≤ i := by omega
  have hw : qu .i64 ((i : Int) + 1) = ((i + 1 : Nat) : Int) := by rw [wrap64 (by omega) (by omega)]; rfl
  have hd := kq ht hlt
  have hok := ht _ (List.getElem_mem hlt)
  have hb1 : i * 18 < ts.length * 18 := by omega
  have hb2 : i * 18 + 18 ≤ ts.length * 18 := by omega
  have hG : X2 p n ts i = (isS ts[i].1.toNat ts[i].2.1 && (ts[i].1 == n) && decide (1 ≤ ts[i].2.2 ∧ ts[i].2.2 ≤ p - 1) && (i == 0 || ltT (ts.getD (i - 1) zT) ts[i])) := by
    simp only [X2, Qw hlt]
  generalize hT : ts[i] = T at hd hok hG
  have hu1 : List.take 17 (trm T) = dia T.1 T.2.1 := qai hok
  have hu2 : (trm T)[17]? = some (.int .i64 T.2.2) := gr hok
  have hu3 := zt hok
  have hu4 : over (trm (0, List.replicate 16 0, 0)) 0 (trm T) = trm T := Jy (by simp) hok.1
  obtain ⟨a, m, k⟩ := T
  simp only at hd hok hG hu1 hu2
  by_cases han : a = n
  case neg =>
    have hr := Xd (c := c) (p := p) (n := n) hlt (by rw [hG, beq_false_of_ne han]; simp)
    simp (maxSteps := 3000000) only [qg, zH, jt, zo, xb, xt, wh, vu, j7, wu, vj, hli, hli', hd, htl, hb1, hb2, han, vm, z8, hu1, hu2, hu3, hu4, V8, wt, hwp, gt_iff_lt, iE, iN, iB, iC, iL, iD, iA, iS, iM, and_self, qa, zZ, ↓qo, ↓reduceIte, reduceCtorEq, nA, nM, nS, nE, nL, nD]; try simp only [qa, zY]
    exact ⟨⟨_, rfl⟩, hr⟩
  subst han
  cases hA : isS a.toNat m with
  | false =>
    have hr := Xd (c := c) (p := p) (n := a) hlt (by rw [hG, hA]; rfl)
    simp (maxSteps := 3000000) only [qg, zH, jt, vc, zo, xb, xt, wh, vu, j7, wu, vj, hli, hli', hd, htl, hb1, hb2, vm, z8, hu1, hu2, hu3, hu4, V8, wt, hwp, gt_iff_lt, qq hok, hA, iE, iN, iB, iC, iL, iD, iA, iS, iM, and_self, qa, zZ, ↓qo, ↓reduceIte, reduceCtorEq, nA, nM, nS, nE, nL, nD]; try simp only [qa, zY]
    exact ⟨⟨_, rfl⟩, hr⟩
  | true =>
  by_cases hk : 1 ≤ k ∧ k ≤ p - 1
  case neg =>
    have hr := Xd (c := c) (p := p) (n := a) hlt (by rw [hG, hA, beq_self_eq_true, decide_eq_false hk]; rfl)
    simp (maxSteps := 3000000) only [qg, zH, jt, vc, zo, xb, xt, wh, vu, j7, wu, vj, hli, hli', hd, htl, hb1, hb2, vm, z8, hu1, hu2, hu3, hu4, V8, wt, hwp, gt_iff_lt, qq hok, hA, hk, iE, iN, iB, iC, iL, iD, iA, iS, iM, and_self, qa, zZ, ↓qo, ↓reduceIte, reduceCtorEq, nA, nM, nS, nE, nL, nD]; try simp only [qa, zY]
    exact ⟨⟨_, rfl⟩, hr⟩
  have hnext : (i == 0 || ltT (ts.getD (i - 1) zT) (a, m, k)) = true → ∀ j, j < i + 1 → X2 p a ts j = true := by
    intro h j hj
    by_cases e : j = i
    · subst e; rw [hG, hA, beq_self_eq_true, decide_eq_true hk, h]; rfl
    · exact hgood j (by omega)
  by_cases hpos : 0 < i
  case neg =>
    have hk0 : ¬ ((0 : Int) < (i : Int)) := by omega
    simp (maxSteps := 3000000) only [qg, zH, jt, vc, zo, xb, xt, wh, vu, j7, wu, vj, hli, hli', hd, htl, hb1, hb2, vm, z8, hu1, hu2, hu3, hu4, V8, wt, hwp, gt_iff_lt, qq hok, hA, hk, hk0, hw, iE, iN, iB, iC, iL, iD, iA, iS, iM, and_self, qa, zZ, ↓qo, ↓reduceIte, reduceCtorEq, nA, nM, nS, nE, nL, nD]; try simp only [qa, zY]
    refine ⟨_, qz.ve [0, 1] [26, 25, 24, 1] ⟨by decide, ?_⟩ ?_, ⟨i + 1, ?_, by omega, hnext (by simp; omega)⟩, ?_⟩
    · simp only [qk _ _ (qd _), zK, ↓reduceIte, reduceCtorEq, nE, nB, nA]
    · simp only [qk _ _ (qd _), zK, ↓reduceIte, reduceCtorEq, nE, nB, nA]
    · simp only [qc _ _ (qd _), zL, ↓reduceIte, reduceCtorEq, nE, nA]
    · simp only [zL, ↓reduceIte, reduceCtorEq, nE, nA]; omega
  have hk0 : (0 : Int) < (i : Int) := by omega
  have hprev := hgood (i - 1) (by omega)
  have hlt' : i - 1 < ts.length := by omega
  have hw' : qu .i64 ((i : Int) - 1) = ((i - 1 : Nat) : Int) := by rw [wrap64 (by omega) (by omega)]; omega
  have hd' := Yg ht hlt'
  have hok' := ht _ (List.getElem_mem hlt')
  simp only [Qw hlt'] at hnext hprev
  have hlt0 : ts.getD (i - 1) zT = ts[i - 1] := Qw hlt'
  generalize hT' : ts[i - 1] = T' at hd' hok' hprev hnext hlt0
  obtain ⟨a', m', k'⟩ := T'
  simp only at hd' hok' hprev hnext hlt0
  have ha' : a' = a := by
    simp only [X2, hlt0, Bool.and_eq_true, beq_iff_eq] at hprev
    exact hprev.1.1.2
  subst ha'
  have hc1 : (((i - 1 : Nat) : Int)) < ts.length := by omega
  have hc2 : (0 : Int) ≤ ((i - 1 : Nat) : Int) := by omega
  have hc3 : (i - 1) * 18 < ts.length * 18 := by omega
  have hc4 : (i - 1) * 18 + 18 ≤ ts.length * 18 := by omega
  have hc5 : (i - 1) * 18 + 17 ≤ ts.length * 18 := by omega
  have hn8 : 0 ≤ a' ∧ a' ≤ 8 := by omega
  cases hL : ltT (a', m', k') (a', m, k) with
  | false =>
    have hr := Xd (c := c) (p := p) (n := a') hlt (by rw [hG, hA, beq_self_eq_true, decide_eq_true hk, hlt0, hL]; simp; omega)
    have hL' : Op.bytesLess (xm a'.toNat m') (xm a'.toNat m) = false := hL
    simp (maxSteps := 3000000) only [qg, zH, jt, vc, zo, xb, xt, wh, vu, j7, wu, vj, hli, hli', hd, htl, hb1, hb2, vm, z8, hu1, hu2, hu3, hu4, V8, wt, hwp, gt_iff_lt, qq hok, hA, hk, hk0, hw, hw', hd', hc1, hc2, hc3, hc4, hc5, qq hok', hn8, hL', iE, iN, iB, iC, iL, iD, iA, iS, iM, and_self, qa, zZ, ↓qo, ↓reduceIte, reduceCtorEq, nA, nM, nS, nE, nL, nD]; try simp only [qa, zY]
    exact ⟨⟨_, rfl⟩, hr⟩
  | true =>
    have hL' : Op.bytesLess (xm a'.toNat m') (xm a'.toNat m) = true := hL
    simp (maxSteps := 3000000) only [qg, zH, jt, vc, zo, xb, xt, wh, vu, j7, wu, vj, hli, hli', hd, htl, hb1, hb2, vm, z8, hu1, hu2, hu3, hu4, V8, wt, hwp, gt_iff_lt, qq hok, hA, hk, hk0, hw, hw', hd', hc1, hc2, hc3, hc4, hc5, qq hok', hn8, hL', iE, iN, iB, iC, iL, iD, iA, iS, iM, and_self, qa, zZ, ↓qo, ↓reduceIte, reduceCtorEq, nA, nM, nS, nE, nL, nD]; try simp only [qa, zY]
    refine ⟨_, qz.ve [0, 1] [26, 25, 24, 1] ⟨by decide, ?_⟩ ?_, ⟨i + 1, ?_, by omega, hnext (by rw [hL]; simp)⟩, ?_⟩
    · simp only [qk _ _ (qd _), zK, ↓reduceIte, reduceCtorEq, nE, nB, nA]
    · simp only [qk _ _ (qd _), zK, ↓reduceIte, reduceCtorEq, nE, nB, nA]
    · simp only [qc _ _ (qd _), zL, ↓reduceIte, reduceCtorEq, nE, nA]
    · simp only [zL, ↓reduceIte, reduceCtorEq, nE, nA]; omega
def B34 : za := (B33.put 86 (xx))
theorem q2t : qn Try.prog B34 := (qo6.put (qdr qhh))
def qbo (ts : List (Int × List Nat × Int)) (n : Int) (m : List Nat) : Nat := (ts.takeWhile fun t => ltT t (n, m, 0)).length
def qiw (p : Int) (ts : List (Int × List Nat × Int)) (n : Int) (m : List Nat) (k : Int) : List (Int × List Nat × Int) :=
  if k.emod p = 0 then ts else
  if qbo ts n m < ts.length ∧ (ts.getD (qbo ts n m) zT).1 = n ∧ (ts.getD (qbo ts n m) zT).2.1 = m then
    ts.take (qbo ts n m) ++ (if ((ts.getD (qbo ts n m) zT).2.2 + k.emod p).emod p = 0 then [] else [(n, m, ((ts.getD (qbo ts n m) zT).2.2 + k.emod p).emod p)]) ++ ts.drop (qbo ts n m + 1)
  else ts.take (qbo ts n m) ++ (n, m, k.emod p) :: ts.drop (qbo ts n m)
def q5r (n : Int) (ts : List (Int × List Nat × Int)) : Prop := ts.length ≤ 1000000 ∧ (∀ t ∈ ts, t.1 = n) ∧ (∀ t ∈ ts, -1000000000000 ≤ t.2.2 ∧ t.2.2 ≤ 1000000000000) ∧ (ts.Pairwise fun a b => ltT a b = true)
instance {n : Int} {ts : List (Int × List Nat × Int)} : Decidable (q5r n ts) := by unfold q5r; infer_instance
def B35 : za := B34
theorem qo4 : qn Try.prog B35 := q2t
def W7 : AC := .seq (.region [o0 1 (.box (.t 0)),oZ 2]) (.seq (.region [oF 3 0 1,oL 4 3,oF 5 1 1,oL 6 5,oF 7 2 1,oL 8 7,o0 9 (.ga 0 [] []),o0 10 (.build [.int .i64 0,.int .i64 0,.int .i64 0,(.v (.slice none 0 0))] [(0,1,.t 4),(1,1,.t 6),(2,1,.t 8),(3,1,.t 9)]),oS 4 2 10]) .ret)
theorem qa1 : zr Try.prog 97 = some ⟨11, W7, [.Qj 2 4]⟩ := by kernel_rfl
theorem qj5 (p c n : Int) (k : Nat) :
    Am.Fn Try.prog 97 [elemV p c n 0 k] [.ro []] (fun v H' => v = elemV p c n 1 0 ∧ H' = [.ro [], .vec 18 []]) := by
  refine Am.Fn.ofW qo4 mixed qa1 (by simp [elemV, AV.qy, AV.under]) (ku rfl) ?_
  simp (maxSteps := 3000000) only [qg, zH, W7, qa, elemV, iE, iN, iB, iC, iL, iD, iA, iS, iM, rep, qa, zZ, ↓qo, ↓reduceIte, reduceCtorEq, nA, nM, nS, nE, nL, nD]; try simp only [qa, zY]
  refine ⟨rfl, _, qz.trans (qz.qx [2]) (qz.vec 3 0 18 (by decide) rfl rfl rfl rfl), ?_⟩
  refine Ret.ve [0, 3] ⟨⟨by simp, rfl, by decide⟩, ?_⟩ (rs := [.agg [.int .i64 p, .int .i64 c, .int .i64 n, .slc 3 0 0 false 0]]) ?_ rfl (by simp [xw]) ?_ ⟨?_, ?_⟩
  · simp only [qx, zj, zV, ↓reduceIte, nE, reduceCtorEq, nB]
    simp only [zK, ↓reduceIte, reduceCtorEq, nE, nB, nA]
  · simp only [qx, zj, zV, ↓reduceIte, nE, reduceCtorEq, nB]
    rfl
  · intro j l; match j with
    | 0 => simp [zi, Wu, AO.xe, AO.ren]
    | 1 => simp [zi, Wu, AO.xe, AO.ren]
    | j + 2 => simp [zi]
  · simp only [xw]
    simp only [zL, ↓reduceIte, reduceCtorEq, nE, nA]
  · rfl
def Z2 : BE := fun hp xs => match xs with
  | [.agg [.int .i64 p, .int .i64 c, .int .i64 n, .slc b 0 k false 0]] => match rd hp b with
    | some _ => some (elemV p c n hp.length 0, hp ++ [.vec 18 []])
    | none => none
  | _ => none
theorem q0z : Am.Callee Try.prog 97 Z2 := Callee.fp fun hp xs v hp' he => by
  unfold Z2 at he
  split at he
  · rename_i p c n b k
    split at he
    · rename_i L hL
      simp only [Option.some.injEq, Prod.mk.injEq] at he
      obtain ⟨rfl, rfl⟩ := he
      refine ⟨[(b, 0)], [elemV p c n 0 k], _, _, _, qj5 p c n k, by simp [elemV, AV.ren, AV.zh, ofL], rfl, ⟨⟨L, hL, by simp, by simp [AV.zh]⟩, trivial⟩, rfl, ⟨trivial, trivial⟩, ⟨⟨trivial, trivial, trivial, by simp [AV.under], trivial⟩, trivial⟩, by simp [elemV, AV.ren, AV.zh, Ren.ext], ?_⟩
      simp [after, upd, AO.wr, AO.ren, AV.zh]
    · cases he
  · cases he
def B36 : za := (B35.put 97 (Z2))
theorem q2j : qn Try.prog B36 := (qo4.put (q0z))
theorem qf7 {n n' : Nat} {m m' : List Nat} (h : isS n m = true) (h' : isS n' m' = true) (hm : m.length = 16) (hm' : m'.length = 16) (e : xm n m = xm n' m') : n = n' ∧ m = m' := by
  rw [Zr n m hm] at h
  rw [Zr n' m' hm'] at h'
  simp only [isI, Bool.and_eq_true, beq_iff_eq] at h h'
  have h1 := h.2.2
  rw [e, h'.2.2] at h1
  simp only [Option.some.injEq, Prod.mk.injEq] at h1
  exact ⟨h1.1.symm, h1.2.symm⟩
structure vt (p n : Int) (ts : List (Int × List Nat × Int)) : Prop where
  ok : okT ts
  dia : ∀ t ∈ ts, t.1 = n ∧ isS n.toNat t.2.1 = true
  fac : ∀ t ∈ ts, 1 ≤ t.2.2 ∧ t.2.2 ≤ p - 1
  up : upT ts
theorem qk7 {p c n : Int} {ts : List (Int × List Nat × Int)} (ho : okT ts) (h : yg p c n ts = true) : vt p n ts := by
  simp only [yg, Bool.and_eq_true, decide_eq_true_eq, List.all_eq_true, List.mem_range] at h
  have hg : ∀ i (hi : i < ts.length), isS ts[i].1.toNat ts[i].2.1 = true ∧ ts[i].1 = n ∧ (1 ≤ ts[i].2.2 ∧ ts[i].2.2 ≤ p - 1) ∧ (i = 0 ∨ ltT (ts.getD (i - 1) zT) ts[i] = true) := fun i hi => by
    have := h.2 i hi
    simp only [X2, Qw hi, Bool.and_eq_true, Bool.or_eq_true, beq_iff_eq, decide_eq_true_eq] at this
    exact ⟨this.1.1.1, this.1.1.2, this.1.2, this.2⟩
  have hstep : ∀ i j, i < j → ∀ (hj : j < ts.length), ltT (ts.getD i zT) (ts.getD j zT) = true := by
    intro i j hij
    induction j with
    | zero => omega
    | succ j ih =>
      intro hj
      have h1 := (hg (j + 1) hj).2.2.2
      have h2 : ltT (ts.getD j zT) (ts.getD (j + 1) zT) = true := by
        rcases h1 with h1 | h1
        · omega
        · rw [Qw hj]; exact h1
      by_cases e : i = j
      · subst e; exact h2
      · exact kb _ _ _ (ih (by omega) (by omega)) h2
  refine ⟨ho, fun t ht => ?_, fun t ht => ?_, ?_⟩
  · obtain ⟨i, hi, rfl⟩ := List.mem_iff_getElem.1 ht
    have := hg i hi
    refine ⟨this.2.1, ?_⟩
    rw [← this.2.1]; exact this.1
  · obtain ⟨i, hi, rfl⟩ := List.mem_iff_getElem.1 ht
    exact (hg i hi).2.2.1
  · unfold upT
    rw [List.pairwise_iff_getElem]
    intro i j hi hj hij
    have := hstep i j hij hj
    rwa [Qw hi, Qw hj] at this
def Km (p n : Int) (m : List Nat) (kk : Int) : List (Int × List Nat × Int) → List (Int × List Nat × Int)
  | [] => [(n, m, kk)]
  | t :: l => if ltT t (n, m, 0) then t :: Km p n m kk l else
    if t.1 = n ∧ t.2.1 = m then (if (t.2.2 + kk).emod p = 0 then [] else [(n, m, (t.2.2 + kk).emod p)]) ++ l else (n, m, kk) :: t :: l
theorem qsq (t : Int × List Nat × Int) (l : List (Int × List Nat × Int)) (n : Int) (m : List Nat) : qbo (t :: l) n m = if ltT t (n, m, 0) = true then qbo l n m + 1 else 0 := by
  unfold qbo
  rw [List.takeWhile_cons]
  split <;> rfl
theorem qd8 (p n : Int) (m : List Nat) (k : Int) (ts : List (Int × List Nat × Int)) : qiw p ts n m k = if k.emod p = 0 then ts else Km p n m (k.emod p) ts := by
  unfold qiw
  split
  · rfl
  · rename_i hk
    induction ts with
    | nil => simp [qbo, Km]
    | cons t l ih =>
      rw [qsq]
      unfold Km
      by_cases h : ltT t (n, m, 0) = true
      · simp only [if_pos h, List.length_cons, Nat.add_lt_add_iff_right, List.getD_cons_succ, List.take_succ_cons, List.drop_succ_cons]
        rw [← ih]
        split <;> simp
      · simp only [if_neg h, List.length_cons, List.getD_cons_zero, List.take_zero, List.drop_zero, List.nil_append, List.drop_succ_cons]
        by_cases h2 : t.1 = n ∧ t.2.1 = m
        · rw [if_pos ⟨by omega, h2⟩, if_pos h2]
        · rw [if_neg (fun h3 => h2 h3.2), if_neg h2]
theorem ql1 {p n : Int} {m : List Nat} {kk : Int} : ∀ {ts : List (Int × List Nat × Int)}, (Km p n m kk ts).length ≤ ts.length + 1
  | [] => Nat.le_refl _
  | t :: l => by
    unfold Km
    split
    · have := ql1 (p := p) (n := n) (m := m) (kk := kk) (ts := l)
      simp only [List.length_cons]; omega
    · split
      · split <;> simp <;> omega
      · simp
theorem Ws {p n : Int} {m : List Nat} {kk : Int} {u : Int × List Nat × Int} : ∀ {ts : List (Int × List Nat × Int)}, u ∈ Km p n m kk ts → u ∈ ts ∨ (u.1 = n ∧ u.2.1 = m ∧ (u.2.2 = kk ∨ ∃ f : Int, u.2.2 = (f + kk).emod p ∧ (f + kk).emod p ≠ 0))
  | [], h => by
    rw [Km, List.mem_singleton] at h
    subst h; exact .inr ⟨rfl, rfl, .inl rfl⟩
  | t :: l, h => by
    unfold Km at h
    split at h
    · rcases List.mem_cons.1 h with rfl | h
      · exact .inl (List.mem_cons_self ..)
      · rcases Ws h with h | h
        · exact .inl (List.mem_cons_of_mem _ h)
        · exact .inr h
    · split at h
      · split at h
        · exact .inl (List.mem_cons_of_mem _ h)
        · rename_i hne
          rcases List.mem_cons.1 h with rfl | h
          · exact .inr ⟨rfl, rfl, .inr ⟨t.2.2, rfl, hne⟩⟩
          · exact .inl (List.mem_cons_of_mem _ h)
      · rcases List.mem_cons.1 h with rfl | h
        · exact .inr ⟨rfl, rfl, .inl rfl⟩
        · exact .inl h
theorem q3d {t u u' : Int × List Nat × Int} (h1 : u.1 = u'.1) (h2 : u.2.1 = u'.2.1) : ltT t u = ltT t u' := by unfold ltT txt; rw [h1, h2]
theorem q1j {t t' u : Int × List Nat × Int} (h1 : t.1 = t'.1) (h2 : t.2.1 = t'.2.1) : ltT t u = ltT t' u := by unfold ltT txt; rw [h1, h2]
theorem qrj {p n : Int} {m : List Nat} {kk : Int} (hm : okD m) (hs : isS n.toNat m = true) : ∀ {ts : List (Int × List Nat × Int)}, okT ts → (∀ t ∈ ts, t.1 = n ∧ isS n.toNat t.2.1 = true) → upT ts → upT (Km p n m kk ts)
  | [], _, _, _ => by unfold Km upT; exact List.pairwise_singleton _ _
  | t :: l, ho, hd, hu => by
    have hu' := List.pairwise_cons.1 hu
    have ih := qrj (p := p) (kk := kk) hm hs (ts := l) (fun u h => ho u (List.mem_cons_of_mem _ h)) (fun u h => hd u (List.mem_cons_of_mem _ h)) hu'.2
    unfold Km
    split
    · rename_i hlt
      refine List.pairwise_cons.2 ⟨fun u hu2 => ?_, ih⟩
      rcases Ws hu2 with h | ⟨h1, h2, _⟩
      · exact hu'.1 u h
      · rw [q3d (u' := (n, m, 0)) h1 h2]; exact hlt
    · rename_i hlt
      split
      · rename_i he
        split
        · exact hu'.2
        · refine List.pairwise_cons.2 ⟨fun u hu2 => ?_, hu'.2⟩
          rw [q1j (t' := t) he.1.symm he.2.symm]
          exact hu'.1 u hu2
      · rename_i he
        have hx : ltT (n, m, kk) t = true := by
          cases hb : ltT (n, m, kk) t with
          | true => rfl
          | false =>
            exfalso
            have hdt := hd t (List.mem_cons_self ..)
            have e := Z7 _ _ (Bool.eq_false_iff.2 hlt) hb
            unfold txt at e
            simp only [hdt.1] at e
            exact he ⟨hdt.1, (qf7 hdt.2 hs (ho t (List.mem_cons_self ..)).1 hm.1 e).2⟩
        refine List.pairwise_cons.2 ⟨fun u hu2 => ?_, hu⟩
        rcases List.mem_cons.1 hu2 with rfl | h
        · exact hx
        · exact kb _ _ _ hx (hu'.1 u h)
theorem qtj {p n : Int} {m : List Nat} {k : Int} {ts : List (Int × List Nat × Int)} (hp : 0 < p) (hm : okD m) (hs : isS n.toNat m = true) (h : vt p n ts) : vt p n (qiw p ts n m k) := by
  rw [qd8]
  split
  · exact h
  · rename_i hk
    have b1 : 0 ≤ k.emod p := Int.emod_nonneg k (by omega)
    have b2 : k.emod p < p := Int.emod_lt_of_pos k hp
    refine ⟨fun u hu => ?_, fun u hu => ?_, fun u hu => ?_, qrj hm hs h.ok h.dia h.up⟩
    · rcases Ws hu with h1 | ⟨_, h2, _⟩
      · exact h.ok u h1
      · rw [h2]; exact hm
    · rcases Ws hu with h1 | ⟨h1, h2, _⟩
      · exact h.dia u h1
      · rw [h2]; exact ⟨h1, hs⟩
    · rcases Ws hu with h1 | ⟨_, _, h3 | ⟨f, h3, h4⟩⟩
      · exact h.fac u h1
      · omega
      · have c1 : 0 ≤ (f + k.emod p).emod p := Int.emod_nonneg _ (by omega)
        have c2 : (f + k.emod p).emod p < p := Int.emod_lt_of_pos _ hp
        omega
theorem qvl {p n : Int} {m : List Nat} {k : Int} {ts : List (Int × List Nat × Int)} : (qiw p ts n m k).length ≤ ts.length + 1 := by
  rw [qd8]; split
  · omega
  · exact ql1
def qde (p n : Int) (ts : List (Int × List Nat × Int)) : Prop := (∀ t ∈ ts, t.1 = n ∧ isS n.toNat t.2.1 = true) ∧ (∀ t ∈ ts, 1 ≤ t.2.2 ∧ t.2.2 ≤ p - 1) ∧ (ts.Pairwise fun a b => ltT a b = true)
instance {p n : Int} {ts : List (Int × List Nat × Int)} : Decidable (qde p n ts) := by unfold qde; infer_instance
theorem qde.q3s {p n : Int} {ts : List (Int × List Nat × Int)} (h : qde p n ts) (ho : okT ts) : vt p n ts := ⟨ho, h.1, h.2.1, h.2.2⟩
theorem vt.dec {p n : Int} {ts : List (Int × List Nat × Int)} (h : vt p n ts) : qde p n ts := ⟨h.dia, h.fac, h.up⟩
def B37 : za := B36
theorem q3j : qn Try.prog B37 := q2j
def Ul (n : Int) (m : List Nat) : List (Int × List Nat × Int) → Option Nat
  | [] => none
  | t :: l => if n = t.1 ∧ m = t.2.1 then some 0 else (Ul n m l).map (· + 1)
theorem qfb {n : Int} {m : List Nat} (hm : m.length = 16) : ∀ {ts : List (Int × List Nat × Int)} {k i : Nat}, okT ts →
    uf KD true (.agg (dia n m)) (esT k ts) i = some ((Ul n m ts).map fun j => (i + j, ⟨.agg (dia n m), .int .i64 (ts.getD j zT).2.2, k + j⟩))
  | [], k, i, _ => rfl
  | t :: l, k, i, h => by
    have h1 := (h t (List.mem_cons_self ..)).1
    have ih := qfb (n := n) hm (ts := l) (k := k + 1) (i := i + 1) fun u hu => h u (List.mem_cons_of_mem _ hu)
    unfold esT uf
    simp only [keq, Wk hm h1, Ul]
    by_cases e : n = t.1 ∧ m = t.2.1
    · simp only [decide_eq_true e, if_pos e, Option.map_some, Nat.add_zero, List.getD_cons_zero]
      obtain ⟨rfl, rfl⟩ := e
      rfl
    · simp only [decide_eq_false e, if_neg e, ih, Option.map_map]
      congr 1
      congr 1
      funext j
      simp only [Function.comp, List.getD_cons_succ]
      rw [show i + 1 + j = i + (j + 1) by omega, show k + 1 + j = k + (j + 1) by omega]
def Kj (n : Int) (m : List Nat) (f : Int) : List (Int × List Nat × Int) → List (Int × List Nat × Int)
  | [] => [(n, m, f)]
  | t :: l => if n = t.1 ∧ m = t.2.1 then (t.1, t.2.1, t.2.2 + f) :: l else t :: Kj n m f l
theorem qre : ∀ {a b : List (Int × List Nat × Int)} {k : Nat}, esT k (a ++ b) = esT k a ++ esT (k + a.length) b
  | [], b, k => rfl
  | t :: a, b, k => by
    simp only [List.cons_append, esT, qre, List.length_cons]
    rw [show k + 1 + a.length = k + (a.length + 1) by omega]
theorem qry {n v : Int} {m : List Nat} : ∀ {ts : List (Int × List Nat × Int)} {k j : Nat}, (esT k ts).set j ⟨.agg (dia n m), .int .i64 v, k + j⟩ = esT k (ts.set j (n, m, v))
  | [], k, j => rfl
  | t :: ts, k, 0 => rfl
  | t :: ts, k, j + 1 => by
    simp only [esT, List.set_cons_succ]
    rw [show k + (j + 1) = k + 1 + j by omega, qry]
theorem qis {n : Int} {m : List Nat} : ∀ {ts : List (Int × List Nat × Int)} {j : Nat}, Ul n m ts = some j → j < ts.length ∧ (ts.getD j zT).1 = n ∧ (ts.getD j zT).2.1 = m ∧ ∀ f, Kj n m f ts = ts.set j (n, m, (ts.getD j zT).2.2 + f)
  | t :: l, j, h => by
    unfold Ul at h
    split at h
    · rename_i e
      cases h
      obtain ⟨rfl, rfl⟩ := e
      exact ⟨by simp, rfl, rfl, fun f => by simp [Kj]⟩
    · rename_i e
      cases hi : Ul n m l with
      | none => rw [hi] at h; cases h
      | some i =>
        rw [hi] at h; cases h
        obtain ⟨h1, h2, h3, h4⟩ := qis hi
        exact ⟨by simp; omega, by simpa using h2, by simpa using h3, fun f => by simp [Kj, if_neg e, h4]⟩
theorem qh8 {n : Int} {m : List Nat} : ∀ {ts : List (Int × List Nat × Int)}, Ul n m ts = none → (∀ f, Kj n m f ts = ts ++ [(n, m, f)]) ∧ ∀ t ∈ ts, ¬ (n = t.1 ∧ m = t.2.1)
  | [], _ => ⟨fun _ => rfl, by simp⟩
  | t :: l, h => by
    unfold Ul at h
    split at h
    · cases h
    · rename_i e
      have hi : Ul n m l = none := by
        cases hi : Ul n m l with
        | none => rfl
        | some i => rw [hi] at h; cases h
      obtain ⟨h1, h2⟩ := qh8 hi
      refine ⟨fun f => by simp [Kj, if_neg e, h1], fun u hu => ?_⟩
      rcases List.mem_cons.1 hu with rfl | hu
      · exact e
      · exact h2 u hu
structure qy0 (n M : Int) (ts : List (Int × List Nat × Int)) : Prop where
  ok : okT ts
  dia : ∀ t ∈ ts, t.1 = n ∧ isS n.toNat t.2.1 = true
  fac : ∀ t ∈ ts, -M ≤ t.2.2 ∧ t.2.2 ≤ M
  one : ts.Pairwise fun a b => a.2.1 ≠ b.2.1
theorem qmp {n f : Int} {m : List Nat} {u : Int × List Nat × Int} : ∀ {ts : List (Int × List Nat × Int)}, u ∈ Kj n m f ts → (∃ t ∈ ts, u.1 = t.1 ∧ u.2.1 = t.2.1 ∧ (u.2.2 = t.2.2 ∨ u.2.2 = t.2.2 + f)) ∨ (u = (n, m, f) ∧ ∀ t ∈ ts, ¬ (n = t.1 ∧ m = t.2.1))
  | [], h => by
    rw [Kj, List.mem_singleton] at h
    exact .inr ⟨h, by simp⟩
  | t :: l, h => by
    unfold Kj at h
    split at h
    · rcases List.mem_cons.1 h with rfl | h
      · exact .inl ⟨t, List.mem_cons_self .., rfl, rfl, .inr rfl⟩
      · exact .inl ⟨u, List.mem_cons_of_mem _ h, rfl, rfl, .inl rfl⟩
    · rename_i e
      rcases List.mem_cons.1 h with rfl | h
      · exact .inl ⟨u, List.mem_cons_self .., rfl, rfl, .inl rfl⟩
      · rcases qmp h with ⟨v, hv, h1⟩ | ⟨h1, h2⟩
        · exact .inl ⟨v, List.mem_cons_of_mem _ hv, h1⟩
        · refine .inr ⟨h1, fun v hv => ?_⟩
          rcases List.mem_cons.1 hv with rfl | hv
          · exact e
          · exact h2 v hv
theorem qlt {n f : Int} {m : List Nat} : ∀ {ts : List (Int × List Nat × Int)}, (∀ t ∈ ts, t.1 = n) → (ts.Pairwise fun a b => a.2.1 ≠ b.2.1) → (Kj n m f ts).Pairwise fun a b => a.2.1 ≠ b.2.1
  | [], _, _ => List.pairwise_singleton _ _
  | t :: l, hs, h => by
    have h' := List.pairwise_cons.1 h
    unfold Kj
    split
    · exact List.pairwise_cons.2 ⟨fun u hu => h'.1 u hu, h'.2⟩
    · rename_i e
      refine List.pairwise_cons.2 ⟨fun u hu => ?_, qlt (fun u hu => hs u (List.mem_cons_of_mem _ hu)) h'.2⟩
      rcases qmp hu with ⟨v, hv, _, h2, _⟩ | ⟨rfl, _⟩
      · rw [h2]; exact h'.1 v hv
      · intro e2; exact e ⟨(hs t (List.mem_cons_self ..)).symm, e2.symm⟩
def cf (m : List Nat) : List (Int × List Nat × Int) → Int
  | [] => 0
  | t :: l => (if t.2.1 = m then t.2.2 else 0) + cf m l
theorem qp2 {m : List Nat} : ∀ {a b : List (Int × List Nat × Int)}, cf m (a ++ b) = cf m a + cf m b
  | [], b => by simp [cf]
  | t :: a, b => by simp only [List.cons_append, cf, qp2 (a := a)]; omega
theorem q1d {m : List Nat} {a b : List (Int × List Nat × Int)} (h : a.Perm b) : cf m a = cf m b := by
  induction h with
  | nil => rfl
  | cons x _ ih => simp only [cf, ih]
  | swap x y l => simp only [cf]; omega
  | trans _ _ h1 h2 => rw [h1, h2]
theorem Q6 (p a : Int) : p ∣ a.emod p - a := ⟨-(a / p), by
  have : a.emod p = a - p * (a / p) := Int.emod_def a p
  rw [this, Int.mul_neg]; omega⟩
theorem ka {p x y z : Int} (h1 : p ∣ x) (h2 : p ∣ y) (e : z = x + y) : p ∣ z := e ▸ Int.dvd_add h1 h2
theorem qbl {p x y z : Int} (h1 : p ∣ x) (h2 : p ∣ y) (e : z = x - y) : p ∣ z := e ▸ Int.dvd_sub h1 h2
theorem qj7 {p a : Int} (h : a.emod p = 0) : p ∣ a := Int.dvd_of_emod_eq_zero h
theorem qqg {n f : Int} {m m' : List Nat} : ∀ {ts : List (Int × List Nat × Int)}, (∀ t ∈ ts, t.1 = n) → cf m (Kj n m' f ts) = cf m ts + if m' = m then f else 0
  | [], _ => by simp [Kj, cf]
  | t :: l, h => by
    have h0 := h t (List.mem_cons_self ..)
    unfold Kj
    split
    · rename_i e
      simp only [cf, e.2]
      split <;> omega
    · simp only [cf, qqg (ts := l) fun u hu => h u (List.mem_cons_of_mem _ hu)]
      omega
theorem qrc {p : Int} {m : List Nat} : ∀ {ts : List (Int × List Nat × Int)}, p ∣ cf m (xn p ts) - cf m ts
  | [] => by simp [xn, cf]
  | t :: l => by
    have ih := qrc (p := p) (m := m) (ts := l)
    unfold xn at ih ⊢
    rw [List.filterMap_cons]
    split
    · rename_i e
      split at e
      · rename_i e2
        simp only [cf]
        split
        · exact qbl ih (qj7 e2) (by omega)
        · exact ka ih (Int.dvd_zero p) (by omega)
      · cases e
    · rename_i u e
      split at e
      · cases e
      · cases e
        simp only [cf]
        split
        · exact ka ih (Q6 p t.2.2) (by omega)
        · exact ka ih (Int.dvd_zero p) (by omega)
theorem qri {p n kk : Int} {m m' : List Nat} : ∀ {ts : List (Int × List Nat × Int)}, (∀ t ∈ ts, t.1 = n) → p ∣ cf m (Km p n m' kk ts) - (cf m ts + if m' = m then kk else 0)
  | [], _ => by simp [Km, cf]
  | t :: l, h => by
    have ih := qri (p := p) (kk := kk) (m := m) (m' := m') (ts := l) fun u hu => h u (List.mem_cons_of_mem _ hu)
    unfold Km
    split
    · simp only [cf]
      exact ka ih (Int.dvd_zero p) (by omega)
    · split
      · rename_i e
        rw [qp2]
        split
        · rename_i e0
          simp only [cf, e.2]
          split
          · exact qbl (Int.dvd_zero p) (qj7 e0) (by omega)
          · exact ka (Int.dvd_zero p) (Int.dvd_zero p) (by omega)
        · simp only [cf, e.2]
          split
          · exact ka (Q6 p (t.2.2 + kk)) (Int.dvd_zero p) (by omega)
          · exact ka (Int.dvd_zero p) (Int.dvd_zero p) (by omega)
      · simp only [cf]
        exact ka (Int.dvd_zero p) (Int.dvd_zero p) (by omega)
theorem q0p {p n k : Int} {m m' : List Nat} {ts : List (Int × List Nat × Int)} (h : ∀ t ∈ ts, t.1 = n) : p ∣ cf m (qiw p ts n m' k) - (cf m ts + if m' = m then k else 0) := by
  rw [qd8]
  split
  · rename_i e
    split
    · exact qbl (Int.dvd_zero p) (qj7 e) (by omega)
    · exact ka (Int.dvd_zero p) (Int.dvd_zero p) (by omega)
  · have h1 := qri (p := p) (kk := k.emod p) (m := m) (m' := m') h
    split at h1
    · rename_i e
      rw [if_pos e]
      exact ka h1 (Q6 p k) (by omega)
    · rename_i e
      rw [if_neg e]; exact h1
theorem qa3 {m : List Nat} : ∀ {ts : List (Int × List Nat × Int)}, (∀ t ∈ ts, t.2.1 ≠ m) → cf m ts = 0
  | [], _ => rfl
  | t :: l, h => by
    simp only [cf, if_neg (h t (List.mem_cons_self ..)), qa3 (ts := l) fun u hu => h u (List.mem_cons_of_mem _ hu)]; rfl
theorem qke : ∀ {ts : List (Int × List Nat × Int)}, (ts.Pairwise fun a b => a.2.1 ≠ b.2.1) → ∀ t ∈ ts, cf t.2.1 ts = t.2.2
  | u :: l, h, t, ht => by
    have h' := List.pairwise_cons.1 h
    rcases List.mem_cons.1 ht with rfl | ht
    · simp only [cf, if_true, qa3 fun v hv e => h'.1 v hv e.symm]; omega
    · simp only [cf, if_neg (h'.1 t ht), qke h'.2 t ht]; omega
theorem qfc {ts : List (Int × List Nat × Int)} {n : Int} (hs : ∀ t ∈ ts, t.1 = n) (h : upT ts) : ts.Pairwise fun a b => a.2.1 ≠ b.2.1 := by
  refine List.Pairwise.imp_of_mem ?_ h
  intro a b ha hb hlt e
  have : txt a = txt b := by unfold txt; rw [hs a ha, hs b hb, e]
  unfold ltT at hlt
  rw [this, u7] at hlt; cases hlt
theorem Vg {p n : Int} {ts : List (Int × List Nat × Int)} (h : vt p n ts) (hp : 0 < p) (m : List Nat) : (0 ≤ cf m ts ∧ cf m ts ≤ p - 1) ∧ ∀ t : Int × List Nat × Int, t.2.1 = m → (t ∈ ts ↔ t.1 = n ∧ t.2.2 = cf m ts ∧ cf m ts ≠ 0) := by
  have ha := qfc (fun t ht => (h.dia t ht).1) h.up
  by_cases hx : ∃ t ∈ ts, t.2.1 = m
  · obtain ⟨t, ht, rfl⟩ := hx
    have e := qke ha t ht
    have hf := h.fac t ht
    rw [e]
    refine ⟨by omega, fun u hu => ⟨fun hm => ?_, fun ⟨h1, h2, _⟩ => ?_⟩⟩
    · have e2 := qke ha u hm
      rw [hu, e] at e2
      exact ⟨(h.dia u hm).1, e2.symm, by omega⟩
    · have : u = t := by
        obtain ⟨a, b, c⟩ := u
        obtain ⟨a', b', c'⟩ := t
        simp only at h1 h2 hu
        rw [h1, h2, hu, ← (h.dia _ ht).1]
      rw [this]; exact ht
  · have e := qa3 (m := m) (ts := ts) fun t ht e => hx ⟨t, ht, e⟩
    rw [e]
    exact ⟨by omega, fun u hu => ⟨fun hm => absurd ⟨u, hm, hu⟩ hx, fun h3 => absurd rfl h3.2.2⟩⟩
theorem qas {ts : List (Int × List Nat × Int)} (h : upT ts) : ts.Nodup := h.imp fun {a b} hlt e => by
  subst e; unfold ltT at hlt; rw [u7] at hlt; cases hlt
theorem qne {p n : Int} {a b : List (Int × List Nat × Int)} (hp : 0 < p) (ha : vt p n a) (hb : vt p n b) (h : ∀ m, p ∣ cf m a - cf m b) : a = b := by
  have he : ∀ m, cf m a = cf m b := fun m => by
    obtain ⟨q, hq⟩ := h m
    have h1 := (Vg ha hp m).1
    have h2 := (Vg hb hp m).1
    have : q = 0 := by
      rcases Int.lt_trichotomy q 0 with hl | hl | hl
      · exfalso
        have : p * q ≤ p * (-1) := Int.mul_le_mul_of_nonneg_left (by omega) (by omega)
        omega
      · exact hl
      · exfalso
        have : p * 1 ≤ p * q := Int.mul_le_mul_of_nonneg_left (by omega) (by omega)
        omega
    subst this
    omega
  refine Gf ha.up hb.up ((List.perm_ext_iff_of_nodup (qas ha.up) (qas hb.up)).2 fun t => ?_)
  rw [(Vg ha hp t.2.1).2 t rfl, (Vg hb hp t.2.1).2 t rfl, he]
theorem qw7 {p n M : Int} {S : List (Int × List Nat × Int)} (hp : 0 < p) (h : qy0 n M S) : vt p n (X5 (xn p S)) := by
  have hmem : ∀ t ∈ X5 (xn p S), ∃ u ∈ S, t = (u.1, u.2.1, u.2.2.emod p) ∧ u.2.2.emod p ≠ 0 := fun t ht => qet ((Qe _).mem_iff.1 ht)
  refine ⟨fun t ht => ?_, fun t ht => ?_, fun t ht => ?_, qaj (qez ?_)⟩
  · obtain ⟨u, hu, rfl, _⟩ := hmem t ht; exact h.ok u hu
  · obtain ⟨u, hu, rfl, _⟩ := hmem t ht; exact h.dia u hu
  · obtain ⟨u, hu, rfl, hne⟩ := hmem t ht
    have b1 : 0 ≤ u.2.2.emod p := Int.emod_nonneg _ (by omega)
    have b2 : u.2.2.emod p < p := Int.emod_lt_of_pos _ hp
    simp only; omega
  · unfold Um List.Nodup
    rw [List.pairwise_map]
    refine List.Pairwise.imp_of_mem ?_ h.one
    intro a b ha hb hne e
    unfold txt at e
    have h1 := h.dia a ha
    have h2 := h.dia b hb
    rw [h1.1, h2.1] at e
    exact hne (qf7 h1.2 h2.2 (h.ok a ha).1 (h.ok b hb).1 e).2
theorem q0e {p : Int} {m : List Nat} {S : List (Int × List Nat × Int)} : p ∣ cf m (X5 (xn p S)) - cf m S := by
  rw [q1d (Qe _)]; exact qrc
theorem qf0 (P : Program) (B : za) (cf : Bool) (K : St → Prop) (s : St) (a : AI) (t r : AT) : Uh P B cf (.alt a t r) K s = (qbd P B cf a (Uh P B cf t K) s ∧ Uh P B cf r K s) := nrX rfl
theorem qiu (P : Program) (B : za) (cf : Bool) (K : St → Prop) (s : St) : Uh P B cf .none K s = True := nrX rfl
theorem qsg {n M : Int} {S : List (Int × List Nat × Int)} (h : qy0 n M S) : (S.map txt).Nodup := by
  unfold List.Nodup
  rw [List.pairwise_map]
  refine List.Pairwise.imp_of_mem ?_ h.one
  intro a b ha hb hne e
  unfold txt at e
  have h1 := h.dia a ha
  have h2 := h.dia b hb
  rw [h1.1, h2.1] at e
  exact hne (qf7 h1.2 h2.2 (h.ok a ha).1 (h.ok b hb).1 e).2
theorem q3o {n M p : Int} {S : List (Int × List Nat × Int)} (hn : 0 ≤ n ∧ n ≤ 8) (h : qy0 n M S) : (0 ≤ qd5 S ∧ qd5 S ≤ 8) ∧ (∀ t ∈ S, t.1 = qd5 S) ∧ (if xn p S = [] then n else qd5 S) = n := by
  match S, h with
  | [], h => exact ⟨by simp [qd5], by simp, by simp [xn]⟩
  | t :: l, h =>
    have e : qd5 (t :: l) = n := (h.dia t (List.mem_cons_self ..)).1
    rw [e]
    exact ⟨hn, fun u hu => (h.dia u hu).1, by split <;> rfl⟩
theorem q0i {p n k : Int} {m : List Nat} {ts : List (Int × List Nat × Int)} (h : ∀ t ∈ ts, t.1 = n) : ∀ t ∈ qiw p ts n m k, t.1 = n := fun t ht => by
  rw [qd8] at ht
  split at ht
  · exact h t ht
  · rcases Ws ht with h1 | ⟨h1, _⟩
    · exact h t h1
    · exact h1
def B38 : za := B37
theorem q2d : qn Try.prog B38 := q3j
abbrev q47 : AO := .cells [.int .i64 0, .int .i64 0, .int .i64 0, .v (.slice none 0 0)]
theorem qrl {p c n : Int} {a : List (Int × List Nat × Int)} (h : yg p c n a = true) : (2 ≤ p ∧ p ≤ 97) ∧ (0 ≤ c ∧ c ≤ p - 1) ∧ (1 ≤ n ∧ n ≤ 8) ∧ a.length ≤ 140 := by
  simp only [yg, Bool.and_eq_true, decide_eq_true_eq] at h
  have := qkl h.1.1.1.1
  exact ⟨by omega, h.1.1.1.2, h.1.1.2, h.1.2⟩
abbrev ER := Int × Int × Int × List (Int × List Nat × Int) × Int
def q55 (r : ER) : Prop := okT r.2.2.2.1 ∧ r.2.2.2.1.length ≤ 300
def B39 : za := B38
theorem qou : qn Try.prog B39 := q2d
structure NC (L : Nat) (F : Nat → Nat) : Prop where
  lt : ∀ k, k < L → F k < L
  inv : ∀ k, k < L → F (F k) = k
  fix : ∀ k, k < L → F k ≠ k
  jx : ∀ j l, j < L → l < L → ¬(j < l ∧ l < F j ∧ F j < F l)
def mf (n : Nat) (m : List Nat) (k : Nat) : Nat := place n (m.getD (place n k) 0)
theorem je {n : Nat} {m : List Nat} (h : isS n m = true) : (1 ≤ n ∧ n ≤ 8) ∧ (∀ i, i < 2 * n → m.getD i 0 < 2 * n ∧ m.getD i 0 ≠ i ∧ m.getD (m.getD i 0) 0 = i) ∧ ∀ i, 2 * n ≤ i → i < 16 → m.getD i 0 = 0 := by
  unfold isS at h
  simp only [Bool.and_eq_true, decide_eq_true_eq] at h
  obtain ⟨hn, hp, hc⟩ := h
  refine ⟨hn, fun i hi => ?_, fun i hi hi' => ?_⟩
  · have := List.all_eq_true.1 hp i (List.mem_range.2 (by omega))
    rw [if_neg (by omega)] at this
    simpa using this
  · have := List.all_eq_true.1 hp i (List.mem_range.2 hi')
    rw [if_pos hi] at this
    simpa using this
theorem qi2 {n : Nat} {m : List Nat} (h : isS n m = true) : NC (2 * n) (mf n m) := by
  obtain ⟨hn, hp', hz⟩ := je h
  unfold isS at h
  simp only [Bool.and_eq_true, decide_eq_true_eq] at h
  obtain ⟨_, _, hc⟩ := h
  refine ⟨fun k hk => q9 (hp' _ (q9 hk)).1, fun k hk => ?_, fun k hk e => ?_, ?_⟩
  · show place n (m.getD (place n (place n (m.getD (place n k) 0))) 0) = k
    rw [zd (hp' _ (q9 hk)).1, (hp' _ (q9 hk)).2.2, zd hk]
  · apply (hp' _ (q9 hk)).2.1
    rw [← zd (hp' _ (q9 hk)).1]
    show place n (mf n m k) = place n k
    rw [e]
  · rintro j l hj hl ⟨b1, b2, b3⟩
    have h1 := List.all_eq_true.1 (List.all_eq_true.1 hc (place n j) (List.mem_range.2 (q9 hj))) (place n l) (List.mem_range.2 (q9 hl))
    simp only [Vp, Vu, zd hj, zd hl, Bool.not_eq_true', decide_eq_false_iff_not] at h1
    apply h1
    show min j (mf n m j) < min l (mf n m l) ∧ min l (mf n m l) < max j (mf n m j) ∧ max j (mf n m j) < max l (mf n m l)
    omega
theorem q3h {n : Nat} {m : List Nat} (hn : 1 ≤ n ∧ n ≤ 8) (hz : ∀ i, 2 * n ≤ i → i < 16 → m.getD i 0 = 0) (hl : ∀ i, i < 2 * n → m.getD i 0 < 2 * n) (h : NC (2 * n) (mf n m)) : isS n m = true := by
  have hm : ∀ i, i < 2 * n → mf n m (place n i) = place n (m.getD i 0) := fun i hi => by unfold mf; rw [zd hi]
  unfold isS
  simp only [Bool.and_eq_true, decide_eq_true_eq]
  refine ⟨hn, List.all_eq_true.2 fun i hi => ?_, List.all_eq_true.2 fun i hi => List.all_eq_true.2 fun k hk => ?_⟩
  · have hi' := List.mem_range.1 hi
    split
    · rename_i g1; simpa using hz i g1 hi'
    · rename_i g1
      have hi2 : i < 2 * n := by omega
      have h1 := hl i hi2
      simp only [decide_eq_true_eq]
      refine ⟨h1, fun e => ?_, ?_⟩
      · apply h.fix (place n i) (q9 hi2)
        rw [hm i hi2, e]
      · have h2 := h.inv (place n i) (q9 hi2)
        rw [hm i hi2, hm _ h1] at h2
        have h3 := congrArg (place n) h2
        rwa [zd (hl _ h1), zd hi2] at h3
  · have hi' := List.mem_range.1 hi
    have hk' := List.mem_range.1 hk
    simp only [Vp, Vu, ← hm i hi', ← hm k hk', Bool.not_eq_true', decide_eq_false_iff_not]
    rintro ⟨b1, b2, b3⟩
    have hx := q9 hi'
    have hy := q9 hk'
    generalize place n i = x at *
    generalize place n k = y at *
    have a := h.lt x hx
    have a' := h.lt y hy
    have c := h.inv x hx
    have c' := h.inv y hy
    have k1 := h.jx x y hx hy
    have k2 := h.jx x (mf n m y) hx a'
    have k3 := h.jx (mf n m x) y a hy
    have k4 := h.jx (mf n m x) (mf n m y) a a'
    rw [c'] at k2
    rw [c] at k3
    rw [c, c'] at k4
    omega
def up (j k : Nat) : Nat := if k < j then k else k + 2
def dn (j k : Nat) : Nat := if k < j then k else k - 2
theorem qqv {j k : Nat} (h1 : k ≠ j) (h2 : k ≠ j + 1) : up j (dn j k) = k := by
  unfold up dn
  by_cases h : k < j
  · rw [if_pos h, if_pos h]
  · rw [if_neg h, if_neg (by omega)]; omega
theorem qq3 {j k : Nat} : dn j (up j k) = k := by
  unfold up dn
  by_cases h : k < j
  · rw [if_pos h, if_pos h]
  · rw [if_neg h, if_neg (by omega)]; omega
theorem qhu {j k : Nat} : up j k ≠ j ∧ up j k ≠ j + 1 := by unfold up; split <;> omega
theorem qio {j k k' : Nat} : up j k < up j k' ↔ k < k' := by unfold up; split <;> split <;> omega
theorem qlx {j k L : Nat} (hj : j ≤ L) : up j k < L + 2 ↔ k < L := by unfold up; split <;> omega
theorem NC.insert {L j : Nat} {F F' : Nat → Nat} (h : NC L F) (hj : j ≤ L) (e1 : F' j = j + 1) (e2 : F' (j + 1) = j) (e : ∀ k, k < L → F' (up j k) = up j (F k)) : NC (L + 2) F' := by
  have hc : ∀ k, k < L + 2 → k = j ∨ k = j + 1 ∨ ∃ i, i < L ∧ k = up j i := fun k hk => by
    by_cases h1 : k = j
    · exact .inl h1
    by_cases h2 : k = j + 1
    · exact .inr (.inl h2)
    exact .inr (.inr ⟨dn j k, (qlx hj).1 (by rw [qqv h1 h2]; exact hk), (qqv h1 h2).symm⟩)
  refine ⟨fun k hk => ?_, fun k hk => ?_, fun k hk => ?_, fun a b ha hb => ?_⟩
  · rcases hc k hk with rfl | rfl | ⟨i, hi, rfl⟩
    · omega
    · omega
    · rw [e i hi]; exact (qlx hj).2 (h.lt i hi)
  · rcases hc k hk with rfl | rfl | ⟨i, hi, rfl⟩
    · rw [e1, e2]
    · rw [e2, e1]
    · rw [e i hi, e _ (h.lt i hi), h.inv i hi]
  · rcases hc k hk with rfl | rfl | ⟨i, hi, rfl⟩
    · omega
    · omega
    · rw [e i hi]
      intro h2
      have := congrArg (dn j) h2
      rw [qq3, qq3] at this
      exact h.fix i hi this
  · rcases hc a ha with rfl | rfl | ⟨i, hi, rfl⟩
    · rw [e1]; omega
    · rw [e2]; omega
    · rcases hc b hb with rfl | rfl | ⟨l, hl, rfl⟩
      · rw [e1, e i hi]; have := @qhu b (F i); omega
      · rw [e2, e i hi]; have := @qhu j (F i); have := @qhu j i; omega
      · rw [e i hi, e l hl, qio, qio, qio]; exact h.jx i l hi hl
theorem NC.remove {L j : Nat} {F F' : Nat → Nat} (h : NC (L + 2) F) (hj : j ≤ L) (e : ∀ k, k < L → F' k = dn j (if F (up j k) = j then F (j + 1) else if F (up j k) = j + 1 then F j else F (up j k))) : NC L F' := by
  let G : Nat → Nat := fun x => if F x = j then F (j + 1) else if F x = j + 1 then F j else F x
  have hG : ∀ x, x < L + 2 → x ≠ j → x ≠ j + 1 → G x < L + 2 ∧ G x ≠ j ∧ G x ≠ j + 1 ∧ G (G x) = x ∧ G x ≠ x := fun x hx n1 n2 => by
    have a := h.lt x hx
    have c := h.inv x hx
    have f := h.fix x hx
    have a0 := h.lt j (by omega)
    have c0 := h.inv j (by omega)
    have f0 := h.fix j (by omega)
    have a1 := h.lt (j + 1) (by omega)
    have c1 := h.inv (j + 1) (by omega)
    have f1 := h.fix (j + 1) (by omega)
    show (if F x = j then F (j + 1) else if F x = j + 1 then F j else F x) < L + 2 ∧ _
    by_cases g1 : F x = j
    · have e0 : F j = x := by rw [← g1]; exact c
      have e3 : G x = F (j + 1) := if_pos g1
      have n3 : F (j + 1) ≠ j := fun g => by rw [g] at c1; omega
      refine ⟨by rw [if_pos g1]; exact a1, by rw [e3]; exact n3, by rw [e3]; exact f1, ?_, ?_⟩
      · rw [e3]
        show (if F (F (j + 1)) = j then F (j + 1) else if F (F (j + 1)) = j + 1 then F j else F (F (j + 1))) = x
        rw [c1, if_neg (by omega), if_pos rfl, e0]
      · rw [e3]; intro g; rw [g] at c1; omega
    · by_cases g2 : F x = j + 1
      · have e0 : F (j + 1) = x := by rw [← g2]; exact c
        have e3 : G x = F j := by show (if F x = j then F (j + 1) else if F x = j + 1 then F j else F x) = _; rw [if_neg g1, if_pos g2]
        have n3 : F j ≠ j + 1 := fun g => by rw [g] at c0; omega
        refine ⟨by rw [if_neg g1, if_pos g2]; exact a0, by rw [e3]; exact f0, by rw [e3]; exact n3, ?_, ?_⟩
        · rw [e3]
          show (if F (F j) = j then F (j + 1) else if F (F j) = j + 1 then F j else F (F j)) = x
          rw [c0, if_pos rfl, e0]
        · rw [e3]; intro g; rw [g] at c0; omega
      · have e3 : G x = F x := by show (if F x = j then F (j + 1) else if F x = j + 1 then F j else F x) = _; rw [if_neg g1, if_neg g2]
        refine ⟨by rw [if_neg g1, if_neg g2]; exact a, by rw [e3]; exact g1, by rw [e3]; exact g2, ?_, by rw [e3]; exact f⟩
        rw [e3]
        show (if F (F x) = j then F (j + 1) else if F (F x) = j + 1 then F j else F (F x)) = x
        rw [c, if_neg n1, if_neg n2]
  have hX : ∀ x y, x < L + 2 → y < L + 2 → x ≠ j → x ≠ j + 1 → y ≠ j → y ≠ j + 1 → ¬(x < y ∧ y < G x ∧ G x < G y) := fun x y hx hy n1 n2 n3 n4 => by
    have a := h.lt x hx
    have c := h.inv x hx
    have b := h.lt y hy
    have d := h.inv y hy
    have a0 := h.lt j (by omega)
    have c0 := h.inv j (by omega)
    have f0 := h.fix j (by omega)
    have a1 := h.lt (j + 1) (by omega)
    have c1 := h.inv (j + 1) (by omega)
    have f1 := h.fix (j + 1) (by omega)
    have gx : G x = if F x = j then F (j + 1) else if F x = j + 1 then F j else F x := rfl
    have gy : G y = if F y = j then F (j + 1) else if F y = j + 1 then F j else F y := rfl
    have k1 := h.jx x y hx hy
    by_cases g1 : F x = j
    · have e0 : F j = x := by rw [← g1]; exact c
      rw [gx, if_pos g1]
      by_cases g3 : F y = j
      · have : F j = y := by rw [← g3]; exact d
        omega
      by_cases g4 : F y = j + 1
      · have e4 : F (j + 1) = y := by rw [← g4]; exact d
        omega
      rw [gy, if_neg g3, if_neg g4]
      have k2 := h.jx (j + 1) y (by omega) hy
      have k3 := h.jx (F (j + 1)) (F y) a1 b
      have k4 := h.jx y (j + 1) hy (by omega)
      have k5 := h.jx x y hx hy
      have k6 := h.jx y (F (j + 1)) hy a1
      rw [c1, d] at k3
      rw [c1] at k6
      omega
    · by_cases g2 : F x = j + 1
      · have e0 : F (j + 1) = x := by rw [← g2]; exact c
        rw [gx, if_neg g1, if_pos g2]
        by_cases g3 : F y = j
        · have e3 : F j = y := by rw [← g3]; exact d
          omega
        by_cases g4 : F y = j + 1
        · have : F (j + 1) = y := by rw [← g4]; exact d
          omega
        rw [gy, if_neg g3, if_neg g4]
        have k2 := h.jx j y (by omega) hy
        have k3 := h.jx (F j) (F y) a0 b
        have k4 := h.jx y j hy (by omega)
        have k6 := h.jx y (F j) hy a0
        rw [c0, d] at k3
        rw [c0] at k6
        omega
      · rw [gx, if_neg g1, if_neg g2]
        by_cases g3 : F y = j
        · have e3 : F j = y := by rw [← g3]; exact d
          rw [gy, if_pos g3]
          have k2 := h.jx x (j + 1) hx (by omega)
          have k3 := h.jx (F (j + 1)) x a1 hx
          have k4 := h.jx x (F (j + 1)) hx a1
          have k5 := h.jx (j + 1) (F x) (by omega) a
          have k6 := h.jx j x (by omega) hx
          have k7 := h.jx (j + 1) x (by omega) hx
          rw [c1] at k3 k4
          rw [c] at k5
          omega
        by_cases g4 : F y = j + 1
        · have e4 : F (j + 1) = y := by rw [← g4]; exact d
          rw [gy, if_neg g3, if_pos g4]
          have k2 := h.jx x j hx (by omega)
          have k3 := h.jx (F j) x a0 hx
          have k4 := h.jx x (F j) hx a0
          have k5 := h.jx j (F x) (by omega) a
          have k6 := h.jx j x (by omega) hx
          have k7 := h.jx (j + 1) x (by omega) hx
          rw [c0] at k3 k4
          rw [c] at k5
          omega
        rw [gy, if_neg g3, if_neg g4]
        exact k1
  have hu : ∀ k, k < L → up j k < L + 2 ∧ up j k ≠ j ∧ up j k ≠ j + 1 := fun k hk => ⟨(qlx hj).2 hk, qhu.1, qhu.2⟩
  have he : ∀ k, k < L → F' k = dn j (G (up j k)) := e
  have hue : ∀ k, k < L → up j (F' k) = G (up j k) := fun k hk => by
    obtain ⟨b1, b2, b3⟩ := hu k hk
    obtain ⟨_, b4, b5, _⟩ := hG _ b1 b2 b3
    rw [he k hk, qqv b4 b5]
  have hlt : ∀ k, k < L → F' k < L := fun k hk => by
    obtain ⟨b1, b2, b3⟩ := hu k hk
    obtain ⟨b0, b4, b5, _⟩ := hG _ b1 b2 b3
    rw [← qlx hj, hue k hk]; exact b0
  have upi : ∀ {a b : Nat}, up j a = up j b → a = b := fun {a b} hab => by have := congrArg (dn j) hab; rwa [qq3, qq3] at this
  refine ⟨hlt, fun k hk => ?_, fun k hk => ?_, fun a b ha hb => ?_⟩
  · obtain ⟨b1, b2, b3⟩ := hu k hk
    apply upi
    rw [hue _ (hlt k hk), hue k hk]
    exact (hG _ b1 b2 b3).2.2.2.1
  · obtain ⟨b1, b2, b3⟩ := hu k hk
    intro g
    have := hue k hk
    rw [g] at this
    exact (hG _ b1 b2 b3).2.2.2.2 this.symm
  · obtain ⟨b1, b2, b3⟩ := hu a ha
    obtain ⟨d1, d2, d3⟩ := hu b hb
    have := hX _ _ b1 d1 b2 b3 d2 d3
    rw [← hue a ha, ← hue b hb, qio, qio, qio] at this
    exact this
def fl (n i : Nat) : Nat := (i + n) % (2 * n)
def wd (n i : Nat) : Nat := if i < n then i else i + 1
def cl (n i : Nat) : Nat := if i < n then i else i - 1
def FF (n : Nat) (d e : List Nat) (k : Nat) : Nat := if k < 2 * n then mf n d k else 2 * n + mf n e (k - 2 * n)
theorem q16 {n : Nat} {d e : List Nat} (hd : NC (2 * n) (mf n d)) (he : NC (2 * n) (mf n e)) : NC (4 * n) (FF n d e) := by
  have hL : ∀ k, k < 2 * n → FF n d e k = mf n d k := fun k hk => if_pos hk
  have hR : ∀ k, ¬ k < 2 * n → FF n d e k = 2 * n + mf n e (k - 2 * n) := fun k hk => if_neg hk
  refine ⟨fun k hk => ?_, fun k hk => ?_, fun k hk => ?_, fun a b ha hb => ?_⟩
  · by_cases h : k < 2 * n
    · rw [hL k h]; have := hd.lt k h; omega
    · rw [hR k h]; have := he.lt (k - 2 * n) (by omega); omega
  · by_cases h : k < 2 * n
    · rw [hL k h, hL _ (hd.lt k h), hd.inv k h]
    · have h1 := he.lt (k - 2 * n) (by omega)
      rw [hR k h, hR _ (by omega), show 2 * n + mf n e (k - 2 * n) - 2 * n = mf n e (k - 2 * n) by omega, he.inv _ (by omega)]; omega
  · by_cases h : k < 2 * n
    · rw [hL k h]; exact hd.fix k h
    · have h1 := he.fix (k - 2 * n) (by omega)
      rw [hR k h]; omega
  · by_cases h : a < 2 * n
    · have h1 := hd.lt a h
      rw [hL a h]
      by_cases h' : b < 2 * n
      · rw [hL b h']; exact hd.jx a b h h'
      · omega
    · by_cases h' : b < 2 * n
      · omega
      · have := he.jx (a - 2 * n) (b - 2 * n) (by omega) (by omega)
        rw [hR a h, hR b h']; omega
def GG (n : Nat) (F : Nat → Nat) : Nat → Nat → Nat
  | 0, k => F k
  | t + 1, k => dn (2 * n - 1 - t) (if GG n F t (up (2 * n - 1 - t) k) = 2 * n - 1 - t then GG n F t (2 * n - 1 - t + 1) else if GG n F t (up (2 * n - 1 - t) k) = 2 * n - 1 - t + 1 then GG n F t (2 * n - 1 - t) else GG n F t (up (2 * n - 1 - t) k))
theorem qun {n : Nat} {F : Nat → Nat} (h : NC (4 * n) F) : ∀ t, t ≤ n → NC (4 * n - 2 * t) (GG n F t)
  | 0, _ => h
  | t + 1, ht => by
    have ih := qun h t (by omega)
    rw [show 4 * n - 2 * t = 4 * n - 2 * (t + 1) + 2 by omega] at ih
    exact ih.remove (j := 2 * n - 1 - t) (by omega) fun k hk => rfl
def Zj (n t z : Nat) : Prop := 2 * n - t ≤ z ∧ z < 2 * n + t
inductive Path (n : Nat) (F : Nat → Nat) (t : Nat) : Nat → Nat → Prop
  | done {x y : Nat} : F x = y → ¬ Zj n t y → Path n F t x y
  | go {x y : Nat} : Zj n t (F x) → Path n F t (4 * n - 1 - F x) y → Path n F t x y
theorem Path.mono {n t x y : Nat} {F : Nat → Nat} (h : Path n F t x y) (hy : ¬ Zj n (t + 1) y) : Path n F (t + 1) x y := by
  induction h with
  | done h1 h2 => exact .done h1 hy
  | go h1 _ ih => exact .go (by unfold Zj at h1 ⊢; omega) (ih hy)
theorem Path.cat {n t x y w : Nat} {F : Nat → Nat} (h : Path n F t x w) (hw : Zj n (t + 1) w) (h2 : Path n F t (4 * n - 1 - w) y) (hy : ¬ Zj n (t + 1) y) : Path n F (t + 1) x y := by
  induction h with
  | done h1 _ => subst h1; exact .go hw (h2.mono hy)
  | go h1 _ ih => exact .go (by unfold Zj at h1 ⊢; omega) (ih hw h2)
def oo (n t k : Nat) : Nat := if k < 2 * n - t then k else k + 2 * t
theorem qrg {n : Nat} {F : Nat → Nat} (h : NC (4 * n) F) : ∀ t, t ≤ n → ∀ k, k < 4 * n - 2 * t → Path n F t (oo n t k) (oo n t (GG n F t k))
  | 0, _, k, hk => by
    have e : ∀ k, oo n 0 k = k := fun k => by unfold oo; split <;> omega
    rw [e, e]
    exact .done rfl (by unfold Zj; omega)
  | t + 1, ht, k, hk => by
    have ih := qrg h t (by omega)
    have hnc := qun h t (by omega)
    have hj : ∃ j, j = 2 * n - 1 - t := ⟨_, rfl⟩
    obtain ⟨j, hj⟩ := hj
    have g1 : ∀ k, oo n (t + 1) k = oo n t (up j k) := fun k => by
      unfold oo up
      by_cases h1 : k < j
      · rw [if_pos h1, if_pos (by omega), if_pos (by omega)]
      · rw [if_neg h1, if_neg (by omega), if_neg (by omega)]; omega
    have g2 : ∀ y, y ≠ j → y ≠ j + 1 → oo n (t + 1) (dn j y) = oo n t y := fun y h1 h2 => by rw [g1, qqv h1 h2]
    have g3 : oo n t j = j := by unfold oo; rw [if_pos (by omega)]
    have g4 : oo n t (j + 1) = 4 * n - 1 - j := by unfold oo; rw [if_neg (by omega)]; omega
    have gl : ∀ y, y ≠ j → y ≠ j + 1 → ¬ Zj n (t + 1) (oo n t y) := fun y h1 h2 => by
      unfold oo Zj
      by_cases h3 : y < 2 * n - t
      · rw [if_pos h3]; omega
      · rw [if_neg h3]; omega
    have hu := @qhu j k
    have hx : up j k < 4 * n - 2 * t := by
      have := (qlx (j := j) (k := k) (L := 4 * n - 2 * (t + 1)) (by omega)).2 hk
      omega
    have hp := ih _ hx
    have a := hnc.lt _ hx
    have c := hnc.inv _ hx
    have f := hnc.fix _ hx
    have a0 := hnc.lt j (by omega)
    have c0 := hnc.inv j (by omega)
    have f0 := hnc.fix j (by omega)
    have a1 := hnc.lt (j + 1) (by omega)
    have c1 := hnc.inv (j + 1) (by omega)
    have f1 := hnc.fix (j + 1) (by omega)
    have p0 := ih j (by omega)
    have p1 := ih (j + 1) (by omega)
    rw [g3] at p0
    rw [g4] at p1
    have gj : Zj n (t + 1) j := by unfold Zj; omega
    have gj1 : Zj n (t + 1) (4 * n - 1 - j) := by unfold Zj; omega
    rw [g1 k]
    simp only [GG, ← hj]
    generalize hX : up j k = x at *
    by_cases e1 : GG n F t x = j
    · rw [if_pos e1]
      rw [e1] at hp c
      have n1 : GG n F t (j + 1) ≠ j := fun e => by rw [e] at c1; omega
      rw [g2 _ n1 f1]
      rw [g3] at hp
      exact hp.cat gj p1 (gl _ n1 f1)
    · rw [if_neg e1]
      by_cases e2 : GG n F t x = j + 1
      · rw [if_pos e2]
        rw [e2] at hp c
        have n1 : GG n F t j ≠ j + 1 := fun e => by rw [e] at c0; omega
        rw [g2 _ f0 n1]
        rw [g4] at hp
        refine hp.cat gj1 ?_ (gl _ f0 n1)
        rw [show 4 * n - 1 - (4 * n - 1 - j) = j by omega]
        exact p0
      · rw [if_neg e2, g2 _ e1 e2]
        exact hp.mono (gl _ e1 e2)
def pr (n : Nat) (d e : List Nat) (i : Nat) : Nat := place n (GG n (FF n d e) n (place n i))
theorem qp3 {n : Nat} {d e : List Nat} (hd : isS n d = true) (he : isS n e = true) : NC (2 * n) (GG n (FF n d e) n) := by
  have := qun (q16 (qi2 hd) (qi2 he)) n (Nat.le_refl _)
  rwa [show 4 * n - 2 * n = 2 * n by omega] at this
def zs (n : Nat) (d e : List Nat) : Nat → Bool → Nat → List Bool → Option (Nat × Bool × List Bool)
  | 0, _, _, _ => none
  | f + 1, true, i, met => if d.getD i 0 < n then some (d.getD i 0, true, met) else zs n d e f false (d.getD i 0 - n) (met.set (d.getD i 0 - n) true)
  | f + 1, false, i, met => if n ≤ e.getD i 0 then some (e.getD i 0, false, met) else zs n d e f true (n + e.getD i 0) (met.set (e.getD i 0) true)
def at2 (n : Nat) (u : Bool) (i : Nat) : Nat := if u then place n i else 2 * n + place n i
def qm1 (n y : Nat) : Nat := if y < 2 * n then y else place n (y - 2 * n)
theorem qml {n : Nat} {d e : List Nat} (hd : isS n d = true) (he : isS n e = true) {x y : Nat} (h : Path n (FF n d e) n x y) : ∀ (u : Bool) (i : Nat) (met : List Bool), i < 2 * n → x = at2 n u i →
    ∃ f met', zs n d e f u i met = some (qm1 n y, decide (y < 2 * n), met') := by
  obtain ⟨hn, hpd, _⟩ := je hd
  obtain ⟨_, hpe, _⟩ := je he
  have F1 : ∀ i, i < 2 * n → FF n d e (at2 n true i) = place n (d.getD i 0) := fun i hi => by
    show FF n d e (place n i) = _
    unfold FF
    rw [if_pos (q9 hi)]
    unfold mf
    rw [zd hi]
  have F2 : ∀ i, i < 2 * n → FF n d e (at2 n false i) = 2 * n + place n (e.getD i 0) := fun i hi => by
    show FF n d e (2 * n + place n i) = _
    unfold FF
    rw [if_neg (by omega), show 2 * n + place n i - 2 * n = place n i by omega]
    unfold mf
    rw [zd hi]
  induction h with
  | @done x y h1 h2 =>
    intro u i met hi hx
    subst hx
    cases u with
    | true =>
      rw [F1 i hi] at h1
      have hl := (hpd i hi).1
      have hlt : d.getD i 0 < n := by
        unfold place at h1; unfold Zj at h2
        split at h1
        · assumption
        · omega
      have hy : y = d.getD i 0 := by rw [← h1]; unfold place; rw [if_pos hlt]
      refine ⟨1, met, ?_⟩
      simp only [zs, if_pos hlt]
      rw [hy]
      unfold qm1
      rw [if_pos (by omega), decide_eq_true (by omega)]
    | false =>
      rw [F2 i hi] at h1
      have hl := (hpe i hi).1
      have hlt : n ≤ e.getD i 0 := by
        unfold place at h1; unfold Zj at h2
        split at h1
        · omega
        · omega
      refine ⟨1, met, ?_⟩
      simp only [zs, if_pos hlt]
      rw [← h1]
      unfold qm1
      rw [if_neg (by omega), show 2 * n + place n (e.getD i 0) - 2 * n = place n (e.getD i 0) by omega, zd hl, decide_eq_false (by omega)]
  | @go x y h1 h2 ih =>
    intro u i met hi hx
    subst hx
    cases u with
    | true =>
      rw [F1 i hi] at h1 ih
      have hl := (hpd i hi).1
      have hge : ¬ d.getD i 0 < n := fun hlt => by
        unfold place Zj at h1; rw [if_pos hlt] at h1; omega
      obtain ⟨f, met', hf⟩ := ih false (d.getD i 0 - n) (met.set (d.getD i 0 - n) true) (by omega) (by
        show 4 * n - 1 - place n (d.getD i 0) = 2 * n + place n (d.getD i 0 - n)
        unfold place
        rw [if_neg hge, if_pos (by omega)]
        omega)
      exact ⟨f + 1, met', by simp only [zs, if_neg hge]; exact hf⟩
    | false =>
      rw [F2 i hi] at h1 ih
      have hl := (hpe i hi).1
      have hlt : ¬ n ≤ e.getD i 0 := fun hge => by
        unfold place Zj at h1; rw [if_neg (by omega)] at h1; omega
      obtain ⟨f, met', hf⟩ := ih true (n + e.getD i 0) (met.set (e.getD i 0) true) (by omega) (by
        show 4 * n - 1 - (2 * n + place n (e.getD i 0)) = place n (n + e.getD i 0)
        unfold place
        rw [if_pos (by omega), if_neg (by omega)]
        omega)
      exact ⟨f + 1, met', by simp only [zs, if_neg hlt]; exact hf⟩
theorem Wf {n : Nat} {d e : List Nat} (hd : isS n d = true) (he : isS n e = true) {i : Nat} (hi : i < 2 * n) (met : List Bool) : ∃ f met', zs n d e f (decide (i < n)) i met = some (pr n d e i, decide (pr n d e i < n), met') := by
  have hp := qrg (q16 (qi2 hd) (qi2 he)) n (Nat.le_refl _) (place n i) (by have := q9 hi; omega)
  have hg := (qp3 hd he).lt _ (q9 hi)
  have e1 : oo n n (place n i) = at2 n (decide (i < n)) i := by
    unfold oo at2 place
    by_cases h : i < n
    · rw [if_pos h, if_pos (by omega)]; simp [h]
    · rw [if_neg h, if_neg (by omega)]; simp only [h, decide_false, Bool.false_eq_true, if_false]; omega
  rw [e1] at hp
  obtain ⟨f, met', hf⟩ := qml hd he hp _ i met hi rfl
  refine ⟨f, met', ?_⟩
  rw [hf]
  have e2 : qm1 n (oo n n (GG n (FF n d e) n (place n i))) = pr n d e i := by
    unfold pr qm1
    generalize GG n (FF n d e) n (place n i) = k at *
    by_cases h : k < n
    · have e3 : oo n n k = k := if_pos (by omega)
      rw [e3, if_pos (by omega)]; unfold place; rw [if_pos h]
    · have e3 : oo n n k = k + 2 * n := if_neg (by omega)
      rw [e3, if_neg (by omega), show k + 2 * n - 2 * n = k by omega]
  rw [e2]
  congr 3
  unfold pr
  generalize GG n (FF n d e) n (place n i) = k at *
  by_cases h : k < n
  · have e3 : oo n n k = k := if_pos (by omega)
    have e4 : place n k = k := if_pos h
    rw [e3, e4, decide_eq_true h, decide_eq_true (by omega)]
  · have e3 : oo n n k = k + 2 * n := if_neg (by omega)
    have e4 : place n k = 3 * n - 1 - k := if_neg h
    rw [e3, e4, decide_eq_false (by omega), decide_eq_false (by omega)]
def Wv (n : Nat) (d e : List Nat) : Nat → List Nat
  | 0 => List.replicate 16 0
  | k + 1 => ((Wv n d e k).set k (pr n d e k)).set (n + k) (pr n d e (n + k))
def ja (n : Nat) (d e : List Nat) : List Nat := Wv n d e n
theorem yi (n : Nat) (d e : List Nat) : ∀ k, (Wv n d e k).length = 16
  | 0 => by simp [Wv]
  | k + 1 => by simp [Wv, yi n d e k]
theorem Ge {n : Nat} {d e : List Nat} (hn : n ≤ 8) : ∀ k, k ≤ n → ∀ i, i < 16 → (Wv n d e k).getD i 0 = if i < k ∨ (n ≤ i ∧ i < n + k) then pr n d e i else 0
  | 0, _, i, hi => by
    rw [if_neg (by omega)]
    simp only [Wv, List.getD_eq_getElem?_getD, List.getElem?_replicate]
    split <;> simp
  | k + 1, hk, i, hi => by
    simp only [Wv]
    rw [Zb, Zb, List.length_set, yi, Ge hn k (by omega) i hi]
    by_cases h1 : n + k = i
    · rw [if_pos ⟨h1, hi⟩, if_pos (by omega), h1]
    · rw [if_neg (by omega)]
      by_cases h2 : k = i
      · rw [if_pos ⟨h2, hi⟩, if_pos (by omega), h2]
      · rw [if_neg (by omega)]
        by_cases h3 : i < k ∨ (n ≤ i ∧ i < n + k)
        · rw [if_pos h3, if_pos (by omega)]
        · rw [if_neg h3, if_neg (by omega)]
theorem qc8 {n : Nat} {d e : List Nat} (hd : isS n d = true) (he : isS n e = true) {i : Nat} (hi : i < 2 * n) : pr n d e i < 2 * n := q9 ((qp3 hd he).lt _ (q9 hi))
theorem qm9 {n : Nat} {d e : List Nat} (hd : isS n d = true) (he : isS n e = true) : isS n (ja n d e) = true ∧ okD (ja n d e) := by
  obtain ⟨hn, _, _⟩ := je hd
  have hg : ∀ i, i < 2 * n → (ja n d e).getD i 0 = pr n d e i := fun i hi => by
    unfold ja
    rw [Ge hn.2 n (Nat.le_refl _) i (by omega), if_pos (by omega)]
  have ht := qp3 hd he
  refine ⟨q3h hn (fun i h1 h2 => ?_) (fun i hi => ?_) ?_, yi _ _ _ _, ?_⟩
  · unfold ja
    rw [Ge hn.2 n (Nat.le_refl _) i h2, if_neg (by omega)]
  · rw [hg i hi]; exact qc8 hd he hi
  · have e1 : ∀ k, k < 2 * n → mf n (ja n d e) k = GG n (FF n d e) n k := fun k hk => by
      unfold mf
      rw [hg _ (q9 hk)]
      unfold pr
      rw [zd hk, zd (ht.lt k hk)]
    refine ⟨fun k hk => ?_, fun k hk => ?_, fun k hk => ?_, fun a b ha hb => ?_⟩
    · rw [e1 k hk]; exact ht.lt k hk
    · rw [e1 k hk, e1 _ (ht.lt k hk)]; exact ht.inv k hk
    · rw [e1 k hk]; exact ht.fix k hk
    · rw [e1 a ha, e1 b hb]; exact ht.jx a b ha hb
  · intro x hx
    obtain ⟨i, hi, rfl⟩ := List.getElem_of_mem hx
    have hl : (ja n d e).length = 16 := yi _ _ _ _
    have h1 : (ja n d e).getD i 0 = (ja n d e)[i] := by simp [List.getD_eq_getElem?_getD, hi]
    rw [← h1]
    by_cases h2 : i < 2 * n
    · rw [hg i h2]; have := qc8 hd he h2; omega
    · unfold ja
      rw [Ge hn.2 n (Nat.le_refl _) i (by omega), if_neg (by omega)]; omega
def mt (met : List Bool) (x : Nat) : Prop := met.getD x false = true
theorem bt {met : List Bool} {i x : Nat} (hi : i < met.length) : mt (met.set i true) x ↔ x = i ∨ mt met x := by
  unfold mt
  simp only [List.getD_eq_getElem?_getD, List.getElem?_set]
  by_cases h : i = x
  · subst h; simp [hi]
  · rw [if_neg h]
    exact ⟨.inr, fun h2 => h2.elim (fun e => absurd e.symm h) id⟩
theorem qq8 {x k : Nat} : ¬ mt (List.replicate k false) x := by
  unfold mt
  simp only [List.getD_eq_getElem?_getD, List.getElem?_replicate]
  split <;> simp
theorem Ys {n : Nat} {d e : List Nat} {r : Nat × Bool × List Bool} : ∀ {f : Nat} {u : Bool} {i : Nat} {met : List Bool}, zs n d e f u i met = some r → zs n d e (f + 1) u i met = some r
  | 0, _, _, _, h => by simp [zs] at h
  | f + 1, true, i, met, h => by
    rw [zs] at h ⊢
    split
    · rename_i h1; rw [if_pos h1] at h; exact h
    · rename_i h1; rw [if_neg h1] at h; exact Ys h
  | f + 1, false, i, met, h => by
    rw [zs] at h ⊢
    split
    · rename_i h1; rw [if_pos h1] at h; exact h
    · rename_i h1; rw [if_neg h1] at h; exact Ys h
theorem Yl {n : Nat} {d e : List Nat} {r : Nat × Bool × List Bool} {f : Nat} {u : Bool} {i : Nat} {met : List Bool} (h : zs n d e f u i met = some r) : ∀ k, zs n d e (f + k) u i met = some r
  | 0 => h
  | k + 1 => Ys (Yl h k)
theorem qka {n : Nat} {d e : List Nat} {r r' : Nat × Bool × List Bool} {f f' : Nat} {u : Bool} {i : Nat} {met : List Bool} (h : zs n d e f u i met = some r) (h' : zs n d e f' u i met = some r') : r = r' := by
  have h1 := Yl h f'
  have h2 := Yl h' f
  rw [Nat.add_comm f' f, h1] at h2
  exact Option.some.inj h2
def CLs (n : Nat) (d e : List Nat) (M : Nat → Prop) : Prop := ∀ x, x < n → M x → (n ≤ d.getD (n + x) 0 → M (d.getD (n + x) 0 - n)) ∧ (e.getD x 0 < n → M (e.getD x 0))
theorem X9 {n : Nat} {d e : List Nat} (hd : isS n d = true) (he : isS n e = true) {r : Nat} {s : Bool} {met' : List Bool} : ∀ {f : Nat} {u : Bool} {i : Nat} {met : List Bool}, zs n d e f u i met = some (r, s, met') → i < 2 * n → met.length = 8 →
    (u = true → n ≤ i → mt met (i - n)) → (u = false → i < n → mt met i) →
    met'.length = 8 ∧ (∀ x, mt met x → mt met' x) ∧ (∀ x, mt met' x → x < n ∨ mt met x) ∧ (∀ x, x < n → mt met' x → mt met x ∨ ((n ≤ d.getD (n + x) 0 → mt met' (d.getD (n + x) 0 - n)) ∧ (e.getD x 0 < n → mt met' (e.getD x 0)))) ∧
      (u = true → n ≤ d.getD i 0 → mt met' (d.getD i 0 - n)) ∧ (u = false → e.getD i 0 < n → mt met' (e.getD i 0))
  | 0, _, _, _, h, _, _, _, _ => by simp [zs] at h
  | f + 1, true, i, met, h, hi, hl, p1, p2 => by
    obtain ⟨hn, hpd, _⟩ := je hd
    rw [zs] at h
    split at h
    · rename_i hlt
      cases h
      exact ⟨hl, fun x h => h, fun x h => .inr h, fun x _ h => .inl h, fun _ h => absurd hlt (by omega), fun h => by cases h⟩
    · rename_i hlt
      have hs := (hpd i hi).1
      have hinv := (hpd i hi).2.2
      have hsl : d.getD i 0 - n < met.length := by omega
      obtain ⟨a1, a2, a3, a4, _, a6⟩ := X9 hd he h (by omega) (by rw [List.length_set]; exact hl) (fun h => by cases h) (fun _ _ => (bt hsl).2 (.inl rfl))
      have hself : mt met' (d.getD i 0 - n) := a2 _ ((bt hsl).2 (.inl rfl))
      refine ⟨a1, fun x hx => a2 x ((bt hsl).2 (.inr hx)), fun x hx => ?_, fun x hx hm => ?_, fun _ _ => hself, fun h => by cases h⟩
      · rcases a3 x hx with h1 | h1
        · exact .inl h1
        · rcases (bt hsl).1 h1 with rfl | h1
          · exact .inl (by omega)
          · exact .inr h1
      · rcases a4 x hx hm with h1 | h1
        · rcases (bt hsl).1 h1 with rfl | h1
          · refine .inr ⟨fun h2 => ?_, fun h2 => a6 rfl h2⟩
            rw [show n + (d.getD i 0 - n) = d.getD i 0 by omega, hinv] at h2 ⊢
            exact a2 _ ((bt hsl).2 (.inr (p1 rfl h2)))
          · exact .inl h1
        · exact .inr h1
  | f + 1, false, i, met, h, hi, hl, p1, p2 => by
    obtain ⟨hn, hpe, _⟩ := je he
    rw [zs] at h
    split at h
    · rename_i hlt
      cases h
      exact ⟨hl, fun x h => h, fun x h => .inr h, fun x _ h => .inl h, (fun h => by cases h), fun _ h => absurd hlt (by omega)⟩
    · rename_i hlt
      have hs := (hpe i hi).1
      have hinv := (hpe i hi).2.2
      have hsl : e.getD i 0 < met.length := by omega
      obtain ⟨a1, a2, a3, a4, a5, _⟩ := X9 hd he h (by omega) (by rw [List.length_set]; exact hl) (fun _ _ => (bt hsl).2 (.inl (by omega))) (fun h => by cases h)
      have hself : mt met' (e.getD i 0) := a2 _ ((bt hsl).2 (.inl rfl))
      refine ⟨a1, fun x hx => a2 x ((bt hsl).2 (.inr hx)), fun x hx => ?_, fun x hx hm => ?_, (fun h => by cases h), fun _ _ => hself⟩
      · rcases a3 x hx with h1 | h1
        · exact .inl h1
        · rcases (bt hsl).1 h1 with rfl | h1
          · exact .inl (by omega)
          · exact .inr h1
      · rcases a4 x hx hm with h1 | h1
        · rcases (bt hsl).1 h1 with rfl | h1
          · refine .inr ⟨fun h2 => a5 rfl h2, fun h2 => ?_⟩
            rw [hinv] at h2 ⊢
            exact a2 _ ((bt hsl).2 (.inr (p2 rfl h2)))
          · exact .inl h1
        · exact .inr h1
noncomputable def fol (n : Nat) (d e : List Nat) (u : Bool) (i : Nat) (met : List Bool) : List Bool := (Classical.epsilon fun r : Nat × Bool × List Bool => ∃ f, zs n d e f u i met = some r).2.2
theorem qe1 {n : Nat} {d e : List Nat} {f : Nat} {u : Bool} {i : Nat} {met : List Bool} {r : Nat × Bool × List Bool} (h : zs n d e f u i met = some r) : fol n d e u i met = r.2.2 := by
  have : ∃ r : Nat × Bool × List Bool, ∃ f, zs n d e f u i met = some r := ⟨r, f, h⟩
  obtain ⟨f', h'⟩ := Classical.epsilon_spec this
  unfold fol
  rw [qka h' h]
noncomputable def qd7 (n : Nat) (d e : List Nat) : Nat → List Bool
  | 0 => List.replicate 8 false
  | k + 1 => fol n d e false (n + k) (fol n d e true k (qd7 n d e k))
structure Met (n : Nat) (d e : List Nat) (k : Nat) (met : List Bool) : Prop where
  len : met.length = 8
  lt : ∀ x, mt met x → x < n
  cl : CLs n d e (mt met)
  top : ∀ i, i < k → n ≤ d.getD i 0 → mt met (d.getD i 0 - n)
  bot : ∀ i, i < k → e.getD (n + i) 0 < n → mt met (e.getD (n + i) 0)
theorem Jb {n : Nat} {d e : List Nat} (hd : isS n d = true) (he : isS n e = true) : ∀ k, k ≤ n → Met n d e k (qd7 n d e k)
  | 0, _ => ⟨by simp [qd7], fun x h => absurd h qq8, fun x _ h => absurd h qq8, fun i hi => by omega, fun i hi => by omega⟩
  | k + 1, hk => by
    have ih := Jb hd he k (by omega)
    obtain ⟨f1, m1, e1⟩ := Wf hd he (i := k) (by omega) (qd7 n d e k)
    rw [decide_eq_true (by omega)] at e1
    have g1 := qe1 e1
    obtain ⟨a1, a2, a3, a4, a5, _⟩ := X9 hd he e1 (by omega) ih.len (fun _ h => by omega) (fun h => by cases h)
    obtain ⟨f2, m2, e2⟩ := Wf hd he (i := n + k) (by omega) m1
    rw [decide_eq_false (by omega)] at e2
    have g2 := qe1 e2
    obtain ⟨b1, b2, b3, b4, _, b6⟩ := X9 hd he e2 (by omega) a1 (fun h => by cases h) (fun _ h => by omega)
    simp only [qd7, g1, g2]
    refine ⟨b1, fun x hx => ?_, fun x hx hm => ?_, fun i hi h => ?_, fun i hi h => ?_⟩
    · rcases b3 x hx with h | h
      · exact h
      · rcases a3 x h with h | h
        · exact h
        · exact ih.lt x h
    · rcases b4 x hx hm with h | h
      · rcases a4 x hx h with h | h
        · have := ih.cl x hx h
          exact ⟨fun h => b2 _ (a2 _ (this.1 h)), fun h => b2 _ (a2 _ (this.2 h))⟩
        · exact ⟨fun h1 => b2 _ (h.1 h1), fun h1 => b2 _ (h.2 h1)⟩
      · exact h
    · by_cases e : i = k
      · subst e; exact b2 _ (a5 rfl h)
      · exact b2 _ (a2 _ (ih.top i (by omega) h))
    · by_cases e : i = k
      · subst e; exact b6 rfl h
      · exact b2 _ (a2 _ (ih.bot i (by omega) h))
def M0 (n : Nat) (d e : List Nat) (x : Nat) : Prop := mt (qd7 n d e n) x
def dm (n : Nat) (d : List Nat) (x : Nat) : Nat := d.getD (n + x) 0 - n
def em (e : List Nat) (x : Nat) : Nat := e.getD x 0
structure Inv (X : Nat → Prop) (f : Nat → Nat) : Prop where
  mem : ∀ x, X x → X (f x)
  inv : ∀ x, X x → f (f x) = x
  fix : ∀ x, X x → f x ≠ x
def XX (n : Nat) (d e : List Nat) (x : Nat) : Prop := x < n ∧ ¬ M0 n d e x
theorem qip {n : Nat} {d e : List Nat} (hd : isS n d = true) (he : isS n e = true) {x : Nat} (h : XX n d e x) : n ≤ d.getD (n + x) 0 ∧ d.getD (n + x) 0 < 2 * n ∧ e.getD x 0 < n := by
  obtain ⟨hn, hpd, _⟩ := je hd
  obtain ⟨_, hpe, _⟩ := je he
  have hm := Jb hd he n (Nat.le_refl _)
  have h1 := hpd (n + x) (by have := h.1; omega)
  have h2 := hpe x (by have := h.1; omega)
  have hx := h.1
  refine ⟨Nat.le_of_not_lt fun hlt => h.2 ?_, h1.1, Nat.lt_of_not_le fun hge => h.2 ?_⟩
  · have := hm.top _ hlt (by rw [h1.2.2]; omega)
    rw [h1.2.2, show n + x - n = x by omega] at this
    exact this
  · have := hm.bot (e.getD x 0 - n) (by omega) (by rw [show n + (e.getD x 0 - n) = e.getD x 0 by omega, h2.2.2]; exact hx)
    rw [show n + (e.getD x 0 - n) = e.getD x 0 by omega, h2.2.2] at this
    exact this
theorem Kq {n : Nat} {d e : List Nat} (hd : isS n d = true) (he : isS n e = true) : Inv (XX n d e) (dm n d) := by
  obtain ⟨hn, hpd, _⟩ := je hd
  have hm := Jb hd he n (Nat.le_refl _)
  have key : ∀ x, XX n d e x → n + dm n d x = d.getD (n + x) 0 ∧ d.getD (d.getD (n + x) 0) 0 = n + x ∧ dm n d x < n := fun x hx => by
    have h1 := hpd (n + x) (by have := hx.1; omega)
    obtain ⟨g1, g2, g3⟩ := qip hd he hx
    unfold dm
    exact ⟨by omega, h1.2.2, by omega⟩
  refine ⟨fun x hx => ?_, fun x hx => ?_, fun x hx e => ?_⟩
  · obtain ⟨k1, k2, k3⟩ := key x hx
    refine ⟨k3, fun hM => hx.2 ?_⟩
    have := (hm.cl (dm n d x) k3 hM).1 (by rw [k1, k2]; omega)
    rw [k1, k2, show n + x - n = x by omega] at this
    exact this
  · obtain ⟨k1, k2, k3⟩ := key x hx
    show d.getD (n + dm n d x) 0 - n = x
    rw [k1, k2]; omega
  · obtain ⟨k1, k2, k3⟩ := key x hx
    have h1 := hpd (n + x) (by have := hx.1; omega)
    rw [e] at k1
    exact h1.2.1 k1.symm
theorem Kx {n : Nat} {d e : List Nat} (hd : isS n d = true) (he : isS n e = true) : Inv (XX n d e) (em e) := by
  obtain ⟨hn, hpe, _⟩ := je he
  have hm := Jb hd he n (Nat.le_refl _)
  refine ⟨fun x hx => ?_, fun x hx => (hpe x (by have := hx.1; omega)).2.2, fun x hx => (hpe x (by have := hx.1; omega)).2.1⟩
  obtain ⟨g1, g2, g3⟩ := qip hd he hx
  refine ⟨g3, fun hM => hx.2 ?_⟩
  have h1 := (hpe x (by have := hx.1; omega)).2.2
  have := (hm.cl _ g3 hM).2 (by show e.getD (e.getD x 0) 0 < n; rw [h1]; exact hx.1)
  have h2 : M0 n d e (e.getD (e.getD x 0) 0) := this
  rw [h1] at h2
  exact h2
inductive Ring (f g : Nat → Nat) (k0 : Nat) : Nat → Prop
  | base : Ring f g k0 k0
  | one {x : Nat} : Ring f g k0 x → Ring f g k0 (f x)
  | two {x : Nat} : Ring f g k0 x → Ring f g k0 (g x)
theorem Ring.swap {f g : Nat → Nat} {k0 x : Nat} (h : Ring f g k0 x) : Ring g f k0 x := by
  induction h with
  | base => exact .base
  | one _ ih => exact .two ih
  | two _ ih => exact .one ih
theorem Ring.mem {X : Nat → Prop} {f g : Nat → Nat} (hf : Inv X f) (hg : Inv X g) {k0 x : Nat} (h0 : X k0) (h : Ring f g k0 x) : X x := by
  induction h with
  | base => exact h0
  | one _ ih => exact hf.mem _ ih
  | two _ ih => exact hg.mem _ ih
theorem Ring.trans {f g : Nat → Nat} {a b c : Nat} (h : Ring f g a b) (h' : Ring f g b c) : Ring f g a c := by
  induction h' with
  | base => exact h
  | one _ ih => exact .one ih
  | two _ ih => exact .two ih
theorem Ring.symm {X : Nat → Prop} {f g : Nat → Nat} (hf : Inv X f) (hg : Inv X g) {a b : Nat} (h0 : X a) (h : Ring f g a b) : Ring f g b a := by
  induction h with
  | base => exact .base
  | @one x hx ih =>
    have : Ring f g (f x) x := by
      have := Ring.one (Ring.base (f := f) (g := g) (k0 := f x))
      rwa [hf.inv x (Ring.mem hf hg h0 hx)] at this
    exact this.trans ih
  | @two x hx ih =>
    have : Ring f g (g x) x := by
      have := Ring.two (Ring.base (f := f) (g := g) (k0 := g x))
      rwa [hg.inv x (Ring.mem hf hg h0 hx)] at this
    exact this.trans ih
structure qdz (X : Nat → Prop) (f g : Nat → Nat) (k0 : Nat) (T : Nat → Prop) (last : Nat) : Prop where
  ring : ∀ x, T x → Ring f g k0 x
  m0 : T k0
  lm : T last
  ne : last ≠ k0
  cl : ∀ x, T x → T (f x)
  st : ∀ x, T x → x ≠ k0 → x ≠ last → T (g x) ∧ g x ≠ k0 ∧ g x ≠ last
theorem qdz.start {X : Nat → Prop} {f g : Nat → Nat} (hf : Inv X f) {k0 : Nat} (h0 : X k0) : qdz X f g k0 (fun x => x = k0 ∨ x = f k0) (f k0) :=
  ⟨fun x h => h.elim (fun e => e ▸ .base) (fun e => e ▸ .one .base), .inl rfl, .inr rfl, hf.fix k0 h0, fun x h => h.elim (fun e => .inr (by rw [e])) (fun e => .inl (by rw [e]; exact hf.inv _ h0)), fun x h h1 h2 => h.elim (fun e => absurd e h1) (fun e => absurd e h2)⟩
theorem qdz.stop {X : Nat → Prop} {f g : Nat → Nat} (hf : Inv X f) (hg : Inv X g) {k0 last : Nat} {T : Nat → Prop} (h0 : X k0) (h : qdz X f g k0 T last) (hk : T (g last)) : g last = k0 ∧ ∀ x, T x ↔ Ring f g k0 x := by
  have hX : ∀ x, T x → X x := fun x hx => Ring.mem hf hg h0 (h.ring x hx)
  have e : g last = k0 := Classical.byContradiction fun hne => by
    have h1 := hg.fix last (hX _ h.lm)
    have h2 := (h.st _ hk hne h1).2.2
    exact h2 (hg.inv _ (hX _ h.lm))
  have hcl : ∀ x, T x → T (g x) := fun x hx => by
    by_cases h1 : x = k0
    · subst h1
      rw [← e, hg.inv _ (hX _ h.lm)]; exact h.lm
    by_cases h2 : x = last
    · subst h2; rw [e]; exact h.m0
    · exact (h.st x hx h1 h2).1
  refine ⟨e, fun x => ⟨h.ring x, fun hr => ?_⟩⟩
  induction hr with
  | base => exact h.m0
  | one _ ih => exact h.cl _ ih
  | two _ ih => exact hcl _ ih
theorem qdz.next {X : Nat → Prop} {f g : Nat → Nat} (hf : Inv X f) (hg : Inv X g) {k0 last : Nat} {T : Nat → Prop} (h0 : X k0) (h : qdz X f g k0 T last) (hk : ¬ T (g last)) : qdz X f g k0 (fun x => x = g last ∨ x = f (g last) ∨ T x) (f (g last)) ∧ ¬ T (f (g last)) ∧ f (g last) ≠ g last := by
  have hX : ∀ x, T x → X x := fun x hx => Ring.mem hf hg h0 (h.ring x hx)
  have hk' : X (g last) := hg.mem _ (hX _ h.lm)
  have hne : f (g last) ≠ g last := hf.fix _ hk'
  have hnT : ¬ T (f (g last)) := fun hT => hk (by have := h.cl _ hT; rwa [hf.inv _ hk'] at this)
  refine ⟨⟨fun x hx => ?_, .inr (.inr h.m0), .inr (.inl rfl), fun e => hnT (by rw [e]; exact h.m0), fun x hx => ?_, fun x hx h1 h2 => ?_⟩, hnT, hne⟩
  · rcases hx with rfl | rfl | hx
    · exact .two (h.ring _ h.lm)
    · exact .one (.two (h.ring _ h.lm))
    · exact h.ring x hx
  · rcases hx with rfl | rfl | hx
    · exact .inr (.inl rfl)
    · rw [hf.inv _ hk']; exact .inl rfl
    · exact .inr (.inr (h.cl x hx))
  · rcases hx with rfl | rfl | hx
    · rw [hg.inv _ (hX _ h.lm)]
      exact ⟨.inr (.inr h.lm), h.ne, fun e => hnT (by rw [← e]; exact h.lm)⟩
    · exact absurd rfl h2
    · by_cases e : x = last
      · subst e
        exact ⟨.inl rfl, fun e => hk (by rw [e]; exact h.m0), fun e => hne e.symm⟩
      · obtain ⟨q1, q2, q3⟩ := h.st x hx h1 e
        exact ⟨.inr (.inr q1), q2, fun e2 => hnT (by rw [← e2]; exact q1)⟩
def Seen (n : Nat) (d e : List Nat) (i x : Nat) : Prop := M0 n d e x ∨ ∃ j, j < i ∧ XX n d e j ∧ Ring (dm n d) (em e) j x
open Classical in
noncomputable def lpN (n : Nat) (d e : List Nat) : Nat → Nat
  | 0 => 0
  | i + 1 => if Seen n d e i i then lpN n d e i else lpN n d e i + 1
theorem qgi (n : Nat) (d e : List Nat) : ∀ i, lpN n d e i ≤ i
  | 0 => Nat.le_refl _
  | i + 1 => by
    have := qgi n d e i
    unfold lpN; split <;> omega
theorem q0u {n : Nat} {d e : List Nat} (hd : isS n d = true) (he : isS n e = true) {i x : Nat} (h : Seen n d e i x) : x < n := by
  rcases h with h | ⟨j, _, hj, hr⟩
  · exact (Jb hd he n (Nat.le_refl _)).lt x h
  · exact (Ring.mem (Kq hd he) (Kx hd he) hj hr).1
theorem qnb {n : Nat} {d e : List Nat} (hd : isS n d = true) (he : isS n e = true) {i : Nat} (hi : Seen n d e i i) (x : Nat) : Seen n d e (i + 1) x ↔ Seen n d e i x := by
  constructor
  · rintro (h | ⟨j, hj, hX, hr⟩)
    · exact .inl h
    · by_cases e1 : j = i
      · subst e1
        rcases hi with h | ⟨k, hk, hX', hr'⟩
        · exact absurd h hX.2
        · exact .inr ⟨k, hk, hX', hr'.trans hr⟩
      · exact .inr ⟨j, by omega, hX, hr⟩
  · rintro (h | ⟨j, hj, hX, hr⟩)
    · exact .inl h
    · exact .inr ⟨j, by omega, hX, hr⟩
theorem ql0 {n : Nat} {d e : List Nat} {i : Nat} (hin : i < n) (hi : ¬ Seen n d e i i) (x : Nat) : Seen n d e (i + 1) x ↔ Seen n d e i x ∨ Ring (dm n d) (em e) i x := by
  have hX : XX n d e i := ⟨hin, fun h => hi (.inl h)⟩
  constructor
  · rintro (h | ⟨j, hj, hX', hr⟩)
    · exact .inl (.inl h)
    · by_cases e1 : j = i
      · subst e1; exact .inr hr
      · exact .inl (.inr ⟨j, by omega, hX', hr⟩)
  · rintro ((h | ⟨j, hj, hX', hr⟩) | hr)
    · exact .inl h
    · exact .inr ⟨j, by omega, hX', hr⟩
    · exact .inr ⟨i, by omega, hX, hr⟩
theorem W3 {n : Nat} {d e : List Nat} (hd : isS n d = true) (he : isS n e = true) {i x : Nat} (hin : i < n) (hi : ¬ Seen n d e i i) (h : Ring (dm n d) (em e) i x) : ¬ Seen n d e i x := by
  have hX : XX n d e i := ⟨hin, fun h => hi (.inl h)⟩
  rintro (h1 | ⟨j, hj, hX', hr⟩)
  · exact (Ring.mem (Kq hd he) (Kx hd he) hX h).2 h1
  · exact hi (.inr ⟨j, hj, hX', hr.trans (h.symm (Kq hd he) (Kx hd he) hX)⟩)
end Go.Proofs.Ytfhckbbgmblhbaa

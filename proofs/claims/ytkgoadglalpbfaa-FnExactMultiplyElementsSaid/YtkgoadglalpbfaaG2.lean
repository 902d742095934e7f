/- Contracts: elements that are right. -/
import Derived.Test.YtkgoadglalpbfaaG1
namespace Go.Proofs.Ytkgoadglalpbfaa
open Go.Am Go.Dia
open Nat renaming reduceAdd → nA, reduceMul → nM, reduceSub → nS, reduceEqDiff → nE, reduceLT → nL, reduceLeDiff → nD, reduceBEq → nB
open Int renaming reduceEq → iE, reduceNe → iN, reduceBEq → iB, reduceBNe → iC, reduceLT → iL, reduceLE → iD, reduceAdd → iA, reduceSub → iS, reduceMul → iM
set_option linter.unusedSimpArgs false
set_option linter.unusedVariables false
set_option maxRecDepth 4000
set_option maxHeartbeats 1000000
theorem qd5 {α : Type} (l : List α) (a b k : Nat) (h : a ≤ b) : List.take a (List.drop k l) = List.take a (List.take b (List.drop k l)) := by
  rw [List.take_take, Nat.min_eq_left h]
theorem kq {ts : List (Int × List Nat × Int)} {i : Nat} (h : okT ts) (hi : i < ts.length) : List.take 17 (List.drop (i * 18) (qq ts)) = dia ts[i].1 ts[i].2.1 := by
  rw [qd5 _ 17 18 _ (by decide), gw h hi]
  have := Jw (h _ (List.getElem_mem hi))
  rwa [List.drop_zero] at this
theorem Gz {ts : List (Int × List Nat × Int)} {i : Nat} (h : okT ts) (hi : i < ts.length) : (qq ts)[i * 18 + 17]? = some (.int .i64 ts[i].2.2) := by
  have h1 := bz (h _ (List.getElem_mem hi))
  rw [← gw h hi, List.getElem?_take, if_pos (by decide), List.getElem?_drop] at h1
  exact h1
def kn : List AV → Option AV
  | [.agg l, .agg l'] => match bg l, bg l' with
    | some (n, m), some (n', m') => chk ((0 ≤ n ∧ n ≤ 8) ∧ 0 ≤ n' ∧ n' ≤ 8) (some (.bool (Op.bytesLess (xw n.toNat m) (xw n'.toNat m'))))
    | _, _ => none
  | _ => none
theorem qdp : B30 60 = some (qu vx) := rfl
theorem qcn : B30 58 = some (qu yd) := rfl
theorem Gy : B30 59 = some (qu we) := rfl
theorem K8 : B30 109 = some (qu x9) := rfl
def qbd : AC := .seq (.region [o0 2 (.box (.t 0)),o0 3 (.box (.t 1)),oB 4 false]) (.seq (.draw true [oN 5 17 2,oN 7 17 3,oC 6 109 [.t 5],oC 8 109 [.t 7],oP 9 .lss 6 8,oM 4 9]) .ret)
theorem qkn : zy Try.prog 114 = some ⟨10, qbd, [.slot 4]⟩ := by kernel_rfl
theorem qxb (n n' : Int) (m m' : List Nat) (hm : okD m) (hm' : okD m') (hn : 0 ≤ n ∧ n ≤ 8) (hn' : 0 ≤ n' ∧ n' ≤ 8) :
    Am.Fn Try.prog 114 [.agg (dia n m), .agg (dia n' m')] [] (fun v H' => v = .bool (Op.bytesLess (xw n.toNat m) (xw n'.toNat m')) ∧ H' = []) := by
  refine Am.Fn.jw (R := fun v => v = _) qlx mixed qkn (by simp) (by simp) ?_
  simp (maxSteps := 3000000) only [qf, zH, qbd, qdp, qcn, Gy, K8, vx, yd, we, x9, qe, hm.1, hm'.1, zd hm, zd hm', q9 hm.1, q9 hm'.1, hn, hn', iE, iN, iB, iC, iL, iD, iA, iS, iM, qb, zZ, ↓qp, ↓reduceIte, reduceCtorEq, nA, nM, nS, nE, nL, nD]; try simp only [qb, zY]
  exact ⟨⟨_, rfl⟩, _, rfl⟩
theorem qwm : Am.Callee Try.prog 114 (qu kn) := Am.Callee.plain fun xs v he => by
  unfold kn at he
  split at he
  · split at he
    · rename_i l l' n m n' m' hd hd'
      obtain ⟨⟨h1, h2⟩, he⟩ := qm he
      cases he
      obtain ⟨rfl, hm⟩ := xa hd
      obtain ⟨rfl, hm'⟩ := xa hd'
      exact ⟨by simp only [AV.zs, AV.xb, qh, Bool.and_self], rfl, qxb _ _ _ _ hm hm' h1 h2⟩
    · cases he
  · cases he
def B32 : z7 := (B31.put 114 (qu kn))
theorem qm7 : ze Try.prog B32 := (qw9.put (qwm))
theorem jd : B32 60 = some (qu vx) := rfl
theorem je : B32 58 = some (qu yd) := rfl
theorem xe : B32 59 = some (qu we) := rfl
theorem xp : B32 109 = some (qu x9) := rfl
theorem xn : B32 114 = some (qu kn) := rfl
def zT : Int × List Nat × Int := (0, [], 0)
def Xa (p n : Int) (ts : List (Int × List Nat × Int)) (i : Nat) : Bool :=
  isS (ts.getD i zT).1.toNat (ts.getD i zT).2.1 && ((ts.getD i zT).1 == n) && decide (1 ≤ (ts.getD i zT).2.2 ∧ (ts.getD i zT).2.2 ≤ p - 1) && (i == 0 || ltT (ts.getD (i - 1) zT) (ts.getD i zT))
def js (p c n : Int) (ts : List (Int × List Nat × Int)) : Bool :=
  yu p && decide (0 ≤ c ∧ c ≤ p - 1) && decide (1 ≤ n ∧ n ≤ 8) && decide (ts.length ≤ 140) && (List.range ts.length).all (Xa p n ts)
theorem u5 {ts : List (Int × List Nat × Int)} {i : Nat} (h : i < ts.length) : ts.getD i zT = ts[i] := by
  rw [List.getD_eq_getElem?_getD, List.getElem?_eq_getElem h]; rfl
theorem Zv {p c n : Int} {ts : List (Int × List Nat × Int)} {i : Nat} (h : i < ts.length) (hg : Xa p n ts i = false) : false = js p c n ts := by
  have : (List.range ts.length).all (Xa p n ts) = false := by
    rw [← Bool.not_eq_true, List.all_eq_true]
    intro h2
    have := h2 i (List.mem_range.2 h)
    rw [hg] at this; cases this
  simp [js, this]
theorem qgj {p c n : Int} {ts : List (Int × List Nat × Int)} (hp : yu p = true) (hc : 0 ≤ c ∧ c ≤ p - 1) (hn : 1 ≤ n ∧ n ≤ 8) (hl : ts.length ≤ 140) (h : ∀ i, i < ts.length → Xa p n ts i = true) : true = js p c n ts := by
  have : (List.range ts.length).all (Xa p n ts) = true := by
    rw [List.all_eq_true]
    exact fun i hi => h i (List.mem_range.1 hi)
  simp only [js, this, hp, decide_eq_true hc, decide_eq_true hn, decide_eq_true hl, Bool.and_self]
theorem qbg {p : Int} (h : yu p = true) : 2 ≤ p ∧ p ≤ 97 := by
  simp only [yu, Bool.and_eq_true, decide_eq_true_eq] at h
  exact h.1
def uz : AC := .cond 81 (.seq (.region [oB 2 false]) .ret) .skip
def u7 : AC := .region [oM 35 3,oK 36 .add 35 1,oM 3 36]
def yi : AC := .seq (.seq (.region [oM 30 3,oF 31 3 1,oL 32 31,o0 33 (.len .slc (.t 32)),oP 34 .lss 30 33]) (.cond 34 .skip (.exit 0))) (.seq (.block 1 (.seq (.region [oF 37 3 1,oL 38 37,oM 39 3,oX 40 18 38 39,oF 41 0 40,oN 42 17 41,o0 4 (.alloc [.int .i64 0,.int .u8 0,.int .u8 0,.int .u8 0,.int .u8 0,.int .u8 0,.int .u8 0,.int .u8 0,.int .u8 0,.int .u8 0,.int .u8 0,.int .u8 0,.int .u8 0,.int .u8 0,.int .u8 0,.int .u8 0,.int .u8 0]),oS 17 4 42]) (.seq (.draw false [oN 43 17 4,oC 44 58 [.t 43],o0 45 (.un .not (.t 44)),oM 46 45,oG 47 46 false (.ve 0 (.t 4)),oG 48 46 false (.vn (.t 47)),oG 49 46 false (.ve 2 (.t 1)),oG 50 46 false (.vn (.t 49)),oG 51 46 false (.bin .neq (.t 48) (.t 50)),o0 52 (.pick (.t 46) (.c (.bool true)) (.t 51)),oM 53 52,oG 54 53 false (.ve 3 (.t 1)),oG 55 53 false (.vn (.t 54)),oG 56 53 false (.mov (.t 3)),oG 57 53 false (.Qu 18 (.t 55) (.t 56)),oG 58 53 false (.ve 17 (.t 57)),oG 59 53 false (.vn (.t 58)),oG 60 53 false (.ve 0 (.t 1)),oG 61 53 false (.vn (.t 60)),oG 62 53 false (.bin .sub (.t 61) (.c (.int .i64 1))),⟨some 63,some (53,false),.call (.c (.fn 60 [] [])) [.t 59,(.c (.int .i64 1)),.t 62]⟩,oG 64 53 false (.un .not (.t 63)),o0 65 (.pick (.t 53) (.c (.bool true)) (.t 64)),oM 66 65,oG 67 66 false (.mov (.t 3)),oG 68 66 false (.bin .gtr (.t 67) (.c (.int .i64 0))),oG 69 66 false (.mov (.t 68)),oG 70 69 true (.ve 3 (.t 1)),oG 71 69 true (.vn (.t 70)),oG 72 69 true (.mov (.t 3)),oG 73 69 true (.bin .sub (.t 72) (.c (.int .i64 1))),oG 74 69 true (.Qu 18 (.t 71) (.t 73)),oG 75 69 true (.ve 0 (.t 74)),oG 76 69 true (.gn 17 (.t 75)),oG 77 69 true (.gn 17 (.t 4)),⟨some 78,some (69,true),.call (.c (.fn 114 [] [])) [.t 76,.t 77]⟩,oG 79 69 true (.un .not (.t 78)),oG 80 66 false (.pick (.t 69) (.t 79) (.c (.bool false))),o0 81 (.pick (.t 66) (.c (.bool true)) (.t 80))]) uz))) u7)
def Kf : AC := .seq (.region [oB 2 true]) .ret
def Xu : AC := .seq (.region [o0 1 (.box (.t 0)),oB 2 false]) (.seq (.seq (.region [oF 5 0 1,oL 6 5,oC 7 59 [.t 6],o0 8 (.un .not (.t 7)),oM 9 8,oG 10 9 false (.ve 1 (.t 1)),oG 11 9 false (.vn (.t 10)),oG 12 9 false (.ve 0 (.t 1)),oG 13 9 false (.vn (.t 12)),oG 14 9 false (.bin .sub (.t 13) (.c (.int .i64 1))),⟨some 15,some (9,false),.call (.c (.fn 60 [] [])) [.t 11,(.c (.int .i64 0)),.t 14]⟩,oG 16 9 false (.un .not (.t 15)),o0 17 (.pick (.t 9) (.c (.bool true)) (.t 16)),oM 18 17,oG 19 18 false (.ve 2 (.t 1)),oG 20 18 false (.vn (.t 19)),⟨some 21,some (18,false),.call (.c (.fn 60 [] [])) [.t 20,(.c (.int .i64 1)),(.c (.int .i64 8))]⟩,oG 22 18 false (.un .not (.t 21)),o0 23 (.pick (.t 18) (.c (.bool true)) (.t 22)),oM 24 23,oG 25 24 false (.ve 3 (.t 1)),oG 26 24 false (.vn (.t 25)),oG 27 24 false (.len .slc (.t 26)),oG 28 24 false (.bin .gtr (.t 27) (.c (.int .i64 140))),o0 29 (.pick (.t 24) (.c (.bool true)) (.t 28))]) (.cond 29 (.seq (.region [oB 2 false]) .ret) .skip)) (.seq (.seq (.region [oI 3 0]) (.block 0 (.loop yi))) Kf))
theorem qpb : zy Try.prog 68 = some ⟨82, Xu, [.slot 2]⟩ := by kernel_rfl
theorem qpx (p c n : Int) (ts : List (Int × List Nat × Int)) (ht : okT ts) (hl : ts.length ≤ 1000000000) :
    Am.Fn Try.prog 68 [elemV p c n 0 ts.length] [.ro (qq ts)] (fun v H' => v = .bool (js p c n ts) ∧ H' = [.ro (qq ts)]) := by
  refine Am.Fn.jw (R := fun v => v = _) qm7 mixed qpb (by simp) (Zu (qa _)) ?_
  have htl := qt ht
  cases hP : yu p with
  | false =>
    have : js p c n ts = false := by simp [js, hP]
    simp (maxSteps := 3000000) only [qf, zH, Xu, jd, je, xe, xp, xn, vx, yd, kn, we, x9, elemV, hP, iE, iN, iB, iC, iL, iD, iA, iS, iM, this, qb, zZ, ↓qp, ↓reduceIte, reduceCtorEq, nA, nM, nS, nE, nL, nD]; try simp only [qb, zY]
    exact ⟨_, rfl⟩
  | true =>
  have hpr := qbg hP
  have hwp : q8 .i64 (p - 1) = p - 1 := wrap64 (by omega) (by omega)
  by_cases hc : 0 ≤ c ∧ c ≤ p - 1
  case neg =>
    have : js p c n ts = false := by simp only [js, decide_eq_false hc, Bool.and_false, Bool.false_and]
    simp (maxSteps := 3000000) only [qf, zH, Xu, jd, je, xe, xp, xn, vx, yd, kn, we, x9, elemV, hP, hwp, hc, iE, iN, iB, iC, iL, iD, iA, iS, iM, this, qb, zZ, ↓qp, ↓reduceIte, reduceCtorEq, nA, nM, nS, nE, nL, nD]; try simp only [qb, zY]
    exact ⟨_, rfl⟩
  by_cases hn : 1 ≤ n ∧ n ≤ 8
  case neg =>
    have : js p c n ts = false := by simp only [js, decide_eq_false hn, Bool.and_false, Bool.false_and]
    simp (maxSteps := 3000000) only [qf, zH, Xu, jd, je, xe, xp, xn, vx, yd, kn, we, x9, elemV, hP, hwp, hc, hn, and_self, iE, iN, iB, iC, iL, iD, iA, iS, iM, this, qb, zZ, ↓qp, ↓reduceIte, reduceCtorEq, nA, nM, nS, nE, nL, nD]; try simp only [qb, zY]
    exact ⟨_, rfl⟩
  by_cases h140 : ts.length ≤ 140
  case neg =>
    have : js p c n ts = false := by simp only [js, decide_eq_false h140, Bool.and_false, Bool.false_and]
    have h140' : (140 : Int) < ts.length := by omega
    simp (maxSteps := 3000000) only [qf, zH, Xu, jd, je, xe, xp, xn, vx, yd, kn, we, x9, elemV, hP, hwp, hc, hn, and_self, h140', gt_iff_lt, iE, iN, iB, iC, iL, iD, iA, iS, iM, this, qb, zZ, ↓qp, ↓reduceIte, reduceCtorEq, nA, nM, nS, nE, nL, nD]; try simp only [qb, zY]
    exact ⟨_, rfl⟩
  have h140' : ¬ ((140 : Int) < ts.length) := by omega
  simp (maxSteps := 3000000) only [qf, zH, Xu, jd, je, xe, xp, xn, vx, yd, kn, we, x9, elemV, hP, hwp, hc, hn, and_self, h140', gt_iff_lt, iE, iN, iB, iC, iL, iD, iA, iS, iM, qb, zZ, ↓qp, ↓reduceIte, reduceCtorEq, nA, nM, nS, nE, nL, nD]; try simp only [qb, zY]
  refine WA.j8 qm7 (fun s => ∃ i : Nat, s = ⟨[(3, .int .i64 i), (1, .ptr 1 0)], [.ro (qq ts), .cells [.int .i64 p, .int .i64 c, .int .i64 n, .slc 0 0 ts.length false 0]]⟩ ∧ i ≤ ts.length ∧ ∀ j, j < i → Xa p n ts j = true)
    (fun s => match get s.env 3 with | .int _ k => (200 - k).toNat | _ => 0) ⟨_, qz.zc [3, 1], 0, rfl, by omega, by intros; omega⟩ ?_
  rintro s ⟨i, rfl, hi, hgood⟩
  by_cases hlt : i < ts.length
  case neg =>
    have hli : ¬ ((i : Int) < ts.length) := by omega
    simp (maxSteps := 3000000) only [qf, zH, yi, Kf, hli, iE, iN, iB, iC, iL, iD, iA, iS, iM, qb, zZ, ↓qp, ↓reduceIte, reduceCtorEq, nA, nM, nS, nE, nL, nD]; try simp only [qb, zY]
    exact ⟨⟨_, rfl⟩, qgj hP hc hn h140 fun j hj => hgood j (by omega)⟩
  have hli : (i : Int) < ts.length := by omega
  have hli' : (0 : Int) ≤ i := by omega
  have hw : q8 .i64 ((i : Int) + 1) = ((i + 1 : Nat) : Int) := by rw [wrap64 (by omega) (by omega)]; rfl
  have hd := kq ht hlt
  have hf := Gz ht hlt
  have hok := ht _ (List.getElem_mem hlt)
  have hb1 : i * 18 < ts.length * 18 := by omega
  have hb2 : i * 18 + 18 ≤ ts.length * 18 := by omega
  have hb3 : i * 18 + 17 ≤ ts.length * 18 := by omega
  have hb4 : i * 18 + 17 < ts.length * 18 := by omega
  have hG : Xa p n ts i = (isS ts[i].1.toNat ts[i].2.1 && (ts[i].1 == n) && decide (1 ≤ ts[i].2.2 ∧ ts[i].2.2 ≤ p - 1) && (i == 0 || ltT (ts.getD (i - 1) zT) ts[i])) := by
    simp only [Xa, u5 hlt]
  generalize hT : ts[i] = T at hd hf hok hG
  obtain ⟨a, m, k⟩ := T
  simp only at hd hf hok hG
  cases hA : isS a.toNat m with
  | false =>
    have hr := Zv (c := c) (p := p) (n := n) hlt (by rw [hG, hA]; rfl)
    simp (maxSteps := 3000000) only [qf, zH, yi, uz, u7, jd, je, xe, xp, xn, vx, yd, kn, we, x9, hli, hli', hd, hf, htl, hb1, hb2, hb3, hb4, hA, zd hok, q9 hok.1, qe, hok.1, xd, xq, List.length_replicate, Nat.le_refl, ud hok.1, vu, hwp, gt_iff_lt, iE, iN, iB, iC, iL, iD, iA, iS, iM, and_self, qb, zZ, ↓qp, ↓reduceIte, reduceCtorEq, nA, nM, nS, nE, nL, nD]; try simp only [qb, zY]
    first | exact hr | exact hr.symm | exact ⟨⟨_, rfl⟩, hr⟩ | trace_state
  | true =>
  by_cases han : a = n
  case neg =>
    have hr := Zv (c := c) (p := p) (n := n) hlt (by rw [hG, hA, beq_false_of_ne han]; rfl)
    simp (maxSteps := 3000000) only [qf, zH, yi, uz, u7, jd, je, xe, xp, xn, vx, yd, kn, we, x9, hli, hli', hd, hf, htl, hb1, hb2, hb3, hb4, hA, zd hok, q9 hok.1, qe, hok.1, xd, xq, List.length_replicate, Nat.le_refl, ud hok.1, vu, hwp, gt_iff_lt, han, iE, iN, iB, iC, iL, iD, iA, iS, iM, and_self, qb, zZ, ↓qp, ↓reduceIte, reduceCtorEq, nA, nM, nS, nE, nL, nD]; try simp only [qb, zY]
    first | exact hr | exact hr.symm | exact ⟨⟨_, rfl⟩, hr⟩ | trace_state
  subst han
  by_cases hk : 1 ≤ k ∧ k ≤ p - 1
  case neg =>
    have hr := Zv (c := c) (p := p) (n := a) hlt (by rw [hG, hA, beq_self_eq_true, decide_eq_false hk]; rfl)
    simp (maxSteps := 3000000) only [qf, zH, yi, uz, u7, jd, je, xe, xp, xn, vx, yd, kn, we, x9, hli, hli', hd, hf, htl, hb1, hb2, hb3, hb4, hA, zd hok, q9 hok.1, qe, hok.1, xd, xq, List.length_replicate, Nat.le_refl, ud hok.1, vu, hwp, gt_iff_lt, hk, iE, iN, iB, iC, iL, iD, iA, iS, iM, and_self, qb, zZ, ↓qp, ↓reduceIte, reduceCtorEq, nA, nM, nS, nE, nL, nD]; try simp only [qb, zY]
    first | exact hr | exact hr.symm | exact ⟨⟨_, rfl⟩, hr⟩ | trace_state
  have hnext : (i == 0 || ltT (ts.getD (i - 1) zT) (a, m, k)) = true → ∀ j, j < i + 1 → Xa p a ts j = true := by
    intro h j hj
    by_cases e : j = i
    · subst e; rw [hG, hA, beq_self_eq_true, decide_eq_true hk, h]; rfl
    · exact hgood j (by omega)
  by_cases hpos : 0 < i
  case neg =>
    have hk0 : ¬ ((0 : Int) < (i : Int)) := by omega
    simp (maxSteps := 3000000) only [qf, zH, yi, uz, u7, jd, je, xe, xp, xn, vx, yd, kn, we, x9, hli, hli', hd, hf, htl, hb1, hb2, hb3, hb4, hA, zd hok, q9 hok.1, qe, hok.1, xd, xq, List.length_replicate, Nat.le_refl, ud hok.1, vu, hwp, gt_iff_lt, hk, hk0, hw, iE, iN, iB, iC, iL, iD, iA, iS, iM, and_self, qb, zZ, ↓qp, ↓reduceIte, reduceCtorEq, nA, nM, nS, nE, nL, nD]; try simp only [qb, zY]
    refine ⟨_, qz.zw [0, 1] [3, 1] ⟨by decide, ?_⟩ ?_, ⟨i + 1, ?_, by omega, hnext (by simp; omega)⟩, ?_⟩
    · simp only [qc _ _ (qa _), zK, ↓reduceIte, reduceCtorEq, nE, nB, nA]
    · simp only [qc _ _ (qa _), zK, ↓reduceIte, reduceCtorEq, nE, nB, nA]
    · simp only [qd _ _ (qa _), zL, ↓reduceIte, reduceCtorEq, nE, nA]
    · simp only [zL, ↓reduceIte, reduceCtorEq, nE, nA]; omega
  have hk0 : (0 : Int) < (i : Int) := by omega
  have hprev := hgood (i - 1) (by omega)
  have hlt' : i - 1 < ts.length := by omega
  have hw' : q8 .i64 ((i : Int) - 1) = ((i - 1 : Nat) : Int) := by rw [wrap64 (by omega) (by omega)]; omega
  have hd' := kq ht hlt'
  have hok' := ht _ (List.getElem_mem hlt')
  simp only [u5 hlt'] at hnext hprev
  have hlt0 : ts.getD (i - 1) zT = ts[i - 1] := u5 hlt'
  generalize hT' : ts[i - 1] = T' at hd' hok' hprev hnext hlt0
  obtain ⟨a', m', k'⟩ := T'
  simp only at hd' hok' hprev hnext hlt0
  have ha' : a' = a := by
    simp only [Xa, hlt0, Bool.and_eq_true, beq_iff_eq] at hprev
    exact hprev.1.1.2
  subst ha'
  have hc1 : (((i - 1 : Nat) : Int)) < ts.length := by omega
  have hc2 : (0 : Int) ≤ ((i - 1 : Nat) : Int) := by omega
  have hc3 : (i - 1) * 18 < ts.length * 18 := by omega
  have hc4 : (i - 1) * 18 + 18 ≤ ts.length * 18 := by omega
  have hc5 : (i - 1) * 18 + 17 ≤ ts.length * 18 := by omega
  have hn8 : 0 ≤ a' ∧ a' ≤ 8 := by omega
  cases hL : ltT (a', m', k') (a', m, k) with
  | false =>
    have hr := Zv (c := c) (p := p) (n := a') hlt (by rw [hG, hA, beq_self_eq_true, decide_eq_true hk, hlt0, hL]; simp; omega)
    have hL' : Op.bytesLess (xw a'.toNat m') (xw a'.toNat m) = false := hL
    simp (maxSteps := 3000000) only [qf, zH, yi, uz, u7, jd, je, xe, xp, xn, vx, yd, kn, we, x9, hli, hli', hd, hf, htl, hb1, hb2, hb3, hb4, hA, zd hok, q9 hok.1, qe, hok.1, xd, xq, List.length_replicate, Nat.le_refl, ud hok.1, vu, hwp, gt_iff_lt, hk, hk0, hw, hw', hd', hc1, hc2, hc3, hc4, hc5, zd hok', hn8, hL', iE, iN, iB, iC, iL, iD, iA, iS, iM, and_self, qb, zZ, ↓qp, ↓reduceIte, reduceCtorEq, nA, nM, nS, nE, nL, nD]; try simp only [qb, zY]
    first | exact hr | exact hr.symm | exact ⟨⟨_, rfl⟩, hr⟩ | trace_state
  | true =>
    have hL' : Op.bytesLess (xw a'.toNat m') (xw a'.toNat m) = true := hL
    simp (maxSteps := 3000000) only [qf, zH, yi, uz, u7, jd, je, xe, xp, xn, vx, yd, kn, we, x9, hli, hli', hd, hf, htl, hb1, hb2, hb3, hb4, hA, zd hok, q9 hok.1, qe, hok.1, xd, xq, List.length_replicate, Nat.le_refl, ud hok.1, vu, hwp, gt_iff_lt, hk, hk0, hw, hw', hd', hc1, hc2, hc3, hc4, hc5, zd hok', hn8, hL', iE, iN, iB, iC, iL, iD, iA, iS, iM, and_self, qb, zZ, ↓qp, ↓reduceIte, reduceCtorEq, nA, nM, nS, nE, nL, nD]; try simp only [qb, zY]
    refine ⟨_, qz.zw [0, 1] [3, 1] ⟨by decide, ?_⟩ ?_, ⟨i + 1, ?_, by omega, hnext (by rw [hL]; simp)⟩, ?_⟩
    · simp only [qc _ _ (qa _), zK, ↓reduceIte, reduceCtorEq, nE, nB, nA]
    · simp only [qc _ _ (qa _), zK, ↓reduceIte, reduceCtorEq, nE, nB, nA]
    · simp only [qd _ _ (qa _), zL, ↓reduceIte, reduceCtorEq, nE, nA]
    · simp only [zL, ↓reduceIte, reduceCtorEq, nE, nA]; omega
def jc : BE := fun hp xs => match xs with
  | [.agg [.int .i64 p, .int .i64 c, .int .i64 n, .slc b 0 k false 0]] => match rd hp b with
    | some L => match Qz k L with
      | some ts => chk (k ≤ 1000000000) (some (.bool (js p c n ts), hp))
      | none => none
    | _ => none
  | _ => none
theorem qa9 {f : FuncId} (h : ∀ p c n ts, okT ts → ts.length ≤ 1000000000 → Am.Fn Try.prog f [elemV p c n 0 ts.length] [.ro (qq ts)] (fun v H' => v = .bool (js p c n ts) ∧ H' = [.ro (qq ts)])) : Am.Callee Try.prog f jc := Callee.ro1 fun hp xs v hp' he => by
  unfold jc at he
  split at he
  · rename_i p c n b k
    split at he
    · rename_i L hL
      split at he
      · rename_i ts hts
        obtain ⟨h0, he⟩ := qm he
        simp only [Option.some.injEq, Prod.mk.injEq] at he
        obtain ⟨rfl, rfl⟩ := he
        obtain ⟨e1, e2, e3, e4⟩ := xz hts
        have g1 := qt e2
        refine ⟨qq ts, b, [elemV p c n 0 ts.length], rfl, ⟨L, hL, by omega, by rw [g1, e1]; exact e3⟩, qa _, ?_, rfl, ⟨⟨trivial, trivial, trivial, by simp [AV.under], trivial⟩, trivial⟩, rfl, h p c n ts e2 (by omega)⟩
        simp only [elemV, AV.zt, AV.ren, one, if_true, e1, Nat.zero_add]
      · cases he
    · cases he
  · cases he
def B33 : z7 := (B32.put 68 (jc))
theorem qme : ze Try.prog B33 := (qm7.put (qa9 qpx))
end Go.Proofs.Ytkgoadglalpbfaa

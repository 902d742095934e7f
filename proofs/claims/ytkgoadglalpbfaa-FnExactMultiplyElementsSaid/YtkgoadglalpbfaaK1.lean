/- Contracts: two elements that are alike, and elements with not too many terms. -/
import Derived.Test.YtkgoadglalpbfaaJ0
namespace Go.Proofs.Ytkgoadglalpbfaa
open Go.Am Go.Dia
open Nat renaming reduceAdd → nA, reduceMul → nM, reduceSub → nS, reduceEqDiff → nE, reduceLT → nL, reduceLeDiff → nD, reduceBEq → nB
open Int renaming reduceEq → iE, reduceNe → iN, reduceBEq → iB, reduceBNe → iC, reduceLT → iL, reduceLE → iD, reduceAdd → iA, reduceSub → iS, reduceMul → iM
set_option linter.unusedSimpArgs false
set_option linter.unusedVariables false
set_option maxRecDepth 4000
set_option maxHeartbeats 1000000
theorem qm9 {l l' : List AV} (hl : AV.zs l = true) (hl' : AV.zs l' = true) {env : Env} {hp : List AO} {s t j : Nat} {e : Int} (h0 : hp[0]? = some (.ro l)) (h1 : hp[1]? = some (.ro l')) (hs : get env s = .ptr j 0) (hj : hp[j]? = some qdx) (ht : get env t = .int .i64 e) (hst : s ≠ t) :
    ∃ s', qz 2 ⟨env, hp⟩ s' ∧ Ret [.kd s 4, .slot t] [.ro l, .ro l'] (fun v H' => v = .tup [elemV 0 0 0 2 0, .int .i64 e] ∧ H' = [.ro l, .ro l', .vec 18 []]) s' := by
  have hj0 : 0 ≠ j := fun e => by subst e; rw [h0] at hj; cases hj
  have hj1 : 1 ≠ j := fun e => by subst e; rw [h1] at hj; cases hj
  have hk := qz.zw (n0 := 2) (e := env) (hp := hp) [0, 1, j] [s, t] ⟨⟨by simp, rfl, by simp [hj0, hj1]⟩, fun i hi => by
    simp only [List.mem_cons, List.not_mem_nil, or_false] at hi
    rcases hi with rfl | rfl | rfl
    · rw [h0]; exact qc _ _ hl
    · rw [h1]; exact qc _ _ hl'
    · rw [hj]; rfl⟩ fun u hu => by
    simp only [List.mem_cons, List.not_mem_nil, or_false] at hu
    rcases hu with rfl | rfl
    · rw [hs]; simp [AV.within]
    · rw [ht]; rfl
  have e1 : W7 [0, 1, j] env [s, t] = [(s, .ptr 2 0), (t, .int .i64 e)] := by
    simp only [W7, List.map_cons, List.map_nil, hs, ht, AV.ren, G9, pos, if_neg hj0, if_neg hj1, if_true, Nat.zero_add, Nat.add_zero]
  have e2 : zi [0, 1, j] hp = [.ro l, .ro l', qdx] := by
    simp only [zi, List.map_cons, List.map_nil, h0, h1, hj, AO.ren, qd _ _ hl, qd _ _ hl']
    rfl
  rw [e1, e2] at hk
  have hn := qz.qwx (n0 := 2) (hp := [.ro l, .ro l', qdx]) (e := [(s, .ptr 2 0), (t, .int .i64 e)]) 2 3 18 rfl rfl (by simp) (fun p hp => by
    simp only [List.mem_cons, List.not_mem_nil, or_false] at hp
    rcases hp with rfl | rfl
    · simp [AV.under]
    · trivial) (fun o ho => by
    simp only [List.mem_cons, List.not_mem_nil, or_false] at ho
    rcases ho with rfl | rfl | rfl
    · exact qk _ _ hl
    · exact qk _ _ hl'
    · exact ⟨trivial, trivial, trivial, trivial, trivial⟩)
  refine ⟨_, qz.trans hk hn, ?_⟩
  refine Ret.zw [0, 1, 3] ⟨⟨by simp, rfl, by decide⟩, ?_⟩ (rs := [.agg [.int .i64 0, .int .i64 0, .int .i64 0, .slc 3 0 0 false 0], .int .i64 e]) ?_ rfl (by simp [xc]) ?_ ⟨?_, ?_⟩
  · intro i hi
    simp only [List.mem_cons, List.not_mem_nil, or_false] at hi
    rcases hi with rfl | rfl | rfl
    · exact qc _ _ hl
    · exact qc _ _ hl'
    · rfl
  · have hts : t ≠ s := fun e => hst e.symm
    simp [Jl, Am.get, z6, hst, hts, qg, ev, rd, chk]
  · intro i m; match i with
    | 0 => exact fun _ => ⟨_, rfl⟩
    | 1 => exact fun _ => ⟨_, rfl⟩
    | 2 => simp [zi, AO.ren]
    | i + 3 => simp [zi]
  · simp only [xc]
    rfl
  · simp [zi, AO.ren, qd _ _ hl, qd _ _ hl', AV.zt]
theorem qhj {l l' L : List AV} (hl : AV.zs l = true) (hl' : AV.zs l' = true) (hL : AV.zs L = true) {env : Env} {hp : List AO} {s t j b k : Nat} {p c n e : Int} (h0 : hp[0]? = some (.ro l)) (h1 : hp[1]? = some (.ro l')) (hs : get env s = .ptr j 0)
    (hj : hp[j]? = some (.cells [.int .i64 p, .int .i64 c, .int .i64 n, .slc b 0 k false 0])) (hb : hp[b]? = some (.vec 18 L)) (ht : get env t = .int .i64 e) :
    Ret [.kd s 4, .slot t] [.ro l, .ro l'] (fun v H' => v = .tup [elemV p c n 2 k, .int .i64 e] ∧ H' = [.ro l, .ro l', .vec 18 L]) ⟨env, hp⟩ := by
  have hb0 : 0 ≠ b := fun e => by subst e; rw [h0] at hb; cases hb
  have hb1 : 1 ≠ b := fun e => by subst e; rw [h1] at hb; cases hb
  refine Ret.zw [0, 1, b] ⟨⟨by simp, rfl, by simp [hb0, hb1]⟩, ?_⟩ (rs := [.agg [.int .i64 p, .int .i64 c, .int .i64 n, .slc b 0 k false 0], .int .i64 e]) ?_ (by simp [xc, AV.within, AV.x8]) (by simp [xc]) ?_ ⟨?_, ?_⟩
  · intro i hi
    simp only [List.mem_cons, List.not_mem_nil, or_false] at hi
    rcases hi with rfl | rfl | rfl
    · rw [h0]; exact qc _ _ hl
    · rw [h1]; exact qc _ _ hl'
    · rw [hb]; exact qc _ _ hL
  · simp [Jl, hs, ht, qg, ev, rd, hj, chk]
  · intro i m; match i with
    | 0 => exact fun _ => ⟨_, rfl⟩
    | 1 => exact fun _ => ⟨_, rfl⟩
    | 2 => simp [zi, hb, AO.ren]
    | i + 3 => simp [zi]
  · simp only [xc, AV.ren, AV.zt, G9, pos, if_neg hb0, if_neg hb1, if_true]
    rfl
  · simp [zi, h0, h1, hb, AO.ren, qd _ _ hl, qd _ _ hl', qd _ _ hL]
def jf (p c n : Int) (a : List (Int × List Nat × Int)) (p' c' n' : Int) (b : List (Int × List Nat × Int)) : Int :=
  if js p c n a = false ∨ js p' c' n' b = false then 1 else if ¬ (p = p' ∧ c = c' ∧ n = n') then 2 else 0
theorem vm : B53 48 = some (jc) := rfl
theorem ub : B53 68 = some (jc) := rfl
def bu : AC := .seq (.region [o0 2 (.box (.t 0)),o0 3 (.box (.t 1)),oI 4 0]) (.seq (.block 0 (.seq (.region [oN 6 4 2,oC 7 68 [.t 6],o0 8 (.un .not (.t 7)),oM 9 8,oG 10 9 false (.gn 4 (.t 3)),⟨some 11,some (9,false),.call (.c (.fn 68 [] [])) [.t 10]⟩,oG 12 9 false (.un .not (.t 11)),o0 13 (.pick (.t 9) (.c (.bool true)) (.t 12)),oM 5 13]) (.cond 5 (.seq (.region [oI 4 1]) .ret) (.seq (.region [oF 15 0 2,oL 16 15,oF 17 0 3,oL 18 17,oP 19 .neq 16 18,oM 20 19,oG 21 20 false (.ve 1 (.t 2)),oG 22 20 false (.vn (.t 21)),oG 23 20 false (.ve 1 (.t 3)),oG 24 20 false (.vn (.t 23)),oG 25 20 false (.bin .neq (.t 22) (.t 24)),o0 26 (.pick (.t 20) (.c (.bool true)) (.t 25)),oM 27 26,oG 28 27 false (.ve 2 (.t 2)),oG 29 27 false (.vn (.t 28)),oG 30 27 false (.ve 2 (.t 3)),oG 31 27 false (.vn (.t 30)),oG 32 27 false (.bin .neq (.t 29) (.t 31)),o0 33 (.pick (.t 27) (.c (.bool true)) (.t 32)),oM 14 33]) (.cond 14 (.seq (.region [oI 4 2]) .ret) .skip))))) (.seq (.region [oI 4 0]) .ret))
theorem qjb : zy Try.prog 76 = some ⟨34, bu, [.slot 4]⟩ := by kernel_rfl
theorem qj0 (p c n p' c' n' : Int) (a b : List (Int × List Nat × Int)) (ha : okT a) (hb : okT b) (hl : a.length ≤ 1100000 ∧ b.length ≤ 1100000) :
    Am.Fn Try.prog 76 [elemV p c n 0 a.length, elemV p' c' n' 1 b.length] [.ro (qq a), .ro (qq b)] (fun v H' => v = .int .i64 (jf p c n a p' c' n' b) ∧ H' = [.ro (qq a), .ro (qq b)]) := by
  refine Am.Fn.jw (R := fun v => v = _) qcq mixed qjb (by simp [elemV, AV.q7, AV.under]) (kz (qa _) (qa _)) ?_
  have hal := qt ha
  have hbl := qt hb
  have hta := xj ha
  have htb := xj hb
  have hl1 : a.length ≤ 1000000000 := by omega
  have hl2 : b.length ≤ 1000000000 := by omega
  cases hE : js p c n a with
  | false =>
    have e : jf p c n a p' c' n' b = 1 := by unfold jf; rw [if_pos (.inl hE)]
    simp (maxSteps := 3000000) only [qf, zH, bu, vm, ub, jc, elemV, hal, hbl, hta, htb, hl1, hl2, hE, e, iE, iN, iB, iC, iL, iD, iA, iS, iM, qb, zZ, ↓qp, ↓reduceIte, reduceCtorEq, nA, nM, nS, nE, nL, nD]; try simp only [qb, zY]
    exact ⟨_, rfl⟩
  | true =>
    cases hE2 : js p' c' n' b with
    | false =>
      have e : jf p c n a p' c' n' b = 1 := by unfold jf; rw [if_pos (.inr hE2)]
      simp (maxSteps := 3000000) only [qf, zH, bu, vm, ub, jc, elemV, hal, hbl, hta, htb, hl1, hl2, hE, hE2, e, iE, iN, iB, iC, iL, iD, iA, iS, iM, qb, zZ, ↓qp, ↓reduceIte, reduceCtorEq, nA, nM, nS, nE, nL, nD]; try simp only [qb, zY]
      exact ⟨_, rfl⟩
    | true =>
      have e0 : ¬ (js p c n a = false ∨ js p' c' n' b = false) := by rw [hE, hE2]; simp
      by_cases h1 : p = p'
      · have q1 : (p != p') = false := by simp [h1]
        by_cases h2 : c = c'
        · have q2 : (c != c') = false := by simp [h2]
          by_cases h3 : n = n'
          · have q3 : (n != n') = false := by simp [h3]
            have e : jf p c n a p' c' n' b = 0 := by unfold jf; rw [if_neg e0, if_neg (fun h => h ⟨h1, h2, h3⟩)]
            simp (maxSteps := 3000000) only [qf, zH, bu, vm, ub, jc, elemV, hal, hbl, hta, htb, hl1, hl2, hE, hE2, q1, q2, q3, e, iE, iN, iB, iC, iL, iD, iA, iS, iM, qb, zZ, ↓qp, ↓reduceIte, reduceCtorEq, nA, nM, nS, nE, nL, nD]; try simp only [qb, zY]
            exact ⟨_, rfl⟩
          · have q3 : (n != n') = true := by simp [h3]
            have e : jf p c n a p' c' n' b = 2 := by unfold jf; rw [if_neg e0, if_pos (fun h => h3 h.2.2)]
            simp (maxSteps := 3000000) only [qf, zH, bu, vm, ub, jc, elemV, hal, hbl, hta, htb, hl1, hl2, hE, hE2, q1, q2, q3, e, iE, iN, iB, iC, iL, iD, iA, iS, iM, qb, zZ, ↓qp, ↓reduceIte, reduceCtorEq, nA, nM, nS, nE, nL, nD]; try simp only [qb, zY]
            exact ⟨_, rfl⟩
        · have q2 : (c != c') = true := by simp [h2]
          have e : jf p c n a p' c' n' b = 2 := by unfold jf; rw [if_neg e0, if_pos (fun h => h2 h.2.1)]
          simp (maxSteps := 3000000) only [qf, zH, bu, vm, ub, jc, elemV, hal, hbl, hta, htb, hl1, hl2, hE, hE2, q1, q2, e, iE, iN, iB, iC, iL, iD, iA, iS, iM, qb, zZ, ↓qp, ↓reduceIte, reduceCtorEq, nA, nM, nS, nE, nL, nD]; try simp only [qb, zY]
          exact ⟨_, rfl⟩
      · have q1 : (p != p') = true := by simp [h1]
        have e : jf p c n a p' c' n' b = 2 := by unfold jf; rw [if_neg e0, if_pos (fun h => h1 h.1)]
        simp (maxSteps := 3000000) only [qf, zH, bu, vm, ub, jc, elemV, hal, hbl, hta, htb, hl1, hl2, hE, hE2, q1, e, iE, iN, iB, iC, iL, iD, iA, iS, iM, qb, zZ, ↓qp, ↓reduceIte, reduceCtorEq, nA, nM, nS, nE, nL, nD]; try simp only [qb, zY]
        exact ⟨_, rfl⟩
def J3 : BE := fun hp xs => match xs with
  | [.agg [.int .i64 p, .int .i64 c, .int .i64 n, .slc b 0 la false 0], .agg [.int .i64 p', .int .i64 c', .int .i64 n', .slc b' 0 lb false 0]] => match rd hp b, rd hp b' with
    | some L, some L' => match Qz la L, Qz lb L' with
      | some ta, some tb => chk (la ≤ 1100000 ∧ lb ≤ 1100000) (some (.int .i64 (jf p c n ta p' c' n' tb), hp))
      | _, _ => none
    | _, _ => none
  | _ => none
theorem qwn : Am.Callee Try.prog 76 J3 := Callee.fp fun hp xs v hp' he => by
  unfold J3 at he
  split at he
  · rename_i p c n b la p' c' n' b' lb
    split at he
    · rename_i L L' hL hL'
      split at he
      · rename_i ta tb h1 h1'
        obtain ⟨⟨a1, a2⟩, he2⟩ := qm he
        simp only [Option.some.injEq, Prod.mk.injEq] at he2
        obtain ⟨rfl, rfl⟩ := he2
        obtain ⟨e1, e2, e3, e4⟩ := xz h1
        obtain ⟨f1, f2, f3, f4⟩ := xz h1'
        have g1 := qt e2
        have g2 := qt f2
        refine ⟨[(b, 0), (b', 0)], [elemV p c n 0 ta.length, elemV p' c' n' 1 tb.length], _, _, _, qj0 p c n p' c' n' ta tb e2 f2 (by omega), by simp [elemV, AV.ren, AV.zt, ofL, e1, f1], rfl,
          ⟨⟨L, hL, by omega, by rw [List.drop_zero, qd _ _ (qa _), g1, e1]; exact e3⟩, ⟨L', hL', by omega, by rw [List.drop_zero, qd _ _ (qa _), g2, f1]; exact f3⟩, trivial⟩, rfl,
          ⟨qk _ _ (qa _), qk _ _ (qa _), trivial⟩, ⟨⟨trivial, trivial, trivial, by simp [AV.under], trivial⟩, ⟨trivial, trivial, trivial, by simp [AV.under], trivial⟩, trivial⟩, by simp [AV.ren], ?_⟩
        simp [after, upd, AO.wr]
      · cases he
    · cases he
  · cases he
def Vo : AC := .seq (.region [oB 4 false]) (.seq (.draw false [oM 5 0,o0 6 (.j3 (.t 5)),oF 7 0 6,oL 8 7,oM 9 1,o0 10 (.j3 (.t 9)),oF 11 0 10,oL 12 11,oP 13 .eql 8 12,oM 14 13,oG 15 14 true (.mov (.t 0)),oG 16 14 true (.j3 (.t 15)),oG 17 14 true (.ve 1 (.t 16)),oG 18 14 true (.vn (.t 17)),oG 19 14 true (.mov (.t 1)),oG 20 14 true (.j3 (.t 19)),oG 21 14 true (.ve 1 (.t 20)),oG 22 14 true (.vn (.t 21)),oG 23 14 true (.bin .eql (.t 18) (.t 22)),o0 24 (.pick (.t 14) (.t 23) (.c (.bool false))),oM 25 24,oG 26 25 true (.mov (.t 0)),oG 27 25 true (.j3 (.t 26)),oG 28 25 true (.ve 2 (.t 27)),oG 29 25 true (.vn (.t 28)),oG 30 25 true (.mov (.t 1)),oG 31 25 true (.j3 (.t 30)),oG 32 25 true (.ve 2 (.t 31)),oG 33 25 true (.vn (.t 32)),oG 34 25 true (.bin .eql (.t 29) (.t 33)),o0 35 (.pick (.t 25) (.t 34) (.c (.bool false))),oM 4 35]) .ret)
theorem qoo : zy Try.prog 118 = some ⟨36, Vo, [.slot 4]⟩ := by kernel_rfl
theorem quk (p c n p' c' n' : Int) : Am.Fn Try.prog 118 [.ptr 0 0, .ptr 1 0] [.ro [.int .i64 p, .int .i64 c, .int .i64 n], .ro [.int .i64 p', .int .i64 c', .int .i64 n']] (fun v H' => v = .bool (decide (p = p' ∧ c = c' ∧ n = n')) ∧ H' = [.ro [.int .i64 p, .int .i64 c, .int .i64 n], .ro [.int .i64 p', .int .i64 c', .int .i64 n']]) := by
  refine Am.Fn.jw (R := fun v => v = _) qcq mixed qoo (by simp [AV.q7, AV.under]) (kz rfl rfl) ?_
  by_cases h1 : p = p'
  · have q1 : (p == p') = true := by simp [h1]
    by_cases h2 : c = c'
    · have q2 : (c == c') = true := by simp [h2]
      by_cases h3 : n = n'
      · have q3 : (n == n') = true := by simp [h3]
        have e : decide (p = p' ∧ c = c' ∧ n = n') = true := by simp [h1, h2, h3]
        simp (maxSteps := 3000000) only [qf, zH, Vo, q1, q2, q3, e, iE, iN, iB, iC, iL, iD, iA, iS, iM, qb, zZ, ↓qp, ↓reduceIte, reduceCtorEq, nA, nM, nS, nE, nL, nD]; try simp only [qb, zY]
        exact ⟨_, rfl⟩
      · have q3 : (n == n') = false := by rw [beq_eq_false_iff_ne]; exact h3
        have e : decide (p = p' ∧ c = c' ∧ n = n') = false := by simp [h3]
        simp (maxSteps := 3000000) only [qf, zH, Vo, q1, q2, q3, e, iE, iN, iB, iC, iL, iD, iA, iS, iM, qb, zZ, ↓qp, ↓reduceIte, reduceCtorEq, nA, nM, nS, nE, nL, nD]; try simp only [qb, zY]
        exact ⟨_, rfl⟩
    · have q2 : (c == c') = false := by rw [beq_eq_false_iff_ne]; exact h2
      have e : decide (p = p' ∧ c = c' ∧ n = n') = false := by simp [h2]
      simp (maxSteps := 3000000) only [qf, zH, Vo, q1, q2, e, iE, iN, iB, iC, iL, iD, iA, iS, iM, qb, zZ, ↓qp, ↓reduceIte, reduceCtorEq, nA, nM, nS, nE, nL, nD]; try simp only [qb, zY]
      exact ⟨_, rfl⟩
  · have q1 : (p == p') = false := by rw [beq_eq_false_iff_ne]; exact h1
    have e : decide (p = p' ∧ c = c' ∧ n = n') = false := by simp [h1]
    simp (maxSteps := 3000000) only [qf, zH, Vo, q1, e, iE, iN, iB, iC, iL, iD, iA, iS, iM, qb, zZ, ↓qp, ↓reduceIte, reduceCtorEq, nA, nM, nS, nE, nL, nD]; try simp only [qb, zY]
    exact ⟨_, rfl⟩
def gh : BE := fun hp xs => match xs with
  | [.ptr b o, .ptr b' o'] => match rd hp b, rd hp b' with
    | some L, some L' => match (L.drop o).take 3, (L'.drop o').take 3 with
      | [.int .i64 p, .int .i64 c, .int .i64 n], [.int .i64 p', .int .i64 c', .int .i64 n'] => some (.bool (decide (p = p' ∧ c = c' ∧ n = n')), hp)
      | _, _ => none
    | _, _ => none
  | _ => none
theorem qa3 {α : Type} {L : List α} {o k : Nat} {l : List α} (h : (L.drop o).take k = l) (hk : l.length = k) (h0 : 0 < k) : o + k ≤ L.length := by
  have := congrArg List.length h
  rw [List.length_take, List.length_drop, hk] at this
  omega
theorem qvl : Am.Callee Try.prog 118 gh := Callee.fp fun hp xs v hp' he => by
  unfold gh at he
  split at he
  · rename_i b o b' o'
    split at he
    · rename_i L L' hL hL'
      split at he
      · rename_i p c n p' c' n' h1 h2
        simp only [Option.some.injEq, Prod.mk.injEq] at he
        obtain ⟨rfl, rfl⟩ := he
        refine ⟨[(b, o), (b', o')], [.ptr 0 0, .ptr 1 0], _, _, _, quk p c n p' c' n', by simp [AV.ren, AV.zt, ofL], rfl, ⟨⟨L, hL, qa3 (k := 3) h1 rfl (by decide), by rw [qd _ _ rfl]; exact h1⟩, ⟨L', hL', qa3 (k := 3) h2 rfl (by decide), by rw [qd _ _ rfl]; exact h2⟩, trivial⟩, rfl, ⟨⟨trivial, trivial, trivial, trivial⟩, ⟨trivial, trivial, trivial, trivial⟩, trivial⟩, ⟨by simp [AV.under], by simp [AV.under], trivial⟩, by simp [AV.ren], ?_⟩
        simp [after, upd, AO.wr]
      · cases he
    · cases he
  · cases he
theorem qna {env : Env} {hp : List AO} {s t j : Nat} {e : Int} (h0 : hp[0]? = some .dead) (hs : get env s = .ptr j 0) (hj : hp[j]? = some qdx) (ht : get env t = .int .i64 e) (hst : s ≠ t) :
    ∃ s', qz 1 ⟨env, hp⟩ s' ∧ Ret [.kd s 4, .slot t] [.dead] (fun v H' => v = .tup [elemV 0 0 0 1 0, .int .i64 e] ∧ H' = [.dead, .vec 18 []]) s' := by
  have hj0 : j ≠ 0 := fun e => by subst e; rw [h0] at hj; cases hj
  have hj0' : 0 ≠ j := fun e => hj0 e.symm
  have hk := qz.zw (n0 := 1) (e := env) (hp := hp) [0, j] [s, t] ⟨⟨by simp, rfl, by simp [hj0']⟩, fun i hi => by
    simp only [List.mem_cons, List.not_mem_nil, or_false] at hi
    rcases hi with rfl | rfl
    · rw [h0]; rfl
    · rw [hj]; rfl⟩ fun u hu => by
    simp only [List.mem_cons, List.not_mem_nil, or_false] at hu
    rcases hu with rfl | rfl
    · rw [hs]; simp [AV.within]
    · rw [ht]; rfl
  have e1 : W7 [0, j] env [s, t] = [(s, .ptr 1 0), (t, .int .i64 e)] := by
    simp only [W7, List.map_cons, List.map_nil, hs, ht, AV.ren, G9, pos, if_neg hj0', if_true, Nat.zero_add, Nat.add_zero]
  have e2 : zi [0, j] hp = [.dead, qdx] := by
    simp only [zi, List.map_cons, List.map_nil, h0, hj, AO.ren]
    rfl
  rw [e1, e2] at hk
  have hn := qz.qwx (n0 := 1) (hp := [.dead, qdx]) (e := [(s, .ptr 1 0), (t, .int .i64 e)]) 1 3 18 rfl rfl (by simp) (fun p hp => by
    simp only [List.mem_cons, List.not_mem_nil, or_false] at hp
    rcases hp with rfl | rfl
    · simp [AV.under]
    · trivial) (fun o ho => by
    simp only [List.mem_cons, List.not_mem_nil, or_false] at ho
    rcases ho with rfl | rfl
    · trivial
    · exact ⟨trivial, trivial, trivial, trivial, trivial⟩)
  refine ⟨_, qz.trans hk hn, ?_⟩
  refine Ret.zw [0, 2] ⟨⟨by simp, rfl, by decide⟩, ?_⟩ (rs := [.agg [.int .i64 0, .int .i64 0, .int .i64 0, .slc 2 0 0 false 0], .int .i64 e]) ?_ rfl (by simp [xc]) ?_ ⟨?_, ?_⟩
  · intro i hi
    simp only [List.mem_cons, List.not_mem_nil, or_false] at hi
    rcases hi with rfl | rfl
    · rfl
    · rfl
  · have hts : t ≠ s := fun e => hst e.symm
    simp [Jl, Am.get, z6, hst, hts, qg, ev, rd, chk]
  · intro i m; match i with
    | 0 => simp [zi, AO.ren]
    | 1 => simp [zi, AO.ren]
    | i + 2 => simp [zi]
  · simp only [xc]
    rfl
  · simp [zi, AO.ren, AV.zt]
def Yo : AC := .seq (.region [o0 1 (.box (.t 0)),o0 2 (.alloc [.int .i64 0,.int .i64 0,.int .i64 0,(.v (.slice none 0 0))]),oI 3 0]) (.seq (.seq (.region [oF 4 3 1,oL 5 4,o0 6 (.len .slc (.t 5)),oK 7 .gtr 6 140]) (.cond 7 (.seq (.region [o0 8 (.build [.int .i64 0,.int .i64 0,.int .i64 0,(.v (.slice none 0 0))] []),oS 4 2 8,oI 3 3]) .ret) .skip)) (.seq (.region [oN 9 4 1,oS 4 2 9,oI 3 0]) .ret))
theorem qie : zy Try.prog 79 = some ⟨10, Yo, [.kd 2 4, .slot 3]⟩ := by kernel_rfl
theorem qo6 (p c n : Int) (k : Nat) (hk : k ≤ 1100000) : Am.Fn Try.prog 79 [elemV p c n 0 k] [.dead] (fun v H' => if k ≤ 140 then v = .tup [elemV p c n 0 k, .int .i64 0] ∧ H' = [.dead] else v = .tup [elemV 0 0 0 1 0, .int .i64 3] ∧ H' = [.dead, .vec 18 []]) := by
  refine Am.Fn.ofW qcq mixed qie (by simp [elemV, AV.q7, AV.under]) (fun j o hj => by
    match j, hj with
    | 0, hj => cases hj; trivial
    | j + 1, hj => simp at hj) ?_
  by_cases hle : k ≤ 140
  · have h1 : ¬ ((140 : Int) < (k : Int)) := by omega
    simp (maxSteps := 3000000) only [qf, zH, Yo, elemV, hle, h1, iE, iN, iB, iC, iL, iD, iA, iS, iM, qb, zZ, ↓qp, ↓reduceIte, reduceCtorEq, nA, nM, nS, nE, nL, nD]; try simp only [qb, zY]
    refine ⟨rfl, _, qz.refl _, ?_⟩
    refine Ret.zw [0] ⟨⟨by simp, rfl, by decide⟩, ?_⟩ (rs := [.agg [.int .i64 p, .int .i64 c, .int .i64 n, .slc 0 0 k false 0], .int .i64 0]) rfl rfl (by simp [xc]) ?_ ⟨?_, ?_⟩
    · simp only [AO.within, zK, ↓reduceIte, reduceCtorEq, nE, nB, nA]
    · intro j l; match j with
      | 0 => simp [zi, AO.ren]
      | j + 1 => simp [zi]
    · simp only [xc]
      simp only [zL, ↓reduceIte, reduceCtorEq, nE, nA]
    · simp only [zL, ↓reduceIte, reduceCtorEq, nE, nA]
  · have h1 : ((140 : Int) < (k : Int)) := by omega
    simp (maxSteps := 3000000) only [qf, zH, Yo, elemV, hle, h1, iE, iN, iB, iC, iL, iD, iA, iS, iM, qb, zZ, ↓qp, ↓reduceIte, reduceCtorEq, nA, nM, nS, nE, nL, nD]; try simp only [qb, zY]
    exact ⟨rfl, qna rfl rfl rfl rfl (by decide)⟩
def Yl : AC := .seq (.region [o0 1 (.box (.t 0)),o0 2 (.alloc [.int .i64 0,.int .i64 0,.int .i64 0,(.v (.slice none 0 0))]),oI 3 0]) (.seq (.seq (.region [oF 4 3 1,oL 5 4,o0 6 (.len .slc (.t 5)),oK 7 .gtr 6 140]) (.cond 7 (.seq (.region [o0 8 (.build [.int .i64 0,.int .i64 0,.int .i64 0,(.v (.slice none 0 0))] []),oS 4 2 8,oI 3 3]) .ret) .skip)) (.seq (.region [oN 9 4 1,oS 4 2 9,oI 3 0]) .ret))
theorem qig : zy Try.prog 77 = some ⟨10, Yl, [.kd 2 4, .slot 3]⟩ := by kernel_rfl
theorem qxp (p c n : Int) (k : Nat) (hk : k ≤ 1100000) : Am.Fn Try.prog 77 [elemV p c n 0 k] [.dead] (fun v H' => if k ≤ 140 then v = .tup [elemV p c n 0 k, .int .i64 0] ∧ H' = [.dead] else v = .tup [elemV 0 0 0 1 0, .int .i64 3] ∧ H' = [.dead, .vec 18 []]) := by
  refine Am.Fn.ofW qcq mixed qig (by simp [elemV, AV.q7, AV.under]) (fun j o hj => by
    match j, hj with
    | 0, hj => cases hj; trivial
    | j + 1, hj => simp at hj) ?_
  by_cases hle : k ≤ 140
  · have h1 : ¬ ((140 : Int) < (k : Int)) := by omega
    simp (maxSteps := 3000000) only [qf, zH, Yl, elemV, hle, h1, iE, iN, iB, iC, iL, iD, iA, iS, iM, qb, zZ, ↓qp, ↓reduceIte, reduceCtorEq, nA, nM, nS, nE, nL, nD]; try simp only [qb, zY]
    refine ⟨rfl, _, qz.refl _, ?_⟩
    refine Ret.zw [0] ⟨⟨by simp, rfl, by decide⟩, ?_⟩ (rs := [.agg [.int .i64 p, .int .i64 c, .int .i64 n, .slc 0 0 k false 0], .int .i64 0]) rfl rfl (by simp [xc]) ?_ ⟨?_, ?_⟩
    · simp only [AO.within, zK, ↓reduceIte, reduceCtorEq, nE, nB, nA]
    · intro j l; match j with
      | 0 => simp [zi, AO.ren]
      | j + 1 => simp [zi]
    · simp only [xc]
      simp only [zL, ↓reduceIte, reduceCtorEq, nE, nA]
    · simp only [zL, ↓reduceIte, reduceCtorEq, nE, nA]
  · have h1 : ((140 : Int) < (k : Int)) := by omega
    simp (maxSteps := 3000000) only [qf, zH, Yl, elemV, hle, h1, iE, iN, iB, iC, iL, iD, iA, iS, iM, qb, zZ, ↓qp, ↓reduceIte, reduceCtorEq, nA, nM, nS, nE, nL, nD]; try simp only [qb, zY]
    exact ⟨rfl, qna rfl rfl rfl rfl (by decide)⟩
def Yb : BE := fun hp xs => match xs with
  | [.agg [.int .i64 p, .int .i64 c, .int .i64 n, .slc b 0 k false 0]] => match hp[b]? with
    | some _ => chk (k ≤ 1100000) (if k ≤ 140 then some (.tup [elemV p c n b k, .int .i64 0], hp) else some (.tup [elemV 0 0 0 hp.length 0, .int .i64 3], hp ++ [.vec 18 []]))
    | none => none
  | _ => none
theorem qi7 {f : FuncId} (h : ∀ p c n k, k ≤ 1100000 → Am.Fn Try.prog f [elemV p c n 0 k] [.dead] (fun v H' => if k ≤ 140 then v = .tup [elemV p c n 0 k, .int .i64 0] ∧ H' = [.dead] else v = .tup [elemV 0 0 0 1 0, .int .i64 3] ∧ H' = [.dead, .vec 18 []])) : Am.Callee Try.prog f Yb := Callee.fp fun hp xs v hp' he => by
  unfold Yb at he
  split at he
  · rename_i p c n b k
    split at he
    · rename_i o ho
      obtain ⟨a1, he2⟩ := qm he
      have hb := (List.getElem?_eq_some_iff.1 ho).1
      by_cases hle : k ≤ 140
      · rw [if_pos hle] at he2
        simp only [Option.some.injEq, Prod.mk.injEq] at he2
        obtain ⟨rfl, rfl⟩ := he2
        have hfn := h p c n k a1
        simp only [if_pos hle] at hfn
        refine ⟨[(b, 0)], [elemV p c n 0 k], _, _, _, hfn, by simp [elemV, AV.ren, AV.zt, ofL], rfl, ⟨hb, trivial⟩, rfl, ⟨trivial, trivial⟩, ⟨⟨trivial, trivial, trivial, by simp [AV.under], trivial⟩, trivial⟩, by simp [elemV, AV.ren, AV.zt, Ren.ext, ofL], ?_⟩
        simp [after, upd, AO.wr]
      · rw [if_neg hle] at he2
        simp only [Option.some.injEq, Prod.mk.injEq] at he2
        obtain ⟨rfl, rfl⟩ := he2
        have hfn := h p c n k a1
        simp only [if_neg hle] at hfn
        refine ⟨[(b, 0)], [elemV p c n 0 k], _, _, _, hfn, by simp [elemV, AV.ren, AV.zt, ofL], rfl, ⟨hb, trivial⟩, rfl, ⟨trivial, trivial⟩, ⟨⟨trivial, trivial, trivial, by simp [AV.under], trivial⟩, trivial⟩, by simp [elemV, AV.ren, AV.zt, Ren.ext], ?_⟩
        simp [after, upd, AO.wr, AO.ren, AV.zt]
    · cases he
  · cases he
def B70 : z7 := ((((B53.put 76 (J3)).put 118 (gh)).put 79 (Yb)).put 77 (Yb))
theorem qhe : ze Try.prog B70 := ((((qcq.put (qwn)).put (qvl)).put (qi7 qo6)).put (qi7 qxp))
theorem xu : B70 48 = some (jc) := rfl
theorem j6 : B70 68 = some (jc) := rfl
theorem j4 : B70 118 = some (gh) := rfl
abbrev W8 (p c n : Int) (la : Nat) (p' c' n' : Int) (lb : Nat) : List AV := [.int .i64 p, .int .i64 c, .int .i64 n, .slc 1 0 la false 0, .int .i64 p', .int .i64 c', .int .i64 n', .slc 2 0 lb false 0]
def gf : AC := .seq (.region [oP 10 .lss 9 8]) (.seq (.cond 10 .skip (.exit 0)) (.seq (.block 1 (.seq (.region [oX 11 4 7 9,oN 12 4 11,o0 4 (.alloc [.int .i64 0,.int .i64 0,.int .i64 0,(.v (.slice none 0 0))]),oS 4 4 12]) (.seq (.region [oN 13 4 4,oC 14 48 [.t 13],o0 15 (.un .not (.t 14))]) (.cond 15 (.seq (.region [oI 2 1]) .ret) .skip)))) (.region [oK 16 .add 9 1,oM 9 16])))
def Qk : AC := .seq (.region [oP 20 .lss 19 18]) (.seq (.cond 20 .skip (.exit 2)) (.seq (.block 3 (.seq (.region [oX 21 4 17 19,oN 22 4 21,o0 6 (.alloc [.int .i64 0,.int .i64 0,.int .i64 0,(.v (.slice none 0 0))]),oS 4 6 22]) (.seq (.region [oM 23 0,o0 24 (.Qu 4 (.t 23) (.c (.int .i64 0))),oC 25 118 [.t 6,.t 24],o0 26 (.un .not (.t 25))]) (.cond 26 (.seq (.region [oI 2 2]) .ret) .skip)))) (.region [oK 27 .add 19 1,oM 19 27])))
def Kq : AC := .seq (.region [oI 2 0]) .ret
def G8 : AC := .seq (.seq (.region [oM 17 0,o0 18 (.len .slc (.t 17)),oI 19 0]) (.block 2 (.loop Qk))) Kq
def qfi : AC := .seq (.region [oI 2 0]) (.seq (.seq (.region [oM 7 0,o0 8 (.len .slc (.t 7)),oI 9 0]) (.block 0 (.loop gf))) G8)
theorem qoq : zy Try.prog 78 = some ⟨28, qfi, [.slot 2]⟩ := by kernel_rfl
theorem qvn (p c n p' c' n' : Int) (a b : List (Int × List Nat × Int)) (ha : okT a) (hb : okT b) (hl : a.length ≤ 1100000 ∧ b.length ≤ 1100000) :
    Am.Fn Try.prog 78 [.slc 0 0 2 true 2] [.ro (W8 p c n a.length p' c' n' b.length), .ro (qq a), .ro (qq b)] (fun v H' => v = .int .i64 (jf p c n a p' c' n' b) ∧ H' = [.ro (W8 p c n a.length p' c' n' b.length), .ro (qq a), .ro (qq b)]) := by
  refine Am.Fn.jw (R := fun v => v = _) qhe mixed qoq (by simp [AV.q7, AV.under]) (fun j o hj => by
    match j, hj with
    | 0, hj => cases hj; exact ⟨trivial, trivial, trivial, by simp [AV.under], trivial, trivial, trivial, by simp [AV.under], trivial⟩
    | 1, hj => cases hj; exact qk _ _ (qa _)
    | 2, hj => cases hj; exact qk _ _ (qa _)
    | j + 3, hj => simp at hj) ?_
  have hal := qt ha
  have hbl := qt hb
  have hta := xj ha
  have htb := xj hb
  have hl1 : a.length ≤ 1000000000 := by omega
  have hl2 : b.length ≤ 1000000000 := by omega
  simp (maxSteps := 3000000) only [qf, zH, qfi, W8, iE, iN, iB, iC, iL, iD, iA, iS, iM, qb, zZ, ↓qp, ↓reduceIte, reduceCtorEq, nA, nM, nS, nE, nL, nD]; try simp only [qb, zY]
  refine WA.j8 qhe (fun s => ∃ i : Int, (i = 0 ∨ (i = 1 ∧ js p c n a = true) ∨ (i = 2 ∧ js p c n a = true ∧ js p' c' n' b = true)) ∧ s = ⟨[(9, .int .i64 i), (8, .int .i64 2), (7, .slc 0 0 2 true 2), (0, .slc 0 0 2 true 2)], [.ro (W8 p c n a.length p' c' n' b.length), .ro (qq a), .ro (qq b)]⟩)
    (fun s => match get s.env 9 with | .int _ x => (2 - x).toNat | _ => 0) ⟨_, qz.zc [9, 8, 7, 0], 0, .inl rfl, rfl⟩ ?_
  rintro s ⟨i, hi, rfl⟩
  rcases hi with rfl | ⟨rfl, hE⟩ | ⟨rfl, hE, hE2⟩
  · cases hE : js p c n a with
    | false =>
      have e : jf p c n a p' c' n' b = 1 := by unfold jf; rw [if_pos (.inl hE)]
      simp (maxSteps := 3000000) only [qf, zH, gf, xu, j6, j4, gh, jc, W8, qf, Int.toNat_zero, Nat.zero_mul, hal, hta, hl1, hE, e, iE, iN, iB, iC, iL, iD, iA, iS, iM, qb, zZ, ↓qp, ↓reduceIte, reduceCtorEq, nA, nM, nS, nE, nL, nD]; try simp only [qb, zY]
      exact ⟨by decide, rfl, ⟨_, rfl⟩⟩
    | true =>
      have hw : q8 .i64 1 = 1 := rfl
      simp (maxSteps := 3000000) only [qf, zH, gf, xu, j6, j4, gh, jc, W8, qf, Int.toNat_zero, Nat.zero_mul, hal, hta, hl1, hE, hw, iE, iN, iB, iC, iL, iD, iA, iS, iM, qb, zZ, ↓qp, ↓reduceIte, reduceCtorEq, nA, nM, nS, nE, nL, nD]; try simp only [qb, zY]
      refine ⟨by decide, rfl, _, qz.zw [0, 1, 2] [9, 8, 7, 0] ⟨by decide, ?_⟩ ?_, ⟨1, .inr (.inl rfl), ?_⟩, ?_⟩
      · simp only [qc _ _ (qa _), zK, ↓reduceIte, reduceCtorEq, nE, nB, nA]
      · simp only [zK, ↓reduceIte, reduceCtorEq, nE, nB, nA]
      · simp only [qd _ _ (qa _), zL, ↓reduceIte, reduceCtorEq, nE, nA]
      · simp only [zL, ↓reduceIte, reduceCtorEq, nE, nA]; decide
  · cases hE2 : js p' c' n' b with
    | false =>
      have e : jf p c n a p' c' n' b = 1 := by unfold jf; rw [if_pos (.inr hE2)]
      simp (maxSteps := 3000000) only [qf, zH, gf, xu, j6, j4, gh, jc, W8, qf, Int.toNat_one, Nat.one_mul, hbl, htb, hl2, hE2, e, iE, iN, iB, iC, iL, iD, iA, iS, iM, qb, zZ, ↓qp, ↓reduceIte, reduceCtorEq, nA, nM, nS, nE, nL, nD]; try simp only [qb, zY]
      exact ⟨by decide, rfl, ⟨_, rfl⟩⟩
    | true =>
      have hw : q8 .i64 2 = 2 := rfl
      simp (maxSteps := 3000000) only [qf, zH, gf, xu, j6, j4, gh, jc, W8, qf, Int.toNat_one, Nat.one_mul, hbl, htb, hl2, hE, hE2, hw, iE, iN, iB, iC, iL, iD, iA, iS, iM, qb, zZ, ↓qp, ↓reduceIte, reduceCtorEq, nA, nM, nS, nE, nL, nD]; try simp only [qb, zY]
      refine ⟨by decide, rfl, _, qz.zw [0, 1, 2] [9, 8, 7, 0] ⟨by decide, ?_⟩ ?_, ⟨2, .inr (.inr rfl), ?_⟩, ?_⟩
      · simp only [qc _ _ (qa _), zK, ↓reduceIte, reduceCtorEq, nE, nB, nA]
      · simp only [zK, ↓reduceIte, reduceCtorEq, nE, nB, nA]
      · simp only [qd _ _ (qa _), zL, ↓reduceIte, reduceCtorEq, nE, nA]
      · simp only [zL, ↓reduceIte, reduceCtorEq, nE, nA]; decide
  · have e0 : ¬ (js p c n a = false ∨ js p' c' n' b = false) := by rw [hE, hE2]; simp
    simp (maxSteps := 3000000) only [qf, zH, gf, G8, xu, j6, j4, gh, jc, W8, iE, iN, iB, iC, iL, iD, iA, iS, iM, qb, zZ, ↓qp, ↓reduceIte, reduceCtorEq, nA, nM, nS, nE, nL, nD]; try simp only [qb, zY]
    refine WA.j8 qhe (fun s => ∃ i : Int, (i = 0 ∨ i = 1 ∨ (i = 2 ∧ p' = p ∧ c' = c ∧ n' = n)) ∧ s = ⟨[(19, .int .i64 i), (18, .int .i64 2), (17, .slc 0 0 2 true 2), (0, .slc 0 0 2 true 2)], [.ro (W8 p c n a.length p' c' n' b.length), .ro (qq a), .ro (qq b)]⟩)
      (fun s => match get s.env 19 with | .int _ x => (2 - x).toNat | _ => 0) ⟨_, qz.zc [19, 18, 17, 0], 0, .inl rfl, rfl⟩ ?_
    rintro s ⟨i, hi, rfl⟩
    rcases hi with rfl | rfl | ⟨rfl, h1, h2, h3⟩
    · have hw : q8 .i64 1 = 1 := rfl
      have hy : decide (p = p ∧ c = c ∧ n = n) = true := by simp
      simp (maxSteps := 3000000) only [qf, zH, Qk, xu, j6, j4, gh, jc, W8, qf, Int.toNat_zero, Nat.zero_mul, hw, hy, iE, iN, iB, iC, iL, iD, iA, iS, iM, qb, zZ, ↓qp, ↓reduceIte, reduceCtorEq, nA, nM, nS, nE, nL, nD]; try simp only [qb, zY]
      refine ⟨by decide, rfl, by decide, _, qz.zw [0, 1, 2] [19, 18, 17, 0] ⟨by decide, ?_⟩ ?_, ⟨1, .inr (.inl rfl), ?_⟩, ?_⟩
      · simp only [qc _ _ (qa _), zK, ↓reduceIte, reduceCtorEq, nE, nB, nA]
      · simp only [zK, ↓reduceIte, reduceCtorEq, nE, nB, nA]
      · simp only [qd _ _ (qa _), zL, ↓reduceIte, reduceCtorEq, nE, nA]
      · simp only [zL, ↓reduceIte, reduceCtorEq, nE, nA]; decide
    · by_cases hy : p' = p ∧ c' = c ∧ n' = n
      · have hy' : decide (p' = p ∧ c' = c ∧ n' = n) = true := decide_eq_true hy
        have hw : q8 .i64 2 = 2 := rfl
        simp (maxSteps := 3000000) only [qf, zH, Qk, xu, j6, j4, gh, jc, W8, qf, Int.toNat_one, Nat.one_mul, Int.toNat_zero, Nat.zero_mul, hw, hy', iE, iN, iB, iC, iL, iD, iA, iS, iM, qb, zZ, ↓qp, ↓reduceIte, reduceCtorEq, nA, nM, nS, nE, nL, nD]; try simp only [qb, zY]
        refine ⟨by decide, rfl, by decide, _, qz.zw [0, 1, 2] [19, 18, 17, 0] ⟨by decide, ?_⟩ ?_, ⟨2, .inr (.inr ⟨rfl, hy⟩), ?_⟩, ?_⟩
        · simp only [qc _ _ (qa _), zK, ↓reduceIte, reduceCtorEq, nE, nB, nA]
        · simp only [zK, ↓reduceIte, reduceCtorEq, nE, nB, nA]
        · simp only [qd _ _ (qa _), zL, ↓reduceIte, reduceCtorEq, nE, nA]
        · simp only [zL, ↓reduceIte, reduceCtorEq, nE, nA]; decide
      · have hy' : decide (p' = p ∧ c' = c ∧ n' = n) = false := decide_eq_false hy
        have e : jf p c n a p' c' n' b = 2 := by unfold jf; rw [if_neg e0, if_pos (fun h => hy ⟨h.1.symm, h.2.1.symm, h.2.2.symm⟩)]
        simp (maxSteps := 3000000) only [qf, zH, Qk, xu, j6, j4, gh, jc, W8, qf, Int.toNat_one, Nat.one_mul, Int.toNat_zero, Nat.zero_mul, hy', e, iE, iN, iB, iC, iL, iD, iA, iS, iM, qb, zZ, ↓qp, ↓reduceIte, reduceCtorEq, nA, nM, nS, nE, nL, nD]; try simp only [qb, zY]
        exact ⟨by decide, rfl, by decide, ⟨_, rfl⟩⟩
    · have e : jf p c n a p' c' n' b = 0 := by unfold jf; rw [if_neg e0, if_neg (fun h => h ⟨h1.symm, h2.symm, h3.symm⟩)]
      simp (maxSteps := 3000000) only [qf, zH, Qk, Kq, xu, j6, j4, gh, jc, W8, e, iE, iN, iB, iC, iL, iD, iA, iS, iM, qb, zZ, ↓qp, ↓reduceIte, reduceCtorEq, nA, nM, nS, nE, nL, nD]; try simp only [qb, zY]
      exact ⟨_, rfl⟩
def Zi : BE := fun hp xs => match xs with
  | [.slc b 0 2 true 2] => match rd hp b with
    | some [.int .i64 p, .int .i64 c, .int .i64 n, .slc b1 0 la false 0, .int .i64 p', .int .i64 c', .int .i64 n', .slc b2 0 lb false 0] => match rd hp b1, rd hp b2 with
      | some L, some L' => match Qz la L, Qz lb L' with
        | some ta, some tb => chk (la ≤ 1100000 ∧ lb ≤ 1100000) (some (.int .i64 (jf p c n ta p' c' n' tb), hp))
        | _, _ => none
      | _, _ => none
    | _ => none
  | _ => none
theorem qux : Am.Callee Try.prog 78 Zi := Callee.fp fun hp xs v hp' he => by
  unfold Zi at he
  split at he
  · rename_i b
    split at he
    · rename_i p c n b1 la p' c' n' b2 lb hL0
      split at he
      · rename_i L L' hL hL'
        split at he
        · rename_i ta tb h1 h1'
          obtain ⟨⟨a1, a2⟩, he2⟩ := qm he
          simp only [Option.some.injEq, Prod.mk.injEq] at he2
          obtain ⟨rfl, rfl⟩ := he2
          obtain ⟨e1, e2, e3, e4⟩ := xz h1
          obtain ⟨f1, f2, f3, f4⟩ := xz h1'
          have g1 := qt e2
          have g2 := qt f2
          refine ⟨[(b, 0), (b1, 0), (b2, 0)], [.slc 0 0 2 true 2], _, _, _, qvn p c n p' c' n' ta tb e2 f2 (by omega), by simp [AV.ren, AV.zt, ofL], rfl,
            ⟨⟨_, hL0, by simp, by simp [AV.zt, AV.ren, ofL, e1, f1]⟩, ⟨L, hL, by omega, by rw [List.drop_zero, qd _ _ (qa _), g1, e1]; exact e3⟩, ⟨L', hL', by omega, by rw [List.drop_zero, qd _ _ (qa _), g2, f1]; exact f3⟩, trivial⟩, rfl,
            ⟨⟨trivial, trivial, trivial, by simp [AV.under], trivial, trivial, trivial, by simp [AV.under], trivial⟩, qk _ _ (qa _), qk _ _ (qa _), trivial⟩, ⟨by simp [AV.under], trivial⟩, by simp [AV.ren], ?_⟩
          simp [after, upd, AO.wr]
        · cases he
      · cases he
    · cases he
  · cases he
def B79 : z7 := (B70.put 78 (Zi))
theorem qmg : ze Try.prog B79 := (qhe.put (qux))
def qnd (l l' : List AV) (r : ER) (v : AV) (H' : List AO) : Prop :=
  v = .tup [elemV r.1 r.2.1 r.2.2.1 2 r.2.2.2.1.length, .int .i64 r.2.2.2.2] ∧ H' = [.ro l, .ro l', .vec 18 (qq r.2.2.2.1)]
def wu (R : Int → Int → Int → List (Int × List Nat × Int) → Int → Int → Int → List (Int × List Nat × Int) → ER) : BE := fun hp xs => match xs with
  | [.agg [.int .i64 p, .int .i64 c, .int .i64 n, .slc b 0 la false 0], .agg [.int .i64 p', .int .i64 c', .int .i64 n', .slc b' 0 lb false 0]] => match rd hp b, rd hp b' with
    | some L, some L' => match Qz la L, Qz lb L' with
      | some ta, some tb => chk (la ≤ 1100000 ∧ lb ≤ 1100000) (some (.tup [elemV (R p c n ta p' c' n' tb).1 (R p c n ta p' c' n' tb).2.1 (R p c n ta p' c' n' tb).2.2.1 hp.length (R p c n ta p' c' n' tb).2.2.2.1.length, .int .i64 (R p c n ta p' c' n' tb).2.2.2.2], hp ++ [.vec 18 (qq (R p c n ta p' c' n' tb).2.2.2.1)]))
      | _, _ => none
    | _, _ => none
  | _ => none
theorem qwf {f : FuncId} {R : Int → Int → Int → List (Int × List Nat × Int) → Int → Int → Int → List (Int × List Nat × Int) → ER} (h : ∀ p c n p' c' n' a b, okT a → okT b → a.length ≤ 1100000 ∧ b.length ≤ 1100000 → Am.Fn Try.prog f [elemV p c n 0 a.length, elemV p' c' n' 1 b.length] [.ro (qq a), .ro (qq b)] (qnd (qq a) (qq b) (R p c n a p' c' n' b))) : Am.Callee Try.prog f (wu R) := Callee.fp fun hp xs v hp' he => by
  unfold wu at he
  split at he
  · rename_i p c n b la p' c' n' b' lb
    split at he
    · rename_i L L' hL hL'
      split at he
      · rename_i ta tb h1 h1'
        obtain ⟨⟨a1, a2⟩, he2⟩ := qm he
        simp only [Option.some.injEq, Prod.mk.injEq] at he2
        obtain ⟨rfl, rfl⟩ := he2
        obtain ⟨e1, e2, e3, e4⟩ := xz h1
        obtain ⟨f1, f2, f3, f4⟩ := xz h1'
        have g1 := qt e2
        have g2 := qt f2
        have hfn := h p c n p' c' n' ta tb e2 f2 (by omega)
        unfold qnd at hfn
        refine ⟨[(b, 0), (b', 0)], [elemV p c n 0 ta.length, elemV p' c' n' 1 tb.length], _, _, _, hfn, by simp [elemV, AV.ren, AV.zt, ofL, e1, f1], rfl,
          ⟨⟨L, hL, by omega, by rw [List.drop_zero, qd _ _ (qa _), g1, e1]; exact e3⟩, ⟨L', hL', by omega, by rw [List.drop_zero, qd _ _ (qa _), g2, f1]; exact f3⟩, trivial⟩, rfl,
          ⟨qk _ _ (qa _), qk _ _ (qa _), trivial⟩, ⟨⟨trivial, trivial, trivial, by simp [AV.under], trivial⟩, ⟨trivial, trivial, trivial, by simp [AV.under], trivial⟩, trivial⟩, by simp [elemV, AV.ren, AV.zt, Ren.ext], ?_⟩
        simp [after, upd, AO.wr, AO.ren, qd _ _ (qa _)]
      · cases he
    · cases he
  · cases he
end Go.Proofs.Ytkgoadglalpbfaa

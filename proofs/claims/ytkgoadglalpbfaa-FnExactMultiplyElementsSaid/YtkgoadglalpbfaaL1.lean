/- Contracts: along the lines of two diagrams, the reference. -/
import Derived.Test.YtkgoadglalpbfaaK1
import Derived.Test.YtkgoadglalpbfaaH4
namespace Go.Proofs.Ytkgoadglalpbfaa
open Go.Am Go.Dia
open Nat renaming reduceAdd → nA, reduceMul → nM, reduceSub → nS, reduceEqDiff → nE, reduceLT → nL, reduceLeDiff → nD, reduceBEq → nB
open Int renaming reduceEq → iE, reduceNe → iN, reduceBEq → iB, reduceBNe → iC, reduceLT → iL, reduceLE → iD, reduceAdd → iA, reduceSub → iS, reduceMul → iM
set_option linter.unusedSimpArgs false
set_option linter.unusedVariables false
set_option maxRecDepth 4000
set_option maxHeartbeats 1000000
theorem exists_least {p : Nat → Prop} (h : ∃ k, p k) : ∃ k, p k ∧ ∀ j, p j → k ≤ j := by
  obtain ⟨k, hk⟩ := h
  induction k using Nat.strongRecOn with
  | ind k ih =>
    by_cases hj : ∃ j, j < k ∧ p j
    · obtain ⟨j, h1, h2⟩ := hj; exact ih j h1 h2
    · exact ⟨k, hk, fun j h2 => Nat.le_of_not_lt fun h1 => hj ⟨j, h1, h2⟩⟩
open Classical in
noncomputable def qh0 (J : Nat → St → Prop) (s : St) : Nat := if h : ∃ k, J k s then Classical.choose (exists_least h) else 0
theorem qfm {J : Nat → St → Prop} {s : St} (h : ∃ k, J k s) : J (qh0 J s) s ∧ ∀ j, J j s → qh0 J s ≤ j := by
  unfold qh0; rw [dif_pos h]; exact Classical.choose_spec (exists_least h)
theorem qq4 {B : z7} (hB : ze Try.prog B) {n0 nt : Nat} {Q : AX → St → Prop} {s : St} {a : AC} (J : Nat → St → Prop) (h0 : ∃ s', qz n0 s s' ∧ ∃ k, J k s')
    (round : ∀ k s, J k s → ∀ (post : St → Prop), (∀ s' s'' k', qz n0 s' s'' → J k' s'' → k' < k → post s') → wbC Try.prog B n0 nt a (AX.then post Q) s) : WA Try.prog n0 nt (.loop a) Q s := by
  refine WA.j8 hB (fun s => ∃ k, J k s) (qh0 J) h0 fun s hs => ?_
  obtain ⟨h1, h2⟩ := qfm hs
  exact round _ s h1 _ fun s' s'' k' hw hj hlt => ⟨s'', hw, ⟨k', hj⟩, Nat.lt_of_le_of_lt ((qfm ⟨k', hj⟩).2 k' hj) hlt⟩
def bls (l : List Bool) : List AV := l.map .bool
theorem wg (l : List Bool) : (bls l).length = l.length := by simp [bls]
theorem wb (l : List Bool) : AV.zs (bls l) = true := by
  induction l with
  | nil => rfl
  | cons a l ih => simp only [bls, List.map_cons, AV.zs, AV.xb, Bool.true_and]; exact ih
theorem qny {l : List Bool} {i : Nat} (h : i < l.length) : (bls l)[i]? = some (.bool (l.getD i false)) := by
  simp [bls, List.getD_eq_getElem?_getD, h]
theorem qck {l : List Bool} {i : Nat} {b : Bool} : (bls l).set i (.bool b) = bls (l.set i b) := by simp [bls, List.map_set]
theorem J0 {x : Nat} (h : x < 8) : ((0 : Int) ≤ (x : Int) ∧ (x : Int) < ((8 : Nat) : Int)) := by omega
def uo : AC := .seq (.region [oM 18 2,oF 19 1 5,o0 20 (.ja 16 1 (.t 19) (.t 18)),oL 21 20,o0 22 (.conv .i64 (.t 21)),oM 13 22]) (.seq (.seq (.region [oM 23 13,oM 24 12,oP 25 .lss 23 24]) (.cond 25 (.seq (.region [oM 26 13,oM 10 26,oB 11 true]) .ret) .skip)) (.seq (.region [oM 27 4,oM 28 13,oM 29 12,oP 30 .sub 28 29,o0 31 (.j3 (.t 27)),o0 32 (.ja 8 1 (.t 31) (.t 30)),⟨none,none,.op (.Zc (.t 32) (.c (.bool true)))⟩]) (.seq (.region [oM 33 13,oM 34 12,oP 35 .sub 33 34,oM 2 35]) (.seq (.region [oB 3 false]) (.exit 1)))))
def uk : AC := .block 1 (.seq (.seq (.region [oM 17 3]) (.cond 17 uo .skip)) (.seq (.region [oM 36 2,oF 37 1 6,o0 38 (.ja 16 1 (.t 37) (.t 36)),oL 39 38,o0 40 (.conv .i64 (.t 39)),oM 14 40]) (.seq (.seq (.region [oM 41 14,oM 42 12,oP 43 .geq 41 42]) (.cond 43 (.seq (.region [oM 44 14,oM 10 44,oB 11 false]) .ret) .skip)) (.seq (.region [oM 45 4,oM 46 14,o0 47 (.j3 (.t 45)),o0 48 (.ja 8 1 (.t 47) (.t 46)),⟨none,none,.op (.Zc (.t 48) (.c (.bool true)))⟩]) (.seq (.region [oM 49 12,oM 50 14,oP 51 .add 49 50,oM 2 51]) (.region [oB 3 true]))))))
def Ba : AC := .seq (.region [o0 5 (.box (.t 0)),o0 6 (.box (.t 1)),oI 10 0,oB 11 false]) (.seq (.region [oF 15 0 5,oL 16 15,oM 12 16]) (.block 0 (.loop uk)))
theorem qeh : zy Try.prog 143 = some ⟨52, Ba, [.slot 10, .slot 11]⟩ := by kernel_rfl
theorem qed (N : Nat) (d e : List Nat) (hd : okD d) (he : okD e) (hds : isS N d = true) (hes : isS N e = true) {f : Nat} {u : Bool} {i : Nat} {met : List Bool} {r : Nat} {s : Bool} {met' : List Bool} (hf : zz N d e f u i met = some (r, s, met')) (hi : i < 2 * N) (hm : met.length = 8) :
    Am.Fn Try.prog 143 [.agg (dia N d), .agg (dia N e), .int .i64 i, .bool u, .ptr 0 0] [.cells (bls met)] (fun v H' => v = .tup [.int .i64 r, .bool s] ∧ H' = [.cells (bls met')]) := by
  refine Am.Fn.ofB qmg mixed qeh (by simp [AV.q7, AV.under, qk _ _ (qh _ _)]) (fun j o hj => by
    match j, hj with
    | 0, hj => cases hj; exact qk _ _ (wb _)
    | j + 1, hj => simp at hj) ?_
  obtain ⟨hN, hpd, _⟩ := ji hds
  obtain ⟨_, hpe, _⟩ := ji hes
  have hdl := hd.1
  have hel := he.1
  simp (maxSteps := 3000000) only [qf, zH, Ba, qb, qe, hdl, hel, vu, iE, iN, iB, iC, iL, iD, iA, iS, iM, qb, zZ, ↓qp, ↓reduceIte, reduceCtorEq, nA, nM, nS, nE, nL, nD]; try simp only [qb, zY]
  refine qq4 qmg (fun f st => ∃ (u : Bool) (i : Nat) (met : List Bool), zz N d e f u i met = some (r, s, met') ∧ i < 2 * N ∧ met.length = 8 ∧
      st = ⟨[(12, .int .i64 N), (6, .ptr 2 0), (5, .ptr 1 0), (4, .ptr 0 0), (3, .bool u), (2, .int .i64 i)], [.cells (bls met), .cells (dia N d), .cells (dia N e)]⟩) ⟨_, qz.zc [12, 6, 5, 4, 3, 2], f, u, i, met, hf, hi, hm, rfl⟩ ?_
  clear hf hi hm
  rintro k st ⟨u, i, met, hf, hi, hm, rfl⟩ post hpost
  obtain ⟨hi16, hi16'⟩ := Xl (show i < 16 by omega)
  have hi17 : i < 16 := by omega
  match k, u, hf with
  | 0, _, hf => simp [zz] at hf
  | f + 1, true, hf =>
    have hx := (hpd i hi).1
    have hcx : q8 .i64 ((d.getD i 0 : Nat) : Int) = ((d.getD i 0 : Nat) : Int) := yk (by omega)
    rw [zz] at hf
    by_cases hlt : d.getD i 0 < N
    · rw [if_pos hlt] at hf
      simp only [Option.some.injEq, Prod.mk.injEq] at hf
      obtain ⟨rfl, rfl, rfl⟩ := hf
      have hli : ((d.getD i 0 : Nat) : Int) < (N : Int) := by omega
      simp (maxSteps := 3000000) only [qf, zH, uk, uo, hi16, hi16', hi17, qe, hdl, hel, hcx, hli, iE, iN, iB, iC, iL, iD, iA, iS, iM, qb, zZ, ↓qp, ↓reduceIte, reduceCtorEq, nA, nM, nS, nE, nL, nD]; try simp only [qb, zY]
      refine Ret.zw [0] ⟨⟨Nat.le_refl 1, rfl, by decide⟩, ?_⟩ (rs := [.int .i64 (d.getD i 0 : Nat), .bool true]) rfl rfl (by simp [xc]) ?_ ⟨?_, ?_⟩
      · simp only [qc _ _ (wb _), zK, ↓reduceIte, reduceCtorEq, nE, nB, nA]
      · intro j l; cases j <;> simp [zi, AO.ren]
      · rfl
      · simp only [qd _ _ (wb _), zL, ↓reduceIte, reduceCtorEq, nE, nA]
    · rw [if_neg hlt] at hf
      have hli : ¬ ((d.getD i 0 : Nat) : Int) < (N : Int) := by omega
      have hsub : q8 .i64 (((d.getD i 0 : Nat) : Int) - (N : Int)) = ((d.getD i 0 - N : Nat) : Int) := by rw [wrap64 (by omega) (by omega)]; omega
      have h8 := J0 (show d.getD i 0 - N < 8 by omega)
      have h8' : d.getD i 0 - N < 8 := by omega
      simp (maxSteps := 3000000) only [qf, zH, uk, uo, hi16, hi16', hi17, qe, hdl, hel, hcx, hli, hsub, h8, h8', wg, hm, qck, AV.one, iE, iN, iB, iC, iL, iD, iA, iS, iM, qb, zZ, ↓qp, ↓reduceIte, reduceCtorEq, nA, nM, nS, nE, nL, nD]; try simp only [qb, zY]
      exact hpost _ _ f (qz.zc [12, 6, 5, 4, 3, 2]) ⟨false, d.getD i 0 - N, _, hf, by omega, by simp [hm], rfl⟩ (Nat.lt_succ_self _)
  | f + 1, false, hf =>
    have hx := (hpe i hi).1
    have hcx : q8 .i64 ((e.getD i 0 : Nat) : Int) = ((e.getD i 0 : Nat) : Int) := yk (by omega)
    rw [zz] at hf
    by_cases hlt : N ≤ e.getD i 0
    · rw [if_pos hlt] at hf
      simp only [Option.some.injEq, Prod.mk.injEq] at hf
      obtain ⟨rfl, rfl, rfl⟩ := hf
      have hli : (N : Int) ≤ ((e.getD i 0 : Nat) : Int) := by omega
      simp (maxSteps := 3000000) only [qf, zH, uk, uo, hi16, hi16', hi17, qe, hdl, hel, hcx, hli, iE, iN, iB, iC, iL, iD, iA, iS, iM, qb, zZ, ↓qp, ↓reduceIte, reduceCtorEq, nA, nM, nS, nE, nL, nD]; try simp only [qb, zY]
      refine Ret.zw [0] ⟨⟨Nat.le_refl 1, rfl, by decide⟩, ?_⟩ (rs := [.int .i64 (e.getD i 0 : Nat), .bool false]) rfl rfl (by simp [xc]) ?_ ⟨?_, ?_⟩
      · simp only [qc _ _ (wb _), zK, ↓reduceIte, reduceCtorEq, nE, nB, nA]
      · intro j l; cases j <;> simp [zi, AO.ren]
      · rfl
      · simp only [qd _ _ (wb _), zL, ↓reduceIte, reduceCtorEq, nE, nA]
    · rw [if_neg hlt] at hf
      have hli : ¬ (N : Int) ≤ ((e.getD i 0 : Nat) : Int) := by omega
      have hadd : q8 .i64 ((N : Int) + ((e.getD i 0 : Nat) : Int)) = ((N + e.getD i 0 : Nat) : Int) := by rw [wrap64 (by omega) (by omega)]; rfl
      have h8 := J0 (show e.getD i 0 < 8 by omega)
      have h8' : e.getD i 0 < 8 := by omega
      simp (maxSteps := 3000000) only [qf, zH, uk, uo, hi16, hi16', hi17, qe, hdl, hel, hcx, hli, hadd, h8, h8', wg, hm, qck, AV.one, iE, iN, iB, iC, iL, iD, iA, iS, iM, qb, zZ, ↓qp, ↓reduceIte, reduceCtorEq, nA, nM, nS, nE, nL, nD]; try simp only [qb, zY]
      exact hpost _ _ f (qz.zc [12, 6, 5, 4, 3, 2]) ⟨true, N + e.getD i 0, _, hf, by omega, by simp [hm], rfl⟩ (Nat.lt_succ_self _)
def Jv : List AV → Option (List Bool)
  | [] => some []
  | .bool b :: l => (Jv l).map (b :: ·)
  | _ => none
theorem Uh : ∀ l, Jv (bls l) = some l
  | [] => rfl
  | b :: l => by
    have := Uh l
    simp only [bls] at this
    simp only [bls, List.map_cons, Jv, this, Option.map_some]
theorem Wh : ∀ {l : List AV} {m : List Bool}, Jv l = some m → l = bls m
  | [], m, h => by simp only [Jv, Option.some.injEq] at h; subst h; rfl
  | .bool b :: l, m, h => by
    simp only [Jv, Option.map_eq_some_iff] at h
    obtain ⟨m', h1, rfl⟩ := h
    rw [Wh h1]; rfl
noncomputable def bx : BE := fun hp xs => match xs with
  | [.agg ld, .agg le, .int .i64 i, .bool u, .ptr b 0] => match hp[b]? with
    | some (.cells lm) => match bg ld, bg le, Jv lm with
      | some (n, d), some (n', e), some met => chk (((n' = n ∧ 0 ≤ n) ∧ isS n.toNat d = true ∧ isS n.toNat e = true) ∧ (0 ≤ i ∧ i < 2 * n) ∧ met.length = 8 ∧ u = decide (i < n)) (some (.tup [.int .i64 (pr n.toNat d e i.toNat : Nat), .bool (decide (pr n.toNat d e i.toNat < n.toNat))], hp.set b (.cells (bls (fol n.toNat d e u i.toNat met)))))
      | _, _, _ => none
    | _ => none
  | _ => none
theorem qrl : Am.Callee Try.prog 143 bx := Callee.fp fun hp xs v hp' he => by
  unfold bx at he
  split at he
  · rename_i ld le i u b
    split at he
    · rename_i lm hb
      split at he
      · rename_i n d n' e met hd1 he1 hm1
        obtain ⟨⟨⟨⟨a1, a2⟩, a3, a4⟩, a5, a6, a7⟩, he2⟩ := qm he
        simp only [Option.some.injEq, Prod.mk.injEq] at he2
        obtain ⟨rfl, rfl⟩ := he2
        obtain ⟨rfl, hd⟩ := xa hd1
        obtain ⟨rfl, he'⟩ := xa he1
        have hbl := Wh hm1
        subst hbl; subst a1
        obtain ⟨N, rfl⟩ : ∃ N : Nat, n' = N := ⟨n'.toNat, by omega⟩
        obtain ⟨k, rfl⟩ : ∃ k : Nat, i = k := ⟨i.toNat, by omega⟩
        simp only [Int.toNat_natCast] at a3 a4 ⊢
        have hu : u = decide (k < N) := by rw [a7]; congr 1; exact propext (by omega)
        subst hu
        obtain ⟨f, met', hf⟩ := Vf a3 a4 (i := k) (by omega) met
        have hfo := qd1 hf
        refine ⟨[(b, 0)], [.agg (dia N d), .agg (dia N e), .int .i64 k, .bool (decide (k < N)), .ptr 0 0], _, _, _, qed N d e hd he' a3 a4 hf (by omega) a6, by simp [AV.ren, AV.zt, ofL, qd _ _ (qh _ _)], by simp [wh], ⟨⟨rfl, by simp only [AO.ren, qd _ _ (wb _)]; exact hb⟩, trivial⟩, rfl, ⟨qk _ _ (wb _), trivial⟩, ⟨qk _ _ (qh _ _), qk _ _ (qh _ _), trivial, trivial, by simp [AV.under], trivial⟩, by simp [AV.ren, AV.zt], ?_⟩
        simp [after, upd, AO.wr, AO.ren, qd _ _ (wb _), hfo]
      · cases he
    · cases he
  · cases he
noncomputable def B80 : z7 := (B79.put 143 (bx))
theorem qas : ze Try.prog B80 := (qmg.put (qrl))
end Go.Proofs.Ytkgoadglalpbfaa

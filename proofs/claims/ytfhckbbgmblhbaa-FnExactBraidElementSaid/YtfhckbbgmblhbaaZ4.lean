/- Contracts of functions of the program, and plain laws, part 4: each text of this part is proved without further condition. -/
import Derived.Test.YtfhckbbgmblhbaaZ3
namespace Go.Proofs.Ytfhckbbgmblhbaa
open Go.Am Go.Dia
open Nat renaming reduceAdd → nA, reduceMul → nM, reduceSub → nS, reduceEqDiff → nE, reduceLT → nL, reduceLeDiff → nD, reduceBEq → nB
open Int renaming reduceEq → iE, reduceNe → iN, reduceBEq → iB, reduceBNe → iC, reduceLT → iL, reduceLE → iD, reduceAdd → iA, reduceSub → iS, reduceMul → iM
set_option linter.unusedSimpArgs false
set_option linter.unusedVariables false
set_option maxRecDepth 4000
set_option maxHeartbeats 1000000
theorem exists_least {p : Nat → Prop} (h : ∃ k, p k) : ∃ k, p k ∧ ∀ j, p j → k ≤ j := by
  obtain ⟨k, hk⟩ := h
  induction k using Nat.strongRecOn with
  | ind k ih =>
    by_cases hj : ∃ j, j < k ∧ p j
    · obtain ⟨j, h1, h2⟩ := hj; exact ih j h1 h2
    · exact ⟨k, hk, fun j h2 => Nat.le_of_not_lt fun h1 => hj ⟨j, h1, h2⟩⟩
open Classical in
noncomputable def qjw (J : Nat → St → Prop) (s : St) : Nat := if h : ∃ k, J k s then Classical.choose (exists_least h) else 0
theorem qi1 {J : Nat → St → Prop} {s : St} (h : ∃ k, J k s) : J (qjw J s) s ∧ ∀ j, J j s → qjw J s ≤ j := by
  unfold qjw; rw [dif_pos h]; exact Classical.choose_spec (exists_least h)
theorem qul {B : zk} (hB : qu Try.prog B) {n0 nt : Nat} {Q : AX → St → Prop} {s : St} {a : AC} (J : Nat → St → Prop) (h0 : ∃ s', qx n0 s s' ∧ ∃ k, J k s')
    (round : ∀ k s, J k s → ∀ (post : St → Prop), (∀ s' s'' k', qx n0 s' s'' → J k' s'' → k' < k → post s') → wbC Try.prog B n0 nt a (AX.then post Q) s) : WA Try.prog n0 nt (.loop a) Q s := by
  refine WA.jh hB (fun s => ∃ k, J k s) (qjw J) h0 fun s hs => ?_
  obtain ⟨h1, h2⟩ := qi1 hs
  exact round _ s h1 _ fun s' s'' k' hw hj hlt => ⟨s'', hw, ⟨k', hj⟩, Nat.lt_of_le_of_lt ((qi1 ⟨k', hj⟩).2 k' hj) hlt⟩
def bls (l : List Bool) : List AV := l.map .bool
theorem ve (l : List Bool) : (bls l).length = l.length := by simp [bls]
theorem vd (l : List Bool) : AV.zh (bls l) = true := by
  induction l with
  | nil => rfl
  | cons a l ih => simp only [bls, List.map_cons, AV.zh, AV.zp, Bool.true_and]; exact ih
theorem qq4 {l : List Bool} {i : Nat} (h : i < l.length) : (bls l)[i]? = some (.bool (l.getD i false)) := by
  simp [bls, List.getD_eq_getElem?_getD, h]
theorem qeb {l : List Bool} {i : Nat} {b : Bool} : (bls l).set i (.bool b) = bls (l.set i b) := by simp [bls, List.map_set]
theorem V4 {x : Nat} (h : x < 8) : ((0 : Int) ≤ (x : Int) ∧ (x : Int) < ((8 : Nat) : Int)) := by omega
def y8 : AC := .seq (.region [oM 18 2,oF 19 1 5,o0 20 (.xd 16 1 (.t 19) (.t 18)),oL 21 20,o0 22 (.conv .i64 (.t 21)),oM 13 22]) (.seq (.seq (.region [oM 23 13,oM 24 12,oP 25 .lss 23 24]) (.cond 25 (.seq (.region [oM 26 13,oM 10 26,oB 11 true]) .ret) .skip)) (.seq (.region [oM 27 4,oM 28 13,oM 29 12,oP 30 .sub 28 29,o0 31 (.vf (.t 27)),o0 32 (.xd 8 1 (.t 31) (.t 30)),⟨none,none,.op (.Zk (.t 32) (.c (.bool true)))⟩]) (.seq (.region [oM 33 13,oM 34 12,oP 35 .sub 33 34,oM 2 35]) (.seq (.region [oB 3 false]) (.exit 1)))))
def ub : AC := .block 1 (.seq (.seq (.region [oM 17 3]) (.cond 17 y8 .skip)) (.seq (.region [oM 36 2,oF 37 1 6,o0 38 (.xd 16 1 (.t 37) (.t 36)),oL 39 38,o0 40 (.conv .i64 (.t 39)),oM 14 40]) (.seq (.seq (.region [oM 41 14,oM 42 12,oP 43 .geq 41 42]) (.cond 43 (.seq (.region [oM 44 14,oM 10 44,oB 11 false]) .ret) .skip)) (.seq (.region [oM 45 4,oM 46 14,o0 47 (.vf (.t 45)),o0 48 (.xd 8 1 (.t 47) (.t 46)),⟨none,none,.op (.Zk (.t 48) (.c (.bool true)))⟩]) (.seq (.region [oM 49 12,oM 50 14,oP 51 .add 49 50,oM 2 51]) (.region [oB 3 true]))))))
def Ka : AC := .seq (.region [o0 5 (.box (.t 0)),o0 6 (.box (.t 1)),oI 10 0,oB 11 false]) (.seq (.region [oF 15 0 5,oL 16 15,oM 12 16]) (.block 0 (.loop ub)))
theorem qg5 : zl Try.prog 167 = some ⟨52, Ka, [.slot 10, .slot 11]⟩ := by kernel_rfl
theorem qhs (N : Nat) (d e : List Nat) (hd : okD d) (he : okD e) (hds : isS N d = true) (hes : isS N e = true) {f : Nat} {u : Bool} {i : Nat} {met : List Bool} {r : Nat} {s : Bool} {met' : List Bool} (hf : zm N d e f u i met = some (r, s, met')) (hi : i < 2 * N) (hm : met.length = 8) :
    Am.Fn Try.prog 167 [.agg (dia N d), .agg (dia N e), .int .i64 i, .bool u, .ptr 0 0] [.cells (bls met)] (fun v H' => v = .tup [.int .i64 r, .bool s] ∧ H' = [.cells (bls met')]) := by
  refine Am.Fn.ofB qoz mixed qg5 (by simp [AV.qp, AV.under, qi _ _ (qg _ _)]) (fun j o hj => by
    match j, hj with
    | 0, hj => cases hj; exact qi _ _ (vd _)
    | j + 1, hj => simp at hj) ?_
  obtain ⟨hN, hpd, _⟩ := xm hds
  obtain ⟨_, hpe, _⟩ := xm hes
  have hdl := hd.1
  have hel := he.1
  simp (maxSteps := 3000000) only [qh, zH, Ka, qa, qf, hdl, hel, Qo, iE, iN, iB, iC, iL, iD, iA, iS, iM, qa, zZ, ↓qt, ↓reduceIte, reduceCtorEq, nA, nM, nS, nE, nL, nD]; try simp only [qa, zY]
  refine qul qoz (fun f st => ∃ (u : Bool) (i : Nat) (met : List Bool), zm N d e f u i met = some (r, s, met') ∧ i < 2 * N ∧ met.length = 8 ∧
      st = ⟨[(12, .int .i64 N), (6, .ptr 2 0), (5, .ptr 1 0), (4, .ptr 0 0), (3, .bool u), (2, .int .i64 i)], [.cells (bls met), .cells (dia N d), .cells (dia N e)]⟩) ⟨_, qx.qy [12, 6, 5, 4, 3, 2], f, u, i, met, hf, hi, hm, rfl⟩ ?_
  clear hf hi hm
  rintro k st ⟨u, i, met, hf, hi, hm, rfl⟩ post hpost
  obtain ⟨hi16, hi16'⟩ := gp (show i < 16 by omega)
  have hi17 : i < 16 := by omega
  match k, u, hf with
  | 0, _, hf => simp [zm] at hf
  | f + 1, true, hf =>
    have hx := (hpd i hi).1
    have hcx : qm .i64 ((d.getD i 0 : Nat) : Int) = ((d.getD i 0 : Nat) : Int) := Qr (by omega)
    rw [zm] at hf
    by_cases hlt : d.getD i 0 < N
    · rw [if_pos hlt] at hf
      simp only [Option.some.injEq, Prod.mk.injEq] at hf
      obtain ⟨rfl, rfl, rfl⟩ := hf
      have hli : ((d.getD i 0 : Nat) : Int) < (N : Int) := by omega
      simp (maxSteps := 3000000) only [qh, zH, ub, y8, hi16, hi16', hi17, qf, hdl, hel, hcx, hli, iE, iN, iB, iC, iL, iD, iA, iS, iM, qa, zZ, ↓qt, ↓reduceIte, reduceCtorEq, nA, nM, nS, nE, nL, nD]; try simp only [qa, zY]
      refine Ret.xf [0] ⟨⟨Nat.le_refl 1, rfl, by decide⟩, ?_⟩ (rs := [.int .i64 (d.getD i 0 : Nat), .bool true]) rfl rfl (by simp [zt]) ?_ ⟨?_, ?_⟩
      · simp only [qd _ _ (vd _), zK, ↓reduceIte, reduceCtorEq, nE, nB, nA]
      · intro j l; cases j <;> simp [q7, AO.ren]
      · rfl
      · simp only [qc _ _ (vd _), zL, ↓reduceIte, reduceCtorEq, nE, nA]
    · rw [if_neg hlt] at hf
      have hli : ¬ ((d.getD i 0 : Nat) : Int) < (N : Int) := by omega
      have hsub : qm .i64 (((d.getD i 0 : Nat) : Int) - (N : Int)) = ((d.getD i 0 - N : Nat) : Int) := by rw [wrap64 (by omega) (by omega)]; omega
      have h8 := V4 (show d.getD i 0 - N < 8 by omega)
      have h8' : d.getD i 0 - N < 8 := by omega
      simp (maxSteps := 3000000) only [qh, zH, ub, y8, hi16, hi16', hi17, qf, hdl, hel, hcx, hli, hsub, h8, h8', ve, hm, qeb, AV.one, iE, iN, iB, iC, iL, iD, iA, iS, iM, qa, zZ, ↓qt, ↓reduceIte, reduceCtorEq, nA, nM, nS, nE, nL, nD]; try simp only [qa, zY]
      exact hpost _ _ f (qx.qy [12, 6, 5, 4, 3, 2]) ⟨false, d.getD i 0 - N, _, hf, by omega, by simp [hm], rfl⟩ (Nat.lt_succ_self _)
  | f + 1, false, hf =>
    have hx := (hpe i hi).1
    have hcx : qm .i64 ((e.getD i 0 : Nat) : Int) = ((e.getD i 0 : Nat) : Int) := Qr (by omega)
    rw [zm] at hf
    by_cases hlt : N ≤ e.getD i 0
    · rw [if_pos hlt] at hf
      simp only [Option.some.injEq, Prod.mk.injEq] at hf
      obtain ⟨rfl, rfl, rfl⟩ := hf
      have hli : (N : Int) ≤ ((e.getD i 0 : Nat) : Int) := by omega
      simp (maxSteps := 3000000) only [qh, zH, ub, y8, hi16, hi16', hi17, qf, hdl, hel, hcx, hli, iE, iN, iB, iC, iL, iD, iA, iS, iM, qa, zZ, ↓qt, ↓reduceIte, reduceCtorEq, nA, nM, nS, nE, nL, nD]; try simp only [qa, zY]
      refine Ret.xf [0] ⟨⟨Nat.le_refl 1, rfl, by decide⟩, ?_⟩ (rs := [.int .i64 (e.getD i 0 : Nat), .bool false]) rfl rfl (by simp [zt]) ?_ ⟨?_, ?_⟩
      · simp only [qd _ _ (vd _), zK, ↓reduceIte, reduceCtorEq, nE, nB, nA]
      · intro j l; cases j <;> simp [q7, AO.ren]
      · rfl
      · simp only [qc _ _ (vd _), zL, ↓reduceIte, reduceCtorEq, nE, nA]
    · rw [if_neg hlt] at hf
      have hli : ¬ (N : Int) ≤ ((e.getD i 0 : Nat) : Int) := by omega
      have hadd : qm .i64 ((N : Int) + ((e.getD i 0 : Nat) : Int)) = ((N + e.getD i 0 : Nat) : Int) := by rw [wrap64 (by omega) (by omega)]; rfl
      have h8 := V4 (show e.getD i 0 < 8 by omega)
      have h8' : e.getD i 0 < 8 := by omega
      simp (maxSteps := 3000000) only [qh, zH, ub, y8, hi16, hi16', hi17, qf, hdl, hel, hcx, hli, hadd, h8, h8', ve, hm, qeb, AV.one, iE, iN, iB, iC, iL, iD, iA, iS, iM, qa, zZ, ↓qt, ↓reduceIte, reduceCtorEq, nA, nM, nS, nE, nL, nD]; try simp only [qa, zY]
      exact hpost _ _ f (qx.qy [12, 6, 5, 4, 3, 2]) ⟨true, N + e.getD i 0, _, hf, by omega, by simp [hm], rfl⟩ (Nat.lt_succ_self _)
def Vk : List AV → Option (List Bool)
  | [] => some []
  | .bool b :: l => (Vk l).map (b :: ·)
  | _ => none
theorem Bo : ∀ l, Vk (bls l) = some l
  | [] => rfl
  | b :: l => by
    have := Bo l
    simp only [bls] at this
    simp only [bls, List.map_cons, Vk, this, Option.map_some]
theorem Yn : ∀ {l : List AV} {m : List Bool}, Vk l = some m → l = bls m
  | [], m, h => by simp only [Vk, Option.some.injEq] at h; subst h; rfl
  | .bool b :: l, m, h => by
    simp only [Vk, Option.map_eq_some_iff] at h
    obtain ⟨m', h1, rfl⟩ := h
    rw [Yn h1]; rfl
noncomputable def b8 : BE := fun hp xs => match xs with
  | [.agg ld, .agg le, .int .i64 i, .bool u, .ptr b 0] => match hp[b]? with
    | some (.cells lm) => match wv ld, wv le, Vk lm with
      | some (n, d), some (n', e), some met => chk (((n' = n ∧ 0 ≤ n) ∧ isS n.toNat d = true ∧ isS n.toNat e = true) ∧ (0 ≤ i ∧ i < 2 * n) ∧ met.length = 8 ∧ u = decide (i < n)) (some (.tup [.int .i64 (pr n.toNat d e i.toNat : Nat), .bool (decide (pr n.toNat d e i.toNat < n.toNat))], hp.set b (.cells (bls (fol n.toNat d e u i.toNat met)))))
      | _, _, _ => none
    | _ => none
  | _ => none
theorem qw4 : Am.Callee Try.prog 167 b8 := Callee.fp fun hp xs v hp' he => by
  unfold b8 at he
  split at he
  · rename_i ld le i u b
    split at he
    · rename_i lm hb
      split at he
      · rename_i n d n' e met hd1 he1 hm1
        obtain ⟨⟨⟨⟨a1, a2⟩, a3, a4⟩, a5, a6, a7⟩, he2⟩ := qk he
        simp only [Option.some.injEq, Prod.mk.injEq] at he2
        obtain ⟨rfl, rfl⟩ := he2
        obtain ⟨rfl, hd⟩ := z6 hd1
        obtain ⟨rfl, he'⟩ := z6 he1
        have hbl := Yn hm1
        subst hbl; subst a1
        obtain ⟨N, rfl⟩ : ∃ N : Nat, n' = N := ⟨n'.toNat, by omega⟩
        obtain ⟨k, rfl⟩ : ∃ k : Nat, i = k := ⟨i.toNat, by omega⟩
        simp only [Int.toNat_natCast] at a3 a4 ⊢
        have hu : u = decide (k < N) := by rw [a7]; congr 1; exact propext (by omega)
        subst hu
        obtain ⟨f, met', hf⟩ := Wm a3 a4 (i := k) (by omega) met
        have hfo := qgr hf
        refine ⟨[(b, 0)], [.agg (dia N d), .agg (dia N e), .int .i64 k, .bool (decide (k < N)), .ptr 0 0], _, _, _, qhs N d e hd he' a3 a4 hf (by omega) a6, by simp [AV.ren, AV.zg, ofL, qc _ _ (qg _ _)], by simp [jg], ⟨⟨rfl, by simp only [AO.ren, qc _ _ (vd _)]; exact hb⟩, trivial⟩, rfl, ⟨qi _ _ (vd _), trivial⟩, ⟨qi _ _ (qg _ _), qi _ _ (qg _ _), trivial, trivial, by simp [AV.under], trivial⟩, by simp [AV.ren, AV.zg], ?_⟩
        simp [after, upd, AO.wr, AO.ren, qc _ _ (vd _), hfo]
      · cases he
    · cases he
  · cases he
noncomputable def B80 : zk := (B79.put 167 (b8))
theorem qcl : qu Try.prog B80 := (qoz.put (qw4))
def Qz (l : List AV) : Nat := l.countP fun v => match v with | .bool false => true | _ => false
theorem Yq : ∀ {met : List Bool} {k : Nat}, k < met.length → met.getD k false = false → Qz (bls (met.set k true)) < Qz (bls met)
  | b :: l, 0, _, h => by
    simp only [List.getD_cons_zero] at h
    subst h
    simp [Qz, bls]
  | b :: l, k + 1, hk, h => by
    have ih := Yq (met := l) (k := k) (by simpa using hk) (by simpa using h)
    simp only [Qz, bls] at ih
    simp only [Qz, bls, List.set_cons_succ, List.map_cons, List.countP_cons]
    omega
theorem qik : ∀ {met : List Bool} {k : Nat}, Qz (bls (met.set k true)) ≤ Qz (bls met)
  | [], k => by simp [Qz, bls]
  | b :: l, 0 => by cases b <;> simp [Qz, bls]
  | b :: l, k + 1 => by
    have ih := qik (met := l) (k := k)
    simp only [Qz, bls] at ih
    simp only [Qz, bls, List.set_cons_succ, List.map_cons, List.countP_cons]
    omega
theorem B0 {n : Nat} {d e : List Nat} {r : Nat × Bool × List Bool} : ∀ {f : Nat} {u : Bool} {i : Nat} {met : List Bool}, zm n d e f u i met = some r → r.2.2.length = met.length
  | 0, _, _, _, h => by simp [zm] at h
  | f + 1, true, i, met, h => by
    rw [zm] at h
    split at h
    · cases h; rfl
    · rw [B0 h, List.length_set]
  | f + 1, false, i, met, h => by
    rw [zm] at h
    split at h
    · cases h; rfl
    · rw [B0 h, List.length_set]
theorem qri {n : Nat} {d e : List Nat} (hd : isS n d = true) (he : isS n e = true) {i : Nat} {u : Bool} (hi : i < 2 * n) (hu : u = decide (i < n)) (met : List Bool) : (fol n d e u i met).length = met.length := by
  subst hu
  obtain ⟨f, met', h⟩ := Wm hd he hi met
  rw [qgr h]; exact B0 h
def InL (n : Nat) (d e : List Nat) (f g : Nat → Nat) (i x : Nat) (met : List Bool) : Prop :=
  met.length = 8 ∧ ((x = i ∧ ∀ y, mt met y ↔ Seen n d e i y) ∨ ∃ (T : Nat → Prop) (last : Nat), qd3 (XX n d e) f g i T last ∧ x = g last ∧ ∀ y, mt met y ↔ Seen n d e i y ∨ T y)
theorem qtj {n : Nat} {d e : List Nat} {f g : Nat → Nat} (hf : Inv (XX n d e) f) (hg : Inv (XX n d e) g) (hn : n ≤ 8) {i x : Nat} {met : List Bool} (hi : i < n) (h0 : ¬ Seen n d e i i) (h : InL n d e f g i x met) (hx : ¬ mt met x) :
    XX n d e x ∧ XX n d e (f x) ∧ InL n d e f g i (g (f x)) ((met.set x true).set (f x) true) := by
  have hX : XX n d e i := ⟨hi, fun h => h0 (.inl h)⟩
  obtain ⟨hl, h⟩ := h
  have mt2 : ∀ {x y z : Nat}, x < n → y < n → (mt ((met.set x true).set y true) z ↔ z = y ∨ z = x ∨ mt met z) := fun {x y z} h1 h2 => by
    rw [u6 (by rw [List.length_set]; omega), u6 (by omega)]
  rcases h with ⟨rfl, hm⟩ | ⟨T, last, hT, rfl, hm⟩
  · have hfx := hf.mem _ hX
    refine ⟨hX, hfx, by rw [List.length_set, List.length_set]; exact hl, .inr ⟨_, _, qd3.start hf hX, rfl, fun y => ?_⟩⟩
    rw [mt2 hX.1 hfx.1, hm]
    constructor
    · rintro (h | h | h)
      · exact .inr (.inr h)
      · exact .inr (.inl h)
      · exact .inl h
    · rintro (h | h | h)
      · exact .inr (.inr h)
      · exact .inr (.inl h)
      · exact .inl h
  · have hT' : ¬ T (g last) := fun h => hx ((hm _).2 (.inr h))
    have hgl := hg.mem _ (Ring.mem hf hg hX (hT.ring _ hT.lm))
    have hfx := hf.mem _ hgl
    refine ⟨hgl, hfx, by rw [List.length_set, List.length_set]; exact hl, .inr ⟨_, _, (hT.next hf hg hX hT').1, rfl, fun y => ?_⟩⟩
    rw [mt2 hgl.1 hfx.1, hm]
    constructor
    · rintro (h | h | h | h)
      · exact .inr (.inr (.inl h))
      · exact .inr (.inl h)
      · exact .inl h
      · exact .inr (.inr (.inr h))
    · rintro (h | h | h | h)
      · exact .inr (.inr (.inl h))
      · exact .inr (.inl h)
      · exact .inl h
      · exact .inr (.inr (.inr h))
theorem quc {n : Nat} {d e : List Nat} (hd : isS n d = true) (he : isS n e = true) {f g : Nat → Nat} (hf : Inv (XX n d e) f) (hg : Inv (XX n d e) g) (hR : ∀ i x, Ring f g i x ↔ Ring (dm n d) (em e) i x) {i x : Nat} {met : List Bool} (hi : i < n) (h0 : ¬ Seen n d e i i) (h : InL n d e f g i x met) (hx : mt met x) :
    ∀ y, mt met y ↔ Seen n d e (i + 1) y := by
  have hX : XX n d e i := ⟨hi, fun h => h0 (.inl h)⟩
  intro y
  rw [qk7 hi h0]
  obtain ⟨hl, ⟨rfl, hm⟩ | ⟨T, last, hT, rfl, hm⟩⟩ := h
  · exact absurd ((hm _).1 hx) h0
  · have hr : Ring f g i (g last) := .two (hT.ring _ hT.lm)
    have hT' : T (g last) := ((hm _).1 hx).resolve_left (Yu hd he hi h0 ((hR _ _).1 hr))
    have hs := (hT.stop hf hg hX hT').2
    rw [hm, hs, hR]
theorem x9 : B80 167 = some (b8) := rfl
def Uu : AT := (.one (oF 17 0 2) (.one (oL 18 17) (.one (o0 19 (.build [(.bool false),(.bool false),(.bool false),(.bool false),(.bool false),(.bool false),(.bool false),(.bool false)] [])) (.one (oF 20 0 2) (.alt (oL 21 20) (.one (o0 22 (.build [.int .i64 0,.int .u8 0,.int .u8 0,.int .u8 0,.int .u8 0,.int .u8 0,.int .u8 0,.int .u8 0,.int .u8 0,.int .u8 0,.int .u8 0,.int .u8 0,.int .u8 0,.int .u8 0,.int .u8 0,.int .u8 0,.int .u8 0] [(0,1,.t 21)])) (.alt (o0 7 (.alloc [(.bool false),(.bool false),(.bool false),(.bool false),(.bool false),(.bool false),(.bool false),(.bool false)])) (.one (oD 8) (.one (oM 6 18) (.one (oS 8 7 19) (.one (oS 17 8 22) (.nil))))) (.alt (oD 8) (.one (o0 7 (.alloc [(.bool false),(.bool false),(.bool false),(.bool false),(.bool false),(.bool false),(.bool false),(.bool false)])) (.one (oM 6 18) (.one (oS 8 7 19) (.one (oS 17 8 22) (.nil))))) (.none)))) (.alt (o0 7 (.alloc [(.bool false),(.bool false),(.bool false),(.bool false),(.bool false),(.bool false),(.bool false),(.bool false)])) (.alt (oL 21 20) (.one (o0 22 (.build [.int .i64 0,.int .u8 0,.int .u8 0,.int .u8 0,.int .u8 0,.int .u8 0,.int .u8 0,.int .u8 0,.int .u8 0,.int .u8 0,.int .u8 0,.int .u8 0,.int .u8 0,.int .u8 0,.int .u8 0,.int .u8 0,.int .u8 0] [(0,1,.t 21)])) (.one (oD 8) (.one (oM 6 18) (.one (oS 8 7 19) (.one (oS 17 8 22) (.nil)))))) (.alt (oD 8) (.one (oM 6 18) (.alt (oL 21 20) (.one (o0 22 (.build [.int .i64 0,.int .u8 0,.int .u8 0,.int .u8 0,.int .u8 0,.int .u8 0,.int .u8 0,.int .u8 0,.int .u8 0,.int .u8 0,.int .u8 0,.int .u8 0,.int .u8 0,.int .u8 0,.int .u8 0,.int .u8 0,.int .u8 0] [(0,1,.t 21)])) (.one (oS 8 7 19) (.one (oS 17 8 22) (.nil)))) (.alt (oS 8 7 19) (.one (oL 21 20) (.one (o0 22 (.build [.int .i64 0,.int .u8 0,.int .u8 0,.int .u8 0,.int .u8 0,.int .u8 0,.int .u8 0,.int .u8 0,.int .u8 0,.int .u8 0,.int .u8 0,.int .u8 0,.int .u8 0,.int .u8 0,.int .u8 0,.int .u8 0,.int .u8 0] [(0,1,.t 21)])) (.one (oS 17 8 22) (.nil)))) (.none)))) (.none))) (.alt (oD 8) (.alt (oL 21 20) (.one (o0 22 (.build [.int .i64 0,.int .u8 0,.int .u8 0,.int .u8 0,.int .u8 0,.int .u8 0,.int .u8 0,.int .u8 0,.int .u8 0,.int .u8 0,.int .u8 0,.int .u8 0,.int .u8 0,.int .u8 0,.int .u8 0,.int .u8 0,.int .u8 0] [(0,1,.t 21)])) (.one (o0 7 (.alloc [(.bool false),(.bool false),(.bool false),(.bool false),(.bool false),(.bool false),(.bool false),(.bool false)])) (.one (oM 6 18) (.one (oS 8 7 19) (.one (oS 17 8 22) (.nil)))))) (.alt (o0 7 (.alloc [(.bool false),(.bool false),(.bool false),(.bool false),(.bool false),(.bool false),(.bool false),(.bool false)])) (.one (oM 6 18) (.alt (oL 21 20) (.one (o0 22 (.build [.int .i64 0,.int .u8 0,.int .u8 0,.int .u8 0,.int .u8 0,.int .u8 0,.int .u8 0,.int .u8 0,.int .u8 0,.int .u8 0,.int .u8 0,.int .u8 0,.int .u8 0,.int .u8 0,.int .u8 0,.int .u8 0,.int .u8 0] [(0,1,.t 21)])) (.one (oS 8 7 19) (.one (oS 17 8 22) (.nil)))) (.alt (oS 8 7 19) (.one (oL 21 20) (.one (o0 22 (.build [.int .i64 0,.int .u8 0,.int .u8 0,.int .u8 0,.int .u8 0,.int .u8 0,.int .u8 0,.int .u8 0,.int .u8 0,.int .u8 0,.int .u8 0,.int .u8 0,.int .u8 0,.int .u8 0,.int .u8 0,.int .u8 0,.int .u8 0] [(0,1,.t 21)])) (.one (oS 17 8 22) (.nil)))) (.none)))) (.none))) (.none))))))))
def Xr : AC := .seq (.seq (.region [oM 23 9,oM 24 6,oP 25 .lss 23 24]) (.cond 25 .skip (.exit 0))) (.seq (.block 1 (.seq (.region [oN 29 17 2,oN 30 17 3,oM 31 9,oC 32 167 [.t 29,.t 30,.t 31,(.c (.bool true)),.t 7],oM 28 32,oE 33 0 28,oE 34 1 28,oM 10 33,oM 11 34]) (.seq (.region [oM 35 9,oM 36 10,o0 37 (.conv .u8 (.t 36)),oF 38 1 8,o0 39 (.xd 16 1 (.t 38) (.t 35)),oT 39 37]) (.seq (.region [oN 41 17 2,oN 42 17 3,oM 43 6,oM 44 9,oP 45 .add 43 44,oC 46 167 [.t 41,.t 42,.t 45,(.c (.bool false)),.t 7],oM 40 46,oE 47 0 40,oE 48 1 40,oM 12 47,oM 13 48]) (.region [oM 49 6,oM 50 9,oP 51 .add 49 50,oM 52 12,o0 53 (.conv .u8 (.t 52)),oF 54 1 8,o0 55 (.xd 16 1 (.t 54) (.t 51)),oT 55 53]))))) (.region [oM 26 9,oK 27 .add 26 1,oM 9 27]))
def Xi : AC := .seq (.seq (.region [oM 67 16,o0 68 (.xd 8 1 (.t 7) (.t 67)),oL 69 68,o0 70 (.un .not (.t 69))]) (.cond 70 .skip (.exit 4))) (.block 5 (.seq (.region [oM 71 16,o0 72 (.xd 8 1 (.t 7) (.t 71)),⟨none,none,.op (.Zk (.t 72) (.c (.bool true)))⟩]) (.seq (.region [oM 73 6,oM 74 16,oP 75 .add 73 74,oF 76 1 2,o0 77 (.xd 16 1 (.t 76) (.t 75)),oL 78 77,o0 79 (.conv .i64 (.t 78)),oM 80 6,oP 81 .sub 79 80,oM 16 81]) (.seq (.region [oM 82 16,o0 83 (.xd 8 1 (.t 7) (.t 82)),⟨none,none,.op (.Zk (.t 83) (.c (.bool true)))⟩]) (.region [oM 84 16,oF 85 1 3,o0 86 (.xd 16 1 (.t 85) (.t 84)),oL 87 86,o0 88 (.conv .i64 (.t 87)),oM 16 88])))))
def Xe : AC := .region [oM 59 15,oK 60 .add 59 1,oM 15 60]
def kq : AC := .seq (.seq (.region [oM 56 15,oM 57 6,oP 58 .lss 56 57]) (.cond 58 .skip (.exit 2))) (.seq (.block 3 (.seq (.seq (.region [oM 61 15,o0 62 (.xd 8 1 (.t 7) (.t 61)),oL 63 62]) (.cond 63 (.exit 3) .skip)) (.seq (.region [oM 64 14,oK 65 .add 64 1,oM 14 65]) (.seq (.region [oM 66 15,oM 16 66]) (.block 4 (.loop Xi)))))) Xe)
def Ut : AC := .seq (.region [oN 89 17 8,oM 90 14,oS 17 4 89,oM 5 90]) .ret
def Un : AC := .seq (.region [oI 14 0]) (.seq (.seq (.region [oI 15 0]) (.block 2 (.loop kq))) Ut)
def Us : AC := .seq (.seq (.region [oI 9 0]) (.block 0 (.loop Xr))) Un
def qaa : AC := .seq (.region [o0 2 (.box (.t 0)),o0 3 (.box (.t 1)),oD 4,oI 5 0]) (.seq (.tree false Uu) Us)
theorem qkf : zl Try.prog 140 = some ⟨91, qaa, [.bg 4 17, .slot 5]⟩ := by kernel_rfl
theorem qjz (N : Nat) (d e : List Nat) (hd : okD d) (he : okD e) (hds : isS N d = true) (hes : isS N e = true) :
    Am.Fn Try.prog 140 [.agg (dia N d), .agg (dia N e)] [] (fun v H' => v = .tup [.agg (dia N (ji N d e)), .int .i64 (lpN N d e N : Nat)] ∧ H' = []) := by
  refine Am.Fn.xu (R := fun v => v = _) qcl mixed qkf (by simp) (by simp) ?_
  obtain ⟨hN, hpd, _⟩ := xm hds
  obtain ⟨_, hpe, _⟩ := xm hes
  have hdl := hd.1
  have hel := he.1
  have hb8 : [AV.bool false, .bool false, .bool false, .bool false, .bool false, .bool false, .bool false, .bool false] = bls (List.replicate 8 false) := rfl
  simp (maxSteps := 3000000) only [qh, zH, qaa, wy, xl, qf, hdl, hel, Qo, iE, iN, iB, iC, iL, iD, iA, iS, iM, qa, zZ, ↓qt, ↓reduceIte, reduceCtorEq, nA, nM, nS, nE, nL, nD]; try simp only [qa, zY]
  refine WA.qlh qcl (fun s => s = ⟨[(8, .ptr 4 0), (7, .ptr 3 0), (6, .int .i64 N), (5, .int .i64 0), (4, .ptr 2 0), (3, .ptr 1 0), (2, .ptr 0 0)], [.cells (dia N d), .cells (dia N e), .cells (dia 0 (List.replicate 16 0)), .cells (bls (List.replicate 8 false)), .cells (dia N (List.replicate 16 0))]⟩) ?_ ?_
  · have hov8 : over (bls (List.replicate 8 false)) 0 (bls (List.replicate 8 false)) = bls (List.replicate 8 false) := rfl
    have hl8 : (bls (List.replicate 8 false)).length = 8 := rfl
    have ho8 : (bls (List.replicate 8 false)).all AV.one = true := rfl
    unfold Uu
    simp (maxSteps := 3000000) only [qh, zH, J4, Ym, hb8, hov8, hl8, ho8, wy, xl, Y2, qf, hdl, hel, Qo, j7, y6 j5 j5, List.length_replicate, Nat.le_refl, iE, iN, iB, iC, iL, iD, iA, iS, iM, qa, zZ, ↓qt, ↓reduceIte, reduceCtorEq, nA, nM, nS, nE, nL, nD]; try simp only [qa, zY]
    repeat' (with_reducible refine And.intro ?_ ?_)
    all_goals first
      | exact ⟨_, qx.qy [8, 7, 6, 5, 4, 3, 2], rfl⟩
      | (refine ⟨_, qx.xf [0, 1, 2, 4, 3] [8, 7, 6, 5, 4, 3, 2] ⟨by decide, ?_⟩ ?_, ?_⟩
         · simp only [qd _ _ (qg _ _), qd _ _ (vd _), zK, ↓reduceIte, reduceCtorEq, nE, nB, nA]
         · simp only [qd _ _ (qg _ _), qd _ _ (vd _), zK, ↓reduceIte, reduceCtorEq, nE, nB, nA]
         · simp only [qc _ _ (qg _ _), qc _ _ (vd _), zL, ↓reduceIte, reduceCtorEq, nE, nA])
  rintro s rfl
  simp (maxSteps := 3000000) only [qh, zH, Us, iE, iN, iB, iC, iL, iD, iA, iS, iM, qa, zZ, ↓qt, ↓reduceIte, reduceCtorEq, nA, nM, nS, nE, nL, nD]; try simp only [qa, zY]
  refine WA.jh qcl (fun s => ∃ k : Nat, k ≤ N ∧ s = ⟨[(9, .int .i64 k), (8, .ptr 4 0), (7, .ptr 3 0), (6, .int .i64 N), (5, .int .i64 0), (4, .ptr 2 0), (3, .ptr 1 0), (2, .ptr 0 0)], [.cells (dia N d), .cells (dia N e), .cells (dia 0 (List.replicate 16 0)), .cells (bls (qdz N d e k)), .cells (dia N (Yc N d e k))]⟩)
    (fun s => match get s.env 9 with | .int _ x => N - x.toNat | _ => 0) ⟨_, qx.qy [9, 8, 7, 6, 5, 4, 3, 2], 0, by omega, rfl⟩ ?_
  rintro s ⟨k, hk, rfl⟩
  have hw : qm .i64 ((k : Int) + 1) = ((k + 1 : Nat) : Int) := by rw [wrap64 (by omega) (by omega)]; rfl
  by_cases hlt : k < N
  · have hli : (k : Int) < (N : Int) := by omega
    have hk16 := wt N d e k
    have hmk := (X1 hds hes k hk).len
    have hx1 := qdm hds hes (i := k) (by omega)
    have hx2 := qdm hds hes (i := N + k) (by omega)
    have u1 : qm .u8 ((pr N d e k : Nat) : Int) = ((pr N d e k : Nat) : Int) := Km (by omega)
    have u2 : qm .u8 ((pr N d e (N + k) : Nat) : Int) = ((pr N d e (N + k) : Nat) : Int) := Km (by omega)
    have hadd : qm .i64 ((N : Int) + (k : Int)) = ((N + k : Nat) : Int) := by rw [wrap64 (by omega) (by omega)]; rfl
    obtain ⟨c1, c2⟩ := gp (show k < 16 by omega)
    obtain ⟨c3, c4⟩ := gp (show N + k < 16 by omega)
    have c5 : k < 16 := by omega
    have c6 : N + k < 16 := by omega
    have k1 : (0 : Int) ≤ (k : Int) ∧ (k : Int) < 2 * (N : Int) := by omega
    have k2 : (0 : Int) ≤ ((N + k : Nat) : Int) ∧ ((N + k : Nat) : Int) < 2 * (N : Int) := by omega
    have q1 : (true = decide ((k : Int) < (N : Int))) = True := by simp [hlt]
    have q2 : (false = decide (((N + k : Nat) : Int) < (N : Int))) = True := by simp; omega
    have hf1 : (fol N d e true k (qdz N d e k)).length = 8 := by rw [qri hds hes (by omega) (by simp [hlt])]; exact hmk
    have q0 : (0 : Int) ≤ (N : Int) := by omega
    have hdo := za (n := (N : Int)) hd
    have heo := za (n := (N : Int)) he
    simp (maxSteps := 3000000) only [qh, zH, Xr, x9, b8, hw, hli, qf, hdl, hel, zb hdl, zb hel, hdo, heo, Bo, Int.toNat_natCast, hds, hes, k1, k2, q0, q1, q2, hmk, hf1, u1, u2, hadd, c1, c2, c3, c4, c5, c6, hk16, qav, List.length_set, ve, AV.one, and_self, true_and, and_true, iE, iN, iB, iC, iL, iD, iA, iS, iM, qa, zZ, ↓qt, ↓reduceIte, reduceCtorEq, nA, nM, nS, nE, nL, nD]; try simp only [qa, zY]
    refine ⟨_, qx.qy [9, 8, 7, 6, 5, 4, 3, 2], ⟨k + 1, by omega, ?_⟩, ?_⟩
    · simp only [zL, ↓reduceIte, reduceCtorEq, nE, nA]
      rfl
    · simp only [zL, ↓reduceIte, reduceCtorEq, nE, nA]; omega
  have hli : ¬ (k : Int) < (N : Int) := by omega
  obtain rfl : k = N := by omega
  simp (maxSteps := 3000000) only [qh, zH, Xr, Un, x9, b8, hli, Int.lt_irrefl, iE, iN, iB, iC, iL, iD, iA, iS, iM, qa, zZ, ↓qt, ↓reduceIte, reduceCtorEq, nA, nM, nS, nE, nL, nD]; try simp only [qa, zY]
  refine WA.jh qcl (fun s => ∃ (i : Nat) (met : List Bool), i ≤ k ∧ (met.length = 8 ∧ ∀ x, mt met x ↔ Seen k d e i x) ∧ s = ⟨[(15, .int .i64 i), (14, .int .i64 (lpN k d e i : Nat)), (8, .ptr 4 0), (7, .ptr 3 0), (6, .int .i64 k), (5, .int .i64 0), (4, .ptr 2 0), (3, .ptr 1 0), (2, .ptr 0 0)], [.cells (dia k d), .cells (dia k e), .cells (dia 0 (List.replicate 16 0)), .cells (bls met), .cells (dia k (ji k d e))]⟩)
    (fun s => match get s.env 15 with | .int _ x => k - x.toNat | _ => 0) ⟨_, qx.qy [15, 14, 8, 7, 6, 5, 4, 3, 2], 0, qdz k d e k, by omega, ⟨(X1 hds hes k (Nat.le_refl _)).len, fun x => ⟨.inl, fun h => h.elim id fun ⟨j, hj, _⟩ => absurd hj (Nat.not_lt_zero _)⟩⟩, rfl⟩ ?_
  clear hlt hli hw
  rintro s ⟨i, met, hi, ⟨hml, hmt⟩, rfl⟩
  have hw : qm .i64 ((i : Int) + 1) = ((i + 1 : Nat) : Int) := by rw [wrap64 (by omega) (by omega)]; rfl
  have hle := qet k d e i
  have hw2 : qm .i64 (((lpN k d e i : Nat) : Int) + 1) = ((lpN k d e i + 1 : Nat) : Int) := by rw [wrap64 (by omega) (by omega)]; rfl
  by_cases hlt : i < k
  · have hli : (i : Int) < (k : Int) := by omega
    have g1 := V4 (show i < 8 by omega)
    have g2 : i < 8 := by omega
    have g3 := qq4 (l := met) (i := i) (by omega)
    by_cases hs : Seen k d e i i
    · have hm1 : met.getD i false = true := (hmt i).2 hs
      simp (maxSteps := 3000000) only [qh, zH, kq, Xe, x9, b8, hw, hli, g1, g2, g3, hm1, ve, hml, iE, iN, iB, iC, iL, iD, iA, iS, iM, qa, zZ, ↓qt, ↓reduceIte, reduceCtorEq, nA, nM, nS, nE, nL, nD]; try simp only [qa, zY]
      refine ⟨_, qx.qy [15, 14, 8, 7, 6, 5, 4, 3, 2], ⟨i + 1, met, by omega, ⟨hml, fun x => by rw [hmt, qll hds hes hs]⟩, ?_⟩, ?_⟩
      · simp only [zL, ↓reduceIte, reduceCtorEq, nE, nA]
        simp only [lpN, if_pos hs]
      · simp only [zL, ↓reduceIte, reduceCtorEq, nE, nA]; omega
    · have hm1 : met.getD i false = false := by
        cases h : met.getD i false with
        | false => rfl
        | true => exact absurd ((hmt i).1 h) hs
      simp (maxSteps := 3000000) only [qh, zH, kq, x9, b8, hw, hw2, hli, g1, g2, g3, hm1, ve, hml, iE, iN, iB, iC, iL, iD, iA, iS, iM, qa, zZ, ↓qt, ↓reduceIte, reduceCtorEq, nA, nM, nS, nE, nL, nD]; try simp only [qa, zY]
      refine WA.jh qcl (fun s => ∃ (x : Nat) (mm : List Bool), InL k d e (dm k d) (em e) i x mm ∧ s = ⟨[(16, .int .i64 x), (15, .int .i64 i), (14, .int .i64 (lpN k d e i + 1 : Nat)), (8, .ptr 4 0), (7, .ptr 3 0), (6, .int .i64 k), (5, .int .i64 0), (4, .ptr 2 0), (3, .ptr 1 0), (2, .ptr 0 0)], [.cells (dia k d), .cells (dia k e), .cells (dia 0 (List.replicate 16 0)), .cells (bls mm), .cells (dia k (ji k d e))]⟩)
        (fun s : St => match s.hp[3]? with | some (AO.cells l) => Qz l | _ => 0) ⟨_, qx.qy [16, 15, 14, 8, 7, 6, 5, 4, 3, 2], i, met, ⟨hml, .inl ⟨rfl, hmt⟩⟩, rfl⟩ ?_
      rintro s ⟨x, mm, hin, rfl⟩
      have hmm := hin.1
      have hdi := Kx hds hes
      have hei := Ko hds hes
      have hxk : x < k := by
        rcases hin.2 with ⟨rfl, _⟩ | ⟨T, last, hT, rfl, _⟩
        · exact hlt
        · exact (hei.mem _ (Ring.mem hdi hei ⟨hlt, fun h => hs (.inl h)⟩ (hT.ring _ hT.lm))).1
      have g4 := V4 (show x < 8 by omega)
      have g5 : x < 8 := by omega
      have g6 := qq4 (l := mm) (i := x) (by omega)
      by_cases hmx : mm.getD x false = true
      · have hst := quc hds hes hdi hei (fun _ _ => Iff.rfl) hlt hs hin hmx
        simp (maxSteps := 3000000) only [qh, zH, Xi, Xe, x9, b8, hw, g4, g5, g6, hmx, ve, hmm, Bool.not_true, iE, iN, iB, iC, iL, iD, iA, iS, iM, qa, zZ, ↓qt, ↓reduceIte, reduceCtorEq, nA, nM, nS, nE, nL, nD]; try simp only [qa, zY]
        refine ⟨_, qx.qy [15, 14, 8, 7, 6, 5, 4, 3, 2], ⟨i + 1, mm, by omega, ⟨hmm, hst⟩, ?_⟩, ?_⟩
        · simp only [zL, ↓reduceIte, reduceCtorEq, nE, nA]
          simp only [lpN, if_neg hs]
        · simp only [zL, ↓reduceIte, reduceCtorEq, nE, nA]; omega
      · obtain ⟨y1, y2, y3⟩ := qtj hdi hei (by omega) hlt hs hin hmx
        have hmx' : mm.getD x false = false := by simpa using hmx
        obtain ⟨z1, z2, z3⟩ := qiy hds hes y1
        have hdx : dm k d x = d.getD (k + x) 0 - k := rfl
        have hyk := y2.1
        have hadd : qm .i64 ((k : Int) + (x : Int)) = ((k + x : Nat) : Int) := by rw [wrap64 (by omega) (by omega)]; rfl
        obtain ⟨c3, c4⟩ := gp (show k + x < 16 by omega)
        have c6 : k + x < 16 := by omega
        obtain ⟨c7, c8⟩ := gp (show dm k d x < 16 by omega)
        have c9 : dm k d x < 16 := by omega
        have g7 := V4 (show dm k d x < 8 by omega)
        have g8 : dm k d x < 8 := by omega
        have d1 := Vx (n := (k : Int)) (m := d) (i := k + x) (by omega)
        have d2 := Vx (n := (k : Int)) (m := e) (i := dm k d x) (by omega)
        have v1 : qm .i64 ((d.getD (k + x) 0 : Nat) : Int) = ((d.getD (k + x) 0 : Nat) : Int) := Qr (by omega)
        have v2 : qm .i64 (((d.getD (k + x) 0 : Nat) : Int) - (k : Int)) = ((dm k d x : Nat) : Int) := by rw [wrap64 (by omega) (by omega)]; omega
        have v3 : qm .i64 ((e.getD (dm k d x) 0 : Nat) : Int) = ((e.getD (dm k d x) 0 : Nat) : Int) := Qr (by have := qiy hds hes y2; omega)
        simp (maxSteps := 3000000) only [qh, zH, Xi, x9, b8, g4, g5, g6, g7, g8, hmx', ve, qeb, hmm, List.length_set, hadd, c3, c4, c6, c7, c8, c9, d1, d2, v1, v2, v3, qf, hdl, hel, AV.one, Bool.not_false, iE, iN, iB, iC, iL, iD, iA, iS, iM, qa, zZ, ↓qt, ↓reduceIte, reduceCtorEq, nA, nM, nS, nE, nL, nD]; try simp only [qa, zY]
        refine ⟨_, qx.qy [16, 15, 14, 8, 7, 6, 5, 4, 3, 2], ⟨_, _, y3, ?_⟩, ?_⟩
        · simp only [zL, ↓reduceIte, reduceCtorEq, nE, nA]
          rfl
        · simp only [zL, ↓reduceIte, reduceCtorEq, nE, nA]
          have h1 := Yq (met := mm) (k := x) (by omega) hmx'
          have h2 := qik (met := mm.set x true) (k := dm k d x)
          omega
  · have hli : ¬ (i : Int) < (k : Int) := by omega
    obtain rfl : i = k := by omega
    have hk16 := wt i d e i
    have hk16' : (ji i d e).length = 16 := hk16
    simp (maxSteps := 3000000) only [qh, zH, kq, Ut, x9, b8, hli, qf, hk16', zb hk16', y6 j5 hk16', j7, List.length_replicate, Int.lt_irrefl, iE, iN, iB, iC, iL, iD, iA, iS, iM, qa, zZ, ↓qt, ↓reduceIte, reduceCtorEq, nA, nM, nS, nE, nL, nD]; try simp only [qa, zY]
    simp only [qg, Bool.and_self]
noncomputable def vc : List AV → Option AV
  | [.agg ld, .agg le] => match wv ld, wv le with
    | some (n, d), some (n', e) => chk ((n' = n ∧ 0 ≤ n) ∧ isS n.toNat d = true ∧ isS n.toNat e = true) (some (.tup [.agg (dia n (ji n.toNat d e)), .int .i64 (lpN n.toNat d e n.toNat : Nat)]))
    | _, _ => none
  | _ => none
theorem qgo {f : FuncId} (h : ∀ (N : Nat) d e, okD d → okD e → isS N d = true → isS N e = true → Am.Fn Try.prog f [.agg (dia N d), .agg (dia N e)] [] (fun v H' => v = .tup [.agg (dia N (ji N d e)), .int .i64 (lpN N d e N : Nat)] ∧ H' = [])) : Am.Callee Try.prog f (ql vc) := Am.Callee.plain fun xs v he => by
  unfold vc at he
  split at he
  · rename_i ld le
    split at he
    · rename_i n d n' e hd1 he1
      obtain ⟨⟨⟨a1, a2⟩, a3, a4⟩, he2⟩ := qk he
      cases he2
      obtain ⟨rfl, hd⟩ := z6 hd1
      obtain ⟨rfl, he'⟩ := z6 he1
      subst a1
      obtain ⟨N, rfl⟩ : ∃ N : Nat, n' = N := ⟨n'.toNat, by omega⟩
      simp only [Int.toNat_natCast] at a3 a4 ⊢
      exact ⟨by simp [AV.zh, AV.zp, qg], by simp [AV.zh, AV.zp, qg], h N d e hd he' a3 a4⟩
    · cases he
  · cases he
noncomputable def B81 : zk := (B80.put 140 (ql vc))
theorem qjg : qu Try.prog B81 := (qcl.put (qgo qjz))
def qc7 : AC := .skip
theorem qk3 : zl Try.prog 171 = some ⟨4, qc7, []⟩ := by kernel_rfl
theorem qns (b : Bool) (i : Int) : Am.Fn Try.prog 171 [.bool b, .int .i64 i] [] (fun v H' => v = .tup [] ∧ H' = []) := by
  refine Am.Fn.xu (R := fun v => v = _) qjg mixed qk3 (by simp) (by simp) ?_
  simp (maxSteps := 3000000) only [qh, zH, qc7, qa, iE, iN, iB, iC, iL, iD, iA, iS, iM, qa, zZ, ↓qt, ↓reduceIte, reduceCtorEq, nA, nM, nS, nE, nL, nD]; try simp only [qa, zY]
def kb : List AV → Option AV
  | [.bool _, .int .i64 _] => some (.tup [])
  | _ => none
theorem qzz : Am.Callee Try.prog 171 (ql kb) := Am.Callee.plain fun xs v he => by
  unfold kb at he
  split at he
  · cases he; exact ⟨rfl, rfl, qns _ _⟩
  · cases he
def qc0 : AC := .region [oM 5 0,oM 6 1,o0 7 (.conv .u8 (.t 6)),oF 8 1 2,o0 9 (.xd 16 1 (.t 8) (.t 5)),oT 9 7]
theorem qnj : zl Try.prog 172 = some ⟨10, qc0, []⟩ := by kernel_rfl
theorem qn3 (n : Int) (m : List Nat) (hm : m.length = 16) (i v : Nat) (hi : i < 16) (hv : v < 256) : Am.Fn Try.prog 172 [.int .i64 i, .int .i64 v, .ptr 0 0] [.cells (dia n m)] (fun r H' => r = .tup [] ∧ H' = [.cells (dia n (m.set i v))]) := by
  refine Am.Fn.ofB qjg mixed qnj (by simp [AV.qp, AV.under]) (fun j o hj => by
    match j, hj with
    | 0, hj => cases hj; exact qi _ _ (qg _ _)
    | j + 1, hj => simp at hj) ?_
  obtain ⟨c1, c2⟩ := gp hi
  have c3 : i < 16 := hi
  have hw : qm .u8 (v : Int) = (v : Int) := Km hv
  simp (maxSteps := 3000000) only [qh, zH, qc0, qa, qf, hm, qav, c1, c2, c3, hw, AV.one, iE, iN, iB, iC, iL, iD, iA, iS, iM, qa, zZ, ↓qt, ↓reduceIte, reduceCtorEq, nA, nM, nS, nE, nL, nD]; try simp only [qa, zY]
  refine Ret.xf [0] ⟨⟨Nat.le_refl 1, rfl, by decide⟩, ?_⟩ (rs := []) rfl rfl (by simp [zt]) ?_ ⟨rfl, ?_⟩
  · simp only [qd _ _ (qg _ _), zK, ↓reduceIte, reduceCtorEq, nE, nB, nA]
  · intro j l; cases j <;> simp [q7, AO.ren]
  · simp only [qc _ _ (qg _ _), zL, ↓reduceIte, reduceCtorEq, nE, nA]
def Uj : BE := fun hp xs => match xs with
  | [.int .i64 i, .int .i64 v, .ptr b 0] => match hp[b]? with
    | some (.cells l) => match wv l with
      | some (n, m) => chk ((0 ≤ i ∧ i < 16) ∧ 0 ≤ v ∧ v < 256) (some (.tup [], hp.set b (.cells (dia n (m.set i.toNat v.toNat)))))
      | none => none
    | _ => none
  | _ => none
theorem q1a : Am.Callee Try.prog 172 Uj := Callee.fp fun hp xs v hp' he => by
  unfold Uj at he
  split at he
  · rename_i i v b
    split at he
    · rename_i l hb
      split at he
      · rename_i n m hd1
        obtain ⟨⟨⟨a1, a2⟩, a3, a4⟩, he2⟩ := qk he
        simp only [Option.some.injEq, Prod.mk.injEq] at he2
        obtain ⟨rfl, rfl⟩ := he2
        obtain ⟨rfl, hd⟩ := z6 hd1
        obtain ⟨k, rfl⟩ : ∃ k : Nat, i = k := ⟨i.toNat, by omega⟩
        obtain ⟨w, rfl⟩ : ∃ w : Nat, v = w := ⟨v.toNat, by omega⟩
        simp only [Int.toNat_natCast]
        refine ⟨[(b, 0)], [.int .i64 k, .int .i64 w, .ptr 0 0], _, _, _, qn3 n m hd.1 k w (by omega) (by omega), by simp [AV.ren, AV.zg, ofL], by simp [jg], ⟨⟨rfl, by simp only [AO.ren, qc _ _ (qg _ _)]; exact hb⟩, trivial⟩, rfl, ⟨qi _ _ (qg _ _), trivial⟩, ⟨trivial, trivial, by simp [AV.under], trivial⟩, by simp [AV.ren, AV.zg], ?_⟩
        simp [after, upd, AO.wr, AO.ren, qc _ _ (qg _ _)]
      · cases he
    · cases he
  · cases he
def qdb : AC := .region [oL 1 0,oK 2 .add 1 1,oT 0 2]
theorem qmu : zl Try.prog 173 = some ⟨3, qdb, []⟩ := by kernel_rfl
theorem ql3 (k : Nat) (hk : k ≤ 1000) : Am.Fn Try.prog 173 [.ptr 0 0] [.cells [.int .i64 k]] (fun r H' => r = .tup [] ∧ H' = [.cells [.int .i64 (k + 1 : Nat)]]) := by
  refine Am.Fn.ofB qjg mixed qmu (by simp [AV.qp, AV.under]) (fun j o hj => by
    match j, hj with
    | 0, hj => cases hj; exact ⟨trivial, trivial⟩
    | j + 1, hj => simp at hj) ?_
  have hw : qm .i64 ((k : Int) + 1) = ((k + 1 : Nat) : Int) := by rw [wrap64 (by omega) (by omega)]; rfl
  simp (maxSteps := 3000000) only [qh, zH, qdb, qa, hw, AV.one, iE, iN, iB, iC, iL, iD, iA, iS, iM, qa, zZ, ↓qt, ↓reduceIte, reduceCtorEq, nA, nM, nS, nE, nL, nD]; try simp only [qa, zY]
  refine Ret.xf [0] ⟨⟨Nat.le_refl 1, rfl, by decide⟩, ?_⟩ (rs := []) rfl rfl (by simp [zt]) ?_ ⟨rfl, ?_⟩
  · simp only [qd _ _ (qg _ _), zK, ↓reduceIte, reduceCtorEq, nE, nB, nA]
  · intro j l; cases j <;> simp [q7, AO.ren]
  · simp only [qc _ _ (qg _ _), zL, ↓reduceIte, reduceCtorEq, nE, nA]
def uy : BE := fun hp xs => match xs with
  | [.ptr b 0] => match hp[b]? with
    | some (.cells [.int .i64 k]) => chk (0 ≤ k ∧ k ≤ 1000) (some (.tup [], hp.set b (.cells [.int .i64 (k + 1)])))
    | _ => none
  | _ => none
theorem qtv : Am.Callee Try.prog 173 uy := Callee.fp fun hp xs v hp' he => by
  unfold uy at he
  split at he
  · rename_i b
    split at he
    · rename_i k hb
      obtain ⟨⟨a1, a2⟩, he2⟩ := qk he
      simp only [Option.some.injEq, Prod.mk.injEq] at he2
      obtain ⟨rfl, rfl⟩ := he2
      obtain ⟨k', rfl⟩ : ∃ k' : Nat, k = k' := ⟨k.toNat, by omega⟩
      refine ⟨[(b, 0)], [.ptr 0 0], _, _, _, ql3 k' (by omega), by simp [AV.ren, AV.zg, ofL], by simp [jg], ⟨⟨rfl, by simp only [AO.ren, AV.zg, AV.ren]; exact hb⟩, trivial⟩, rfl, ⟨⟨trivial, trivial⟩, trivial⟩, ⟨by simp [AV.under], trivial⟩, by simp [AV.ren, AV.zg], ?_⟩
      simp [after, upd, AO.wr, AO.ren, AV.zg, AV.ren]
    · cases he
  · cases he
noncomputable def B82 : zk := (((B81.put 171 (ql kb)).put 172 (Uj)).put 173 (uy))
theorem qfa : qu Try.prog B82 := (((qjg.put (qzz)).put (q1a)).put (qtv))
def stk (a b : Nat) (met : List Bool) : List AV := .ptr a 0 :: .ptr b 0 :: (bls met ++ [.fn 171 [] []])
theorem wa {a b : Nat} {met : List Bool} : (stk a b met).length = met.length + 3 := by simp [stk, ve]
theorem Q6 {a b : Nat} {met : List Bool} : (stk a b met)[0]? = some (.ptr a 0) := rfl
theorem Q9 {a b : Nat} {met : List Bool} : (stk a b met)[1]? = some (.ptr b 0) := rfl
theorem Zv {a b : Nat} {met : List Bool} (h : met.length = 8) : (stk a b met)[10]? = some (.fn 171 [] []) := by
  simp [stk, List.getElem?_append, ve, h]
theorem qar {a b : Nat} {met : List Bool} {i : Nat} {v : Bool} (h : met.length = 8) (hi : i < 8) : (stk a b met).set (2 + i) (.bool v) = stk a b (met.set i v) := by
  rw [Nat.add_comm]
  simp [stk, List.set_append, ve, h, hi, qeb]
theorem qyd {a b : Nat} {met : List Bool} {i : Nat} (h : met.length = 8) (hi : i < 8) : (stk a b met)[2 + i]? = some (.bool (met.getD i false)) := by
  rw [Nat.add_comm]
  simp [stk, List.getElem?_append, ve, h, hi, bls]
theorem qp2 {n : Nat} (met : List Bool) : AV.qp n (bls met) := qi _ _ (vd _)
theorem qm6 {ρ : Ren} : ∀ (l l' : List AV), AV.zg ρ (l ++ l') = AV.zg ρ l ++ AV.zg ρ l'
  | [], _ => rfl
  | a :: l, l' => by simp [AV.zg, qm6 l l']
theorem qcu {n : Nat} : ∀ (l l' : List AV), AV.qp n l → AV.qp n l' → AV.qp n (l ++ l')
  | [], _, _, h => h
  | a :: l, l', h, h' => ⟨h.1, qcu l l' h.2 h'⟩
theorem qay {ids : List Nat} : ∀ (l l' : List AV), AV.zy ids l = true → AV.zy ids l' = true → AV.zy ids (l ++ l') = true
  | [], _, _, h => h
  | a :: l, l', h, h' => by
    simp only [AV.zy, List.cons_append, Bool.and_eq_true] at h ⊢
    exact ⟨h.1, qay l l' h.2 h'⟩
theorem Wc {ρ : Ren} {a b : Nat} {met : List Bool} : AV.zg ρ (stk a b met) = (AV.ptr a 0).ren ρ :: (AV.ptr b 0).ren ρ :: (bls met ++ [.fn 171 [] []]) := by
  simp only [stk, AV.zg, qm6, qc _ _ (vd met)]
  simp [AV.zg, AV.ren]
theorem qh6 {n a b : Nat} {met : List Bool} (h1 : a < n) (h2 : b < n) : AV.qp n (stk a b met) := ⟨h1, h2, qcu _ _ (qp2 _) ⟨⟨trivial, trivial⟩, trivial⟩⟩
theorem qqi {x N : Nat} (h1 : N ≤ x) (h2 : x < 2 * N) : Int.tmod (x : Int) (N : Int) = ((x - N : Nat) : Int) := by
  show ((x % N : Nat) : Int) = _
  rw [Nat.mod_eq_sub_mod h1, Nat.mod_eq_of_lt (by omega)]
theorem qqm {x N : Nat} (h1 : x < N) : Int.tmod (x : Int) (N : Int) = (x : Int) := by
  show ((x % N : Nat) : Int) = _
  rw [Nat.mod_eq_of_lt h1]
theorem Ku {met : List Bool} : AV.zy [0, 1, 2] (stk 1 2 met) = true := by
  have h : AV.zy [0, 1, 2] (bls met ++ [.fn 171 [] []]) = true := qay _ _ (qd _ _ (vd _)) rfl
  simp [stk, AV.zy, AV.within, h]
theorem ro3 {m m' l1 l2 : List AV} {hp : List AO} : ∀ (j : Nat) (l : List AV), (q7 [0, 1, 2] (.cells m :: .ro l1 :: .ro l2 :: hp))[j]? = some (AO.ro l) → ∃ l', ([.cells m', .ro l1, .ro l2] : List AO)[j]? = some (AO.ro l')
  | 0, l, h => by simp [q7, AO.ren] at h
  | 1, l, h => ⟨_, rfl⟩
  | 2, l, h => ⟨_, rfl⟩
  | j + 3, l, h => by simp [q7] at h
def H3 (N : Nat) (d e : List Nat) (met : List Bool) : List AO := [.cells (stk 1 2 met), .ro (dia N d), .ro (dia N e)]
theorem qlj {N : Nat} {d e : List Nat} {met : List Bool} : ∀ (j : Nat) (o : AO), (H3 N d e met)[j]? = some o → o.under 3 := fun j o hj => by
  match j, hj with
  | 0, hj => cases hj; exact qh6 (by omega) (by omega)
  | 1, hj => cases hj; exact qi _ _ (qg _ _)
  | 2, hj => cases hj; exact qi _ _ (qg _ _)
  | j + 3, hj => simp [H3] at hj
theorem vz : B82 168 = some (Ug 1 g_n) := rfl
theorem yr : B82 171 = some (ql kb) := rfl
def xc : AC := .block 1 (.seq (.region [oM 17 0,o0 18 (.vf (.t 17)),oF 19 0 18,oL 20 19,oM 10 20]) (.seq (.seq (.region [oM 21 1]) (.cond 21 (.region [oM 22 0,o0 23 (.vf (.t 22)),oF 24 1 23,oL 25 24,oM 10 25]) .skip)) (.seq (.region [oM 26 0,o0 27 (.vf (.t 26)),oF 28 10 27,oL 29 28,oM 30 1,oM 31 2,⟨some 32,none,.call (.t 29) [.t 30,.t 31]⟩]) (.seq (.region [oM 33 10,oM 34 2,o0 35 (.vf (.t 33)),oF 36 1 35,o0 37 (.xd 16 1 (.t 36) (.t 34)),oL 38 37,o0 39 (.conv .i64 (.t 38)),oM 2 39]) (.seq (.seq (.region [oM 40 1,oM 41 2,oM 42 9,oP 43 .geq 41 42,o0 44 (.eqb false (.t 40) (.t 43))]) (.cond 44 (.seq (.region [oM 45 2,oM 8 45]) .ret) .skip)) (.seq (.region [oM 46 2,oM 47 9,oP 48 .rem 46 47,oM 11 48]) (.seq (.region [oM 49 0,oM 50 11,o0 51 (.vf (.t 49)),oF 52 2 51,o0 53 (.xd 8 1 (.t 52) (.t 50)),⟨none,none,.op (.Zk (.t 53) (.c (.bool true)))⟩]) (.seq (.seq (.region [oM 54 1,o0 55 (.un .not (.t 54)),oM 1 55]) (.seq (.region [oM 56 1]) (.cond 56 (.region [oM 57 11,oM 2 57]) (.region [oM 58 9,oM 59 11,oP 60 .add 58 59,oM 2 60])))) (.seq (.region [oM 61 11,oM 62 3,oP 63 .eql 61 62]) (.cond 63 (.seq (.region [oI 8 (-1)]) .ret) .skip))))))))))
def Zo : AC := .seq (.region [oI 8 0]) (.seq (.region [oM 12 0,o0 13 (.vf (.t 12)),oF 14 0 13,oL 15 14,oC 16 168 [.t 15],oM 9 16]) (.block 0 (.loop xc)))
theorem Yb : zl Try.prog 187 = some ⟨64, Zo, [.slot 8]⟩ := by kernel_rfl
theorem qp8 (N : Nat) (d e : List Nat) (hd : okD d) (he : okD e) (hds : isS N d = true) (hes : isS N e = true) {f : Nat} {u : Bool} {i : Nat} {met : List Bool} {r : Nat} {s : Bool} {met' : List Bool} (hf : zm N d e f u i met = some (r, s, met')) (hi : i < 2 * N) (hm : met.length = 8) :
    Am.Fn Try.prog 187 [.ptr 0 0, .bool (!u), .int .i64 i, .int .i64 (-1)] (H3 N d e met) (fun v H' => v = .int .i64 r ∧ H' = H3 N d e met') := by
  refine Am.Fn.ofB qfa mixed Yb (by simp [AV.qp, AV.under, H3]) qlj ?_
  obtain ⟨hN, hpd, _⟩ := xm hds
  obtain ⟨_, hpe, _⟩ := xm hes
  have hdl := hd.1
  have hel := he.1
  unfold H3
  simp (maxSteps := 3000000) only [qh, zH, Zo, vz, yr, kb, g_n, wa, Q6, Q9, hm, qf, hdl, hel, Qo, K2, iE, iN, iB, iC, iL, iD, iA, iS, iM, qa, zZ, ↓qt, ↓reduceIte, reduceCtorEq, nA, nM, nS, nE, nL, nD]; try simp only [qa, zY]
  refine qul qfa (fun f st => ∃ (u : Bool) (i : Nat) (met : List Bool), zm N d e f u i met = some (r, s, met') ∧ i < 2 * N ∧ met.length = 8 ∧
      st = ⟨[(9, .int .i64 N), (0, .ptr 0 0), (1, .bool (!u)), (2, .int .i64 i), (3, .int .i64 (-1))], [.cells (stk 1 2 met), .ro (dia N d), .ro (dia N e)]⟩) ⟨_, qx.qy [9, 0, 1, 2, 3], f, u, i, met, hf, hi, hm, rfl⟩ ?_
  clear hf hi hm
  rintro k st ⟨u, i, met, hf, hi, hm, rfl⟩ post hpost
  obtain ⟨hi16, hi16'⟩ := gp (show i < 16 by omega)
  have hi17 : i < 16 := by omega
  have hN0 : (N : Int) ≠ 0 := by omega
  match k, u, hf with
  | 0, _, hf => simp [zm] at hf
  | f + 1, true, hf =>
    have hx := (hpd i hi).1
    have hcx : qm .i64 ((d.getD i 0 : Nat) : Int) = ((d.getD i 0 : Nat) : Int) := Qr (by omega)
    have hdx := Vx (n := (N : Int)) (m := d) (i := i) (by omega)
    rw [zm] at hf
    by_cases hlt : d.getD i 0 < N
    · rw [if_pos hlt] at hf
      simp only [Option.some.injEq, Prod.mk.injEq] at hf
      obtain ⟨rfl, rfl, rfl⟩ := hf
      have hli : ((N : Int) ≤ ((d.getD i 0 : Nat) : Int)) ↔ False := iff_false_intro (by omega)
      simp (maxSteps := 3000000) only [qh, zH, xc, vz, yr, kb, g_n, Bool.not_true, Bool.not_false, wa, Q6, Q9, Zv hm, hm, qf, hdl, hel, hi16, hi16', hi17, hcx, hdx, hli, decide_false, decide_true, beq_self_eq_true, bne_self_eq_false, Bool.true_beq, Bool.false_beq, AV.one, iE, iN, iB, iC, iL, iD, iA, iS, iM, qa, zZ, ↓qt, ↓reduceIte, reduceCtorEq, nA, nM, nS, nE, nL, nD]; try simp only [qa, zY]
      refine Ret.xf [0, 1, 2] ⟨⟨by simp, rfl, by decide⟩, ?_⟩ (rs := [.int .i64 (d.getD i 0 : Nat)]) rfl rfl (by simp [zt]) ?_ ⟨?_, ?_⟩
      · simp only [qd _ _ (qg _ _), Ku, zK, ↓reduceIte, reduceCtorEq, nE, nB, nA]
      · exact ro3
      · rfl
      · simp only [qc _ _ (qg _ _), Wc, zL, ↓reduceIte, reduceCtorEq, nE, nA]
        rfl
    · rw [if_neg hlt] at hf
      have hli : ((N : Int) ≤ ((d.getD i 0 : Nat) : Int)) ↔ True := iff_true_intro (by omega)
      have hrem := qqi (N := N) (x := d.getD i 0) (by omega) hx
      have h8 := V4 (show d.getD i 0 - N < 8 by omega)
      have h8' : d.getD i 0 - N < 8 := by omega
      have h10 : 2 + (d.getD i 0 - N) < 8 + 3 := by omega
      have hst : ((((d.getD i 0 - N : Nat) : Int)) == (-1 : Int)) = false := by rw [beq_eq_false_iff_ne]; omega
      simp (maxSteps := 3000000) only [qh, zH, xc, vz, yr, kb, g_n, Bool.not_true, Bool.not_false, wa, Q6, Q9, Zv hm, qar hm h8', hm, qf, hdl, hel, hi16, hi16', hi17, hcx, hdx, hli, decide_false, decide_true, beq_self_eq_true, bne_self_eq_false, Bool.true_beq, Bool.false_beq, hrem, h8, h8', h10, hN0, hst, AV.one, iE, iN, iB, iC, iL, iD, iA, iS, iM, qa, zZ, ↓qt, ↓reduceIte, reduceCtorEq, nA, nM, nS, nE, nL, nD]; try simp only [qa, zY]
      exact hpost _ _ f (qx.qy [9, 0, 1, 2, 3]) ⟨false, d.getD i 0 - N, _, hf, by omega, by simp [hm], rfl⟩ (Nat.lt_succ_self _)
  | f + 1, false, hf =>
    have hx := (hpe i hi).1
    have hcx : qm .i64 ((e.getD i 0 : Nat) : Int) = ((e.getD i 0 : Nat) : Int) := Qr (by omega)
    have hdx := Vx (n := (N : Int)) (m := e) (i := i) (by omega)
    rw [zm] at hf
    by_cases hlt : N ≤ e.getD i 0
    · rw [if_pos hlt] at hf
      simp only [Option.some.injEq, Prod.mk.injEq] at hf
      obtain ⟨rfl, rfl, rfl⟩ := hf
      have hli : ((N : Int) ≤ ((e.getD i 0 : Nat) : Int)) ↔ True := iff_true_intro (by omega)
      simp (maxSteps := 3000000) only [qh, zH, xc, vz, yr, kb, g_n, Bool.not_true, Bool.not_false, wa, Q6, Q9, Zv hm, hm, qf, hdl, hel, hi16, hi16', hi17, hcx, hdx, hli, decide_false, decide_true, beq_self_eq_true, bne_self_eq_false, Bool.true_beq, Bool.false_beq, AV.one, iE, iN, iB, iC, iL, iD, iA, iS, iM, qa, zZ, ↓qt, ↓reduceIte, reduceCtorEq, nA, nM, nS, nE, nL, nD]; try simp only [qa, zY]
      refine Ret.xf [0, 1, 2] ⟨⟨by simp, rfl, by decide⟩, ?_⟩ (rs := [.int .i64 (e.getD i 0 : Nat)]) rfl rfl (by simp [zt]) ?_ ⟨?_, ?_⟩
      · simp only [qd _ _ (qg _ _), Ku, zK, ↓reduceIte, reduceCtorEq, nE, nB, nA]
      · exact ro3
      · rfl
      · simp only [qc _ _ (qg _ _), Wc, zL, ↓reduceIte, reduceCtorEq, nE, nA]
        rfl
    · rw [if_neg hlt] at hf
      have hli : ((N : Int) ≤ ((e.getD i 0 : Nat) : Int)) ↔ False := iff_false_intro (by omega)
      have hrem := qqm (N := N) (x := e.getD i 0) (by omega)
      have hadd : qm .i64 ((N : Int) + ((e.getD i 0 : Nat) : Int)) = ((N + e.getD i 0 : Nat) : Int) := by rw [wrap64 (by omega) (by omega)]; rfl
      have h8 := V4 (show e.getD i 0 < 8 by omega)
      have h8' : e.getD i 0 < 8 := by omega
      have h10 : 2 + e.getD i 0 < 8 + 3 := by omega
      have hst : (((e.getD i 0 : Nat) : Int) == (-1 : Int)) = false := by rw [beq_eq_false_iff_ne]; omega
      simp (maxSteps := 3000000) only [qh, zH, xc, vz, yr, kb, g_n, Bool.not_true, Bool.not_false, wa, Q6, Q9, Zv hm, qar hm h8', hm, qf, hdl, hel, hi16, hi16', hi17, hcx, hdx, hli, decide_false, decide_true, beq_self_eq_true, bne_self_eq_false, Bool.true_beq, Bool.false_beq, hrem, hadd, h8, h8', h10, hN0, hst, AV.one, iE, iN, iB, iC, iL, iD, iA, iS, iM, qa, zZ, ↓qt, ↓reduceIte, reduceCtorEq, nA, nM, nS, nE, nL, nD]; try simp only [qa, zY]
      exact hpost _ _ f (qx.qy [9, 0, 1, 2, 3]) ⟨true, N + e.getD i 0, _, hf, by omega, by simp [hm], rfl⟩ (Nat.lt_succ_self _)
theorem uk : B82 168 = some (Ug 1 g_n) := rfl
theorem gi : B82 171 = some (ql kb) := rfl
def InA (n : Nat) (d e : List Nat) (i x : Nat) (met : List Bool) : Prop :=
  met.length = 8 ∧ ((x = i ∧ ∀ y, mt met y ↔ Seen n d e i y) ∨ ∃ (T : Nat → Prop) (last : Nat), qd3 (XX n d e) (em e) (dm n d) i T last ∧ x = dm n d last ∧ ¬ T x ∧ ∀ y, mt met y ↔ Seen n d e i y ∨ (T y ∧ y ≠ i) ∨ y = x)
def InB (n : Nat) (d e : List Nat) (i y : Nat) (met : List Bool) : Prop :=
  met.length = 8 ∧ ∃ (T : Nat → Prop), qd3 (XX n d e) (em e) (dm n d) i T y ∧ ∀ z, mt met z ↔ Seen n d e i z ∨ (T z ∧ z ≠ i)
theorem qt0 {n : Nat} {d e : List Nat} (hd : isS n d = true) (he : isS n e = true) (hn : n ≤ 8) {i x : Nat} {met : List Bool} (hi : i < n) (h0 : ¬ Seen n d e i i) (h : InA n d e i x met) :
    XX n d e x ∧ XX n d e (em e x) ∧ em e x ≠ i ∧ ¬ mt met (em e x) ∧ InB n d e i (em e x) (met.set (em e x) true) := by
  have hX : XX n d e i := ⟨hi, fun h => h0 (.inl h)⟩
  have hf := Ko hd he
  have hg := Kx hd he
  obtain ⟨hl, ⟨rfl, hm⟩ | ⟨T, last, hT, rfl, hTx, hm⟩⟩ := h
  · have h1 := hf.mem _ hX
    have h2 : ¬ mt met (em e x) := fun h => Yu hd he hi h0 (.two .base) ((hm _).1 h)
    have h3 := hf.fix _ hX
    refine ⟨hX, h1, h3, h2, by rw [List.length_set]; exact hl, _, qd3.start hf hX, fun z => ?_⟩
    rw [u6 (by have := h1.1; omega), hm]
    constructor
    · rintro (rfl | h)
      · exact .inr ⟨.inr rfl, h3⟩
      · exact .inl h
    · rintro (h | ⟨h | h, h'⟩)
      · exact .inr h
      · exact absurd h h'
      · exact .inl h
  · have hr := hT.ring _ hT.lm
    have h0' := hg.mem _ (Ring.mem hf hg hX hr)
    have h1 := hf.mem _ h0'
    obtain ⟨n1, n2, n3⟩ := hT.next hf hg hX hTx
    have h3 : em e (dm n d last) ≠ i := fun h => n2 (by rw [h]; exact hT.m0)
    have h4 : dm n d last ≠ i := fun h => hTx (by rw [h]; exact hT.m0)
    have h2 : ¬ mt met (em e (dm n d last)) := fun h => by
      rcases (hm _).1 h with h | ⟨h, _⟩ | h
      · exact Yu hd he hi h0 (Ring.swap (.one (.two hr))) h
      · exact n2 h
      · exact n3 h
    refine ⟨h0', h1, h3, h2, by rw [List.length_set]; exact hl, _, n1, fun z => ?_⟩
    rw [u6 (by have := h1.1; omega), hm]
    constructor
    · rintro (rfl | h | ⟨h, h'⟩ | rfl)
      · exact .inr ⟨.inr (.inl rfl), h3⟩
      · exact .inl h
      · exact .inr ⟨.inr (.inr h), h'⟩
      · exact .inr ⟨.inl rfl, h4⟩
    · rintro (h | ⟨h | h | h, h'⟩)
      · exact .inr (.inl h)
      · exact .inr (.inr (.inr h))
      · exact .inl h
      · exact .inr (.inr (.inl ⟨h, h'⟩))
theorem qti {n : Nat} {d e : List Nat} (hd : isS n d = true) (he : isS n e = true) (hn : n ≤ 8) {i y : Nat} {met : List Bool} (hi : i < n) (h0 : ¬ Seen n d e i i) (h : InB n d e i y met) :
    XX n d e y ∧ XX n d e (dm n d y) ∧ (dm n d y = i → ∀ z, mt (met.set i true) z ↔ Seen n d e i z ∨ Ring (dm n d) (em e) i z) ∧ (dm n d y ≠ i → ¬ mt met (dm n d y) ∧ InA n d e i (dm n d y) (met.set (dm n d y) true)) := by
  have hX : XX n d e i := ⟨hi, fun h => h0 (.inl h)⟩
  have hf := Ko hd he
  have hg := Kx hd he
  obtain ⟨hl, T, hT, hm⟩ := h
  have hr := hT.ring _ hT.lm
  have hy := Ring.mem hf hg hX hr
  have h1 := hg.mem _ hy
  refine ⟨hy, h1, fun hk z => ?_, fun hk => ?_⟩
  · have hs := (hT.stop hf hg hX (by rw [hk]; exact hT.m0)).2
    rw [u6 (by omega), hm]
    constructor
    · rintro (rfl | h | ⟨h, _⟩)
      · exact .inr .base
      · exact .inl h
      · exact .inr (Ring.swap ((hs _).1 h))
    · rintro (h | h)
      · exact .inr (.inl h)
      · by_cases e1 : z = i
        · exact .inl e1
        · exact .inr (.inr ⟨(hs _).2 (Ring.swap h), e1⟩)
  · have hnT : ¬ T (dm n d y) := fun h => hk (hT.stop hf hg hX h).1
    refine ⟨fun h => ?_, by rw [List.length_set]; exact hl, .inr ⟨T, y, hT, rfl, hnT, fun z => ?_⟩⟩
    · rcases (hm _).1 h with h | ⟨h, _⟩
      · exact Yu hd he hi h0 (Ring.swap (.two hr)) h
      · exact hnT h
    · rw [u6 (by have := h1.1; omega), hm]
      constructor
      · rintro (h | h | h)
        · exact .inr (.inr h)
        · exact .inl h
        · exact .inr (.inl h)
      · rintro (h | h | h)
        · exact .inr (.inl h)
        · exact .inr (.inr h)
        · exact .inl h
open Classical in
noncomputable def Bi (n : Nat) (d e : List Nat) (i : Nat) (met : List Bool) : List Bool := (List.range 8).map fun z => decide (mt met z ∨ Ring (dm n d) (em e) i z)
theorem qvf {n : Nat} {d e : List Nat} {i : Nat} {met : List Bool} {z : Nat} (hz : z < 8) : mt (Bi n d e i met) z ↔ mt met z ∨ Ring (dm n d) (em e) i z := by
  conv => lhs; unfold mt Bi
  simp [List.getD_eq_getElem?_getD, hz]
theorem qvg {n : Nat} {d e : List Nat} {i : Nat} {met met' : List Bool} (hl : met'.length = 8) (h : ∀ z, mt met' z ↔ mt met z ∨ Ring (dm n d) (em e) i z) : met' = Bi n d e i met := by
  apply List.ext_getElem
  · simp [Bi, hl]
  · intro z h1 h2
    have h3 := h z
    have h4 : mt met' z ↔ met'[z] = true := by simp [mt, List.getD_eq_getElem?_getD, h1]
    simp only [Bi, List.getElem_map, List.getElem_range]
    rw [Bool.eq_iff_iff, ← h4, h3]
    simp
theorem qot (N : Nat) (d e : List Nat) (hd : okD d) (he : okD e) (hds : isS N d = true) (hes : isS N e = true) {i : Nat} {met : List Bool} (hi : i < N) (hm0 : met.length = 8) (hmt : ∀ x, mt met x ↔ Seen N d e i x) (h0 : ¬ Seen N d e i i) :
    Am.Fn Try.prog 187 [.ptr 0 0, .bool true, .int .i64 i, .int .i64 i] (H3 N d e met) (fun v H' => v = .int .i64 (-1) ∧ H' = H3 N d e (Bi N d e i met)) := by
  refine Am.Fn.ofB qfa mixed Yb (by simp [AV.qp, AV.under, H3]) qlj ?_
  obtain ⟨hN, hpd, _⟩ := xm hds
  obtain ⟨_, hpe, _⟩ := xm hes
  have hdl := hd.1
  have hel := he.1
  unfold H3
  simp (maxSteps := 3000000) only [qh, zH, Zo, uk, gi, kb, g_n, wa, Q6, Q9, hm0, qf, hdl, hel, Qo, K2, iE, iN, iB, iC, iL, iD, iA, iS, iM, qa, zZ, ↓qt, ↓reduceIte, reduceCtorEq, nA, nM, nS, nE, nL, nD]; try simp only [qa, zY]
  refine qul qfa (fun k st => (∃ (x : Nat) (mm : List Bool), k = Qz (bls mm) ∧ InA N d e i x mm ∧ st = ⟨[(9, .int .i64 N), (0, .ptr 0 0), (1, .bool true), (2, .int .i64 x), (3, .int .i64 i)], [.cells (stk 1 2 mm), .ro (dia N d), .ro (dia N e)]⟩) ∨
      ∃ (y : Nat) (mm : List Bool), k = Qz (bls mm) ∧ InB N d e i y mm ∧ st = ⟨[(9, .int .i64 N), (0, .ptr 0 0), (1, .bool false), (2, .int .i64 (N + y : Nat)), (3, .int .i64 i)], [.cells (stk 1 2 mm), .ro (dia N d), .ro (dia N e)]⟩)
    ⟨_, qx.qy [9, 0, 1, 2, 3], _, .inl ⟨i, met, rfl, ⟨hm0, .inl ⟨rfl, hmt⟩⟩, rfl⟩⟩ ?_
  have hN0 : (N : Int) ≠ 0 := by omega
  rintro k st (⟨x, mm, rfl, hA, rfl⟩ | ⟨y, mm, rfl, hB, rfl⟩) post hpost
  · obtain ⟨x1, x2, x3, x4, x5⟩ := qt0 hds hes hN.2 hi h0 hA
    have hm := hA.1
    obtain ⟨z1, z2, z3⟩ := qiy hds hes x1
    have hxk := x1.1
    have hex : em e x = e.getD x 0 := rfl
    obtain ⟨hi16, hi16'⟩ := gp (show x < 16 by omega)
    have hi17 : x < 16 := by omega
    have hcx : qm .i64 ((e.getD x 0 : Nat) : Int) = ((e.getD x 0 : Nat) : Int) := Qr (by omega)
    have hdx := Vx (n := (N : Int)) (m := e) (i := x) (by omega)
    have hli : ((N : Int) ≤ ((e.getD x 0 : Nat) : Int)) ↔ False := iff_false_intro (by omega)
    have hrem := qqm (N := N) (x := e.getD x 0) z3
    have hadd : qm .i64 ((N : Int) + ((e.getD x 0 : Nat) : Int)) = ((N + e.getD x 0 : Nat) : Int) := by rw [wrap64 (by omega) (by omega)]; rfl
    have h8 := V4 (show e.getD x 0 < 8 by omega)
    have h8' : e.getD x 0 < 8 := by omega
    have h10 : 2 + e.getD x 0 < 8 + 3 := by omega
    have hst : (((e.getD x 0 : Nat) : Int) == (i : Int)) = false := by rw [beq_eq_false_iff_ne]; rw [hex] at x3; omega
    simp (maxSteps := 3000000) only [qh, zH, xc, uk, gi, kb, g_n, Bool.not_true, Bool.not_false, wa, Q6, Q9, Zv hm, qar hm h8', hm, qf, hdl, hel, hi16, hi16', hi17, hcx, hdx, hli, decide_false, decide_true, beq_self_eq_true, Bool.true_beq, Bool.false_beq, hrem, hadd, h8, h8', h10, hN0, hst, AV.one, iE, iN, iB, iC, iL, iD, iA, iS, iM, qa, zZ, ↓qt, ↓reduceIte, reduceCtorEq, nA, nM, nS, nE, nL, nD]; try simp only [qa, zY]
    have hlt := Yq (met := mm) (k := em e x) (by have := x2.1; omega) (by cases h : mm.getD (em e x) false with
      | false => rfl
      | true => exact absurd h x4)
    exact hpost _ _ _ (qx.qy [9, 0, 1, 2, 3]) (.inr ⟨em e x, _, rfl, x5, rfl⟩) hlt
  · obtain ⟨y1, y2, y3, y4⟩ := qti hds hes hN.2 hi h0 hB
    have hm := hB.1
    obtain ⟨z1, z2, z3⟩ := qiy hds hes y1
    have hyk := y1.1
    have hdy : dm N d y = d.getD (N + y) 0 - N := rfl
    obtain ⟨hi16, hi16'⟩ := gp (show N + y < 16 by omega)
    have hi17 : N + y < 16 := by omega
    have hcx : qm .i64 ((d.getD (N + y) 0 : Nat) : Int) = ((d.getD (N + y) 0 : Nat) : Int) := Qr (by omega)
    have hdx := Vx (n := (N : Int)) (m := d) (i := N + y) (by omega)
    have hli : ((N : Int) ≤ ((d.getD (N + y) 0 : Nat) : Int)) ↔ True := iff_true_intro (by omega)
    have hrem := qqi (N := N) (x := d.getD (N + y) 0) (by omega) (by omega)
    have h8 := V4 (show d.getD (N + y) 0 - N < 8 by omega)
    have h8' : d.getD (N + y) 0 - N < 8 := by omega
    have h10 : 2 + (d.getD (N + y) 0 - N) < 8 + 3 := by omega
    by_cases hk : dm N d y = i
    · have hst : ((((d.getD (N + y) 0 - N : Nat) : Int)) == (i : Int)) = true := by rw [beq_iff_eq]; omega
      simp (maxSteps := 3000000) only [qh, zH, xc, uk, gi, kb, g_n, Bool.not_true, Bool.not_false, wa, Q6, Q9, Zv hm, qar hm h8', hm, qf, hdl, hel, hi16, hi16', hi17, hcx, hdx, hli, decide_false, decide_true, beq_self_eq_true, Bool.true_beq, Bool.false_beq, hrem, h8, h8', h10, hN0, hst, AV.one, iE, iN, iB, iC, iL, iD, iA, iS, iM, qa, zZ, ↓qt, ↓reduceIte, reduceCtorEq, nA, nM, nS, nE, nL, nD]; try simp only [qa, zY]
      have hL : mm.set (d.getD (N + y) 0 - N) true = Bi N d e i met := qvg (by rw [List.length_set]; exact hm) fun z => by
        rw [show d.getD (N + y) 0 - N = i from hk, y3 hk, hmt]
      refine Ret.xf [0, 1, 2] ⟨⟨by simp, rfl, by decide⟩, ?_⟩ (rs := [.int .i64 (-1)]) rfl rfl (by simp [zt]) ?_ ⟨?_, ?_⟩
      · simp only [qd _ _ (qg _ _), Ku, zK, ↓reduceIte, reduceCtorEq, nE, nB, nA]
      · exact ro3
      · rfl
      · simp only [qc _ _ (qg _ _), Wc, zL, ↓reduceIte, reduceCtorEq, nE, nA]
        rw [hL]; rfl
    · have hst : ((((d.getD (N + y) 0 - N : Nat) : Int)) == (i : Int)) = false := by rw [beq_eq_false_iff_ne]; omega
      obtain ⟨q1, q2⟩ := y4 hk
      simp (maxSteps := 3000000) only [qh, zH, xc, uk, gi, kb, g_n, Bool.not_true, Bool.not_false, wa, Q6, Q9, Zv hm, qar hm h8', hm, qf, hdl, hel, hi16, hi16', hi17, hcx, hdx, hli, decide_false, decide_true, beq_self_eq_true, Bool.true_beq, Bool.false_beq, hrem, h8, h8', h10, hN0, hst, AV.one, iE, iN, iB, iC, iL, iD, iA, iS, iM, qa, zZ, ↓qt, ↓reduceIte, reduceCtorEq, nA, nM, nS, nE, nL, nD]; try simp only [qa, zY]
      have hlt := Yq (met := mm) (k := dm N d y) (by have := y2.1; omega) (by cases h : mm.getD (dm N d y) false with
        | false => rfl
        | true => exact absurd h q1)
      exact hpost _ _ _ (qx.qy [9, 0, 1, 2, 3]) (.inl ⟨dm N d y, _, rfl, q2, rfl⟩) hlt
def qnm : List AV → Option (Nat × Nat × List Bool)
  | .ptr a 0 :: .ptr b 0 :: rest => match Vk (rest.take 8), rest.drop 8 with
    | some met, [.fn 171 [] []] => chk (met.length = 8) (some (a, b, met))
    | _, _ => none
  | _ => none
theorem qb3 {a b : Nat} {met : List Bool} (h : met.length = 8) : qnm (stk a b met) = some (a, b, met) := by
  have h1 : (bls met).length = 8 := by rw [ve, h]
  have h2 : List.take 8 (bls met ++ [.fn 171 [] []]) = bls met := List.take_left' h1
  have h3 : List.drop 8 (bls met ++ [.fn 171 [] []]) = [.fn 171 [] []] := List.drop_left' h1
  simp only [stk, qnm, h2, h3, Bo, chk, h, if_true]
theorem qod {l : List AV} {a b : Nat} {met : List Bool} (h : qnm l = some (a, b, met)) : l = stk a b met ∧ met.length = 8 := by
  unfold qnm at h
  split at h
  · rename_i a' b' rest
    split at h
    · rename_i met' h1 h2
      obtain ⟨h3, h4⟩ := qk h
      simp only [Option.some.injEq, Prod.mk.injEq] at h4
      obtain ⟨rfl, rfl, rfl⟩ := h4
      refine ⟨?_, h3⟩
      have h5 := Yn h1
      conv => lhs; rw [← List.take_append_drop 8 rest, h5, h2]
      rfl
    · cases h
  · cases h
def rdD (hp : List AO) (b : Nat) : Option (Int × List Nat) := match rd hp b with
  | some L => wv (L.take 17)
  | none => none
open Classical in
noncomputable def u3 : BE := fun hp xs => match xs with
  | [.ptr b 0, .bool w, .int .i64 i, .int .i64 st] => match hp[b]? with
    | some (.cells l) => match qnm l with
      | some (b1, b2, met) => match rdD hp b1, rdD hp b2 with
        | some (n, d), some (n', e) => chk ((n' = n ∧ 0 ≤ n) ∧ (isS n.toNat d = true ∧ isS n.toNat e = true) ∧ b1 ≠ b ∧ b2 ≠ b)
          (if st = -1 then chk ((0 ≤ i ∧ i < 2 * n) ∧ w = decide (n ≤ i)) (some (.int .i64 (pr n.toNat d e i.toNat : Nat), hp.set b (.cells (stk b1 b2 (fol n.toNat d e (!w) i.toNat met)))))
          else chk ((st = i ∧ w = true ∧ 0 ≤ i ∧ i < n) ∧ (∀ x, mt met x ↔ Seen n.toNat d e i.toNat x) ∧ ¬ Seen n.toNat d e i.toNat i.toNat) (some (.int .i64 (-1), hp.set b (.cells (stk b1 b2 (Bi n.toNat d e i.toNat met))))))
        | _, _ => none
      | none => none
    | _ => none
  | _ => none
open Classical in
theorem qs2 : Am.Callee Try.prog 187 u3 := Callee.fp fun hp xs v hp' he => by
  unfold u3 at he
  split at he
  · rename_i b w i st
    split at he
    · rename_i l hb
      split at he
      · rename_i b1 b2 met hs1
        obtain ⟨rfl, hm⟩ := qod hs1
        split at he
        · rename_i n d n' e hd1 he1
          obtain ⟨⟨⟨a1, a2⟩, ⟨a3, a4⟩, a5, a6⟩, he2⟩ := qk he
          subst a1
          obtain ⟨N, rfl⟩ : ∃ N : Nat, n' = N := ⟨n'.toNat, by omega⟩
          simp only [Int.toNat_natCast] at a3 a4 he2
          have rdd : ∀ {b : Nat} {m : List Nat}, rdD hp b = some ((N : Int), m) → okD m ∧ Fits hp (ofL [(b, 0)]) b 0 (.ro (dia N m)) ∧ ∃ L, rd hp b = some L ∧ 17 ≤ L.length ∧ L.take 17 = dia N m := fun {b m} h => by
            unfold rdD at h
            split at h
            · rename_i L hL
              obtain ⟨e1, hok⟩ := z6 h
              have hlen : (dia (N : Int) m).length = 17 := by rw [qf, hok.1]
              have hLl : 17 ≤ L.length := by
                have := congrArg List.length e1
                rw [hlen, List.length_take] at this
                omega
              exact ⟨hok, ⟨L, hL, by rw [hlen]; omega, by rw [List.drop_zero, qc _ _ (qg _ _), hlen]; exact e1⟩, L, hL, hLl, e1⟩
            · cases h
          obtain ⟨hd, _, L1, r1, r2, r3⟩ := rdd hd1
          obtain ⟨he', _, L2, q1, q2, q3⟩ := rdd he1
          have hlen : ∀ {m : List Nat}, okD m → (dia (N : Int) m).length = 17 := fun h => by rw [qf, h.1]
          have hfit : Gb hp (ofL [(b, 0), (b1, 0), (b2, 0)]) [(b, 0), (b1, 0), (b2, 0)] (H3 N d e met) :=
            ⟨⟨rfl, by rw [hb]; simp only [AO.ren, Wc]; simp [AV.ren, ofL, stk]⟩, ⟨L1, r1, by rw [hlen hd]; omega, by rw [List.drop_zero, qc _ _ (qg _ _), hlen hd]; exact r3⟩, ⟨L2, q1, by rw [hlen he']; omega, by rw [List.drop_zero, qc _ _ (qg _ _), hlen he']; exact q3⟩, trivial⟩
          have hap : ∀ met, Jp [(b, 0), (b1, 0), (b2, 0)] (H3 N d e met) = true := fun met => by simp [Jp, H3, AO.wr, a5, a6]
          have hun : ∀ met, AO.qad 3 (H3 N d e met) := fun met => ⟨qh6 (by omega) (by omega), qi _ _ (qg _ _), qi _ _ (qg _ _), trivial⟩
          split at he2
          · rename_i hst
            subst hst
            obtain ⟨⟨⟨c1, c2⟩, c3⟩, he3⟩ := qk he2
            simp only [Option.some.injEq, Prod.mk.injEq] at he3
            obtain ⟨rfl, rfl⟩ := he3
            obtain ⟨k, rfl⟩ : ∃ k : Nat, i = k := ⟨i.toNat, by omega⟩
            simp only [Int.toNat_natCast]
            have hw : w = !decide (k < N) := by
              rw [c3, Bool.eq_iff_iff]; simp
            obtain ⟨f, met', hf⟩ := Wm a3 a4 (i := k) (by omega) met
            have hfo := qgr hf
            subst hw
            rw [Bool.not_not, hfo]
            refine ⟨[(b, 0), (b1, 0), (b2, 0)], [.ptr 0 0, .bool (!decide (k < N)), .int .i64 k, .int .i64 (-1)], H3 N d e met, _, _, qp8 N d e hd he' a3 a4 hf (by omega) hm, by simp [AV.ren, AV.zg, ofL], by simp [jg], hfit, hap met, hun met, ⟨by simp [AV.under, H3], trivial, trivial, trivial, trivial⟩, by simp [AV.ren, AV.zg], ?_⟩
            simp [after, upd, AO.wr, AO.ren, H3, Wc, AV.ren, qc _ _ (qg _ _)]
            simp [Ren.ext, ofL, stk]
          · obtain ⟨⟨⟨c1, c2, c3, c4⟩, c5, c6⟩, he3⟩ := qk he2
            simp only [Option.some.injEq, Prod.mk.injEq] at he3
            obtain ⟨rfl, rfl⟩ := he3
            subst c1; subst c2
            obtain ⟨k, rfl⟩ : ∃ k : Nat, st = k := ⟨st.toNat, by omega⟩
            simp only [Int.toNat_natCast] at c5 c6 ⊢
            refine ⟨[(b, 0), (b1, 0), (b2, 0)], [.ptr 0 0, .bool true, .int .i64 k, .int .i64 k], H3 N d e met, _, _, qot N d e hd he' a3 a4 (by omega) hm c5 c6, by simp [AV.ren, AV.zg, ofL], by simp [jg], hfit, hap met, hun met, ⟨by simp [AV.under, H3], trivial, trivial, trivial, trivial⟩, by simp [AV.ren, AV.zg], ?_⟩
            simp [after, upd, AO.wr, AO.ren, H3, Wc, AV.ren, qc _ _ (qg _ _)]
            simp [Ren.ext, ofL, stk]
        · cases he
      · cases he
    · cases he
  · cases he
noncomputable def B83 : zk := (B82.put 187 (u3))
theorem qjs : qu Try.prog B83 := (qfa.put (qs2))
def H4 (N : Nat) (d e m : List Nat) (k : Nat) : List AO := [.ro (dia N d), .ro (dia N e), .cells (dia N m), .cells [.int .i64 k]]
theorem qus {N : Nat} {d e m : List Nat} {k n : Nat} : ∀ (j : Nat) (o : AO), (H4 N d e m k)[j]? = some o → o.under n := fun j o hj => by
  match j, hj with
  | 0, hj => cases hj; exact qi _ _ (qg _ _)
  | 1, hj => cases hj; exact qi _ _ (qg _ _)
  | 2, hj => cases hj; exact qi _ _ (qg _ _)
  | 3, hj => cases hj; exact ⟨trivial, trivial⟩
  | j + 4, hj => simp [H4] at hj
theorem qjy {m : List Nat} (h : okD m) {i x : Nat} (hx : x < 256) : okD (m.set i x) := by
  refine ⟨by rw [List.length_set]; exact h.1, fun y hy => ?_⟩
  rcases List.mem_or_eq_of_mem_set hy with h1 | rfl
  · exact h.2 y h1
  · exact hx
theorem qco {n : Nat} {d e : List Nat} (hd : isS n d = true) (he : isS n e = true) : ∀ {k : Nat}, k ≤ n → okD (Yc n d e k)
  | 0, _ => ⟨by simp [Yc], fun y hy => by simp [Yc] at hy; omega⟩
  | k + 1, hk => by
    obtain ⟨hn, _⟩ := xm hd
    have h1 := qdm hd he (i := k) (by omega)
    have h2 := qdm hd he (i := n + k) (by omega)
    exact qjy (qjy (qco hd he (by omega)) (by omega)) (by omega)
theorem jx : B83 168 = some (Ug 1 g_n) := rfl
theorem xz : B83 187 = some (u3) := rfl
theorem vw : B83 172 = some (Uj) := rfl
theorem vv : B83 173 = some (uy) := rfl
def Js : AC := .seq (.region [oP 23 .lss 22 21]) (.seq (.cond 23 .skip (.exit 0)) (.seq (.block 1 (.seq (.region [oM 24 22,oM 12 24]) (.seq (.region [oM 25 3,oM 26 12,oM 27 11,oM 28 12,oC 29 187 [.t 27,(.c (.bool false)),.t 28,(.c (.int .i64 (-1)))],⟨some 30,none,.call (.t 25) [.t 26,.t 29]⟩]) (.region [oM 31 3,oM 32 10,oM 33 12,oP 34 .add 32 33,oM 35 11,oM 36 10,oM 37 12,oP 38 .add 36 37,oC 39 187 [.t 35,(.c (.bool true)),.t 38,(.c (.int .i64 (-1)))],⟨some 40,none,.call (.t 31) [.t 34,.t 39]⟩])))) (.region [oK 41 .add 22 1,oM 22 41])))
def Ql : AC := .seq (.region [oP 44 .lss 43 42]) (.seq (.cond 44 .skip (.exit 2)) (.seq (.block 3 (.seq (.region [oM 45 43,oM 13 45]) (.seq (.region [oM 46 11,oM 47 13,o0 48 (.vf (.t 46)),oF 49 2 48,o0 50 (.xd 8 1 (.t 49) (.t 47)),oL 51 50,o0 52 (.un .not (.t 51))]) (.cond 52 (.seq (.region [oM 53 11,oM 54 13,oM 55 13,oC 56 187 [.t 53,(.c (.bool true)),.t 54,.t 55]]) (.region [oM 57 4,⟨some 58,none,.call (.t 57) []⟩])) .skip)))) (.region [oK 59 .add 43 1,oM 43 59])))
def U0 : AC := .seq (.region [oM 42 10,oI 43 0]) (.block 2 (.loop Ql))
def qc8 : AC := .seq (.region [oM 14 0,oC 15 168 [.t 14],oM 10 15]) (.seq (.region [oM 16 0,oM 17 1,oM 18 2,o0 19 (.build [(.v (.pointer none)),(.v (.pointer none)),(.bool false),(.bool false),(.bool false),(.bool false),(.bool false),(.bool false),(.bool false),(.bool false),(.v .nilFunc)] [(0,1,.t 16),(1,1,.t 17),(10,1,.t 18)]),o0 20 (.box (.t 19)),oM 11 20]) (.seq (.seq (.region [oM 21 10,oI 22 0]) (.block 0 (.loop Js))) U0))
theorem qno : zl Try.prog 170 = some ⟨60, qc8, []⟩ := by kernel_rfl
theorem qle (N : Nat) (d e : List Nat) (hd : okD d) (he : okD e) (hds : isS N d = true) (hes : isS N e = true) :
    Am.Fn Try.prog 170 [.ptr 0 0, .ptr 1 0, .fn 171 [] [], .fn 172 [] [.ptr 2 0], .fn 173 [] [.ptr 3 0]] (H4 N d e (List.replicate 16 0) 0) (fun v H' => v = .tup [] ∧ H' = H4 N d e (ji N d e) (lpN N d e N)) := by
  refine Am.Fn.ofB qjs mixed qno (by simp [AV.qp, AV.under, H4]) qus ?_
  obtain ⟨hN, hpd, _⟩ := xm hds
  obtain ⟨_, hpe, _⟩ := xm hes
  have hdl := hd.1
  have hel := he.1
  have o1 : over [AV.v (.pointer none), .v (.pointer none), .bool false, .bool false, .bool false, .bool false, .bool false, .bool false, .bool false, .bool false, .v .nilFunc] 0 [.ptr 0 0] = [.ptr 0 0, .v (.pointer none), .bool false, .bool false, .bool false, .bool false, .bool false, .bool false, .bool false, .bool false, .v .nilFunc] := rfl
  have o2 : over [AV.ptr 0 0, .v (.pointer none), .bool false, .bool false, .bool false, .bool false, .bool false, .bool false, .bool false, .bool false, .v .nilFunc] 1 [.ptr 1 0] = [.ptr 0 0, .ptr 1 0, .bool false, .bool false, .bool false, .bool false, .bool false, .bool false, .bool false, .bool false, .v .nilFunc] := rfl
  have o3 : over [AV.ptr 0 0, .ptr 1 0, .bool false, .bool false, .bool false, .bool false, .bool false, .bool false, .bool false, .bool false, .v .nilFunc] 10 [.fn 171 [] []] = stk 0 1 (List.replicate 8 false) := rfl
  have l1 : ([AV.ptr 0 0, .v (.pointer none), .bool false, .bool false, .bool false, .bool false, .bool false, .bool false, .bool false, .bool false, .v .nilFunc] : List AV).length = 11 := rfl
  have l2 : ([AV.ptr 0 0, .ptr 1 0, .bool false, .bool false, .bool false, .bool false, .bool false, .bool false, .bool false, .bool false, .v .nilFunc] : List AV).length = 11 := rfl
  unfold H4
  simp (maxSteps := 3000000) only [qh, zH, qc8, jx, xz, vw, vv, uy, g_n, Uj, u3, qf, hdl, hel, Qo, K2, o1, o2, o3, l1, l2, AV.one, iE, iN, iB, iC, iL, iD, iA, iS, iM, qa, zZ, ↓qt, ↓reduceIte, reduceCtorEq, nA, nM, nS, nE, nL, nD]; try simp only [qa, zY]
  have hdo := za (n := (N : Int)) hd
  have heo := za (n := (N : Int)) he
  have hN0 : (0 : Int) ≤ (N : Int) := by omega
  refine WA.jh qjs (fun s => ∃ k : Nat, k ≤ N ∧ s = ⟨[(22, .int .i64 k), (21, .int .i64 N), (11, .ptr 4 0), (10, .int .i64 N), (4, .fn 173 [] [.ptr 3 0]), (3, .fn 172 [] [.ptr 2 0])], [.ro (dia N d), .ro (dia N e), .cells (dia N (Yc N d e k)), .cells [.int .i64 0], .cells (stk 0 1 (qdz N d e k))]⟩)
    (fun s => match get s.env 22 with | .int _ x => N - x.toNat | _ => 0) ⟨_, qx.qy [22, 21, 11, 10, 4, 3], 0, by omega, rfl⟩ ?_
  rintro s ⟨k, hk, rfl⟩
  have hw : qm .i64 ((k : Int) + 1) = ((k + 1 : Nat) : Int) := by rw [wrap64 (by omega) (by omega)]; rfl
  by_cases hlt : k < N
  · have hli : (k : Int) < (N : Int) := by omega
    have hk16 := wt N d e k
    have hmk := (X1 hds hes k hk).len
    have hx1 := qdm hds hes (i := k) (by omega)
    have hx2 := qdm hds hes (i := N + k) (by omega)
    have hadd : qm .i64 ((N : Int) + (k : Int)) = ((N + k : Nat) : Int) := by rw [wrap64 (by omega) (by omega)]; rfl
    have k1 : (0 : Int) ≤ (k : Int) ∧ (k : Int) < 2 * (N : Int) := by omega
    have k2 : (0 : Int) ≤ ((N + k : Nat) : Int) ∧ ((N + k : Nat) : Int) < 2 * (N : Int) := by omega
    have q1 : (false = decide ((N : Int) ≤ (k : Int))) = True := by simp; omega
    have q2 : (true = decide ((N : Int) ≤ ((N + k : Nat) : Int))) = True := by simp; omega
    have hf1 : (fol N d e true k (qdz N d e k)).length = 8 := by rw [qri hds hes (by omega) (by simp [hlt])]; exact hmk
    have s1 := qb3 (a := 0) (b := 1) hmk
    have s2 := qb3 (a := 0) (b := 1) hf1
    have d0 := za (n := (N : Int)) (qjy (qco hds hes hk) (i := k) (x := pr N d e k) (by omega))
    have d1 := za (n := (N : Int)) (qco hds hes hk)
    have p1 : ((0 : Int) ≤ (k : Int) ∧ (k : Int) < 16) ∧ (0 : Int) ≤ ((pr N d e k : Nat) : Int) ∧ ((pr N d e k : Nat) : Int) < 256 := by omega
    have p2 : ((0 : Int) ≤ ((N + k : Nat) : Int) ∧ ((N + k : Nat) : Int) < 16) ∧ (0 : Int) ≤ ((pr N d e (N + k) : Nat) : Int) ∧ ((pr N d e (N + k) : Nat) : Int) < 256 := by omega
    simp (maxSteps := 3000000) only [qh, zH, Js, jx, xz, vw, vv, uy, g_n, Uj, u3, rdD, hw, hli, qf, hdl, hel, zb hdl, zb hel, hdo, heo, s1, s2, d0, d1, p1, p2, Int.toNat_natCast, hds, hes, k1, k2, hN0, q1, q2, hadd, AV.one, and_self, true_and, and_true, Bool.not_true, Bool.not_false, Ne, not_false_iff, not_false_eq_true, Nat.reduceEqDiff, reduceCtorEq, iE, iN, iB, iC, iL, iD, iA, iS, iM, qa, zZ, ↓qt, ↓reduceIte, reduceCtorEq, nA, nM, nS, nE, nL, nD]; try simp only [qa, zY]
    refine ⟨_, qx.qy [22, 21, 11, 10, 4, 3], ⟨k + 1, by omega, rfl⟩, ?_⟩
    simp only [zL, ↓reduceIte, reduceCtorEq, nE, nA]; omega
  have hli : ¬ (k : Int) < (N : Int) := by omega
  obtain rfl : k = N := by omega
  simp (maxSteps := 3000000) only [qh, zH, Js, U0, jx, xz, vw, vv, uy, g_n, Uj, u3, hli, Int.lt_irrefl, iE, iN, iB, iC, iL, iD, iA, iS, iM, qa, zZ, ↓qt, ↓reduceIte, reduceCtorEq, nA, nM, nS, nE, nL, nD]; try simp only [qa, zY]
  refine WA.jh qjs (fun s => ∃ (i : Nat) (met : List Bool), i ≤ k ∧ (met.length = 8 ∧ ∀ x, mt met x ↔ Seen k d e i x) ∧ s = ⟨[(43, .int .i64 i), (42, .int .i64 k), (11, .ptr 4 0), (4, .fn 173 [] [.ptr 3 0])], [.ro (dia k d), .ro (dia k e), .cells (dia k (ji k d e)), .cells [.int .i64 (lpN k d e i : Nat)], .cells (stk 0 1 met)]⟩)
    (fun s => match get s.env 43 with | .int _ x => k - x.toNat | _ => 0) ⟨_, qx.qy [43, 42, 11, 4], 0, qdz k d e k, by omega, ⟨(X1 hds hes k (Nat.le_refl _)).len, fun x => ⟨.inl, fun h => h.elim id fun ⟨j, hj, _⟩ => absurd hj (Nat.not_lt_zero _)⟩⟩, rfl⟩ ?_
  clear hlt hli hw
  rintro s ⟨i, met, hi, ⟨hml, hmt⟩, rfl⟩
  have hw : qm .i64 ((i : Int) + 1) = ((i + 1 : Nat) : Int) := by rw [wrap64 (by omega) (by omega)]; rfl
  have hle := qet k d e i
  by_cases hlt : i < k
  · have hli : (i : Int) < (k : Int) := by omega
    have g1 := V4 (show i < 8 by omega)
    have g2 : 2 + i < 8 + 3 := by omega
    have g3 := qyd (a := 0) (b := 1) hml (show i < 8 by omega)
    by_cases hs : Seen k d e i i
    · have hm1 : met.getD i false = true := (hmt i).2 hs
      simp (maxSteps := 3000000) only [qh, zH, Ql, jx, xz, vw, vv, uy, g_n, Uj, u3, hw, hli, g1, g2, g3, hm1, wa, hml, Bool.not_true, iE, iN, iB, iC, iL, iD, iA, iS, iM, qa, zZ, ↓qt, ↓reduceIte, reduceCtorEq, nA, nM, nS, nE, nL, nD]; try simp only [qa, zY]
      refine ⟨_, qx.qy [43, 42, 11, 4], ⟨i + 1, met, by omega, ⟨hml, fun x => by rw [hmt, qll hds hes hs]⟩, ?_⟩, ?_⟩
      · simp only [zL, ↓reduceIte, reduceCtorEq, nE, nA]
        simp only [lpN, if_pos hs]
      · simp only [zL, ↓reduceIte, reduceCtorEq, nE, nA]; omega
    · have hm1 : met.getD i false = false := by
        cases h : met.getD i false with
        | false => rfl
        | true => exact absurd ((hmt i).1 h) hs
      have s1 := qb3 (a := 0) (b := 1) hml
      have k1 : (0 : Int) ≤ (i : Int) ∧ (i : Int) < (k : Int) := by omega
      have q1 : ((i : Int) = -1) = False := eq_false (by omega)
      have q2 : (∀ x, mt met x ↔ Seen k d e i x) = True := eq_true hmt
      have q3 : Seen k d e i i = False := eq_false hs
      have q4 : (0 : Int) ≤ ((lpN k d e i : Nat) : Int) ∧ ((lpN k d e i : Nat) : Int) ≤ 1000 := by omega
      have q5 : ((lpN k d e i : Nat) : Int) + 1 = ((lpN k d e i + 1 : Nat) : Int) := rfl
      simp (maxSteps := 3000000) only [qh, zH, Ql, jx, xz, vw, vv, uy, g_n, Uj, u3, rdD, hw, hli, g1, g2, g3, hm1, wa, hml, Bool.not_false, qf, hdl, hel, zb hdl, zb hel, hdo, heo, s1, Int.toNat_natCast, hds, hes, k1, hN0, q1, q2, q3, q4, q5, AV.one, and_self, true_and, and_true, Ne, not_false_iff, not_false_eq_true, if_false, Nat.reduceEqDiff, reduceCtorEq, iE, iN, iB, iC, iL, iD, iA, iS, iM, qa, zZ, ↓qt, ↓reduceIte, reduceCtorEq, nA, nM, nS, nE, nL, nD]; try simp only [qa, zY]
      refine ⟨_, qx.qy [43, 42, 11, 4], ⟨i + 1, Bi k d e i met, by omega, ⟨by simp [Bi], fun x => ?_⟩, ?_⟩, ?_⟩
      · rw [qk7 hlt hs]
        by_cases hx : x < 8
        · rw [qvf hx, hmt]
        · constructor
          · intro h
            simp [mt, Bi, List.getD_eq_getElem?_getD, hx] at h
          · intro h
            have : x < k := by
              rcases h with h | h
              · exact qx9 hds hes h
              · exact (Ring.mem (Kx hds hes) (Ko hds hes) ⟨hlt, fun h => hs (.inl h)⟩ h).1
            omega
      · simp only [zL, ↓reduceIte, reduceCtorEq, nE, nA]
        simp only [lpN, if_neg hs]
      · simp only [zL, ↓reduceIte, reduceCtorEq, nE, nA]; omega
  · have hli : ¬ (i : Int) < (k : Int) := by omega
    obtain rfl : i = k := by omega
    simp (maxSteps := 3000000) only [qh, zH, Ql, jx, xz, vw, vv, uy, g_n, Uj, u3, hli, Int.lt_irrefl, iE, iN, iB, iC, iL, iD, iA, iS, iM, qa, zZ, ↓qt, ↓reduceIte, reduceCtorEq, nA, nM, nS, nE, nL, nD]; try simp only [qa, zY]
    refine Ret.xf [0, 1, 2, 3] ⟨⟨by simp, rfl, by decide⟩, ?_⟩ (rs := []) rfl rfl (by simp [zt]) ?_ ⟨rfl, ?_⟩
    · simp only [qd _ _ (qg _ _), zK, ↓reduceIte, reduceCtorEq, nE, nB, nA]
    · intro j l h
      match j, h with
      | 0, _ => exact ⟨_, rfl⟩
      | 1, _ => exact ⟨_, rfl⟩
      | 2, h => simp [q7, AO.ren] at h
      | 3, h => simp [q7, AO.ren] at h
      | j + 4, h => simp [q7] at h
    · simp only [qc _ _ (qg _ _), zL, ↓reduceIte, reduceCtorEq, nE, nA]
noncomputable def Wo : BE := fun hp xs => match xs with
  | [.ptr b1 0, .ptr b2 0, .fn 171 [] [], .fn 172 [] [.ptr b3 0], .fn 173 [] [.ptr b4 0]] => match rdD hp b1, rdD hp b2, hp[b3]?, hp[b4]? with
    | some (n, d), some (n', e), some (.cells l), some (.cells [.int .i64 k]) => match wv l with
      | some (n2, m) => chk ((n' = n ∧ n2 = n ∧ 0 ≤ n ∧ k = 0) ∧ (isS n.toNat d = true ∧ isS n.toNat e = true) ∧ m = List.replicate 16 0 ∧ b3 ≠ b1 ∧ b4 ≠ b1 ∧ b3 ≠ b2 ∧ b4 ≠ b2 ∧ b4 ≠ b3)
          (some (.tup [], (hp.set b3 (.cells (dia n (ji n.toNat d e)))).set b4 (.cells [.int .i64 (lpN n.toNat d e n.toNat : Nat)])))
      | none => none
    | _, _, _, _ => none
  | _ => none
theorem qm2 {hp : List AO} {b N : Nat} {m : List Nat} (h : rdD hp b = some ((N : Int), m)) : okD m ∧ ∀ ρ, Fits hp ρ b 0 (.ro (dia N m)) := by
  unfold rdD at h
  split at h
  · rename_i L hL
    obtain ⟨e1, hok⟩ := z6 h
    have hlen : (dia (N : Int) m).length = 17 := by rw [qf, hok.1]
    have hLl : 17 ≤ L.length := by
      have := congrArg List.length e1
      rw [hlen, List.length_take] at this
      omega
    exact ⟨hok, fun ρ => ⟨L, hL, by rw [hlen]; omega, by rw [List.drop_zero, qc _ _ (qg _ _), hlen]; exact e1⟩⟩
  · cases h
theorem qs0 : Am.Callee Try.prog 170 Wo := Callee.fp fun hp xs v hp' he => by
  unfold Wo at he
  split at he
  · rename_i b1 b2 b3 b4
    split at he
    · rename_i n d n' e l k hd1 he1 h3 h4
      split at he
      · rename_i n2 m hm1
        obtain ⟨⟨⟨a1, a2, a3, a4⟩, ⟨a5, a6⟩, a7, a8, a9, a10, a11, a12⟩, he2⟩ := qk he
        simp only [Option.some.injEq, Prod.mk.injEq] at he2
        obtain ⟨rfl, rfl⟩ := he2
        obtain ⟨rfl, hm⟩ := z6 hm1
        subst a1; subst a2; subst a4; subst a7
        obtain ⟨N, rfl⟩ : ∃ N : Nat, n2 = N := ⟨n2.toNat, by omega⟩
        simp only [Int.toNat_natCast] at a5 a6 ⊢
        obtain ⟨hd, f1⟩ := qm2 hd1
        obtain ⟨he', f2⟩ := qm2 he1
        refine ⟨[(b1, 0), (b2, 0), (b3, 0), (b4, 0)], [.ptr 0 0, .ptr 1 0, .fn 171 [] [], .fn 172 [] [.ptr 2 0], .fn 173 [] [.ptr 3 0]], H4 N d e (List.replicate 16 0) 0, _, _, qle N d e hd he' a5 a6, by simp [AV.ren, AV.zg, ofL], by simp [jg],
          ⟨f1 _, f2 _, ⟨rfl, by rw [h3]; simp only [AO.ren, qc _ _ (qg _ _)]⟩, ⟨rfl, by rw [h4]; simp [AO.ren, AV.zg, AV.ren]⟩, trivial⟩, by simp [Jp, H4, AO.wr, a8, a9, a10, a11, a12], ⟨qi _ _ (qg _ _), qi _ _ (qg _ _), qi _ _ (qg _ _), ⟨trivial, trivial⟩, trivial⟩, by simp [AV.qp, AV.under, H4], by simp [AV.ren, AV.zg], ?_⟩
        simp [after, upd, AO.wr, AO.ren, H4, AV.zg, AV.ren, qc _ _ (qg _ _)]
      · cases he
    · cases he
  · cases he
noncomputable def B84 : zk := (B83.put 170 (Wo))
theorem qpp : qu Try.prog B84 := (qjs.put (qs0))
theorem qck : B84 171 = some (ql kb) := rfl
theorem qbj : B84 172 = some (Uj) := rfl
theorem qb8 : B84 173 = some (uy) := rfl
theorem qb0 : B84 170 = some (Wo) := rfl
def qag : AT := (.one (oN 14 17 6) (.alt (oL 15 7) (.one (oS 17 4 14) (.one (oM 5 15) (.nil))) (.alt (oS 17 4 14) (.one (oL 15 7) (.one (oM 5 15) (.nil))) (.none))))
def qiz : AC := .seq (.region [o0 2 (.box (.t 0)),o0 3 (.box (.t 1)),oD 4,oI 5 0]) (.seq (.region [oF 8 0 2,oL 9 8,o0 10 (.build [.int .i64 0,.int .u8 0,.int .u8 0,.int .u8 0,.int .u8 0,.int .u8 0,.int .u8 0,.int .u8 0,.int .u8 0,.int .u8 0,.int .u8 0,.int .u8 0,.int .u8 0,.int .u8 0,.int .u8 0,.int .u8 0,.int .u8 0] [(0,1,.t 9)]),oD 6,o0 7 (.alloc [.int .i64 0]),oS 17 6 10,⟨none,none,.op (.Zk (.t 7) (.c (.int .i64 0)))⟩]) (.seq (.region [o0 11 (.qe9 172 [] [.t 6]),o0 12 (.qe9 173 [] [.t 7]),⟨some 13,none,.call (.c (.fn 170 [] [])) [.t 2,.t 3,(.c (.fn 171 [] [])),.t 11,.t 12]⟩]) (.seq (.tree false qag) .ret)))
theorem qrz : zl Try.prog 144 = some ⟨16, qiz, [.bg 4 17, .slot 5]⟩ := by kernel_rfl
theorem qr6 (N : Nat) (d e : List Nat) (hd : okD d) (he : okD e) (hds : isS N d = true) (hes : isS N e = true) :
    Am.Fn Try.prog 144 [.agg (dia N d), .agg (dia N e)] [] (fun v H' => v = .tup [.agg (dia N (ji N d e)), .int .i64 (lpN N d e N : Nat)] ∧ H' = []) := by
  refine Am.Fn.xu (R := fun v => v = _) qpp mixed qrz (by simp) (by simp) ?_
  obtain ⟨hN, hpd, _⟩ := xm hds
  have hdl := hd.1
  have hel := he.1
  have hdo := za (n := (N : Int)) hd
  have heo := za (n := (N : Int)) he
  have hzo := za (n := (N : Int)) (m := List.replicate 16 0) ⟨by simp, fun y hy => by simp at hy; omega⟩
  have hN0 : (0 : Int) ≤ (N : Int) := by omega
  simp (maxSteps := 3000000) only [qh, zH, qiz, qck, qbj, qb8, qb0, kb, uy, Wo, Uj, rdD, wy, xl, Y2, qf, hdl, hel, Qo, j7, y6 j5 j5, List.length_replicate, zb hdl, zb hel, hdo, heo, hzo, hds, hes, hN0, Int.toNat_natCast, AV.one, and_self, true_and, and_true, Ne, not_false_iff, not_false_eq_true, Nat.reduceEqDiff, reduceCtorEq, List.all_nil, List.all_cons, List.map_nil, List.map_cons, Bool.and_self, iE, iN, iB, iC, iL, iD, iA, iS, iM, qa, zZ, ↓qt, ↓reduceIte, reduceCtorEq, nA, nM, nS, nE, nL, nD]; try simp only [qa, zY]
  have hp16 : (ji N d e).length = 16 := wt N d e N
  refine WA.qlh qpp (fun s => s = ⟨[(5, .int .i64 (lpN N d e N : Nat)), (4, .ptr 2 0)], [.cells (dia N d), .cells (dia N e), .cells (dia N (ji N d e)), .cells (dia N (ji N d e)), .cells [.int .i64 (lpN N d e N : Nat)]]⟩) ?_ ?_
  · unfold qag
    simp (maxSteps := 3000000) only [qh, zH, J4, Ym, qf, hp16, zb hp16, j7, y6 j5 hp16, List.length_replicate, Nat.le_refl, AV.one, iE, iN, iB, iC, iL, iD, iA, iS, iM, qa, zZ, ↓qt, ↓reduceIte, reduceCtorEq, nA, nM, nS, nE, nL, nD]; try simp only [qa, zY]
    repeat' (with_reducible refine And.intro ?_ ?_)
    all_goals exact ⟨_, qx.qy [5, 4], rfl⟩
  rintro s rfl
  simp (maxSteps := 3000000) only [qh, zH, qf, hp16, zb hp16, iE, iN, iB, iC, iL, iD, iA, iS, iM, qa, zZ, ↓qt, ↓reduceIte, reduceCtorEq, nA, nM, nS, nE, nL, nD]; try simp only [qa, zY]
  simp only [qg, Bool.and_self]
noncomputable def B85 : zk := (B84.put 144 (ql vc))
theorem qpf : qu Try.prog B85 := (qpp.put (qgo qr6))
def Yg : AC := .seq (.region [oP 10 .lss 9 8]) (.seq (.cond 10 .skip (.exit 0)) (.seq (.block 1 (.region [oM 11 7,oM 12 0,oP 13 .mul 11 12,oM 14 2,oP 15 .rem 13 14,oM 7 15])) (.region [oK 16 .add 9 1,oM 9 16])))
def qaq : AC := .seq (.region [oM 17 7,oM 6 17]) .ret
def qh7 : AC := .seq (.region [oI 6 0]) (.seq (.region [oI 7 1]) (.seq (.seq (.region [oM 8 1,oI 9 0]) (.block 0 (.loop Yg))) qaq))
theorem qrs : zl Try.prog 75 = some ⟨18, qh7, [.slot 6]⟩ := by kernel_rfl
theorem qrv (p c : Int) (K : Nat) (hp : 2 ≤ p ∧ p ≤ 97) (hc : 0 ≤ c ∧ c ≤ p - 1) (hK : K ≤ 1000000) : Am.Fn Try.prog 75 [.int .i64 c, .int .i64 K, .int .i64 p] [] (fun v H' => v = .int .i64 (yj p c K) ∧ H' = []) := by
  refine Am.Fn.xu (R := fun v => v = _) qpf mixed qrs (by simp) (by simp) ?_
  have hne : p ≠ 0 := by omega
  simp (maxSteps := 3000000) only [qh, zH, qh7, hne, iE, iN, iB, iC, iL, iD, iA, iS, iM, qa, zZ, ↓qt, ↓reduceIte, reduceCtorEq, nA, nM, nS, nE, nL, nD]; try simp only [qa, zY]
  refine WA.jh qpf (fun s => ∃ j : Nat, j ≤ K ∧ s = ⟨[(9, .int .i64 j), (8, .int .i64 K), (7, .int .i64 (yj p c j)), (0, .int .i64 c), (2, .int .i64 p)], []⟩)
    (fun s => match get s.env 9 with | .int _ x => K - x.toNat | _ => 0) ⟨_, qx.qy [9, 8, 7, 0, 2], 0, by omega, rfl⟩ ?_
  rintro s ⟨j, hj, rfl⟩
  by_cases hlt : j < K
  · have hli : (j : Int) < (K : Int) := by omega
    obtain ⟨m1, m2, m3, m4⟩ := pow_mul hp hc (qkb (c := c) hp.1 j)
    have hw : qm .i64 ((j : Int) + 1) = ((j + 1 : Nat) : Int) := by rw [wrap64 (by omega) (by omega)]; rfl
    have hnext : (yj p c j * c).emod p = yj p c (j + 1) := rfl
    simp (maxSteps := 3000000) only [qh, zH, Yg, hli, m1, m2, hw, hne, hnext, iE, iN, iB, iC, iL, iD, iA, iS, iM, qa, zZ, ↓qt, ↓reduceIte, reduceCtorEq, nA, nM, nS, nE, nL, nD]; try simp only [qa, zY]
    refine ⟨_, qx.qy [9, 8, 7, 0, 2], ⟨j + 1, by omega, ?_⟩, ?_⟩
    · simp only [zL, ↓reduceIte, reduceCtorEq, nE, nA]
    · simp only [zL, ↓reduceIte, reduceCtorEq, nE, nA]; omega
  · have hli : ¬ (j : Int) < (K : Int) := by omega
    obtain rfl : j = K := by omega
    simp (maxSteps := 3000000) only [qh, zH, Yg, qaq, hli, Int.lt_irrefl, iE, iN, iB, iC, iL, iD, iA, iS, iM, qa, zZ, ↓qt, ↓reduceIte, reduceCtorEq, nA, nM, nS, nE, nL, nD]; try simp only [qa, zY]
def Qy : List AV → Option AV
  | [.int .i64 c, .int .i64 k, .int .i64 p] => chk (((2 ≤ p ∧ p ≤ 97) ∧ (0 ≤ c ∧ c ≤ p - 1)) ∧ 0 ≤ k ∧ k ≤ 1000000) (some (.int .i64 (yj p c k.toNat)))
  | _ => none
theorem qx2 : Am.Callee Try.prog 75 (ql Qy) := Am.Callee.plain fun xs v he => by
  unfold Qy at he
  split at he
  · rename_i c k p
    obtain ⟨⟨⟨h1, h2⟩, h3⟩, he⟩ := qk he
    cases he
    obtain ⟨K, rfl⟩ : ∃ K : Nat, k = K := ⟨k.toNat, by omega⟩
    rw [Int.toNat_natCast]
    exact ⟨rfl, rfl, qrv p c K h1 h2 (by omega)⟩
  · cases he
noncomputable def B86 : zk := (B85.put 75 (ql Qy))
theorem qfs : qu Try.prog B86 := (qpf.put (qx2))
end Go.Proofs.Ytfhckbbgmblhbaa

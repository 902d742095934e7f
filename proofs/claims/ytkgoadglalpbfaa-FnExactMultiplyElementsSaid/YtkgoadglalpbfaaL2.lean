/- Contracts: products of diagrams, the reference. -/
import Derived.Test.YtkgoadglalpbfaaL1
namespace Go.Proofs.Ytkgoadglalpbfaa
open Go.Am Go.Dia
open Nat renaming reduceAdd → nA, reduceMul → nM, reduceSub → nS, reduceEqDiff → nE, reduceLT → nL, reduceLeDiff → nD, reduceBEq → nB
open Int renaming reduceEq → iE, reduceNe → iN, reduceBEq → iB, reduceBNe → iC, reduceLT → iL, reduceLE → iD, reduceAdd → iA, reduceSub → iS, reduceMul → iM
set_option linter.unusedSimpArgs false
set_option linter.unusedVariables false
set_option maxRecDepth 4000
set_option maxHeartbeats 1000000
def Ql (l : List AV) : Nat := l.countP fun v => match v with | .bool false => true | _ => false
theorem V4 : ∀ {met : List Bool} {k : Nat}, k < met.length → met.getD k false = false → Ql (bls (met.set k true)) < Ql (bls met)
  | b :: l, 0, _, h => by
    simp only [List.getD_cons_zero] at h
    subst h
    simp [Ql, bls]
  | b :: l, k + 1, hk, h => by
    have ih := V4 (met := l) (k := k) (by simpa using hk) (by simpa using h)
    simp only [Ql, bls] at ih
    simp only [Ql, bls, List.set_cons_succ, List.map_cons, List.countP_cons]
    omega
theorem qge : ∀ {met : List Bool} {k : Nat}, Ql (bls (met.set k true)) ≤ Ql (bls met)
  | [], k => by simp [Ql, bls]
  | b :: l, 0 => by cases b <;> simp [Ql, bls]
  | b :: l, k + 1 => by
    have ih := qge (met := l) (k := k)
    simp only [Ql, bls] at ih
    simp only [Ql, bls, List.set_cons_succ, List.map_cons, List.countP_cons]
    omega
theorem Ug {n : Nat} {d e : List Nat} {r : Nat × Bool × List Bool} : ∀ {f : Nat} {u : Bool} {i : Nat} {met : List Bool}, zz n d e f u i met = some r → r.2.2.length = met.length
  | 0, _, _, _, h => by simp [zz] at h
  | f + 1, true, i, met, h => by
    rw [zz] at h
    split at h
    · cases h; rfl
    · rw [Ug h, List.length_set]
  | f + 1, false, i, met, h => by
    rw [zz] at h
    split at h
    · cases h; rfl
    · rw [Ug h, List.length_set]
theorem qn2 {n : Nat} {d e : List Nat} (hd : isS n d = true) (he : isS n e = true) {i : Nat} {u : Bool} (hi : i < 2 * n) (hu : u = decide (i < n)) (met : List Bool) : (fol n d e u i met).length = met.length := by
  subst hu
  obtain ⟨f, met', h⟩ := Vf hd he hi met
  rw [qd1 h]; exact Ug h
def InL (n : Nat) (d e : List Nat) (f g : Nat → Nat) (i x : Nat) (met : List Bool) : Prop :=
  met.length = 8 ∧ ((x = i ∧ ∀ y, mt met y ↔ Seen n d e i y) ∨ ∃ (T : Nat → Prop) (last : Nat), qb1 (XX n d e) f g i T last ∧ x = g last ∧ ∀ y, mt met y ↔ Seen n d e i y ∨ T y)
theorem qqw {n : Nat} {d e : List Nat} {f g : Nat → Nat} (hf : Inv (XX n d e) f) (hg : Inv (XX n d e) g) (hn : n ≤ 8) {i x : Nat} {met : List Bool} (hi : i < n) (h0 : ¬ Seen n d e i i) (h : InL n d e f g i x met) (hx : ¬ mt met x) :
    XX n d e x ∧ XX n d e (f x) ∧ InL n d e f g i (g (f x)) ((met.set x true).set (f x) true) := by
  have hX : XX n d e i := ⟨hi, fun h => h0 (.inl h)⟩
  obtain ⟨hl, h⟩ := h
  have mt2 : ∀ {x y z : Nat}, x < n → y < n → (mt ((met.set x true).set y true) z ↔ z = y ∨ z = x ∨ mt met z) := fun {x y z} h1 h2 => by
    rw [bf (by rw [List.length_set]; omega), bf (by omega)]
  rcases h with ⟨rfl, hm⟩ | ⟨T, last, hT, rfl, hm⟩
  · have hfx := hf.mem _ hX
    refine ⟨hX, hfx, by rw [List.length_set, List.length_set]; exact hl, .inr ⟨_, _, qb1.start hf hX, rfl, fun y => ?_⟩⟩
    rw [mt2 hX.1 hfx.1, hm]
    constructor
    · rintro (h | h | h)
      · exact .inr (.inr h)
      · exact .inr (.inl h)
      · exact .inl h
    · rintro (h | h | h)
      · exact .inr (.inr h)
      · exact .inr (.inl h)
      · exact .inl h
  · have hT' : ¬ T (g last) := fun h => hx ((hm _).2 (.inr h))
    have hgl := hg.mem _ (Ring.mem hf hg hX (hT.ring _ hT.lm))
    have hfx := hf.mem _ hgl
    refine ⟨hgl, hfx, by rw [List.length_set, List.length_set]; exact hl, .inr ⟨_, _, (hT.next hf hg hX hT').1, rfl, fun y => ?_⟩⟩
    rw [mt2 hgl.1 hfx.1, hm]
    constructor
    · rintro (h | h | h | h)
      · exact .inr (.inr (.inl h))
      · exact .inr (.inl h)
      · exact .inl h
      · exact .inr (.inr (.inr h))
    · rintro (h | h | h | h)
      · exact .inr (.inr (.inl h))
      · exact .inr (.inl h)
      · exact .inl h
      · exact .inr (.inr (.inr h))
theorem qs2 {n : Nat} {d e : List Nat} (hd : isS n d = true) (he : isS n e = true) {f g : Nat → Nat} (hf : Inv (XX n d e) f) (hg : Inv (XX n d e) g) (hR : ∀ i x, Ring f g i x ↔ Ring (dm n d) (em e) i x) {i x : Nat} {met : List Bool} (hi : i < n) (h0 : ¬ Seen n d e i i) (h : InL n d e f g i x met) (hx : mt met x) :
    ∀ y, mt met y ↔ Seen n d e (i + 1) y := by
  have hX : XX n d e i := ⟨hi, fun h => h0 (.inl h)⟩
  intro y
  rw [qkf hi h0]
  obtain ⟨hl, ⟨rfl, hm⟩ | ⟨T, last, hT, rfl, hm⟩⟩ := h
  · exact absurd ((hm _).1 hx) h0
  · have hr : Ring f g i (g last) := .two (hT.ring _ hT.lm)
    have hT' : T (g last) := ((hm _).1 hx).resolve_left (Wm hd he hi h0 ((hR _ _).1 hr))
    have hs := (hT.stop hf hg hX hT').2
    rw [hm, hs, hR]
theorem jy : B80 143 = some (bx) := rfl
def W1 : AT := (.one (oF 17 0 2) (.one (oL 18 17) (.one (o0 19 (.build [(.bool false),(.bool false),(.bool false),(.bool false),(.bool false),(.bool false),(.bool false),(.bool false)] [])) (.one (oF 20 0 2) (.alt (oL 21 20) (.one (o0 22 (.build [.int .i64 0,.int .u8 0,.int .u8 0,.int .u8 0,.int .u8 0,.int .u8 0,.int .u8 0,.int .u8 0,.int .u8 0,.int .u8 0,.int .u8 0,.int .u8 0,.int .u8 0,.int .u8 0,.int .u8 0,.int .u8 0,.int .u8 0] [(0,1,.t 21)])) (.alt (o0 7 (.alloc [(.bool false),(.bool false),(.bool false),(.bool false),(.bool false),(.bool false),(.bool false),(.bool false)])) (.one (o0 8 (.alloc [.int .i64 0,.int .u8 0,.int .u8 0,.int .u8 0,.int .u8 0,.int .u8 0,.int .u8 0,.int .u8 0,.int .u8 0,.int .u8 0,.int .u8 0,.int .u8 0,.int .u8 0,.int .u8 0,.int .u8 0,.int .u8 0,.int .u8 0])) (.one (oM 6 18) (.one (oS 8 7 19) (.one (oS 17 8 22) (.nil))))) (.alt (o0 8 (.alloc [.int .i64 0,.int .u8 0,.int .u8 0,.int .u8 0,.int .u8 0,.int .u8 0,.int .u8 0,.int .u8 0,.int .u8 0,.int .u8 0,.int .u8 0,.int .u8 0,.int .u8 0,.int .u8 0,.int .u8 0,.int .u8 0,.int .u8 0])) (.one (o0 7 (.alloc [(.bool false),(.bool false),(.bool false),(.bool false),(.bool false),(.bool false),(.bool false),(.bool false)])) (.one (oM 6 18) (.one (oS 8 7 19) (.one (oS 17 8 22) (.nil))))) (.none)))) (.alt (o0 7 (.alloc [(.bool false),(.bool false),(.bool false),(.bool false),(.bool false),(.bool false),(.bool false),(.bool false)])) (.alt (oL 21 20) (.one (o0 22 (.build [.int .i64 0,.int .u8 0,.int .u8 0,.int .u8 0,.int .u8 0,.int .u8 0,.int .u8 0,.int .u8 0,.int .u8 0,.int .u8 0,.int .u8 0,.int .u8 0,.int .u8 0,.int .u8 0,.int .u8 0,.int .u8 0,.int .u8 0] [(0,1,.t 21)])) (.one (o0 8 (.alloc [.int .i64 0,.int .u8 0,.int .u8 0,.int .u8 0,.int .u8 0,.int .u8 0,.int .u8 0,.int .u8 0,.int .u8 0,.int .u8 0,.int .u8 0,.int .u8 0,.int .u8 0,.int .u8 0,.int .u8 0,.int .u8 0,.int .u8 0])) (.one (oM 6 18) (.one (oS 8 7 19) (.one (oS 17 8 22) (.nil)))))) (.alt (o0 8 (.alloc [.int .i64 0,.int .u8 0,.int .u8 0,.int .u8 0,.int .u8 0,.int .u8 0,.int .u8 0,.int .u8 0,.int .u8 0,.int .u8 0,.int .u8 0,.int .u8 0,.int .u8 0,.int .u8 0,.int .u8 0,.int .u8 0,.int .u8 0])) (.one (oM 6 18) (.alt (oL 21 20) (.one (o0 22 (.build [.int .i64 0,.int .u8 0,.int .u8 0,.int .u8 0,.int .u8 0,.int .u8 0,.int .u8 0,.int .u8 0,.int .u8 0,.int .u8 0,.int .u8 0,.int .u8 0,.int .u8 0,.int .u8 0,.int .u8 0,.int .u8 0,.int .u8 0] [(0,1,.t 21)])) (.one (oS 8 7 19) (.one (oS 17 8 22) (.nil)))) (.alt (oS 8 7 19) (.one (oL 21 20) (.one (o0 22 (.build [.int .i64 0,.int .u8 0,.int .u8 0,.int .u8 0,.int .u8 0,.int .u8 0,.int .u8 0,.int .u8 0,.int .u8 0,.int .u8 0,.int .u8 0,.int .u8 0,.int .u8 0,.int .u8 0,.int .u8 0,.int .u8 0,.int .u8 0] [(0,1,.t 21)])) (.one (oS 17 8 22) (.nil)))) (.none)))) (.none))) (.alt (o0 8 (.alloc [.int .i64 0,.int .u8 0,.int .u8 0,.int .u8 0,.int .u8 0,.int .u8 0,.int .u8 0,.int .u8 0,.int .u8 0,.int .u8 0,.int .u8 0,.int .u8 0,.int .u8 0,.int .u8 0,.int .u8 0,.int .u8 0,.int .u8 0])) (.alt (oL 21 20) (.one (o0 22 (.build [.int .i64 0,.int .u8 0,.int .u8 0,.int .u8 0,.int .u8 0,.int .u8 0,.int .u8 0,.int .u8 0,.int .u8 0,.int .u8 0,.int .u8 0,.int .u8 0,.int .u8 0,.int .u8 0,.int .u8 0,.int .u8 0,.int .u8 0] [(0,1,.t 21)])) (.one (o0 7 (.alloc [(.bool false),(.bool false),(.bool false),(.bool false),(.bool false),(.bool false),(.bool false),(.bool false)])) (.one (oM 6 18) (.one (oS 8 7 19) (.one (oS 17 8 22) (.nil)))))) (.alt (o0 7 (.alloc [(.bool false),(.bool false),(.bool false),(.bool false),(.bool false),(.bool false),(.bool false),(.bool false)])) (.one (oM 6 18) (.alt (oL 21 20) (.one (o0 22 (.build [.int .i64 0,.int .u8 0,.int .u8 0,.int .u8 0,.int .u8 0,.int .u8 0,.int .u8 0,.int .u8 0,.int .u8 0,.int .u8 0,.int .u8 0,.int .u8 0,.int .u8 0,.int .u8 0,.int .u8 0,.int .u8 0,.int .u8 0] [(0,1,.t 21)])) (.one (oS 8 7 19) (.one (oS 17 8 22) (.nil)))) (.alt (oS 8 7 19) (.one (oL 21 20) (.one (o0 22 (.build [.int .i64 0,.int .u8 0,.int .u8 0,.int .u8 0,.int .u8 0,.int .u8 0,.int .u8 0,.int .u8 0,.int .u8 0,.int .u8 0,.int .u8 0,.int .u8 0,.int .u8 0,.int .u8 0,.int .u8 0,.int .u8 0,.int .u8 0] [(0,1,.t 21)])) (.one (oS 17 8 22) (.nil)))) (.none)))) (.none))) (.none))))))))
def Z9 : AC := .seq (.seq (.region [oM 23 9,oM 24 6,oP 25 .lss 23 24]) (.cond 25 .skip (.exit 0))) (.seq (.block 1 (.seq (.region [oN 29 17 2,oN 30 17 3,oM 31 9,oC 32 143 [.t 29,.t 30,.t 31,(.c (.bool true)),.t 7],oM 28 32,oE 33 0 28,oE 34 1 28,oM 10 33,oM 11 34]) (.seq (.region [oM 35 9,oM 36 10,o0 37 (.conv .u8 (.t 36)),oF 38 1 8,o0 39 (.ja 16 1 (.t 38) (.t 35)),oT 39 37]) (.seq (.region [oN 41 17 2,oN 42 17 3,oM 43 6,oM 44 9,oP 45 .add 43 44,oC 46 143 [.t 41,.t 42,.t 45,(.c (.bool false)),.t 7],oM 40 46,oE 47 0 40,oE 48 1 40,oM 12 47,oM 13 48]) (.region [oM 49 6,oM 50 9,oP 51 .add 49 50,oM 52 12,o0 53 (.conv .u8 (.t 52)),oF 54 1 8,o0 55 (.ja 16 1 (.t 54) (.t 51)),oT 55 53]))))) (.region [oM 26 9,oK 27 .add 26 1,oM 9 27]))
def Z6 : AC := .seq (.seq (.region [oM 67 16,o0 68 (.ja 8 1 (.t 7) (.t 67)),oL 69 68,o0 70 (.un .not (.t 69))]) (.cond 70 .skip (.exit 4))) (.block 5 (.seq (.region [oM 71 16,o0 72 (.ja 8 1 (.t 7) (.t 71)),⟨none,none,.op (.Zc (.t 72) (.c (.bool true)))⟩]) (.seq (.region [oM 73 6,oM 74 16,oP 75 .add 73 74,oF 76 1 2,o0 77 (.ja 16 1 (.t 76) (.t 75)),oL 78 77,o0 79 (.conv .i64 (.t 78)),oM 80 6,oP 81 .sub 79 80,oM 16 81]) (.seq (.region [oM 82 16,o0 83 (.ja 8 1 (.t 7) (.t 82)),⟨none,none,.op (.Zc (.t 83) (.c (.bool true)))⟩]) (.region [oM 84 16,oF 85 1 3,o0 86 (.ja 16 1 (.t 85) (.t 84)),oL 87 86,o0 88 (.conv .i64 (.t 87)),oM 16 88])))))
def Z4 : AC := .region [oM 59 15,oK 60 .add 59 1,oM 15 60]
def kf : AC := .seq (.seq (.region [oM 56 15,oM 57 6,oP 58 .lss 56 57]) (.cond 58 .skip (.exit 2))) (.seq (.block 3 (.seq (.seq (.region [oM 61 15,o0 62 (.ja 8 1 (.t 7) (.t 61)),oL 63 62]) (.cond 63 (.exit 3) .skip)) (.seq (.region [oM 64 14,oK 65 .add 64 1,oM 14 65]) (.seq (.region [oM 66 15,oM 16 66]) (.block 4 (.loop Z6)))))) Z4)
def Wu : AC := .seq (.region [oN 89 17 8,oM 90 14,oS 17 4 89,oM 5 90]) .ret
def Ye : AC := .seq (.region [oI 14 0]) (.seq (.seq (.region [oI 15 0]) (.block 2 (.loop kf))) Wu)
def W3 : AC := .seq (.seq (.region [oI 9 0]) (.block 0 (.loop Z9))) Ye
def Kj : AC := .seq (.region [o0 2 (.box (.t 0)),o0 3 (.box (.t 1)),o0 4 (.alloc [.int .i64 0,.int .u8 0,.int .u8 0,.int .u8 0,.int .u8 0,.int .u8 0,.int .u8 0,.int .u8 0,.int .u8 0,.int .u8 0,.int .u8 0,.int .u8 0,.int .u8 0,.int .u8 0,.int .u8 0,.int .u8 0,.int .u8 0]),oI 5 0]) (.seq (.tree false W1) W3)
theorem qgk : zy Try.prog 125 = some ⟨91, Kj, [.kd 4 17, .slot 5]⟩ := by kernel_rfl
theorem qhn (N : Nat) (d e : List Nat) (hd : okD d) (he : okD e) (hds : isS N d = true) (hes : isS N e = true) :
    Am.Fn Try.prog 125 [.agg (dia N d), .agg (dia N e)] [] (fun v H' => v = .tup [.agg (dia N (j2 N d e)), .int .i64 (lpN N d e N : Nat)] ∧ H' = []) := by
  refine Am.Fn.jw (R := fun v => v = _) qas mixed qgk (by simp) (by simp) ?_
  obtain ⟨hN, hpd, _⟩ := ji hds
  obtain ⟨_, hpe, _⟩ := ji hes
  have hdl := hd.1
  have hel := he.1
  have hb8 : [AV.bool false, .bool false, .bool false, .bool false, .bool false, .bool false, .bool false, .bool false] = bls (List.replicate 8 false) := rfl
  simp (maxSteps := 3000000) only [qf, zH, Kj, xq, yo, qe, hdl, hel, vu, iE, iN, iB, iC, iL, iD, iA, iS, iM, qb, zZ, ↓qp, ↓reduceIte, reduceCtorEq, nA, nM, nS, nE, nL, nD]; try simp only [qb, zY]
  refine WA.Y0 qas (fun s => s = ⟨[(8, .ptr 4 0), (7, .ptr 3 0), (6, .int .i64 N), (5, .int .i64 0), (4, .ptr 2 0), (3, .ptr 1 0), (2, .ptr 0 0)], [.cells (dia N d), .cells (dia N e), .cells (dia 0 (List.replicate 16 0)), .cells (bls (List.replicate 8 false)), .cells (dia N (List.replicate 16 0))]⟩) ?_ ?_
  · have hov8 : over (bls (List.replicate 8 false)) 0 (bls (List.replicate 8 false)) = bls (List.replicate 8 false) := rfl
    have hl8 : (bls (List.replicate 8 false)).length = 8 := rfl
    have ho8 : (bls (List.replicate 8 false)).all AV.one = true := rfl
    unfold W1
    simp (maxSteps := 3000000) only [qf, zH, b9, Qx, hb8, hov8, hl8, ho8, xq, yo, Ge, qe, hdl, hel, vu, xd, vh zg zg, List.length_replicate, Nat.le_refl, iE, iN, iB, iC, iL, iD, iA, iS, iM, qb, zZ, ↓qp, ↓reduceIte, reduceCtorEq, nA, nM, nS, nE, nL, nD]; try simp only [qb, zY]
    repeat' (with_reducible refine And.intro ?_ ?_)
    all_goals first
      | exact ⟨_, qz.zc [8, 7, 6, 5, 4, 3, 2], rfl⟩
      | (refine ⟨_, qz.zw [0, 1, 2, 4, 3] [8, 7, 6, 5, 4, 3, 2] ⟨by decide, ?_⟩ ?_, ?_⟩
         · simp only [qc _ _ (qh _ _), qc _ _ (wb _), zK, ↓reduceIte, reduceCtorEq, nE, nB, nA]
         · simp only [qc _ _ (qh _ _), qc _ _ (wb _), zK, ↓reduceIte, reduceCtorEq, nE, nB, nA]
         · simp only [qd _ _ (qh _ _), qd _ _ (wb _), zL, ↓reduceIte, reduceCtorEq, nE, nA])
  rintro s rfl
  simp (maxSteps := 3000000) only [qf, zH, W3, iE, iN, iB, iC, iL, iD, iA, iS, iM, qb, zZ, ↓qp, ↓reduceIte, reduceCtorEq, nA, nM, nS, nE, nL, nD]; try simp only [qb, zY]
  refine WA.j8 qas (fun s => ∃ k : Nat, k ≤ N ∧ s = ⟨[(9, .int .i64 k), (8, .ptr 4 0), (7, .ptr 3 0), (6, .int .i64 N), (5, .int .i64 0), (4, .ptr 2 0), (3, .ptr 1 0), (2, .ptr 0 0)], [.cells (dia N d), .cells (dia N e), .cells (dia 0 (List.replicate 16 0)), .cells (bls (qca N d e k)), .cells (dia N (V2 N d e k))]⟩)
    (fun s => match get s.env 9 with | .int _ x => N - x.toNat | _ => 0) ⟨_, qz.zc [9, 8, 7, 6, 5, 4, 3, 2], 0, by omega, rfl⟩ ?_
  rintro s ⟨k, hk, rfl⟩
  have hw : q8 .i64 ((k : Int) + 1) = ((k + 1 : Nat) : Int) := by rw [wrap64 (by omega) (by omega)]; rfl
  by_cases hlt : k < N
  · have hli : (k : Int) < (N : Int) := by omega
    have hk16 := yn N d e k
    have hmk := (Xj hds hes k hk).len
    have hx1 := qbs hds hes (i := k) (by omega)
    have hx2 := qbs hds hes (i := N + k) (by omega)
    have u1 : q8 .u8 ((pr N d e k : Nat) : Int) = ((pr N d e k : Nat) : Int) := qhh (by omega)
    have u2 : q8 .u8 ((pr N d e (N + k) : Nat) : Int) = ((pr N d e (N + k) : Nat) : Int) := qhh (by omega)
    have hadd : q8 .i64 ((N : Int) + (k : Int)) = ((N + k : Nat) : Int) := by rw [wrap64 (by omega) (by omega)]; rfl
    obtain ⟨c1, c2⟩ := Xl (show k < 16 by omega)
    obtain ⟨c3, c4⟩ := Xl (show N + k < 16 by omega)
    have c5 : k < 16 := by omega
    have c6 : N + k < 16 := by omega
    have k1 : (0 : Int) ≤ (k : Int) ∧ (k : Int) < 2 * (N : Int) := by omega
    have k2 : (0 : Int) ≤ ((N + k : Nat) : Int) ∧ ((N + k : Nat) : Int) < 2 * (N : Int) := by omega
    have q1 : (true = decide ((k : Int) < (N : Int))) = True := by simp [hlt]
    have q2 : (false = decide (((N + k : Nat) : Int) < (N : Int))) = True := by simp; omega
    have hf1 : (fol N d e true k (qca N d e k)).length = 8 := by rw [qn2 hds hes (by omega) (by simp [hlt])]; exact hmk
    have q0 : (0 : Int) ≤ (N : Int) := by omega
    have hdo := zd (n := (N : Int)) hd
    have heo := zd (n := (N : Int)) he
    simp (maxSteps := 3000000) only [qf, zH, Z9, jy, bx, hw, hli, qe, hdl, hel, q9 hdl, q9 hel, hdo, heo, Uh, Int.toNat_natCast, hds, hes, k1, k2, q0, q1, q2, hmk, hf1, u1, u2, hadd, c1, c2, c3, c4, c5, c6, hk16, qcb, List.length_set, wg, AV.one, and_self, true_and, and_true, iE, iN, iB, iC, iL, iD, iA, iS, iM, qb, zZ, ↓qp, ↓reduceIte, reduceCtorEq, nA, nM, nS, nE, nL, nD]; try simp only [qb, zY]
    refine ⟨_, qz.zc [9, 8, 7, 6, 5, 4, 3, 2], ⟨k + 1, by omega, ?_⟩, ?_⟩
    · simp only [zL, ↓reduceIte, reduceCtorEq, nE, nA]
      rfl
    · simp only [zL, ↓reduceIte, reduceCtorEq, nE, nA]; omega
  have hli : ¬ (k : Int) < (N : Int) := by omega
  obtain rfl : k = N := by omega
  simp (maxSteps := 3000000) only [qf, zH, Z9, Ye, jy, bx, hli, Int.lt_irrefl, iE, iN, iB, iC, iL, iD, iA, iS, iM, qb, zZ, ↓qp, ↓reduceIte, reduceCtorEq, nA, nM, nS, nE, nL, nD]; try simp only [qb, zY]
  refine WA.j8 qas (fun s => ∃ (i : Nat) (met : List Bool), i ≤ k ∧ (met.length = 8 ∧ ∀ x, mt met x ↔ Seen k d e i x) ∧ s = ⟨[(15, .int .i64 i), (14, .int .i64 (lpN k d e i : Nat)), (8, .ptr 4 0), (7, .ptr 3 0), (6, .int .i64 k), (5, .int .i64 0), (4, .ptr 2 0), (3, .ptr 1 0), (2, .ptr 0 0)], [.cells (dia k d), .cells (dia k e), .cells (dia 0 (List.replicate 16 0)), .cells (bls met), .cells (dia k (j2 k d e))]⟩)
    (fun s => match get s.env 15 with | .int _ x => k - x.toNat | _ => 0) ⟨_, qz.zc [15, 14, 8, 7, 6, 5, 4, 3, 2], 0, qca k d e k, by omega, ⟨(Xj hds hes k (Nat.le_refl _)).len, fun x => ⟨.inl, fun h => h.elim id fun ⟨j, hj, _⟩ => absurd hj (Nat.not_lt_zero _)⟩⟩, rfl⟩ ?_
  clear hlt hli hw
  rintro s ⟨i, met, hi, ⟨hml, hmt⟩, rfl⟩
  have hw : q8 .i64 ((i : Int) + 1) = ((i + 1 : Nat) : Int) := by rw [wrap64 (by omega) (by omega)]; rfl
  have hle := qdo k d e i
  have hw2 : q8 .i64 (((lpN k d e i : Nat) : Int) + 1) = ((lpN k d e i + 1 : Nat) : Int) := by rw [wrap64 (by omega) (by omega)]; rfl
  by_cases hlt : i < k
  · have hli : (i : Int) < (k : Int) := by omega
    have g1 := J0 (show i < 8 by omega)
    have g2 : i < 8 := by omega
    have g3 := qny (l := met) (i := i) (by omega)
    by_cases hs : Seen k d e i i
    · have hm1 : met.getD i false = true := (hmt i).2 hs
      simp (maxSteps := 3000000) only [qf, zH, kf, Z4, jy, bx, hw, hli, g1, g2, g3, hm1, wg, hml, iE, iN, iB, iC, iL, iD, iA, iS, iM, qb, zZ, ↓qp, ↓reduceIte, reduceCtorEq, nA, nM, nS, nE, nL, nD]; try simp only [qb, zY]
      refine ⟨_, qz.zc [15, 14, 8, 7, 6, 5, 4, 3, 2], ⟨i + 1, met, by omega, ⟨hml, fun x => by rw [hmt, qkk hds hes hs]⟩, ?_⟩, ?_⟩
      · simp only [zL, ↓reduceIte, reduceCtorEq, nE, nA]
        simp only [lpN, if_pos hs]
      · simp only [zL, ↓reduceIte, reduceCtorEq, nE, nA]; omega
    · have hm1 : met.getD i false = false := by
        cases h : met.getD i false with
        | false => rfl
        | true => exact absurd ((hmt i).1 h) hs
      simp (maxSteps := 3000000) only [qf, zH, kf, jy, bx, hw, hw2, hli, g1, g2, g3, hm1, wg, hml, iE, iN, iB, iC, iL, iD, iA, iS, iM, qb, zZ, ↓qp, ↓reduceIte, reduceCtorEq, nA, nM, nS, nE, nL, nD]; try simp only [qb, zY]
      refine WA.j8 qas (fun s => ∃ (x : Nat) (mm : List Bool), InL k d e (dm k d) (em e) i x mm ∧ s = ⟨[(16, .int .i64 x), (15, .int .i64 i), (14, .int .i64 (lpN k d e i + 1 : Nat)), (8, .ptr 4 0), (7, .ptr 3 0), (6, .int .i64 k), (5, .int .i64 0), (4, .ptr 2 0), (3, .ptr 1 0), (2, .ptr 0 0)], [.cells (dia k d), .cells (dia k e), .cells (dia 0 (List.replicate 16 0)), .cells (bls mm), .cells (dia k (j2 k d e))]⟩)
        (fun s : St => match s.hp[3]? with | some (AO.cells l) => Ql l | _ => 0) ⟨_, qz.zc [16, 15, 14, 8, 7, 6, 5, 4, 3, 2], i, met, ⟨hml, .inl ⟨rfl, hmt⟩⟩, rfl⟩ ?_
      rintro s ⟨x, mm, hin, rfl⟩
      have hmm := hin.1
      have hdi := By hds hes
      have hei := Bz hds hes
      have hxk : x < k := by
        rcases hin.2 with ⟨rfl, _⟩ | ⟨T, last, hT, rfl, _⟩
        · exact hlt
        · exact (hei.mem _ (Ring.mem hdi hei ⟨hlt, fun h => hs (.inl h)⟩ (hT.ring _ hT.lm))).1
      have g4 := J0 (show x < 8 by omega)
      have g5 : x < 8 := by omega
      have g6 := qny (l := mm) (i := x) (by omega)
      by_cases hmx : mm.getD x false = true
      · have hst := qs2 hds hes hdi hei (fun _ _ => Iff.rfl) hlt hs hin hmx
        simp (maxSteps := 3000000) only [qf, zH, Z6, Z4, jy, bx, hw, g4, g5, g6, hmx, wg, hmm, Bool.not_true, iE, iN, iB, iC, iL, iD, iA, iS, iM, qb, zZ, ↓qp, ↓reduceIte, reduceCtorEq, nA, nM, nS, nE, nL, nD]; try simp only [qb, zY]
        refine ⟨_, qz.zc [15, 14, 8, 7, 6, 5, 4, 3, 2], ⟨i + 1, mm, by omega, ⟨hmm, hst⟩, ?_⟩, ?_⟩
        · simp only [zL, ↓reduceIte, reduceCtorEq, nE, nA]
          simp only [lpN, if_neg hs]
        · simp only [zL, ↓reduceIte, reduceCtorEq, nE, nA]; omega
      · obtain ⟨y1, y2, y3⟩ := qqw hdi hei (by omega) hlt hs hin hmx
        have hmx' : mm.getD x false = false := by simpa using hmx
        obtain ⟨z1, z2, z3⟩ := qfo hds hes y1
        have hdx : dm k d x = d.getD (k + x) 0 - k := rfl
        have hyk := y2.1
        have hadd : q8 .i64 ((k : Int) + (x : Int)) = ((k + x : Nat) : Int) := by rw [wrap64 (by omega) (by omega)]; rfl
        obtain ⟨c3, c4⟩ := Xl (show k + x < 16 by omega)
        have c6 : k + x < 16 := by omega
        obtain ⟨c7, c8⟩ := Xl (show dm k d x < 16 by omega)
        have c9 : dm k d x < 16 := by omega
        have g7 := J0 (show dm k d x < 8 by omega)
        have g8 : dm k d x < 8 := by omega
        have d1 := Xn (n := (k : Int)) (m := d) (i := k + x) (by omega)
        have d2 := Xn (n := (k : Int)) (m := e) (i := dm k d x) (by omega)
        have v1 : q8 .i64 ((d.getD (k + x) 0 : Nat) : Int) = ((d.getD (k + x) 0 : Nat) : Int) := yk (by omega)
        have v2 : q8 .i64 (((d.getD (k + x) 0 : Nat) : Int) - (k : Int)) = ((dm k d x : Nat) : Int) := by rw [wrap64 (by omega) (by omega)]; omega
        have v3 : q8 .i64 ((e.getD (dm k d x) 0 : Nat) : Int) = ((e.getD (dm k d x) 0 : Nat) : Int) := yk (by have := qfo hds hes y2; omega)
        simp (maxSteps := 3000000) only [qf, zH, Z6, jy, bx, g4, g5, g6, g7, g8, hmx', wg, qck, hmm, List.length_set, hadd, c3, c4, c6, c7, c8, c9, d1, d2, v1, v2, v3, qe, hdl, hel, AV.one, Bool.not_false, iE, iN, iB, iC, iL, iD, iA, iS, iM, qb, zZ, ↓qp, ↓reduceIte, reduceCtorEq, nA, nM, nS, nE, nL, nD]; try simp only [qb, zY]
        refine ⟨_, qz.zc [16, 15, 14, 8, 7, 6, 5, 4, 3, 2], ⟨_, _, y3, ?_⟩, ?_⟩
        · simp only [zL, ↓reduceIte, reduceCtorEq, nE, nA]
          rfl
        · simp only [zL, ↓reduceIte, reduceCtorEq, nE, nA]
          have h1 := V4 (met := mm) (k := x) (by omega) hmx'
          have h2 := qge (met := mm.set x true) (k := dm k d x)
          omega
  · have hli : ¬ (i : Int) < (k : Int) := by omega
    obtain rfl : i = k := by omega
    have hk16 := yn i d e i
    have hk16' : (j2 i d e).length = 16 := hk16
    simp (maxSteps := 3000000) only [qf, zH, kf, Wu, jy, bx, hli, qe, hk16', q9 hk16', vh zg hk16', xd, List.length_replicate, Int.lt_irrefl, iE, iN, iB, iC, iL, iD, iA, iS, iM, qb, zZ, ↓qp, ↓reduceIte, reduceCtorEq, nA, nM, nS, nE, nL, nD]; try simp only [qb, zY]
    simp only [qh, Bool.and_self]
noncomputable def vy : List AV → Option AV
  | [.agg ld, .agg le] => match bg ld, bg le with
    | some (n, d), some (n', e) => chk ((n' = n ∧ 0 ≤ n) ∧ isS n.toNat d = true ∧ isS n.toNat e = true) (some (.tup [.agg (dia n (j2 n.toNat d e)), .int .i64 (lpN n.toNat d e n.toNat : Nat)]))
    | _, _ => none
  | _ => none
theorem qct {f : FuncId} (h : ∀ (N : Nat) d e, okD d → okD e → isS N d = true → isS N e = true → Am.Fn Try.prog f [.agg (dia N d), .agg (dia N e)] [] (fun v H' => v = .tup [.agg (dia N (j2 N d e)), .int .i64 (lpN N d e N : Nat)] ∧ H' = [])) : Am.Callee Try.prog f (qu vy) := Am.Callee.plain fun xs v he => by
  unfold vy at he
  split at he
  · rename_i ld le
    split at he
    · rename_i n d n' e hd1 he1
      obtain ⟨⟨⟨a1, a2⟩, a3, a4⟩, he2⟩ := qm he
      cases he2
      obtain ⟨rfl, hd⟩ := xa hd1
      obtain ⟨rfl, he'⟩ := xa he1
      subst a1
      obtain ⟨N, rfl⟩ : ∃ N : Nat, n' = N := ⟨n'.toNat, by omega⟩
      simp only [Int.toNat_natCast] at a3 a4 ⊢
      exact ⟨by simp [AV.zs, AV.xb, qh], by simp [AV.zs, AV.xb, qh], h N d e hd he' a3 a4⟩
    · cases he
  · cases he
noncomputable def B81 : z7 := (B80.put 125 (qu vy))
theorem qhs : ze Try.prog B81 := (qas.put (qct qhn))
end Go.Proofs.Ytkgoadglalpbfaa

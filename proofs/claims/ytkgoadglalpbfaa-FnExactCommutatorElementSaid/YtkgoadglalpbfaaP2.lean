/- Contracts: comparisons of elements. Contracts: marks in elements. Contracts: marks in elements, the elements themselves. Contracts: the program's test of lists of diagrams. Contracts: the reference's element of a diagram. Contracts: the reference's element of a diagram. Contracts: entries for the elements of diagrams. Contracts: comparing and sorting terms. Contracts: an element of a sum. Contracts: the element of a diagram. Contracts: the statement FnExactElementOf. -/
import Derived.Test.YtkgoadglalpbfaaP1
import Derived.Test.YtkgoadglalpbfaaAmC
import Derived.Shelf.Small.Strs
namespace Go.Proofs.Ytkgoadglalpbfaa
open Go.Am Go.Dia
open Nat renaming reduceAdd → nA, reduceMul → nM, reduceSub → nS, reduceEqDiff → nE, reduceLT → nL, reduceLeDiff → nD, reduceBEq → nB
open Int renaming reduceEq → iE, reduceNe → iN, reduceBEq → iB, reduceBNe → iC, reduceLT → iL, reduceLE → iD, reduceAdd → iA, reduceSub → iS, reduceMul → iM
set_option linter.unusedSimpArgs false
set_option linter.unusedVariables false
set_option maxRecDepth 4000
set_option maxHeartbeats 1000000
theorem qde : B13 106 = some (qu J9) := rfl
def Jx : AC := .seq (.seq (.region [oM 11 5,oM 12 0,o0 13 (.len .slc (.t 12)),oP 14 .lss 11 13]) (.cond 14 .skip (.exit 0))) (.seq (.block 1 (.seq (.draw false [oM 17 0,oM 18 5,oX 19 18 17 18,oN 20 18 19,oM 21 1,oM 22 5,oX 23 18 21 22,oN 24 18 23,oC 25 106 [.t 20,.t 24],o0 26 (.un .not (.t 25))]) (.cond 26 (.seq (.region [oB 4 false]) .ret) .skip))) (.region [oM 15 5,oK 16 .add 15 1,oM 5 16]))
def U4 : AC := .seq (.region [oB 4 true]) .ret
def qdc : AC := .seq (.region [oB 4 false]) (.seq (.seq (.region [oM 6 0,o0 7 (.len .slc (.t 6)),oM 8 1,o0 9 (.len .slc (.t 8)),oP 10 .neq 7 9]) (.cond 10 (.seq (.region [oB 4 false]) .ret) .skip)) (.seq (.seq (.region [oI 5 0]) (.block 0 (.loop Jx))) U4))
theorem qmu : xa Try.prog 54 = some ⟨27, qdc, [.slot 4]⟩ := by kernel_rfl
def G4 : AC := .seq (.region [o0 2 (.box (.t 0)),o0 3 (.box (.t 1)),oB 4 false]) (.seq (.seq (.region [oF 5 0 2,oL 6 5,oF 7 0 3,oL 8 7,oP 9 .neq 6 8]) (.cond 9 (.seq (.region [oB 4 false]) .ret) .skip)) (.seq (.seq (.region [oF 10 1 2,oL 11 10,oF 12 1 3,oL 13 12,oP 14 .neq 11 13]) (.cond 14 (.seq (.region [oB 4 false]) .ret) .skip)) (.seq (.seq (.region [oF 15 2 2,oL 16 15,oF 17 2 3,oL 18 17,oP 19 .neq 16 18]) (.cond 19 (.seq (.region [oB 4 false]) .ret) .skip)) (.seq (.seq (.region [oF 20 3 2,oL 21 20,oF 22 3 3,oL 23 22,oC 24 54 [.t 21,.t 23],o0 25 (.un .not (.t 24))]) (.cond 25 (.seq (.region [oB 4 false]) .ret) .skip)) (.seq (.region [oB 4 true]) .ret)))))
theorem qgz : xa Try.prog 19 = some ⟨26, G4, [.slot 4]⟩ := by kernel_rfl
def Qa : Nat → List AV → Option (List (Int × List Nat × Int))
  | 0, _ => some []
  | k + 1, l => match qc2 (l.take 18), Qa k (l.drop 18) with
    | some t, some ts => some (t :: ts)
    | _, _ => none
theorem qg3 : ∀ {ts : List (Int × List Nat × Int)} {x : List AV}, okT ts → Qa ts.length (qn ts ++ x) = some ts
  | [], _, _ => rfl
  | t :: ts, x, h => by
    have h1 := qg3 (ts := ts) (x := x) fun u hu => h u (List.mem_cons_of_mem _ hu)
    have h2 := zx (h t (by simp))
    simp only [qn, List.flatMap_cons, List.length_cons, Qa, List.append_assoc] at h1 ⊢
    rw [List.take_append_of_le_length (by omega), List.take_of_length_le (by omega), Bz (h t (by simp)), List.drop_append, List.drop_of_length_le (by omega), h2, List.nil_append]
    simp only [Nat.sub_self, List.drop_zero, h1]
theorem z6 {ts : List (Int × List Nat × Int)} (h : okT ts) : Qa ts.length (qn ts) = some ts := by
  have := qg3 (x := []) h
  rwa [List.append_nil] at this
theorem xl : ∀ {k : Nat} {l : List AV} {ts : List (Int × List Nat × Int)}, Qa k l = some ts → ts.length = k ∧ okT ts ∧ l.take (k * 18) = qn ts ∧ k * 18 ≤ l.length
  | 0, l, ts, h => by cases h; exact ⟨rfl, by simp [okT], by simp [qn], by omega⟩
  | k + 1, l, ts, h => by
    simp only [Qa] at h
    split at h
    · rename_i t us ht hus
      cases h
      obtain ⟨h1, h2, h3, h4⟩ := xl hus
      obtain ⟨h5, h6⟩ := W3 ht
      have h7 := zx h6
      have h8 : 18 ≤ l.length := by
        have := congrArg List.length h5
        rw [h7, List.length_take] at this; omega
      rw [List.length_drop] at h4
      refine ⟨by simp [h1], fun u hu => ?_, ?_, by omega⟩
      · rcases List.mem_cons.1 hu with rfl | hu
        · exact h6
        · exact h2 u hu
      · rw [show (k + 1) * 18 = 18 + k * 18 from by omega, List.take_add, h5, h3]; rfl
    · cases h
def two (b b' : Nat) : Ren := fun j => if j = 0 then some (b, 0) else if j = 1 then some (b', 0) else none
theorem Callee.ro2 {f : FuncId} {g : BE} (h : ∀ hp xs v hp', g hp xs = some (v, hp') → ∃ (l l' : List AV) (b b' : Nat) (ys : List AV), hp' = hp ∧ (∃ L, rd hp b = some L ∧ l.length ≤ L.length ∧ L.take l.length = l) ∧ (∃ L, rd hp b' = some L ∧ l'.length ≤ L.length ∧ L.take l'.length = l') ∧
    AV.zr l = true ∧ AV.zr l' = true ∧ xs = AV.zz (two b b') ys ∧ xs.all vn = true ∧ AV.q8 2 ys ∧ v.xd = true ∧ Am.Fn Try.prog f ys [.ro l, .ro l'] fun v' H' => v' = v ∧ H' = [.ro l, .ro l']) : Am.Callee Try.prog f g := by
  intro hp xs v hp' he
  obtain ⟨l, l', b, b', ys, rfl, ⟨L, hL, h1, h2⟩, ⟨L', hL', h1', h2'⟩, h3, h3', h4, h5, h6, h7, h8⟩ := h hp xs v hp' he
  refine ⟨[.ro l, .ro l'], ys, _, two b b', [(b, 0), (b', 0)], h8, h4, h5, ⟨fun j hj => ?_, rfl, fun j o c hj hb => ?_, fun j k bj bk oj ok hj hk hoj hok hw => ?_⟩, ?_, h6, ?_⟩
  · match j, hj with
    | 0, _ => rfl
    | 1, _ => rfl
  · match j, hj, hb with
    | 0, hj, hb =>
      cases hj; cases hb
      exact ⟨L, hL, by omega, by rw [List.drop_zero, qc _ _ h3]; exact h2⟩
    | 1, hj, hb =>
      cases hj; cases hb
      exact ⟨L', hL', by omega, by rw [List.drop_zero, qc _ _ h3']; exact h2'⟩
    | j + 2, hj, hb => simp at hj
  · match j, hoj with
    | 0, hoj => cases hoj; cases hw
    | 1, hoj => cases hoj; cases hw
    | j + 2, hoj => simp at hoj
  · intro j o hj
    match j, hj with
    | 0, hj => cases hj; exact qk _ _ h3
    | 1, hj => cases hj; exact qk _ _ h3'
    | j + 2, hj => simp at hj
  · rintro v' H' ⟨rfl, rfl⟩
    exact ⟨Xr _ _ h7, by simp [after, upd, AO.wr]⟩
theorem b9 {l l' : List AV} (h : AV.zr l = true) (h' : AV.zr l' = true) : ∀ (j : Nat) (o : AO), [AO.ro l, AO.ro l'][j]? = some o → o.under [AO.ro l, AO.ro l'].length := by
  intro j o e
  match j, e with
  | 0, e => cases e; exact qk _ _ h
  | 1, e => cases e; exact qk _ _ h'
  | j + 2, e => simp at e
theorem qkv (a b : List (Int × List Nat × Int)) (ha : okT a) (hb : okT b) (hal : a.length ≤ 2000000) :
    Am.Fn Try.prog 54 [.slc 0 0 a.length false 0, .slc 1 0 b.length false 0] [.ro (qn a), .ro (qn b)] (fun v H' => v = .bool (decide (a = b)) ∧ H' = [.ro (qn a), .ro (qn b)]) := by
  refine Am.Fn.vb (R := fun v => v = _) qou mixed qmu (by simp) (b9 (qb _) (qb _)) ?_
  simp (maxSteps := 3000000) only [qdc, qa, zZ, ↓qp, ↓reduceIte, reduceCtorEq, nA, nM, nS, nE, nL, nD]; try simp only [qa, zY]
  refine ⟨fun h => ⟨⟨_, rfl⟩, ?_⟩, fun h => ?_⟩
  · symm; rw [decide_eq_false_iff_not]; rintro rfl; exact h rfl
  have hlen : a.length = b.length := by omega
  refine WA.vc qou (fun s => ∃ k : Nat, s = ⟨[(5, .int .i64 k), (0, .slc 0 0 a.length false 0), (1, .slc 1 0 b.length false 0)], [.ro (qn a), .ro (qn b)]⟩ ∧ k ≤ a.length ∧ ∀ i, i < k → a[i]? = b[i]?)
    (fun s => match get s.env 5 with | .int _ k => (2000000 - k).toNat | _ => 0) ⟨_, q6.za [5, 0, 1], 0, rfl, by omega, by intros; omega⟩ ?_
  rintro s ⟨k, rfl, hk, hc⟩
  have hw : q7 .i64 ((k : Int) + 1) = ((k + 1 : Nat) : Int) := by rw [wrap64 (by omega) (by omega)]; rfl
  have hla := qm ha
  have hlb := qm hb
  by_cases hlt : k < a.length
  · have hga := b7 ha hlt
    have hgb := b7 hb (i := k) (by omega)
    have hoa := ha a[k] (List.getElem_mem hlt)
    have hob := hb b[k] (List.getElem_mem (by omega))
    simp (maxSteps := 3000000) only [Jx, hw, qde, J9, hla, hlb, hga, hgb, Bz hoa, Bz hob, rd, List.getElem?_cons_zero, List.getElem?_cons_succ, qa, zZ, ↓qp, ↓reduceIte, reduceCtorEq, nA, nM, nS, nE, nL, nD]; try simp only [qa, zY]
    refine ⟨fun _ => ⟨⟨⟨by omega, by omega⟩, by omega⟩, by omega, ⟨⟨by omega, by omega⟩, by omega⟩, by omega, fun h2 => ⟨⟨_, rfl⟩, ?_⟩, fun h2 => ⟨_, q6.za [5, 0, 1], ⟨k + 1, rfl, by omega, fun i hi => ?_⟩, ?_⟩⟩, fun h => absurd (by omega) h⟩
    · symm; rw [decide_eq_false_iff_not]; rintro rfl; exact h2 rfl
    · by_cases e : i = k
      · subst e; rw [List.getElem?_eq_getElem hlt, List.getElem?_eq_getElem (by omega), h2]
      · exact hc i (by omega)
    · simp only [zL, ↓reduceIte, reduceCtorEq, nE, nA]; omega
  · simp (maxSteps := 3000000) only [Jx, U4, hw, qa, zZ, ↓qp, ↓reduceIte, reduceCtorEq, nA, nM, nS, nE, nL, nD]; try simp only [qa, zY]
    refine ⟨fun h => absurd h (by omega), fun _ => ⟨⟨_, rfl⟩, ?_⟩⟩
    symm; rw [decide_eq_true_eq]
    refine List.ext_getElem? fun i => ?_
    by_cases e : i < a.length
    · exact hc i (by omega)
    · rw [List.getElem?_eq_none (by omega), List.getElem?_eq_none (by omega)]
def Wb : BE := fun hp xs => match xs with
  | [.slc b 0 k false 0, .slc b' 0 k' false 0] => match rd hp b, rd hp b' with
    | some L, some L' => match Qa k L, Qa k' L' with
      | some ts, some ts' => chk (k ≤ 2000000) (some (.bool (decide (ts = ts')), hp))
      | _, _ => none
    | _, _ => none
  | _ => none
theorem qlh : Am.Callee Try.prog 54 Wb := Callee.ro2 fun hp xs v hp' he => by
  unfold Wb at he
  split at he
  · rename_i b k b' k'
    split at he
    · rename_i L L' hL hL'
      split at he
      · rename_i ts ts' h1 h1'
        obtain ⟨h0, he⟩ := qo he
        simp only [Option.some.injEq, Prod.mk.injEq] at he
        obtain ⟨rfl, rfl⟩ := he
        obtain ⟨e1, e2, e3, e4⟩ := xl h1
        obtain ⟨f1, f2, f3, f4⟩ := xl h1'
        have g1 := qm e2
        have g2 := qm f2
        refine ⟨qn ts, qn ts', b, b', [.slc 0 0 ts.length false 0, .slc 1 0 ts'.length false 0], rfl, ⟨L, hL, by omega, by rw [g1, e1]; exact e3⟩, ⟨L', hL', by omega, by rw [g2, f1]; exact f3⟩, qb _, qb _, ?_, rfl, ?_, rfl, qkv ts ts' e2 f2 (by omega)⟩
        · simp only [AV.zz, AV.ren, two, if_true, e1, f1, Nat.zero_add]
          rfl
        · exact ⟨by simp [AV.under], by simp [AV.under], trivial⟩
      · cases he
    · cases he
  · cases he
def B14 : xh := (B13.put 54 (Wb))
theorem qtn : zf Try.prog B14 := (qou.put (qlh))
theorem qds : B14 106 = some (qu J9) := rfl
theorem qbn : B14 54 = some (Wb) := rfl
def elemV (p c n : Int) (b k : Nat) : AV := .agg [.int .i64 p, .int .i64 c, .int .i64 n, .slc b 0 k false 0]
theorem qf1 (p c n p' c' n' : Int) (a b : List (Int × List Nat × Int)) (ha : okT a) (hb : okT b) (hal : a.length ≤ 2000000) :
    Am.Fn Try.prog 19 [elemV p c n 0 a.length, elemV p' c' n' 1 b.length] [.ro (qn a), .ro (qn b)] (fun v H' => v = .bool (decide ((p = p' ∧ c = c' ∧ n = n') ∧ a = b)) ∧ H' = [.ro (qn a), .ro (qn b)]) := by
  refine Am.Fn.vb (R := fun v => v = _) qtn mixed qgz (by simp) (b9 (qb _) (qb _)) ?_
  simp (maxSteps := 3000000) only [G4, elemV, qds, qbn, J9, Wb, z6 ha, z6 hb, rd, List.getElem?_cons_zero, List.getElem?_cons_succ, qa, zZ, ↓qp, ↓reduceIte, reduceCtorEq, nA, nM, nS, nE, nL, nD]; try simp only [qa, zY]
  have hf : ¬((p = p' ∧ c = c' ∧ n = n') ∧ a = b) → false = decide ((p = p' ∧ c = c' ∧ n = n') ∧ a = b) := fun h => by
    symm; rw [decide_eq_false_iff_not]; exact h
  refine ⟨fun h => ⟨⟨_, rfl⟩, hf fun e => h e.1.1⟩, fun h => ⟨fun h2 => ⟨⟨_, rfl⟩, hf fun e => h2 e.1.2.1⟩, fun h2 => ⟨fun h3 => ⟨⟨_, rfl⟩, hf fun e => h3 e.1.2.2⟩, fun h3 => ⟨hal, fun h4 => ⟨⟨_, rfl⟩, hf fun e => h4 e.2⟩, fun h4 => ⟨⟨_, rfl⟩, ?_⟩⟩⟩⟩⟩
  symm; rw [decide_eq_true_eq]; exact ⟨⟨h, h2, h3⟩, h4⟩
def zl : BE := fun hp xs => match xs with
  | [.agg [.int .i64 p, .int .i64 c, .int .i64 n, .slc b 0 k false 0], .agg [.int .i64 p', .int .i64 c', .int .i64 n', .slc b' 0 k' false 0]] => match rd hp b, rd hp b' with
    | some L, some L' => match Qa k L, Qa k' L' with
      | some ts, some ts' => chk (k ≤ 2000000) (some (.bool (decide ((p = p' ∧ c = c' ∧ n = n') ∧ ts = ts')), hp))
      | _, _ => none
    | _, _ => none
  | _ => none
theorem qgl : Am.Callee Try.prog 19 zl := Callee.ro2 fun hp xs v hp' he => by
  unfold zl at he
  split at he
  · rename_i p c n b k p' c' n' b' k'
    split at he
    · rename_i L L' hL hL'
      split at he
      · rename_i ts ts' h1 h1'
        obtain ⟨h0, he⟩ := qo he
        simp only [Option.some.injEq, Prod.mk.injEq] at he
        obtain ⟨rfl, rfl⟩ := he
        obtain ⟨e1, e2, e3, e4⟩ := xl h1
        obtain ⟨f1, f2, f3, f4⟩ := xl h1'
        have g1 := qm e2
        have g2 := qm f2
        refine ⟨qn ts, qn ts', b, b', [elemV p c n 0 ts.length, elemV p' c' n' 1 ts'.length], rfl, ⟨L, hL, by omega, by rw [g1, e1]; exact e3⟩, ⟨L', hL', by omega, by rw [g2, f1]; exact f3⟩, qb _, qb _, ?_, rfl, ?_, rfl, qf1 p c n p' c' n' ts ts' e2 f2 (by omega)⟩
        · simp only [elemV, AV.zz, AV.ren, two, if_true, e1, f1, Nat.zero_add]
          rfl
        · exact ⟨⟨trivial, trivial, trivial, by simp [AV.under], trivial⟩, ⟨trivial, trivial, trivial, by simp [AV.under], trivial⟩, trivial⟩
      · cases he
    · cases he
  · cases he
def B15 : xh := (B14.put 19 (zl))
theorem Ke : zf Try.prog B15 := (qtn.put (qgl))
def Z7 : AC := .seq (.seq (.region [oM 21 6,oK 22 .lss 21 16]) (.cond 22 .skip (.exit 2))) (.seq (.block 3 (.seq (.region [oM 25 0,oM 26 5,oM 27 6,oM 28 1,o0 29 (.conv .u8 (.t 28)),oX 30 18 25 26,oF 31 0 30,oF 32 1 31,o0 33 (.jl 16 1 (.t 32) (.t 27)),oT 33 29]) (.region [oM 34 1,oK 35 .add 34 1,oM 1 35]))) (.region [oM 23 6,oK 24 .add 23 1,oM 6 24]))
def Wq : AC := .seq (.region [oM 36 0,oM 37 5,oM 38 1,oX 39 18 36 37,oF 40 17 39,oT 40 38]) (.region [oM 41 1,oK 42 .add 41 1,oM 1 42])
def V5 : AC := .region [oM 11 5,oK 12 .add 11 1,oM 5 12]
def Z5 : AC := .seq (.seq (.region [oM 7 5,oM 8 0,o0 9 (.len .slc (.t 8)),oP 10 .lss 7 9]) (.cond 10 .skip (.exit 0))) (.seq (.block 1 (.seq (.region [oM 13 0,oM 14 5,oM 15 1,oX 16 18 13 14,oF 17 0 16,oF 18 0 17,oT 18 15]) (.seq (.region [oM 19 1,oK 20 .add 19 1,oM 1 20]) (.seq (.seq (.region [oI 6 0]) (.block 2 (.loop Z7))) Wq)))) V5)
def Wn : AC := .seq (.region [oM 43 1,oM 4 43]) .ret
def Gz : AC := .seq (.region [oI 4 0]) (.seq (.seq (.region [oI 5 0]) (.block 0 (.loop Z5))) Wn)
theorem qf5 : xa Try.prog 55 = some ⟨44, Gz, [.slot 4]⟩ := by kernel_rfl
def Y5 : AC := .seq (.region [o0 2 (.box (.t 0)),oI 4 0]) (.seq (.region [oF 5 3 2,oL 6 5,oM 7 1,oC 8 55 [.t 6,.t 7],oM 1 8]) (.seq (.region [oM 9 1,oM 4 9]) .ret))
theorem qdm : xa Try.prog 20 = some ⟨10, Y5, [.slot 4]⟩ := by kernel_rfl
def Zu : AC := .seq (.seq (.region [oM 23 6,oK 24 .lss 23 16]) (.cond 24 .skip (.exit 2))) (.seq (.block 3 (.seq (.seq (.region [oM 27 0,oM 28 5,oM 29 6,oX 30 18 27 28,oF 31 0 30,oF 32 1 31,o0 33 (.jl 16 1 (.t 32) (.t 29)),oL 34 33,oM 35 1,o0 36 (.conv .u8 (.t 35)),oP 37 .neq 34 36]) (.cond 37 (.seq (.region [oI 4 (-1)]) .ret) .skip)) (.region [oM 38 1,oK 39 .add 38 1,oM 1 39]))) (.region [oM 25 6,oK 26 .add 25 1,oM 6 26]))
def Wa : AC := .seq (.seq (.region [oM 40 0,oM 41 5,oX 42 18 40 41,oF 43 17 42,oL 44 43,oM 45 1,oP 46 .neq 44 45]) (.cond 46 (.seq (.region [oI 4 (-1)]) .ret) .skip)) (.region [oM 47 1,oK 48 .add 47 1,oM 1 48])
def Wy : AC := .region [oM 11 5,oK 12 .add 11 1,oM 5 12]
def Zy : AC := .seq (.seq (.region [oM 7 5,oM 8 0,o0 9 (.len .slc (.t 8)),oP 10 .lss 7 9]) (.cond 10 .skip (.exit 0))) (.seq (.block 1 (.seq (.seq (.region [oM 13 0,oM 14 5,oX 15 18 13 14,oF 16 0 15,oF 17 0 16,oL 18 17,oM 19 1,oP 20 .neq 18 19]) (.cond 20 (.seq (.region [oI 4 (-1)]) .ret) .skip)) (.seq (.region [oM 21 1,oK 22 .add 21 1,oM 1 22]) (.seq (.seq (.region [oI 6 0]) (.block 2 (.loop Zu))) Wa)))) Wy)
def Wr : AC := .seq (.region [oM 49 1,oM 4 49]) .ret
def Gx : AC := .seq (.region [oI 4 0]) (.seq (.seq (.region [oI 5 0]) (.block 0 (.loop Zy))) Wr)
theorem qgp : xa Try.prog 67 = some ⟨50, Gx, [.slot 4]⟩ := by kernel_rfl
def Y9 : AC := .seq (.region [o0 2 (.box (.t 0)),oI 4 0]) (.seq (.region [oF 5 3 2,oL 6 5,oM 7 1,oC 8 67 [.t 6,.t 7],oM 1 8]) (.seq (.seq (.region [oM 9 1,oK 10 .lss 9 0]) (.cond 10 (.seq (.region [oI 4 (-1)]) .ret) .skip)) (.seq (.region [oM 11 1,oM 4 11]) .ret)))
theorem qdr : xa Try.prog 26 = some ⟨12, Y9, [.slot 4]⟩ := by kernel_rfl
def qaz (k : Nat) : List Nat := (List.range 16).map fun j => (k + j) % 256
def qe3 (k : Nat) : Int × List Nat × Int := (((k : Nat) : Int), qaz (k + 1), ((k + 17 : Nat) : Int))
def marks (n k : Nat) : List (Int × List Nat × Int) := (List.range n).map fun i => qe3 (k + 18 * i)
theorem qfb (k : Nat) : okD (qaz k) := ⟨by simp [qaz], fun x hx => by
  simp only [qaz, List.mem_map] at hx
  obtain ⟨j, _, rfl⟩ := hx
  exact Nat.mod_lt _ (by decide)⟩
theorem V4 (n k : Nat) : okT (marks n k) := fun t ht => by
  simp only [marks, List.mem_map] at ht
  obtain ⟨j, _, rfl⟩ := ht
  exact qfb _
theorem xn (n k : Nat) : (marks n k).length = n := by simp [marks]
theorem Bs {n k i : Nat} (h : i < n) : (marks n k)[i]'(by rw [xn]; exact h) = qe3 (k + 18 * i) := by simp [marks]
theorem qqu {k j : Nat} (h : j < 16) : (qaz k).getD j 0 = (k + j) % 256 := by simp [qaz, List.getD_eq_getElem?_getD, h]
theorem qha {x : Nat} : q7 .u8 (x : Int) = ((x % 256 : Nat) : Int) := by
  simp only [q7, IntKind.wrap, IntKind.signed, IntKind.bits]
  simp
theorem qd9 {ts : List (Int × List Nat × Int)} {i j : Nat} {v : AV} {t' : Int × List Nat × Int} (h : okT ts) (hi : i < ts.length) (hj : j < 18) (hv : (trm ts[i]).set j v = trm t') : (qn ts).set (i * 18 + j) v = qn (ts.set i t') := by
  induction ts generalizing i with
  | nil => simp at hi
  | cons t ts ih =>
    have h1 := zx (h t (by simp))
    cases i with
    | zero =>
      simp only [List.getElem_cons_zero] at hv
      simp only [qn, List.flatMap_cons, Nat.zero_mul, Nat.zero_add, List.set_cons_zero]
      rw [List.set_append_left _ _ (by omega), hv]
    | succ i =>
      simp only [List.getElem_cons_succ] at hv
      have h2 := ih (fun u hu => h u (List.mem_cons_of_mem _ hu)) (by simpa using hi) hv
      simp only [qn, List.flatMap_cons, List.set_cons_succ] at h2 ⊢
      rw [List.set_append_right _ _ (by omega), h1, show (i + 1) * 18 + j - 18 = i * 18 + j from by omega, h2]
theorem qtz {t : Int × List Nat × Int} {x : Int} : (trm t).set 0 (.int .i64 x) = trm (x, t.2) := rfl
theorem qvu {t : Int × List Nat × Int} {j x : Nat} (h : okD t.2.1) (hj : j < 16) : (trm t).set (1 + j) (.int .u8 (x : Int)) = trm (t.1, t.2.1.set j x, t.2.2) := by
  simp only [trm]
  rw [List.set_append_left _ _ (by rw [qe, h.1]; omega), qd2]
theorem qg9 {t : Int × List Nat × Int} {x : Int} (h : okD t.2.1) : (trm t).set 17 (.int .i64 x) = trm (t.1, t.2.1, x) := by
  simp only [trm]
  rw [List.set_append_right _ _ (by rw [qe, h.1]; omega), qe, h.1]; rfl
def part (k : Nat) (m : List Nat) (j : Nat) : List Nat := (List.range 16).map fun t => if t < j then (k + t) % 256 else m.getD t 0
theorem qre {k : Nat} {m : List Nat} (h : m.length = 16) : part k m 0 = m := by
  refine qiv (by simp [part]) h fun i hi => ?_
  simp [part, List.getD_eq_getElem?_getD, hi]
theorem qtj {k : Nat} {m : List Nat} : part k m 16 = qaz k := by
  simp only [part, qaz]
  refine List.map_congr_left fun t ht => ?_
  rw [if_pos (List.mem_range.1 ht)]
theorem qqf {k j : Nat} {m : List Nat} (hj : j < 16) : (part k m j).set j ((k + j) % 256) = part k m (j + 1) := by
  refine qiv (by simp [part]) (by simp [part]) fun i hi => ?_
  rw [Qd]
  have hl : (part k m j).length = 16 := by simp [part]
  by_cases e : j = i
  · subst e
    rw [if_pos ⟨rfl, by omega⟩]
    simp [part, List.getD_eq_getElem?_getD, hi]
  · rw [if_neg (fun h => e h.1)]
    simp only [part, List.getD_eq_getElem?_getD, List.getElem?_map, List.getElem?_range hi, Option.map_some, Option.getD_some]
    by_cases h1 : i < j
    · rw [if_pos h1, if_pos (by omega)]
    · rw [if_neg h1, if_neg (by omega)]
theorem qea {k j : Nat} {m : List Nat} (h : okD m) : okD (part k m j) := ⟨by simp [part], fun x hx => by
  simp only [part, List.mem_map] at hx
  obtain ⟨t, _, rfl⟩ := hx
  split
  · exact Nat.mod_lt _ (by decide)
  · exact h.get t⟩
theorem qhw {s : Nat} {l : List AV} (h : AV.zr l = true) : ∀ (j : Nat) (o : AO), [AO.vec s l][j]? = some o → o.under [AO.vec s l].length := by
  intro j o e
  cases j with
  | zero => simp only [List.getElem?_cons_zero, Option.some.injEq] at e; subst e; exact qk _ _ h
  | succ j => simp at e
theorem qf0 (ts : List (Int × List Nat × Int)) (k : Nat) (ht : okT ts) (hk : k ≤ 100000000) (hl : ts.length ≤ 2000000) :
    Am.Fn Try.prog 55 [.slc 0 0 ts.length false 0, .int .i64 k] [.vec 18 (qn ts)] (fun v H' => v = .int .i64 ((k + 18 * ts.length : Nat) : Int) ∧ H' = [.vec 18 (qn (marks ts.length k))]) := by
  refine Am.Fn.ofB Ke mixed qf5 (by simp) (qhw (qb _)) ?_
  simp (maxSteps := 3000000) only [Gz, qa, zZ, ↓qp, ↓reduceIte, reduceCtorEq, nA, nM, nS, nE, nL, nD]; try simp only [qa, zY]
  refine WA.vc Ke (fun s => ∃ i : Nat, ∃ us, s = ⟨[(5, .int .i64 i), (1, .int .i64 ((k + 18 * i : Nat) : Int)), (0, .slc 0 0 ts.length false 0)], [.vec 18 (qn us)]⟩ ∧ i ≤ ts.length ∧ us = marks i k ++ ts.drop i)
    (fun s => match get s.env 5 with | .int _ x => ts.length - x.toNat | _ => 0) ⟨_, q6.za [5, 1, 0], 0, ts, rfl, by omega, by simp [marks]⟩ ?_
  rintro s ⟨i, us, rfl, hi, hus⟩
  have hul : us.length = ts.length := by rw [hus, List.length_append, xn, List.length_drop]; omega
  have huo : okT us := by
    rw [hus]; intro t h
    rcases List.mem_append.1 h with h | h
    · exact V4 _ _ t h
    · exact ht t (List.mem_of_mem_drop h)
  have hutl := qm huo
  have hw : q7 .i64 ((i : Int) + 1) = ((i + 1 : Nat) : Int) := by rw [wrap64 (by omega) (by omega)]; rfl
  have hw1 : q7 .i64 (((k + 18 * i : Nat) : Int) + 1) = ((k + 18 * i + 1 : Nat) : Int) := by rw [wrap64 (by omega) (by omega)]; rfl
  by_cases hlt : i < ts.length
  · have h0 : (qn us).set (i * 18) (.int .i64 ((k + 18 * i : Nat) : Int)) = qn (us.set i (((k + 18 * i : Nat) : Int), us[i].2)) := by
      have := qd9 (j := 0) huo (by omega) (by decide) (qtz (t := us[i]) (x := ((k + 18 * i : Nat) : Int)))
      exact this
    simp (maxSteps := 3000000) only [Z5, hw, hw1, hutl, h0, rd, wrt, wrl, AO.uu, List.getElem?_cons_zero, List.set_cons_zero, qa, zZ, ↓qp, ↓reduceIte, reduceCtorEq, nA, nM, nS, nE, nL, nD]; try simp only [qa, zY]
    refine ⟨fun _ => ⟨⟨⟨by omega, by omega⟩, by omega⟩, ⟨by omega, rfl⟩, ?_⟩, fun h => absurd (by omega) h⟩
    have hlu : i < us.length := by omega
    generalize hm : us[i].2.1 = m at *
    generalize hf : us[i].2.2 = f at *
    have hmo : okD m := by rw [← hm]; exact huo _ (List.getElem_mem hlu)
    have huf : (us.set i (((k + 18 * i : Nat) : Int), us[i].2)) = us.set i (((k + 18 * i : Nat) : Int), m, f) := by rw [← hm, ← hf]
    rw [huf]
    have hV : ∀ x : Int × List Nat × Int, okD x.2.1 → okT (us.set i x) := fun x hx t h => by
      rcases List.mem_or_eq_of_mem_set h with h | h
      · exact huo t h
      · rw [h]; exact hx
    refine WA.vc Ke (fun s => ∃ j : Nat, s = ⟨[(6, .int .i64 j), (5, .int .i64 i), (1, .int .i64 ((k + 18 * i + 1 + j : Nat) : Int)), (0, .slc 0 0 ts.length false 0)], [.vec 18 (qn (us.set i (((k + 18 * i : Nat) : Int), part (k + 18 * i + 1) m j, f)))]⟩ ∧ j ≤ 16)
      (fun s => match get s.env 6 with | .int _ k => (100 - k).toNat | _ => 0) ⟨_, q6.za [6, 5, 1, 0], 0, ?_, by omega⟩ ?_
    · simp only [qre hmo.1, zL, ↓reduceIte, reduceCtorEq, nE, nA]
      rfl
    rintro s ⟨j, rfl, hj⟩
    have hwj : q7 .i64 ((j : Int) + 1) = ((j + 1 : Nat) : Int) := by rw [wrap64 (by omega) (by omega)]; rfl
    have hwq : q7 .i64 (((k + 18 * i + 1 + j : Nat) : Int) + 1) = ((k + 18 * i + 1 + j + 1 : Nat) : Int) := by rw [wrap64 (by omega) (by omega)]; rfl
    have hVo := hV (((k + 18 * i : Nat) : Int), part (k + 18 * i + 1) m j, f) (qea hmo)
    have hVl := qm hVo
    rw [List.length_set] at hVl
    by_cases hj16 : j < 16
    · have hst : (qn (us.set i (((k + 18 * i : Nat) : Int), part (k + 18 * i + 1) m j, f))).set (i * 18 + 1 + j) (.int .u8 (((k + 18 * i + 1 + j) % 256 : Nat) : Int)) = qn (us.set i (((k + 18 * i : Nat) : Int), part (k + 18 * i + 1) m (j + 1), f)) := by
        have h1 := qd9 (i := i) (j := 1 + j) (v := .int .u8 (((k + 18 * i + 1 + j) % 256 : Nat) : Int)) (t' := (((k + 18 * i : Nat) : Int), (part (k + 18 * i + 1) m j).set j ((k + 18 * i + 1 + j) % 256), f)) hVo (by rw [List.length_set]; omega) (by omega) (by
          rw [List.getElem_set_self]; exact qvu (qea hmo) hj16)
        rw [List.set_set, qqf hj16] at h1
        rw [show i * 18 + 1 + j = i * 18 + (1 + j) from by omega]; exact h1
      simp (maxSteps := 3000000) only [Z7, hwj, hwq, hVl, qha, hst, rd, wrt, wrl, AO.uu, List.getElem?_cons_zero, List.set_cons_zero, qa, zZ, ↓qp, ↓reduceIte, reduceCtorEq, nA, nM, nS, nE, nL, nD]; try simp only [qa, zY]
      refine ⟨fun _ => ⟨⟨⟨by omega, by omega⟩, by omega⟩, ⟨by omega, by omega⟩, ⟨by omega, rfl⟩, _, q6.za [6, 5, 1, 0], ⟨j + 1, ?_, by omega⟩, ?_⟩, fun h => absurd (by omega) h⟩
      · simp only [zL, ↓reduceIte, reduceCtorEq, nE, nA]
        rfl
      · simp only [zL, ↓reduceIte, reduceCtorEq, nE, nA]; omega
    · have hj' : j = 16 := by omega
      subst hj'
      have hst : (qn (us.set i (((k + 18 * i : Nat) : Int), part (k + 18 * i + 1) m 16, f))).set (i * 18 + 17) (.int .i64 ((k + 18 * i + 1 + 16 : Nat) : Int)) = qn (us.set i (qe3 (k + 18 * i))) := by
        have h1 := qd9 (i := i) (j := 17) (v := .int .i64 ((k + 18 * i + 1 + 16 : Nat) : Int)) (t' := (((k + 18 * i : Nat) : Int), part (k + 18 * i + 1) m 16, ((k + 18 * i + 1 + 16 : Nat) : Int))) hVo (by rw [List.length_set]; omega) (by omega) (by
          rw [List.getElem_set_self]; exact qg9 (qea hmo))
        rw [List.set_set, qtj] at h1
        exact h1
      simp (maxSteps := 3000000) only [Z7, Wq, V5, hw, hwj, hwq, hVl, hst, rd, wrt, wrl, AO.uu, List.getElem?_cons_zero, List.set_cons_zero, qa, zZ, ↓qp, ↓reduceIte, reduceCtorEq, nA, nM, nS, nE, nL, nD]; try simp only [qa, zY]
      refine ⟨fun h => absurd h (by omega), fun _ => ⟨⟨⟨by omega, by omega⟩, by omega⟩, ⟨by omega, rfl⟩, _, q6.za [5, 1, 0], ⟨i + 1, us.set i (qe3 (k + 18 * i)), ?_, by omega, ?_⟩, ?_⟩⟩
      · simp only [zL, ↓reduceIte, reduceCtorEq, nE, nA]
        rw [show k + 18 * i + 1 + 16 + 1 = k + 18 * (i + 1) from by omega]
      · rw [hus]
        refine List.ext_getElem (by simp [xn]; omega) fun x hx1 hx2 => ?_
        simp only [List.getElem_set]
        by_cases e : i = x
        · subst e
          rw [if_pos rfl, List.getElem_append_left (by rw [xn]; omega), Bs (by omega)]
        · rw [if_neg e]
          by_cases h2 : x < i
          · rw [List.getElem_append_left (by rw [xn]; omega), List.getElem_append_left (by rw [xn]; omega), Bs (by omega), Bs (by omega)]
          · rw [List.getElem_append_right (by rw [xn]; omega), List.getElem_append_right (by rw [xn]; omega)]
            simp only [xn, List.getElem_drop]
            congr 1; omega
      · simp only [Int.toNat_natCast, zL, ↓reduceIte, reduceCtorEq, nE, nA]; omega
  · have hi' : i = ts.length := by omega
    subst hi'
    simp (maxSteps := 3000000) only [Z5, Wn, hw, hw1, rd, wrt, wrl, AO.uu, List.getElem?_cons_zero, List.set_cons_zero, qa, zZ, ↓qp, ↓reduceIte, reduceCtorEq, nA, nM, nS, nE, nL, nD]; try simp only [qa, zY]
    refine ⟨fun h => absurd h (by omega), fun _ => ?_⟩
    refine Ret.xy [0] ⟨⟨Nat.le_refl 1, rfl, by decide⟩, ?_⟩ (rs := [.int .i64 ((k + 18 * ts.length : Nat) : Int)]) rfl rfl (by simp [xj]) ?_ ⟨?_, ?_⟩
    · simp only [qd _ _ (qb _), zK, ↓reduceIte, reduceCtorEq, nE, nB, nA]
    · intro j l; cases j <;> simp [ze, AO.ren]
    · simp only [xj]
      simp only [zL, ↓reduceIte, reduceCtorEq, nE, nA]
    · simp only [qc _ _ (qb _), zL, ↓reduceIte, reduceCtorEq, nE, nA]
      rw [hus, List.drop_length, List.append_nil]
theorem qgt (n k : Nat) (hk : k ≤ 100000000) (hl : n ≤ 2000000) :
    Am.Fn Try.prog 67 [.slc 0 0 n false 0, .int .i64 k] [.ro (qn (marks n k))] (fun v H' => v = .int .i64 ((k + 18 * n : Nat) : Int) ∧ H' = [.ro (qn (marks n k))]) := by
  refine Am.Fn.vb (R := fun v => v = _) Ke mixed qgp (by simp) (Xd (qb _)) ?_
  simp (maxSteps := 3000000) only [Gx, qa, zZ, ↓qp, ↓reduceIte, reduceCtorEq, nA, nM, nS, nE, nL, nD]; try simp only [qa, zY]
  refine WA.vc Ke (fun s => ∃ i : Nat, s = ⟨[(5, .int .i64 i), (1, .int .i64 ((k + 18 * i : Nat) : Int)), (0, .slc 0 0 n false 0)], [.ro (qn (marks n k))]⟩ ∧ i ≤ n)
    (fun s => match get s.env 5 with | .int _ x => n - x.toNat | _ => 0) ⟨_, q6.za [5, 1, 0], 0, rfl, by omega⟩ ?_
  rintro s ⟨i, rfl, hi⟩
  have hml := qm (V4 n k)
  rw [xn] at hml
  have hw : q7 .i64 ((i : Int) + 1) = ((i + 1 : Nat) : Int) := by rw [wrap64 (by omega) (by omega)]; rfl
  have hw1 : q7 .i64 (((k + 18 * i : Nat) : Int) + 1) = ((k + 18 * i + 1 : Nat) : Int) := by rw [wrap64 (by omega) (by omega)]; rfl
  by_cases hlt : i < n
  · have hcell : ∀ j, j < 18 → (qn (marks n k))[i * 18 + j]? = (trm (qe3 (k + 18 * i)))[j]? := fun j hj => by
      have h1 := b7 (V4 n k) (i := i) (by rw [xn]; exact hlt)
      rw [Bs hlt] at h1
      rw [← h1, List.getElem?_take_of_lt hj, List.getElem?_drop]
    have hc0 : (qn (marks n k))[i * 18]? = some (.int .i64 ((k + 18 * i : Nat) : Int)) := hcell 0 (by decide)
    simp (maxSteps := 3000000) only [Zy, hw, hw1, hml, hc0, rd, List.getElem?_cons_zero, qa, zZ, ↓qp, ↓reduceIte, reduceCtorEq, nA, nM, nS, nE, nL, nD]; try simp only [qa, zY]
    refine ⟨fun _ => ⟨⟨⟨by omega, by omega⟩, by omega⟩, ?_⟩, fun h => absurd (by omega) h⟩
    refine WA.vc Ke (fun s => ∃ j : Nat, s = ⟨[(6, .int .i64 j), (5, .int .i64 i), (1, .int .i64 ((k + 18 * i + 1 + j : Nat) : Int)), (0, .slc 0 0 n false 0)], [.ro (qn (marks n k))]⟩ ∧ j ≤ 16)
      (fun s => match get s.env 6 with | .int _ k => (100 - k).toNat | _ => 0) ⟨_, q6.za [6, 5, 1, 0], 0, rfl, by omega⟩ ?_
    rintro s ⟨j, rfl, hj⟩
    have hwj : q7 .i64 ((j : Int) + 1) = ((j + 1 : Nat) : Int) := by rw [wrap64 (by omega) (by omega)]; rfl
    have hwq : q7 .i64 (((k + 18 * i + 1 + j : Nat) : Int) + 1) = ((k + 18 * i + 1 + j + 1 : Nat) : Int) := by rw [wrap64 (by omega) (by omega)]; rfl
    by_cases hj16 : j < 16
    · have hcj : (qn (marks n k))[i * 18 + 1 + j]? = some (.int .u8 (((k + 18 * i + 1 + j) % 256 : Nat) : Int)) := by
        have hmk : (qe3 (k + 18 * i)).2.1.length = 16 := (qfb _).1
        rw [show i * 18 + 1 + j = i * 18 + (1 + j) from by omega, hcell _ (by omega), trm, List.getElem?_append_left (by rw [qe, hmk]; omega)]
        rw [Jg (by rw [hmk]; exact hj16)]
        rw [show (qe3 (k + 18 * i)).2.1 = qaz (k + 18 * i + 1) from rfl, qqu hj16]
      simp (maxSteps := 3000000) only [Zu, hwj, hwq, hml, hcj, qha, rd, List.getElem?_cons_zero, qa, zZ, ↓qp, ↓reduceIte, reduceCtorEq, nA, nM, nS, nE, nL, nD]; try simp only [qa, zY]
      refine ⟨fun _ => ⟨⟨⟨by omega, by omega⟩, by omega⟩, ⟨by omega, by omega⟩, _, q6.za [6, 5, 1, 0], ⟨j + 1, ?_, by omega⟩, ?_⟩, fun h => absurd (by omega) h⟩
      · simp only [zL, ↓reduceIte, reduceCtorEq, nE, nA]
        rfl
      · simp only [zL, ↓reduceIte, reduceCtorEq, nE, nA]; omega
    · have hj' : j = 16 := by omega
      subst hj'
      have hcf : (qn (marks n k))[i * 18 + 17]? = some (.int .i64 ((k + 18 * i + 1 + 16 : Nat) : Int)) := by
        rw [hcell 17 (by decide), ur (qfb _)]; rfl
      simp (maxSteps := 3000000) only [Zu, Wa, Wy, hw, hwj, hwq, hml, hcf, rd, List.getElem?_cons_zero, qa, zZ, ↓qp, ↓reduceIte, reduceCtorEq, nA, nM, nS, nE, nL, nD]; try simp only [qa, zY]
      refine ⟨fun h => absurd h (by omega), fun _ => ⟨⟨⟨by omega, by omega⟩, by omega⟩, _, q6.za [5, 1, 0], ⟨i + 1, ?_, by omega⟩, ?_⟩⟩
      · simp only [zL, ↓reduceIte, reduceCtorEq, nE, nA]
        rw [show k + 18 * i + 1 + 16 + 1 = k + 18 * (i + 1) from by omega]
      · simp only [Int.toNat_natCast, zL, ↓reduceIte, reduceCtorEq, nE, nA]; omega
  · have hi' : i = n := by omega
    subst hi'
    simp (maxSteps := 3000000) only [Zy, Wr, hw, hw1, rd, List.getElem?_cons_zero, qa, zZ, ↓qp, ↓reduceIte, reduceCtorEq, nA, nM, nS, nE, nL, nD]; try simp only [qa, zY]
    exact ⟨fun h => absurd h (by omega), fun _ => ⟨_, rfl⟩⟩
def one (b : Nat) : Ren := fun j => if j = 0 then some (b, 0) else none
theorem Callee.wr1 {f : FuncId} {g : BE} (h : ∀ hp xs v hp', g hp xs = some (v, hp') → ∃ (sz : Nat) (l l' : List AV) (b : Nat) (ys : List AV), hp[b]? = some (.vec sz l) ∧ hp' = hp.set b (.vec sz l') ∧
    AV.zr l = true ∧ AV.zr l' = true ∧ xs = AV.zz (one b) ys ∧ xs.all vn = true ∧ AV.q8 1 ys ∧ v.xd = true ∧ Am.Fn Try.prog f ys [.vec sz l] fun v' H' => v' = v ∧ H' = [.vec sz l']) : Am.Callee Try.prog f g := by
  intro hp xs v hp' he
  obtain ⟨sz, l, l', b, ys, hb, rfl, h3, h3', h4, h5, h6, h7, h8⟩ := h hp xs v hp' he
  refine ⟨[.vec sz l], ys, _, one b, [(b, 0)], h8, h4, h5, ⟨fun j hj => ?_, rfl, fun j o c hj hc => ?_, fun j k bj bk oj ok hj hk hoj hok hw hl hjk => ?_⟩, ?_, h6, ?_⟩
  · match j, hj with
    | 0, _ => rfl
  · match j, hj, hc with
    | 0, hj, hc =>
      cases hj; cases hc
      exact ⟨rfl, by simp only [AO.ren, qc _ _ h3]; exact hb⟩
    | j + 1, hj, hc => simp at hj
  · match j, k, hoj, hok with
    | 0, 0, _, _ => rfl
    | 0, k + 1, _, hok => simp at hok
    | j + 1, _, hoj, _ => simp at hoj
  · intro j o hj
    match j, hj with
    | 0, hj => cases hj; exact qk _ _ h3
    | j + 1, hj => simp at hj
  · rintro v' H' ⟨rfl, rfl⟩
    refine ⟨Xr _ _ h7, ?_⟩
    simp only [after, upd, AO.wr, if_true, AO.ren, qc _ _ h3', List.length_cons, List.length_nil, List.drop_succ_cons, List.drop_nil, List.map_nil, List.append_nil]
theorem Callee.ro1 {f : FuncId} {g : BE} (h : ∀ hp xs v hp', g hp xs = some (v, hp') → ∃ (l : List AV) (b : Nat) (ys : List AV), hp' = hp ∧ (∃ L, rd hp b = some L ∧ l.length ≤ L.length ∧ L.take l.length = l) ∧
    AV.zr l = true ∧ xs = AV.zz (one b) ys ∧ xs.all vn = true ∧ AV.q8 1 ys ∧ v.xd = true ∧ Am.Fn Try.prog f ys [.ro l] fun v' H' => v' = v ∧ H' = [.ro l]) : Am.Callee Try.prog f g := by
  intro hp xs v hp' he
  obtain ⟨l, b, ys, rfl, ⟨L, hL, h1, h2⟩, h3, h4, h5, h6, h7, h8⟩ := h hp xs v hp' he
  refine ⟨[.ro l], ys, _, one b, [(b, 0)], h8, h4, h5, ⟨fun j hj => ?_, rfl, fun j o c hj hb => ?_, fun j k bj bk oj ok hj hk hoj hok hw => ?_⟩, ?_, h6, ?_⟩
  · match j, hj with
    | 0, _ => rfl
  · match j, hj, hb with
    | 0, hj, hb =>
      cases hj; cases hb
      exact ⟨L, hL, by omega, by rw [List.drop_zero, qc _ _ h3]; exact h2⟩
    | j + 1, hj, hb => simp at hj
  · match j, hoj with
    | 0, hoj => cases hoj; cases hw
    | j + 1, hoj => simp at hoj
  · intro j o hj
    match j, hj with
    | 0, hj => cases hj; exact qk _ _ h3
    | j + 1, hj => simp at hj
  · rintro v' H' ⟨rfl, rfl⟩
    exact ⟨Xr _ _ h7, by simp [after, upd, AO.wr]⟩
def Qw : BE := fun hp xs => match xs with
  | [.slc b 0 n false 0, .int .i64 k] => match hp[b]? with
    | some (.vec 18 l) => match Qa n l with
      | some ts => chk (l.length = n * 18 ∧ 0 ≤ k ∧ k ≤ 100000000 ∧ n ≤ 2000000) (some (.int .i64 ((k.toNat + 18 * n : Nat) : Int), hp.set b (.vec 18 (qn (marks n k.toNat)))))
      | none => none
    | _ => none
  | _ => none
theorem qgo : Am.Callee Try.prog 55 Qw := Callee.wr1 fun hp xs v hp' he => by
  unfold Qw at he
  split at he
  · rename_i b n k
    split at he
    · rename_i l hb
      split at he
      · rename_i ts hts
        obtain ⟨h0, he⟩ := qo he
        simp only [Option.some.injEq, Prod.mk.injEq] at he
        obtain ⟨rfl, rfl⟩ := he
        obtain ⟨e1, e2, e3, e4⟩ := xl hts
        have hl : l = qn ts := by rw [← e3, List.take_of_length_le (by omega)]
        subst hl
        obtain ⟨k, rfl⟩ : ∃ j : Nat, k = j := ⟨k.toNat, by omega⟩
        rw [Int.toNat_natCast]
        refine ⟨18, qn ts, _, b, [.slc 0 0 ts.length false 0, .int .i64 k], hb, rfl, qb _, qb _, ?_, rfl, ⟨by simp [AV.under], trivial, trivial⟩, rfl, ?_⟩
        · simp only [AV.zz, AV.ren, one, if_true, e1, Nat.zero_add]
        · have := qf0 ts k e2 (by omega) (by omega)
          rw [e1] at this ⊢
          exact this
      · cases he
    · cases he
  · cases he
def Q5 : BE := fun hp xs => match xs with
  | [.slc b 0 n false 0, .int .i64 k] => match rd hp b with
    | some L => match Qa n L with
      | some ts => chk (ts = marks n k.toNat ∧ 0 ≤ k ∧ k ≤ 100000000 ∧ n ≤ 2000000) (some (.int .i64 ((k.toNat + 18 * n : Nat) : Int), hp))
      | none => none
    | _ => none
  | _ => none
theorem qgy : Am.Callee Try.prog 67 Q5 := Callee.ro1 fun hp xs v hp' he => by
  unfold Q5 at he
  split at he
  · rename_i b n k
    split at he
    · rename_i L hL
      split at he
      · rename_i ts hts
        obtain ⟨h0, he⟩ := qo he
        simp only [Option.some.injEq, Prod.mk.injEq] at he
        obtain ⟨rfl, rfl⟩ := he
        obtain ⟨e1, e2, e3, e4⟩ := xl hts
        obtain ⟨k, rfl⟩ : ∃ j : Nat, k = j := ⟨k.toNat, by omega⟩
        rw [Int.toNat_natCast] at h0 ⊢
        obtain ⟨rfl, h0⟩ := h0
        have g1 := qm e2
        refine ⟨qn (marks n k), b, [.slc 0 0 n false 0, .int .i64 k], rfl, ⟨L, hL, by rw [g1, xn]; omega, by rw [g1, xn]; exact e3⟩, qb _, ?_, rfl, ⟨by simp [AV.under], trivial, trivial⟩, rfl, qgt n k (by omega) (by omega)⟩
        simp only [AV.zz, AV.ren, one, if_true, Nat.zero_add]
      · cases he
    · cases he
  · cases he
def B16 : xh := ((B15.put 55 (Qw)).put 67 (Q5))
theorem qnk : zf Try.prog B16 := ((Ke.put (qgo)).put (qgy))
theorem Ju : B16 55 = some (Qw) := rfl
theorem J2 : B16 67 = some (Q5) := rfl
theorem qdl (p c n : Int) (ts : List (Int × List Nat × Int)) (k : Nat) (ht : okT ts) (hk : k ≤ 100000000) (hl : ts.length ≤ 2000000) :
    Am.Fn Try.prog 20 [elemV p c n 0 ts.length, .int .i64 k] [.vec 18 (qn ts)] (fun v H' => v = .int .i64 ((k + 18 * ts.length : Nat) : Int) ∧ H' = [.vec 18 (qn (marks ts.length k))]) := by
  refine Am.Fn.ofB qnk mixed qdm (by simp) (qhw (qb _)) ?_
  have h1 := qm ht
  simp (maxSteps := 3000000) only [Y5, elemV, Ju, J2, Q5, Qw, z6 ht, h1, rd, List.getElem?_cons_zero, List.getElem?_cons_succ, qa, zZ, ↓qp, ↓reduceIte, reduceCtorEq, nA, nM, nS, nE, nL, nD]; try simp only [qa, zY]
  refine ⟨⟨by omega, by omega, hl⟩, ?_⟩
  refine Ret.xy [0] ⟨⟨Nat.le_refl 1, rfl, by decide⟩, ?_⟩ (rs := [.int .i64 ((k + 18 * ts.length : Nat) : Int)]) rfl rfl (by simp [xj]) ?_ ⟨?_, ?_⟩
  · simp only [qd _ _ (qb _), zK, ↓reduceIte, reduceCtorEq, nE, nB, nA]
  · intro j l; cases j <;> simp [ze, AO.ren]
  · simp only [xj]
    simp only [zL, ↓reduceIte, reduceCtorEq, nE, nA]
  · simp only [qc _ _ (qb _), zL, ↓reduceIte, reduceCtorEq, nE, nA]
theorem qdo (p c m : Int) (n k : Nat) (hk : k ≤ 100000000) (hl : n ≤ 2000000) :
    Am.Fn Try.prog 26 [elemV p c m 0 n, .int .i64 k] [.ro (qn (marks n k))] (fun v H' => v = .int .i64 ((k + 18 * n : Nat) : Int) ∧ H' = [.ro (qn (marks n k))]) := by
  refine Am.Fn.vb (R := fun v => v = _) qnk mixed qdr (by simp) (Xd (qb _)) ?_
  have h1 : Qa n (qn (marks n k)) = some (marks n k) := by have := z6 (V4 n k); rwa [xn] at this
  simp (maxSteps := 3000000) only [Y9, elemV, Ju, J2, Q5, Qw, h1, rd, List.getElem?_cons_zero, List.getElem?_cons_succ, qa, zZ, ↓qp, ↓reduceIte, reduceCtorEq, nA, nM, nS, nE, nL, nD]; try simp only [qa, zY]
  exact ⟨⟨by omega, by omega, hl⟩, fun h => absurd h (by omega), fun _ => ⟨_, rfl⟩⟩
def zc : BE := fun hp xs => match xs with
  | [.agg [.int .i64 p, .int .i64 c, .int .i64 m, .slc b 0 n false 0], .int .i64 k] => match hp[b]? with
    | some (.vec 18 l) => match Qa n l with
      | some ts => chk (l.length = n * 18 ∧ 0 ≤ k ∧ k ≤ 100000000 ∧ n ≤ 2000000) (some (.int .i64 ((k.toNat + 18 * n : Nat) : Int), hp.set b (.vec 18 (qn (marks n k.toNat)))))
      | none => none
    | _ => none
  | _ => none
theorem qdk : Am.Callee Try.prog 20 zc := Callee.wr1 fun hp xs v hp' he => by
  unfold zc at he
  split at he
  · rename_i p c m b n k
    split at he
    · rename_i l hb
      split at he
      · rename_i ts hts
        obtain ⟨h0, he⟩ := qo he
        simp only [Option.some.injEq, Prod.mk.injEq] at he
        obtain ⟨rfl, rfl⟩ := he
        obtain ⟨e1, e2, e3, e4⟩ := xl hts
        have hl : l = qn ts := by rw [← e3, List.take_of_length_le (by omega)]
        subst hl
        obtain ⟨k, rfl⟩ : ∃ j : Nat, k = j := ⟨k.toNat, by omega⟩
        rw [Int.toNat_natCast]
        refine ⟨18, qn ts, _, b, [elemV p c m 0 ts.length, .int .i64 k], hb, rfl, qb _, qb _, ?_, rfl, ⟨⟨trivial, trivial, trivial, by simp [AV.under], trivial⟩, trivial, trivial⟩, rfl, ?_⟩
        · simp only [elemV, AV.zz, AV.ren, one, if_true, e1, Nat.zero_add]
        · have := qdl p c m ts k e2 (by omega) (by omega)
          rw [e1] at this ⊢
          exact this
      · cases he
    · cases he
  · cases he
def zd : BE := fun hp xs => match xs with
  | [.agg [.int .i64 p, .int .i64 c, .int .i64 m, .slc b 0 n false 0], .int .i64 k] => match rd hp b with
    | some L => match Qa n L with
      | some ts => chk (ts = marks n k.toNat ∧ 0 ≤ k ∧ k ≤ 100000000 ∧ n ≤ 2000000) (some (.int .i64 ((k.toNat + 18 * n : Nat) : Int), hp))
      | none => none
    | _ => none
  | _ => none
theorem qdi : Am.Callee Try.prog 26 zd := Callee.ro1 fun hp xs v hp' he => by
  unfold zd at he
  split at he
  · rename_i p c m b n k
    split at he
    · rename_i L hL
      split at he
      · rename_i ts hts
        obtain ⟨h0, he⟩ := qo he
        simp only [Option.some.injEq, Prod.mk.injEq] at he
        obtain ⟨rfl, rfl⟩ := he
        obtain ⟨e1, e2, e3, e4⟩ := xl hts
        obtain ⟨k, rfl⟩ : ∃ j : Nat, k = j := ⟨k.toNat, by omega⟩
        rw [Int.toNat_natCast] at h0 ⊢
        obtain ⟨rfl, h0⟩ := h0
        have g1 := qm e2
        refine ⟨qn (marks n k), b, [elemV p c m 0 n, .int .i64 k], rfl, ⟨L, hL, by rw [g1, xn]; omega, by rw [g1, xn]; exact e3⟩, qb _, ?_, rfl, ⟨⟨trivial, trivial, trivial, by simp [AV.under], trivial⟩, trivial, trivial⟩, rfl, qdo p c m n k (by omega) (by omega)⟩
        simp only [elemV, AV.zz, AV.ren, one, if_true, Nat.zero_add]
      · cases he
    · cases he
  · cases he
def B17 : xh := ((B16.put 20 (zc)).put 26 (zd))
theorem qy6 : zf Try.prog B17 := ((qnk.put (qdk)).put (qdi))
theorem qfv (n : Int) (m : List Nat) (hm : okD m) : Am.Fn Try.prog 99 [.agg (dia n m)] [] (fun v H' => v = .bool (isS n.toNat m) ∧ H' = []) := by
  rw [Kb _ _ hm.1]; exact qgx n m hm
theorem qgh : Am.Callee Try.prog 99 (qu yn) :=
  Am.Callee.plain fun xs v he => by
    unfold yn at he
    split at he
    · split at he
      · rename_i n m hd
        cases he
        obtain ⟨rfl, hm⟩ := xk hd
        exact ⟨by simp only [AV.zr, AV.xd, qh, Bool.and_self], rfl, qfv n m hm⟩
      · cases he
    · cases he
def B18 : xh := (B17.put 99 (qu yn))
theorem qyc : zf Try.prog B18 := (qy6.put (qgh))
def B19 : xh := B18
theorem qyx : zf Try.prog B19 := qyc
def B20 : xh := B19
theorem qyl : zf Try.prog B20 := qyx
def B21 : xh := B20
theorem qys : zf Try.prog B21 := qyl
def B22 : xh := B21
theorem qo0 : zf Try.prog B22 := qys
theorem qdq : B22 108 = some (qu Jr) := rfl
theorem qbw : B22 109 = some (qu jk) := rfl
def we : AC := .seq (.seq (.region [oM 25 9,oM 26 10,oP 27 .lss 25 26]) (.cond 27 .skip (.exit 0))) (.block 1 (.seq (.region [oM 28 9,oM 29 10,oP 30 .add 28 29,oK 31 .quo 30 2,oM 12 31]) (.seq (.region [oM 32 1,oM 33 12,oX 34 18 32 33,oF 35 0 34,oN 36 17 35,oC 37 109 [.t 36],oM 38 11,oP 39 .lss 37 38]) (.cond 39 (.region [oM 40 12,oK 41 .add 40 1,oM 9 41]) (.region [oM 42 12,oM 10 42])))))
def yd : AC := .seq (.seq (.region [oM 61 0,oM 62 1,oM 63 9,oX 64 18 62 63,oF 65 17 64,oL 66 65,oM 67 3,oP 68 .add 66 67,oC 69 108 [.t 61,.t 68],oM 14 69]) (.seq (.region [oM 70 14,oK 71 .neq 70 0]) (.cond 71 (.region [oM 72 13,oN 73 17 6,oM 74 14,o0 75 (.build [.int .i64 0,.int .u8 0,.int .u8 0,.int .u8 0,.int .u8 0,.int .u8 0,.int .u8 0,.int .u8 0,.int .u8 0,.int .u8 0,.int .u8 0,.int .u8 0,.int .u8 0,.int .u8 0,.int .u8 0,.int .u8 0,.int .u8 0,.int .i64 0] [(0,17,.t 73),(17,1,.t 74)]),o0 76 (.Qc 1 [.int .i64 0,.int .u8 0,.int .u8 0,.int .u8 0,.int .u8 0,.int .u8 0,.int .u8 0,.int .u8 0,.int .u8 0,.int .u8 0,.int .u8 0,.int .u8 0,.int .u8 0,.int .u8 0,.int .u8 0,.int .u8 0,.int .u8 0,.int .i64 0] [(0,18,.t 75)]),o0 77 (.append 18 32 (.t 72) (.t 76)),oM 13 77]) .skip))) (.seq (.region [oM 78 13,oM 79 1,oM 80 9,oK 81 .add 80 1,o0 82 (.Gs 18 (.t 79) (some (.t 81)) none),o0 83 (.append 18 32 (.t 78) (.t 82)),oM 8 83]) .ret)
def uo : AC := .cond 60 yd .skip
def uh : AC := .seq (.region [oM 84 13,oN 85 17 6,oM 86 3,o0 87 (.build [.int .i64 0,.int .u8 0,.int .u8 0,.int .u8 0,.int .u8 0,.int .u8 0,.int .u8 0,.int .u8 0,.int .u8 0,.int .u8 0,.int .u8 0,.int .u8 0,.int .u8 0,.int .u8 0,.int .u8 0,.int .u8 0,.int .u8 0,.int .i64 0] [(0,17,.t 85),(17,1,.t 86)]),o0 88 (.Qc 1 [.int .i64 0,.int .u8 0,.int .u8 0,.int .u8 0,.int .u8 0,.int .u8 0,.int .u8 0,.int .u8 0,.int .u8 0,.int .u8 0,.int .u8 0,.int .u8 0,.int .u8 0,.int .u8 0,.int .u8 0,.int .u8 0,.int .u8 0,.int .i64 0] [(0,18,.t 87)]),o0 89 (.append 18 32 (.t 84) (.t 88)),oM 13 89]) (.seq (.region [oM 90 13,oM 91 1,oM 92 9,o0 93 (.Gs 18 (.t 91) (some (.t 92)) none),o0 94 (.append 18 32 (.t 90) (.t 93)),oM 8 94]) .ret)
def um : AC := .seq (.region [o0 43 (.Qc 0 [] []),oM 44 1,oM 45 9,o0 46 (.Gs 18 (.t 44) none (some (.t 45))),o0 47 (.append 18 32 (.t 43) (.t 46)),oM 13 47]) (.seq (.seq (.draw false [oM 48 9,oM 49 1,o0 50 (.len .slc (.t 49)),oP 51 .lss 48 50,oM 52 51,oG 53 52 true (.mov (.t 1)),oG 54 52 true (.mov (.t 9)),oG 55 52 true (.Zc 18 (.t 53) (.t 54)),oG 56 52 true (.vi 0 (.t 55)),oG 57 52 true (.kx 17 (.t 56)),oG 58 52 true (.kx 17 (.t 6)),oG 59 52 true (.eqs false [.int,.int,.int,.int,.int,.int,.int,.int,.int,.int,.int,.int,.int,.int,.int,.int,.int] (.t 57) (.t 58)),o0 60 (.pick (.t 52) (.t 59) (.c (.bool false)))]) uo) uh)
def W7 : AC := .seq (.region [o0 6 (.box (.t 2)),o0 8 (.mov (.c (.v (.slice none 0 0))))]) (.seq (.region [oM 15 0,oM 16 3,oC 17 108 [.t 15,.t 16],oM 3 17]) (.seq (.seq (.region [oM 18 3,oK 19 .eql 18 0]) (.cond 19 (.seq (.region [oM 20 1,oM 8 20]) .ret) .skip)) (.seq (.region [oM 21 1,o0 22 (.len .slc (.t 21)),oN 23 17 6,oC 24 109 [.t 23],oI 9 0,oM 10 22,oM 11 24]) (.seq (.block 0 (.loop we)) um))))
theorem qe9 : xa Try.prog 61 = some ⟨95, W7, [.slot 8]⟩ := by kernel_rfl
theorem jq : [AV.int .i64 0, .int .u8 0, .int .u8 0, .int .u8 0, .int .u8 0, .int .u8 0, .int .u8 0, .int .u8 0, .int .u8 0, .int .u8 0, .int .u8 0, .int .u8 0, .int .u8 0, .int .u8 0, .int .u8 0, .int .u8 0, .int .u8 0, .int .i64 0] = trm (0, List.replicate 16 0, 0) := rfl
theorem bn (t : Int × List Nat × Int) : (trm t).length = t.2.1.length + 2 := by simp [trm, qe]
theorem Yr {t : Int × List Nat × Int} {n : Int} {m : List Nat} (h : t.2.1.length = 16) (h' : m.length = 16) : over (trm t) 0 (dia n m) = trm (n, m, t.2.2) := by
  simp only [over, trm, List.take_zero, List.nil_append, Nat.zero_add, qe, h']
  rw [List.drop_append, List.drop_of_length_le (by rw [qe, h]; exact Nat.le_refl _), qe, h]; rfl
theorem Yi {t : Int × List Nat × Int} {f : Int} (h : t.2.1.length = 16) : over (trm t) 17 [.int .i64 f] = trm (t.1, t.2.1, f) := by
  simp only [over, trm]
  rw [List.take_append_of_le_length (by rw [qe, h]; exact Nat.le_refl _), List.take_of_length_le (by rw [qe, h]; exact Nat.le_refl _), List.drop_of_length_le (by simp [qe, h]), List.append_nil]
theorem Qe {t u : Int × List Nat × Int} (h : t.2.1.length = 16) (h' : u.2.1.length = 16) : over (trm t) 0 (trm u) = trm u := qar (by rw [bn, bn, h, h'])
theorem Vc {t : Int × List Nat × Int} (h : t.2.1.length = 16) : List.take 18 (trm t) = trm t := by rw [List.take_of_length_le]; rw [bn, h]; exact Nat.le_refl _
theorem jr (t : Int × List Nat × Int) : (trm t).all AV.one = true := by simp [trm, xo, AV.one]
theorem G7 : ((0 : Nat) : Int) = 0 := rfl
theorem qqa : ((1 : Nat) : Int) = 1 := rfl
def quj (p : Int) (n : Nat) (m : List Nat) (k : Int) (v : AV) (H' : List AO) : Prop := if k.emod p = 0 then v = .slc 0 0 0 true 0 ∧ H' = [.ro []] else v = .slc 1 0 1 false 0 ∧ H' = [.ro [], .vec 18 (qn [((n : Int), m, k.emod p)])]
theorem ql2 (p : Int) (n : Nat) (m : List Nat) (k : Int) (hp : 0 < p ∧ p ≤ 1000000) (hn : n ≤ 8) (hm : okD m) :
    Am.Fn Try.prog 61 [.int .i64 p, .slc 0 0 0 true 0, .agg (dia n m), .int .i64 k] [.ro []] (quj p n m k) := by
  refine Am.Fn.ofB qo0 mixed qe9 (by simp) (Xd rfl) ?_
  have hml := hm.1
  simp (maxSteps := 3000000) only [W7, qdq, qbw, Jr, jk, wv hml, hml, qe, zb hm, rd, List.getElem?_cons_zero, List.getElem?_cons_succ, qa, zZ, ↓qp, ↓reduceIte, reduceCtorEq, nA, nM, nS, nE, nL, nD]; try simp only [qa, zY]
  refine ⟨hp, fun h => ?_, fun h => ⟨⟨by omega, by omega⟩, ?_⟩⟩
  · refine Ret.xy [0] ⟨⟨Nat.le_refl 1, rfl, by decide⟩, ?_⟩ (rs := [.slc 0 0 0 true 0]) rfl (by rfl) (by simp [xj]) ?_ ?_
    · simp only [zK, ↓reduceIte, reduceCtorEq, nE, nB, nA]
    · intro j l; cases j <;> simp [ze, AO.ren]
    · unfold quj
      rw [if_pos h]
      simp only [xj]
      simp only [zL, ↓reduceIte, reduceCtorEq, nE, nA]
      exact ⟨trivial, trivial⟩
  · refine WA.vc qo0 (fun s => s = ⟨[(11, .str (je n m)), (10, .int .i64 0), (9, .int .i64 0), (6, .ptr 1 0), (0, .int .i64 p), (1, .slc 0 0 0 true 0), (3, .int .i64 (k.emod p))], [.ro [], .cells (dia n m)]⟩) (fun _ => 0) ⟨_, q6.za [11, 10, 9, 6, 0, 1, 3], rfl⟩ ?_
    rintro s rfl
    have hdl : (dia (n : Int) m).length = 17 := by rw [qe, hml]
    have hz : (List.replicate 16 0 : List Nat).length = 16 := rfl
    have e1 : over (trm (0, List.replicate 16 0, 0)) 0 (dia (n : Int) m) = trm ((n : Int), m, 0) := Yr (t := (0, List.replicate 16 0, 0)) hz hml
    have e2 : ∀ f : Int, over (trm ((n : Int), m, 0)) 17 [.int .i64 f] = trm ((n : Int), m, f) := fun f => Yi (t := ((n : Int), m, 0)) hml
    have e3 : ∀ f : Int, over (trm (0, List.replicate 16 0, 0)) 0 (trm ((n : Int), m, f)) = trm ((n : Int), m, f) := fun f => Qe (t := (0, List.replicate 16 0, 0)) hz hml
    have e4 : ∀ f : Int, List.take 18 (trm ((n : Int), m, f)) = trm ((n : Int), m, f) := fun f => Vc (t := ((n : Int), m, f)) hml
    simp (maxSteps := 3000000) only [we, um, wo, src, lim, bx, Option.map_some, Option.map_none, rd, List.getElem?_cons_zero, List.getElem?_cons_succ, List.set_cons_zero, List.set_cons_succ, G7, qqa, Int.lt_irrefl, Int.le_refl, Nat.zero_mul, Int.toNat_zero, List.take_zero, List.drop_zero, List.all_nil, qa, zZ, ↓qp, ↓reduceIte, reduceCtorEq, nA, nM, nS, nE, nL, nD]; try simp only [qa, zY]
    simp (maxSteps := 3000000) only [uo, uh, jq, bn, e1, e2, e3, e4, jr, hml, hz, q9 hml, qe, wo, src, lim, bx, Option.map_some, Option.map_none, rd, List.getElem?_cons_zero, List.getElem?_cons_succ, List.set_cons_zero, List.set_cons_succ, G7, qqa, Int.lt_irrefl, Int.le_refl, Nat.zero_mul, Int.toNat_zero, List.take_zero, List.drop_zero, List.all_nil, qa, zZ, ↓qp, ↓reduceIte, reduceCtorEq, nA, nM, nS, nE, nL, nD]; try simp only [qa, zY]
    refine Ret.xy [0, 6] ⟨⟨by simp, rfl, by decide⟩, ?_⟩ (rs := [.slc 6 0 1 false 0]) rfl (by rfl) (by simp [xj]) ?_ ?_
    · simp only [qd _ _ (wu _), zK, ↓reduceIte, reduceCtorEq, nE, nB, nA]
    · intro j l; match j with
      | 0 => intro _; exact ⟨[], rfl⟩
      | 1 => simp [ze, AO.ren]
      | j + 2 => simp [ze]
    · unfold quj
      rw [if_neg h]
      simp only [xj]
      simp only [qc _ _ (wu _), zL, ↓reduceIte, reduceCtorEq, nE, nA]
      exact ⟨trivial, by simp only [qn, List.flatMap_cons, List.flatMap_nil, List.append_nil]⟩
def qm6 : BE := fun hp xs => match xs with
  | [.int .i64 p, .slc b 0 0 true 0, .agg l, .int .i64 k] => match rd hp b, gq l with
    | some _, some (n, m) => chk ((0 < p ∧ p ≤ 1000000) ∧ 0 ≤ n ∧ n ≤ 8) (if k.emod p = 0 then some (.slc b 0 0 true 0, hp) else some (.slc hp.length 0 1 false 0, hp ++ [.vec 18 (qn [(n, m, k.emod p)])]))
    | _, _ => none
  | _ => none
theorem qyi : Am.Callee Try.prog 61 qm6 := by
  intro hp xs v hp' he
  unfold qm6 at he
  split at he
  · rename_i p b l k
    split at he
    · rename_i L n m hL hd
      obtain ⟨h0, he⟩ := qo he
      obtain ⟨rfl, hm⟩ := xk hd
      obtain ⟨n, rfl⟩ : ∃ j : Nat, n = j := ⟨n.toNat, by omega⟩
      refine ⟨[.ro []], [.int .i64 p, .slc 0 0 0 true 0, .agg (dia n m), .int .i64 k], quj p n m k, one b, [(b, 0)], ql2 p n m k h0.1 (by omega) hm, ?_, rfl, ⟨fun j hj => ?_, rfl, fun j o c hj hb => ?_, fun j k bj bk oj ok hj hk hoj hok hw => ?_⟩, ?_, ⟨trivial, by simp [AV.under], qk _ _ (qh _ _), trivial, trivial⟩, ?_⟩
      · simp only [AV.zz, AV.ren, one, if_true, Nat.zero_add, qc _ _ (qh _ _)]
      · match j, hj with
        | 0, _ => rfl
      · match j, hj, hb with
        | 0, hj, hb =>
          cases hj; cases hb
          exact ⟨L, hL, by simp, by simp [AV.zz]⟩
        | j + 1, hj, hb => simp at hj
      · match j, hoj with
        | 0, hoj => cases hoj; cases hw
        | j + 1, hoj => simp at hoj
      · intro j o hj
        match j, hj with
        | 0, hj => cases hj; trivial
        | j + 1, hj => simp at hj
      · intro v' H' hr
        unfold quj at hr
        split at he
        · rename_i hk
          rw [if_pos hk] at hr
          obtain ⟨rfl, rfl⟩ := hr
          simp only [Option.some.injEq, Prod.mk.injEq] at he
          obtain ⟨rfl, rfl⟩ := he
          exact ⟨by simp [AV.ren, Ren.ext, one], by simp [after, upd, AO.wr]⟩
        · rename_i hk
          rw [if_neg hk] at hr
          obtain ⟨rfl, rfl⟩ := hr
          simp only [Option.some.injEq, Prod.mk.injEq] at he
          obtain ⟨rfl, rfl⟩ := he
          exact ⟨by simp [AV.ren, Ren.ext], by simp [after, upd, AO.wr, AO.ren, qc _ _ (qb _)]⟩
    · cases he
  · cases he
def B23 : xh := (B22.put 61 (qm6))
theorem qzg : zf Try.prog B23 := (qo0.put (qyi))
theorem qie {a b c d x : AV} : over [a, b, c, d] 0 [x] = [x, b, c, d] := rfl
theorem qig {a b c d x : AV} : over [a, b, c, d] 1 [x] = [a, x, c, d] := rfl
theorem qi9 {a b c d x : AV} : over [a, b, c, d] 2 [x] = [a, b, x, d] := rfl
theorem qid {a b c d x : AV} : over [a, b, c, d] 3 [x] = [a, b, c, x] := rfl
theorem qi1 {a b c d x y z w : AV} : over [a, b, c, d] 0 [x, y, z, w] = [x, y, z, w] := rfl
theorem qf : type_of% (And.intro @qie (And.intro @qig (And.intro @qi9 (And.intro @qid @qi1)))) := (And.intro @qie (And.intro @qig (And.intro @qi9 (And.intro @qid @qi1))))
def B24 : xh := B23
theorem qyq : zf Try.prog B24 := qzg
def qu7 : Go.Shelf.Ren := ⟨fun | 106 => 139 | 213 => 154 | 265 => 166 | n => n, fun | 9 => 9 | 3 => 3 | n => n, fun | n => n⟩
theorem q0c : Go.Proofs.Lays.n106 Try.prog qu7 where
  mixed := by kernel_rfl
  f106 := Try.func139.trans (congrArg some (by kernel_rfl))
  f213 := Try.func154.trans (congrArg some (by kernel_rfl))
  f265 := Try.func166.trans (congrArg some (by kernel_rfl))
  t3 := Try.underlying3
  a3 := Try.isAgg3
  z3 := Try.sizeOf3
  v3 := Try.zeroValue3
  t9 := Try.underlying9
  a9 := Try.isAgg9
  z9 := Try.sizeOf9
  v9 := Try.zeroValue9
def qti : Go.Shelf.Ren := ⟨fun | 6 => 137 | 15 => 153 | 14 => 152 | 28 => 164 | 29 => 165 | 20 => 156 | 21 => 157 | 22 => 158 | 23 => 159 | 24 => 160 | 25 => 161 | 26 => 162 | 27 => 163 | 46 => 167 | 47 => 168 | 48 => 169 | 49 => 170 | 50 => 171 | 57 => 172 | n => n, fun | 22 => 29 | 24 => 64 | 25 => 132 | 3 => 3 | 39 => 147 | 0 => 0 | 53 => 162 | 55 => 96 | 4 => 4 | 46 => 155 | 45 => 154 | 50 => 159 | 5 => 5 | 9 => 9 | 66 => 164 | 70 => 168 | 76 => 170 | 77 => 171 | n => n, fun | n => n⟩
theorem q0g : Go.Proofs.SlLaysF0.n6 Try.prog qti where
  mixed := by kernel_rfl
  f6 := ⟨Try.f137.name, by kernel_rfl, Try.func137.trans (congrArg some (by kernel_rfl))⟩
  f14 := ⟨Try.f152.name, by kernel_rfl, Try.func152.trans (congrArg some (by kernel_rfl))⟩
  f15 := Try.func153.trans (congrArg some (by kernel_rfl))
  f20 := ⟨Try.f156.name, by kernel_rfl, Try.func156.trans (congrArg some (by kernel_rfl))⟩
  f21 := ⟨Try.f157.name, by kernel_rfl, Try.func157.trans (congrArg some (by kernel_rfl))⟩
  f22 := ⟨Try.f158.name, by kernel_rfl, Try.func158.trans (congrArg some (by kernel_rfl))⟩
  f23 := ⟨Try.f159.name, by kernel_rfl, Try.func159.trans (congrArg some (by kernel_rfl))⟩
  f24 := ⟨Try.f160.name, by kernel_rfl, Try.func160.trans (congrArg some (by kernel_rfl))⟩
  f25 := ⟨Try.f161.name, by kernel_rfl, Try.func161.trans (congrArg some (by kernel_rfl))⟩
  f26 := ⟨Try.f162.name, by kernel_rfl, Try.func162.trans (congrArg some (by kernel_rfl))⟩
  f27 := ⟨Try.f163.name, by kernel_rfl, Try.func163.trans (congrArg some (by kernel_rfl))⟩
  f28 := Try.func164.trans (congrArg some (by kernel_rfl))
  f29 := Try.func165.trans (congrArg some (by kernel_rfl))
  f46 := ⟨Try.f167.name, by kernel_rfl, Try.func167.trans (congrArg some (by kernel_rfl))⟩
  f47 := Try.func168.trans (congrArg some (by kernel_rfl))
  f48 := Try.func169.trans (congrArg some (by kernel_rfl))
  f49 := ⟨Try.f170.name, by kernel_rfl, Try.func170.trans (congrArg some (by kernel_rfl))⟩
  f50 := ⟨Try.f171.name, by kernel_rfl, Try.func171.trans (congrArg some (by kernel_rfl))⟩
  f57 := ⟨Try.f172.name, by kernel_rfl, Try.func172.trans (congrArg some (by kernel_rfl))⟩
  t0 := Try.underlying0
  a0 := Try.isAgg0
  z0 := Try.sizeOf0
  v0 := Try.zeroValue0
  t3 := Try.underlying3
  a3 := Try.isAgg3
  z3 := Try.sizeOf3
  v3 := Try.zeroValue3
  t4 := Try.underlying4
  a4 := Try.isAgg4
  z4 := Try.sizeOf4
  v4 := Try.zeroValue4
  t5 := Try.underlying5
  a5 := Try.isAgg5
  z5 := Try.sizeOf5
  v5 := Try.zeroValue5
  t9 := Try.underlying9
  a9 := Try.isAgg9
  z9 := Try.sizeOf9
  v9 := Try.zeroValue9
  t22 := Try.underlying29
  a22 := Try.isAgg29
  z22 := Try.sizeOf29
  v22 := Try.zeroValue29
  t25 := Try.underlying132
  a25 := Try.isAgg132
  z25 := Try.sizeOf132
  v25 := Try.zeroValue132
  t39 := Try.underlying147
  a39 := Try.isAgg147
  z39 := Try.sizeOf147
  v39 := Try.zeroValue147
  t45 := Try.underlying154
  a45 := Try.isAgg154
  z45 := Try.sizeOf154
  v45 := Try.zeroValue154
  t46 := Try.underlying155
  a46 := Try.isAgg155
  z46 := Try.sizeOf155
  v46 := Try.zeroValue155
  t50 := Try.underlying159
  a50 := Try.isAgg159
  z50 := Try.sizeOf159
  v50 := Try.zeroValue159
  t53 := Try.underlying162
  a53 := Try.isAgg162
  z53 := Try.sizeOf162
  v53 := Try.zeroValue162
  t55 := Try.underlying96
  a55 := Try.isAgg96
  z55 := Try.sizeOf96
  v55 := Try.zeroValue96
  t66 := Try.underlying164
  a66 := Try.isAgg164
  z66 := Try.sizeOf164
  v66 := Try.zeroValue164
  t70 := Try.underlying168
  a70 := Try.isAgg168
  z70 := Try.sizeOf168
  v70 := Try.zeroValue168
  t76 := Try.underlying170
  a76 := Try.isAgg170
  z76 := Try.sizeOf170
  v76 := Try.zeroValue170
  t77 := Try.underlying171
  a77 := Try.isAgg171
  z77 := Try.sizeOf171
  v77 := Try.zeroValue171
def Wv : List AV → Option AV
  | [.str a, .str b] => some (.int .i64 (Go.Lib.compareBytes a b))
  | _ => none
theorem qrf (a b : List UInt8) : Am.Fn Try.prog 139 [.str a, .str b] [] (fun v H' => v = .int .i64 (Go.Lib.compareBytes a b) ∧ H' = []) :=
  qj4 ⟨Try.f139, Try.func139, by kernel_rfl, by kernel_rfl⟩ rfl rfl fun w => Go.Proofs.Any.strings_Compare q0c ⟨a.toArray⟩ ⟨b.toArray⟩ w
theorem qsh : Am.Callee Try.prog 139 (qu Wv) := Am.Callee.plain fun xs v he => by
  unfold Wv at he
  split at he
  · cases he; exact ⟨rfl, rfl, qrf _ _⟩
  · cases he
def B26 : xh := (B24.put 139 (qu Wv))
theorem qul : zf Try.prog B26 := (qyq.put (qsh))
theorem Ue : B26 100 = some (Xi 17 wi) := rfl
theorem qav : B26 139 = some (qu Wv) := rfl
def Jy : AC := .seq (.region [o0 2 (.box (.t 0)),o0 3 (.box (.t 1)),oI 4 0]) (.seq (.region [oF 5 0 2,oC 6 100 [.t 5],oF 7 0 3,oC 8 100 [.t 7],oC 9 139 [.t 6,.t 8],oM 4 9]) .ret)
theorem Kk : xa Try.prog 138 = some ⟨10, Jy, [.slot 4]⟩ := by kernel_rfl
def txt (t : Int × List Nat × Int) : List UInt8 := je t.1.toNat t.2.1
def qs0 (t u : Int × List Nat × Int) : Int := Go.Lib.compareBytes (txt t) (txt u)
theorem qwz (t u : Int × List Nat × Int) (ht : okD t.2.1) (hu : okD u.2.1) (h1 : 0 ≤ t.1 ∧ t.1 ≤ 8) (h2 : 0 ≤ u.1 ∧ u.1 ≤ 8) :
    Am.Fn Try.prog 138 [.agg (trm t), .agg (trm u)] [] (fun v H' => v = .int .i64 (qs0 t u) ∧ H' = []) := by
  refine Am.Fn.vb (R := fun v => v = _) qul mixed Kk (by simp) (by simp) ?_
  simp (maxSteps := 3000000) only [Jy, Ue, qav, Wv, wi, Vm ht, Vm hu, zx ht, zx hu, zb ht, zb hu, h1, h2, rd, List.getElem?_cons_zero, List.getElem?_cons_succ, qa, zZ, ↓qp, ↓reduceIte, reduceCtorEq, nA, nM, nS, nE, nL, nD]; try simp only [qa, zY]
  rfl
theorem qpb : ∀ (a b : List UInt8), (Go.Lib.compareBytes a b < 0) ↔ Op.bytesLess a b = true
  | [], [] => by simp [Go.Lib.compareBytes, Op.bytesLess]
  | [], b :: y => by simp [Go.Lib.compareBytes, Op.bytesLess]
  | a :: x, [] => by simp [Go.Lib.compareBytes, Op.bytesLess]
  | a :: x, b :: y => by
    simp only [Go.Lib.compareBytes, Op.bytesLess, Bool.or_eq_true, Bool.and_eq_true, decide_eq_true_eq, beq_iff_eq]
    by_cases h : a < b
    · simp [h]
    · by_cases h2 : b < a
      · have : a ≠ b := fun e => by subst e; exact UInt8.lt_irrefl _ h2
        simp [h, h2, this]
      · have : a = b := UInt8.le_antisymm (UInt8.not_lt.1 h2) (UInt8.not_lt.1 h)
        subst this
        simp only [h, if_false, false_or, true_and]
        exact qpb x y
theorem Q9 : ∀ (a : List UInt8), Op.bytesLess a a = false
  | [] => rfl
  | a :: x => by simp [Op.bytesLess, Q9 x]
theorem y8 : ∀ (a b c : List UInt8), Op.bytesLess a b = true → Op.bytesLess b c = true → Op.bytesLess a c = true
  | _, _, [], _, h => by cases ‹List UInt8› <;> simp [Op.bytesLess] at h
  | [], _, c :: z, h, _ => by simp [Op.bytesLess]
  | a :: x, [], c :: z, h, _ => by simp [Op.bytesLess] at h
  | a :: x, b :: y, c :: z, h, h' => by
    simp only [Op.bytesLess, Bool.or_eq_true, Bool.and_eq_true, decide_eq_true_eq, beq_iff_eq] at h h' ⊢
    rcases h with h | ⟨rfl, h⟩
    · rcases h' with h' | ⟨rfl, h'⟩
      · exact .inl (UInt8.lt_trans h h')
      · exact .inl h
    · rcases h' with h' | ⟨rfl, h'⟩
      · exact .inl h'
      · exact .inr ⟨rfl, y8 x y z h h'⟩
theorem Xk : ∀ (a b : List UInt8), Op.bytesLess a b = false → Op.bytesLess b a = false → a = b
  | [], [], _, _ => rfl
  | [], b :: y, h, _ => by simp [Op.bytesLess] at h
  | a :: x, [], _, h => by simp [Op.bytesLess] at h
  | a :: x, b :: y, h, h' => by
    simp only [Op.bytesLess, Bool.or_eq_false_iff, Bool.and_eq_false_iff, decide_eq_false_iff_not, beq_eq_false_iff_ne] at h h'
    have e : a = b := UInt8.le_antisymm (UInt8.not_lt.1 h'.1) (UInt8.not_lt.1 h.1)
    subst e
    rw [Xk x y (by simpa using h.2) (by simpa using h'.2)]
theorem qc5 (a b : List UInt8) (h : Op.bytesLess a b = true) : Op.bytesLess b a = false := by
  cases hb : Op.bytesLess b a with
  | false => rfl
  | true => have := y8 a b a h hb; rw [Q9] at this; cases this
def ltT (t u : Int × List Nat × Int) : Bool := Op.bytesLess (txt t) (txt u)
abbrev Kw := {t : Int × List Nat × Int // okD t.2.1 ∧ 0 ≤ t.1 ∧ t.1 ≤ 8}
instance : Inhabited Kw := ⟨⟨(0, List.replicate 16 0, 0), ⟨by simp, by intro x hx; simp at hx; omega⟩, by decide, by decide⟩⟩
theorem qif (x y : Kw) : Go.Proofs.ltOf (fun x y : Kw => qs0 x.1 y.1) x y = ltT x.1 y.1 := by
  unfold Go.Proofs.ltOf qs0 ltT
  have := qpb (txt x.1) (txt y.1)
  cases h : Op.bytesLess (txt x.1) (txt y.1) with
  | true => exact decide_eq_true (this.2 h)
  | false => exact decide_eq_false (fun h2 => by rw [this.1 h2] at h; cases h)
theorem swo : Go.Sort.SWO (Go.Proofs.ltOf (fun x y : Kw => qs0 x.1 y.1)) where
  irrefl x := by rw [qif]; exact Q9 _
  trans x y z h h' := by rw [qif] at *; exact y8 _ _ _ h h'
  ntrans x y z h h' := by
    rw [qif] at *
    cases hc : ltT x.1 z.1 with
    | false => rfl
    | true =>
      exfalso
      by_cases e : txt x.1 = txt y.1
      · unfold ltT at *; rw [e] at hc; rw [hc] at h'; cases h'
      · have h1 : ltT y.1 x.1 = true := by
          cases hb : ltT y.1 x.1 with
          | true => rfl
          | false => exact absurd (Xk _ _ h hb) e
        have := y8 _ _ _ h1 hc
        unfold ltT at h'; rw [this] at h'; cases h'
def qod (t : Int × List Nat × Int) : List (Int × List Nat × Int) → List (Int × List Nat × Int)
  | [] => [t]
  | u :: l => if ltT t u then t :: u :: l else u :: qod t l
def Xo : List (Int × List Nat × Int) → List (Int × List Nat × Int)
  | [] => []
  | t :: l => qod t (Xo l)
theorem qb9 (t : Int × List Nat × Int) : ∀ l, (qod t l).Perm (t :: l)
  | [] => .refl _
  | u :: l => by
    unfold qod; split
    · exact .refl _
    · exact ((qb9 t l).cons u).trans (.swap t u l)
theorem ki : ∀ l, (Xo l).Perm l
  | [] => .refl _
  | t :: l => (qb9 t _).trans ((ki l).cons t)
def U9 (l : List (Int × List Nat × Int)) : Prop := (l.map txt).Nodup
def upT (l : List (Int × List Nat × Int)) : Prop := l.Pairwise fun a b => ltT a b = true
theorem qqd {t : Int × List Nat × Int} : ∀ {l}, upT l → (∀ u ∈ l, txt t ≠ txt u) → upT (qod t l)
  | [], _, _ => by simp [qod, upT]
  | u :: l, h, hn => by
    unfold qod
    have h' := List.pairwise_cons.1 h
    split
    · rename_i hlt
      exact List.pairwise_cons.2 ⟨fun a ha => by
        rcases List.mem_cons.1 ha with rfl | ha
        · exact hlt
        · exact y8 _ _ _ hlt (h'.1 a ha), h⟩
    · rename_i hlt
      refine List.pairwise_cons.2 ⟨fun a ha => ?_, qqd h'.2 fun v hv => hn v (List.mem_cons_of_mem _ hv)⟩
      have hm := (qb9 t l).mem_iff.1 ha
      rcases List.mem_cons.1 hm with rfl | hm
      · cases hb : ltT u a with
        | true => rfl
        | false => exact absurd (Xk _ _ (Bool.eq_false_iff.2 hlt) hb) (hn u (List.mem_cons_self ..))
      · exact h'.1 a hm
theorem qaj : ∀ {l}, U9 l → upT (Xo l)
  | [], _ => .nil
  | t :: l, h => by
    have h' := List.nodup_cons.1 h
    refine qqd (qaj h'.2) fun u hu e => h'.1 ?_
    rw [e]
    exact List.mem_map.2 ⟨u, (ki l).mem_iff.1 hu, rfl⟩
theorem qbf : ∀ {a b : List (Int × List Nat × Int)}, upT a → upT b → a.Perm b → a = b
  | [], b, _, _, hp => by rw [List.nil_perm.1 hp]
  | x :: a, [], _, _, hp => by have := hp.length_eq; simp at this
  | x :: a, y :: b, ha, hb, hp => by
    have ha' := List.pairwise_cons.1 ha
    have hb' := List.pairwise_cons.1 hb
    have e : x = y := by
      have h1 : x ∈ y :: b := hp.mem_iff.1 (List.mem_cons_self ..)
      have h2 : y ∈ x :: a := hp.mem_iff.2 (List.mem_cons_self ..)
      rcases List.mem_cons.1 h1 with h | h
      · exact h
      · rcases List.mem_cons.1 h2 with h' | h'
        · exact h'.symm
        · have c1 := hb'.1 x h
          have c2 := ha'.1 y h'
          have := qc5 _ _ c1
          unfold ltT at c2; rw [this] at c2; cases c2
    subst e
    rw [qbf ha'.2 hb'.2 ((List.perm_cons x).1 hp)]
theorem qk8 {a l : List (Int × List Nat × Int)} (hp : a.Perm l) (hs : a.Pairwise fun x y => ltT y x = false) (hl : U9 l) : a = Xo l := by
  have hn : (a.map txt).Nodup := (hp.map txt).nodup_iff.2 hl
  refine qbf ?_ (qaj hl) (hp.trans (ki l).symm)
  unfold upT
  rw [List.pairwise_iff_getElem] at hs ⊢
  intro i j hi hj hij
  cases hb : ltT a[i] a[j] with
  | true => rfl
  | false =>
    have e := Xk _ _ hb (hs i j hi hj hij)
    have := (List.pairwise_iff_getElem.1 hn) i j (by simpa using hi) (by simpa using hj) hij
    simp only [List.getElem_map] at this
    exact absurd e this
theorem qzd (ts : List (Int × List Nat × Int)) (hl : ts.length ≤ 1000000000) (hok : ∀ t ∈ ts, okD t.2.1 ∧ 0 ≤ t.1 ∧ t.1 ≤ 8) (hap : U9 ts) :
    Am.Fn Try.prog 137 [.slc 0 0 ts.length false 0, .fn 138 [] []] [.vec 18 (qn ts)] (fun v H' => v = .tup [] ∧ H' = [.vec 18 (qn (Xo ts))]) := by
  obtain ⟨d, rfl⟩ : ∃ d : List Kw, ts = d.map Subtype.val := ⟨ts.attach.map fun x => ⟨x.1, hok x.1 x.2⟩, by rw [List.map_map]; exact (List.attach_map_subtype_val ts).symm⟩
  have e : ∀ d : List Kw, qn (d.map Subtype.val) = d.flatMap fun x => trm x.1 := fun d => by simp [qn, List.flatMap_map]
  have := qxm q0g 18 (by decide) Try.isAgg64 Try.sizeOf64 (fun x : Kw => trm x.1) (fun x => zx x.2.1) (fun x a ha => ?_) (fun x => wu _) (fun x y => qs0 x.1 y.1) swo
    ⟨Try.f137, Try.func137, by kernel_rfl, by kernel_rfl⟩ 138 ⟨Try.f138, Try.func138, by kernel_rfl, by kernel_rfl⟩
    (fun x y => qwz x.1 y.1 x.2.1 y.2.1 x.2.2 y.2.2) d (by simp at hl; omega)
  · rw [List.length_map, e]
    refine this.mono ?_
    rintro v H' ⟨rfl, d', hp, hs, rfl⟩
    refine ⟨rfl, ?_⟩
    rw [← e d', qk8 (hp.map _) ?_ hap]
    exact List.pairwise_map.2 (hs.imp fun {a b} h => by rw [qif] at h; exact h)
  · simp only [trm, dia, List.cons_append, List.mem_cons, List.mem_append, List.not_mem_nil, or_false] at ha
    rcases ha with rfl | ha | rfl
    · rfl
    · unfold u8s at ha
      obtain ⟨y, _, rfl⟩ := List.mem_map.1 ha
      rfl
    · rfl
def Uq : BE := fun hp xs => match xs with
  | [.slc b 0 n false 0, .fn 138 [] []] => match hp[b]? with
    | some (.vec 18 l) => match Qa n l with
      | some ts => chk (l.length = n * 18 ∧ n ≤ 1000000 ∧ (∀ t ∈ ts, 0 ≤ t.1 ∧ t.1 ≤ 8) ∧ (ts.map txt).Nodup) (some (.tup [], hp.set b (.vec 18 (qn (Xo ts)))))
      | none => none
    | _ => none
  | _ => none
theorem qyk : Am.Callee Try.prog 137 Uq := Callee.wr1 fun hp xs v hp' he => by
  unfold Uq at he
  split at he
  · rename_i b n
    split at he
    · rename_i l hb
      split at he
      · rename_i ts hts
        obtain ⟨h0, he⟩ := qo he
        simp only [Option.some.injEq, Prod.mk.injEq] at he
        obtain ⟨rfl, rfl⟩ := he
        obtain ⟨e1, e2, e3, e4⟩ := xl hts
        have hl : l = qn ts := by rw [← e3, List.take_of_length_le (by omega)]
        subst hl
        refine ⟨18, qn ts, _, b, [.slc 0 0 ts.length false 0, .fn 138 [] []], hb, rfl, qb _, qb _, ?_, rfl, ⟨by simp [AV.under], ⟨trivial, trivial⟩, trivial⟩, rfl, ?_⟩
        · simp only [AV.zz, AV.ren, one, if_true, e1, Nat.zero_add]
        · exact qzd ts (by omega) (fun t ht => ⟨e2 t ht, h0.2.2.1 t ht⟩) h0.2.2.2
      · cases he
    · cases he
  · cases he
def B27 : xh := (B26.put 137 (Uq))
theorem qny : zf Try.prog B27 := (qul.put (qyk))
theorem Xb : B27 103 = some (qu Bl) := rfl
theorem j9 : B27 137 = some (Uq) := rfl
def esT : Nat → List (Int × List Nat × Int) → List AE
  | _, [] => []
  | k, t :: l => ⟨.agg (dia t.1 t.2.1), .int .i64 t.2.2, k⟩ :: esT (k + 1) l
def ym (ts : List (Int × List Nat × Int)) : AO := .map (esT 0 ts) ts.length
def xz (p : Int) (ts : List (Int × List Nat × Int)) : List (Int × List Nat × Int) := ts.filterMap fun t => if t.2.2.emod p = 0 then none else some (t.1, t.2.1, t.2.2.emod p)
def bb (ts : List (Int × List Nat × Int)) (seen : List Nat) : List (Int × List Nat × Int) := seen.map fun i => ts.getD i (0, [], 0)
theorem Gg : ∀ {ts : List (Int × List Nat × Int)} {k : Nat} {e : AE}, e ∈ esT k ts → ∃ i, i < ts.length ∧ e = ⟨.agg (dia (ts.getD i (0, [], 0)).1 (ts.getD i (0, [], 0)).2.1), .int .i64 (ts.getD i (0, [], 0)).2.2, k + i⟩
  | [], k, e, h => by cases h
  | t :: l, k, e, h => by
    rcases List.mem_cons.1 h with rfl | h
    · exact ⟨0, by simp, by simp⟩
    · obtain ⟨i, h1, rfl⟩ := Gg h
      refine ⟨i + 1, by simpa using h1, ?_⟩
      simp only [List.getD_cons_succ, AE.mk.injEq, true_and]; omega
theorem qpj : ∀ {ts : List (Int × List Nat × Int)} {k i : Nat}, i < ts.length → (⟨.agg (dia (ts.getD i (0, [], 0)).1 (ts.getD i (0, [], 0)).2.1), .int .i64 (ts.getD i (0, [], 0)).2.2, k + i⟩ : AE) ∈ esT k ts
  | t :: l, k, 0, h => by simp [esT]
  | t :: l, k, i + 1, h => by
    have := qpj (ts := l) (k := k + 1) (i := i) (by simpa using h)
    simp only [esT, List.mem_cons]
    right
    rw [show k + (i + 1) = k + 1 + i by omega]
    simpa using this
theorem qlx : ∀ {ts : List (Int × List Nat × Int)} {k i : Nat}, i < ts.length → (esT k ts).find? (fun x => x.born == k + i) = some ⟨.agg (dia (ts.getD i (0, [], 0)).1 (ts.getD i (0, [], 0)).2.1), .int .i64 (ts.getD i (0, [], 0)).2.2, k + i⟩
  | t :: l, k, 0, h => by simp [esT]
  | t :: l, k, i + 1, h => by
    have := qlx (ts := l) (k := k + 1) (i := i) (by simpa using h)
    rw [show k + 1 + i = k + (i + 1) by omega] at this
    simp only [esT, List.find?_cons]
    rw [show (k == k + (i + 1)) = false by simp]
    simpa using this
theorem qbb (n : Nat) (ts : List (Int × List Nat × Int)) (k : Nat) : ∀ e ∈ esT k ts, e.key.under n ∧ e.val.under n := fun e he => by
  obtain ⟨i, _, rfl⟩ := Gg he
  exact ⟨qk _ _ (qh _ _), trivial⟩
theorem Q7 (ρ : Ren) (ts : List (Int × List Nat × Int)) : (ym ts).ren ρ = ym ts := by
  simp only [ym, AO.ren]
  congr 1
  conv => rhs; rw [← List.map_id (esT 0 ts)]
  refine List.map_congr_left fun e he => ?_
  obtain ⟨i, _, rfl⟩ := Gg he
  simp only [AE.ren, AV.ren, qc _ _ (qh _ _), id]
theorem Vp (ids : List Nat) (ts : List (Int × List Nat × Int)) : (ym ts).within ids = true := by
  simp only [ym, AO.within, List.all_eq_true]
  intro e he
  obtain ⟨i, _, rfl⟩ := Gg he
  simp only [AV.within, qd _ _ (qh _ _), Bool.and_self]
theorem zy (ids : List Nat) (ts : List (Int × List Nat × Int)) (k : Nat) : (AO.map (esT 0 ts) k).within ids = true := Vp ids ts
theorem uw (ρ : Ren) (ts : List (Int × List Nat × Int)) (k : Nat) : (AO.map (esT 0 ts) k).ren ρ = AO.map (esT 0 ts) k := by
  have := Q7 ρ ts
  simp only [ym, AO.ren, AO.map.injEq] at this ⊢
  exact ⟨this.1, trivial⟩
theorem quv {r m : Nat} {ts : List (Int × List Nat × Int)} {seen : List Nat} {hp : List AO} {K : AV → List AO → Prop} (h1 : hp[r]? = some (.jo (some m) ts.length seen ts.length)) (h2 : hp[m]? = some (ym ts))
    (hend : (∀ i, i < ts.length → i ∈ seen) → K (.tup [.bool false]) hp)
    (hgo : ∀ i, i < ts.length → i ∉ seen → K (.tup [.bool true, .agg (dia (ts.getD i (0, [], 0)).1 (ts.getD i (0, [], 0)).2.1), .int .i64 (ts.getD i (0, [], 0)).2.2]) (hp.set r (.jo (some m) ts.length (seen ++ [i]) ts.length))) :
    wbN (.ptr r 0) hp K := by
  simp only [wbN, qp4, h1, h2, ym]
  refine ⟨_, qbo ⟨trivial, trivial, fun e he => ?_⟩, fun h => ?_, fun e he hs => ?_⟩
  · obtain ⟨i, h3, rfl⟩ := Gg he; show 0 + i < _; omega
  · refine hend fun i hi => ?_
    have := h _ (qpj (k := 0) hi)
    simpa using this
  · obtain ⟨i, h3, rfl⟩ := Gg he
    simp only [Nat.zero_add] at hs ⊢
    exact hgo i h3 hs
theorem qu4 {B : xh} {n0 nt : Nat} {dst : Option Nat} {it : Opd} {l : List AI} {b : AC} {Q : AX → St → Prop} {s : St}
    (h : wbN (ev s.env it) s.hp (fun v hp' => wbC Try.prog B n0 nt (.seq (.region l) b) Q ⟨jg dst v s.env, hp'⟩)) : wbC Try.prog B n0 nt (.seq (.region (⟨dst, none, .next it⟩ :: l)) b) Q s := h
theorem qu3 {ts : List (Int × List Nat × Int)} {seen : List Nat} (hn : seen.Nodup) (hlt : ∀ i ∈ seen, i < ts.length) (h : ∀ i, i < ts.length → i ∈ seen) : (bb ts seen).Perm ts := by
  have hp : seen.Perm (List.range ts.length) := (List.perm_ext_iff_of_nodup hn List.nodup_range).2 fun i => ⟨fun hi => List.mem_range.2 (hlt i hi), fun hi => h i (List.mem_range.1 hi)⟩
  have e : (List.range ts.length).map (fun i => ts.getD i (0, [], 0)) = ts := by
    apply List.ext_getElem (by simp)
    intro i h1 h2
    simp at h1
    simp [h1]
  unfold bb
  refine (hp.map _).trans ?_
  rw [e]
theorem qrr {p : Int} {a b : List (Int × List Nat × Int)} (h : a.Perm b) : (xz p a).Perm (xz p b) := h.filterMap _
theorem qfg {p : Int} : ∀ {l : List (Int × List Nat × Int)}, U9 l → U9 (xz p l) := fun {l} h => by
  unfold U9 xz at *
  refine List.Nodup.sublist ?_ h
  induction l with
  | nil => exact List.nil_sublist _
  | cons t l ih =>
    simp only [List.filterMap_cons]
    split
    · exact (ih (List.nodup_cons.1 h).2).trans (List.sublist_cons_self _ _)
    · rename_i u hu
      split at hu
      · cases hu
      · cases hu
        exact (ih (List.nodup_cons.1 h).2).cons_cons _
theorem qfc {p : Int} {l : List (Int × List Nat × Int)} {t : Int × List Nat × Int} (h : t ∈ xz p l) : ∃ u ∈ l, t = (u.1, u.2.1, u.2.2.emod p) ∧ u.2.2.emod p ≠ 0 := by
  obtain ⟨u, hu, he⟩ := List.mem_filterMap.1 h
  split at he
  · cases he
  · rename_i hne; cases he; exact ⟨u, hu, rfl, hne⟩
theorem qpc {p : Int} {l : List (Int × List Nat × Int)} (h : okT l) : okT (xz p l) := fun t ht => by
  obtain ⟨u, hu, rfl, _⟩ := qfc ht; exact h u hu
theorem qmd {ts : List (Int × List Nat × Int)} {seen : List Nat} (h : okT ts) (hlt : ∀ i ∈ seen, i < ts.length) : okT (bb ts seen) := fun t ht => by
  obtain ⟨i, hi, rfl⟩ := List.mem_map.1 ht
  have := hlt i hi
  simp only [List.getD_eq_getElem?_getD, List.getElem?_eq_getElem this, Option.getD_some]
  exact h _ (List.getElem_mem _)
theorem qhv (l : List (Int × List Nat × Int)) (t : Int × List Nat × Int) : qn l ++ trm t = qn (l ++ [t]) := by simp [qn]
theorem x9 : [AV.int .i64 0, .int .u8 0, .int .u8 0, .int .u8 0, .int .u8 0, .int .u8 0, .int .u8 0, .int .u8 0, .int .u8 0, .int .u8 0, .int .u8 0, .int .u8 0, .int .u8 0, .int .u8 0, .int .u8 0, .int .u8 0, .int .u8 0] = dia 0 (List.replicate 16 0) := rfl
theorem u9 {n : Int} {m : List Nat} (h : m.length = 16) : over (dia 0 (List.replicate 16 0)) 0 (dia n m) = dia n m := qar (by rw [qe, qe, h, List.length_replicate])
theorem qbd {n : Int} {m : List Nat} (h : m.length = 16) : over (trm (0, List.replicate 16 0, 0)) 0 (dia n m) = trm (n, m, 0) := Yr (by simp) h
theorem xp : (trm (0, List.replicate 16 0, 0)).length = 18 := rfl
theorem y7 : (dia 0 (List.replicate 16 0)).length = 17 := rfl
def Ja : AC := .seq (.region [⟨some 23,none,.next (.t 22)⟩,oE 24 0 23]) (.seq (.cond 24 .skip (.exit 0)) (.block 1 (.seq (.region [o0 25 (.entry (.t 22)),oE 26 0 25,oE 27 1 25,o0 6 (.alloc [.int .i64 0,.int .u8 0,.int .u8 0,.int .u8 0,.int .u8 0,.int .u8 0,.int .u8 0,.int .u8 0,.int .u8 0,.int .u8 0,.int .u8 0,.int .u8 0,.int .u8 0,.int .u8 0,.int .u8 0,.int .u8 0,.int .u8 0]),oS 17 6 26,oM 7 27]) (.seq (.region [oM 28 7,oM 29 0,o0 30 (.vr (.t 29)),oF 31 0 30,oL 32 31,oC 33 103 [.t 28,.t 32],oM 7 33]) (.seq (.region [oM 34 7,oK 35 .neq 34 0]) (.cond 35 (.seq (.region [oF 36 0 6,oL 37 36,oF 38 2 5,oT 38 37]) (.region [oF 39 3 5,oL 40 39,oN 41 17 6,oM 42 7,o0 43 (.build [.int .i64 0,.int .u8 0,.int .u8 0,.int .u8 0,.int .u8 0,.int .u8 0,.int .u8 0,.int .u8 0,.int .u8 0,.int .u8 0,.int .u8 0,.int .u8 0,.int .u8 0,.int .u8 0,.int .u8 0,.int .u8 0,.int .u8 0,.int .i64 0] [(0,17,.t 41),(17,1,.t 42)]),o0 44 (.Qc 1 [.int .i64 0,.int .u8 0,.int .u8 0,.int .u8 0,.int .u8 0,.int .u8 0,.int .u8 0,.int .u8 0,.int .u8 0,.int .u8 0,.int .u8 0,.int .u8 0,.int .u8 0,.int .u8 0,.int .u8 0,.int .u8 0,.int .u8 0,.int .i64 0] [(0,18,.t 43)]),o0 45 (.append 18 32 (.t 40) (.t 44)),oF 46 3 5,oT 46 45])) .skip))))))
def X6 : AC := .seq (.region [oF 47 3 5,oL 48 47,⟨some 49,none,.call (.c (.fn 137 [] [])) [.t 48,(.c (.fn 138 [] []))]⟩]) (.seq (.region [oN 50 4 5,oS 4 4 50]) .ret)
def Wp : AC := .seq (.region [o0 4 (.alloc [.int .i64 0,.int .i64 0,.int .i64 0,(.v (.slice none 0 0))])]) (.seq (.draw false [oM 8 0,o0 9 (.vr (.t 8)),oF 10 0 9,oL 11 10,oM 12 0,o0 13 (.vr (.t 12)),oF 14 1 13,oL 15 14,oM 16 0,o0 17 (.vr (.t 16)),oF 18 2 17,oL 19 18,o0 20 (.build [.int .i64 0,.int .i64 0,.int .i64 0,(.v (.slice none 0 0))] [(0,1,.t 11),(1,1,.t 15),(2,1,.t 19)]),o0 5 (.alloc [.int .i64 0,.int .i64 0,.int .i64 0,(.v (.slice none 0 0))]),oS 4 5 20]) (.seq (.seq (.region [oM 21 1,o0 22 (.U8 (.t 21))]) (.block 0 (.loop Ja))) X6))
theorem qca : xa Try.prog 113 = some ⟨51, Wp, [.kl 4 4]⟩ := by kernel_rfl
def qhf (p c n sz : Int) (ts : List (Int × List Nat × Int)) (seen : List Nat) : St :=
  ⟨[(22, .ptr 4 0), (5, .ptr 3 0), (4, .ptr 2 0), (0, .ptr 0 0)], [.ro [.int .i64 p, .int .i64 c, .int .i64 n], ym ts, .cells [.int .i64 0, .int .i64 0, .int .i64 0, .v (.slice none 0 0)],
    .cells [.int .i64 p, .int .i64 c, .int .i64 (if xz p (bb ts seen) = [] then n else sz), .slc 5 0 (xz p (bb ts seen)).length false 0], .jo (some 1) ts.length seen ts.length, .vec 18 (qn (xz p (bb ts seen)))]⟩
def qz7 (p c n sz : Int) (ts : List (Int × List Nat × Int)) (s : St) : Prop := ∃ seen : List Nat, seen.Nodup ∧ (∀ i ∈ seen, i < ts.length) ∧ s = qhf p c n sz ts seen
def qs7 (ts : List (Int × List Nat × Int)) (s : St) : Nat := match s.hp[4]? with | some (AO.jo _ _ seen _) => ts.length - seen.length | _ => 0
theorem qyt (p c n sz : Int) (ts : List (Int × List Nat × Int)) (hp : 0 < p ∧ p ≤ 1000000) (hs : 0 ≤ sz ∧ sz ≤ 8) (ht : okT ts) (hz : ∀ t ∈ ts, t.1 = sz) (ha : U9 ts) (hl : ts.length ≤ 1000000) :
    Am.Fn Try.prog 113 [.ptr 0 0, .map 1] [.ro [.int .i64 p, .int .i64 c, .int .i64 n], ym ts] (fun v H' => v = elemV p c (if xz p ts = [] then n else sz) 2 (xz p ts).length ∧
      H' = [.ro [.int .i64 p, .int .i64 c, .int .i64 n], ym ts, .vec 18 (qn (Xo (xz p ts)))]) := by
  refine Am.Fn.ofB qny mixed qca (by simp) ?_ ?_
  · intro j o hj
    match j, hj with
    | 0, hj => cases hj; exact ⟨trivial, trivial, trivial, trivial⟩
    | 1, hj => cases hj; exact qbb _ _ _
    | j + 2, hj => simp at hj
  have hm : ym ts = .map (esT 0 ts) ts.length := rfl
  simp (maxSteps := 3000000) only [Wp, hm, qie, qig, qi9, qid, qi1, Xb, j9, Bl, Uq, wo, rd, wrt, wrl, AO.uu, List.getElem?_cons_zero, List.getElem?_cons_succ, List.set_cons_zero, List.set_cons_succ, qa, zZ, ↓qp, ↓reduceIte, reduceCtorEq, nA, nM, nS, nE, nL, nD]; try simp only [qa, zY]
  refine ⟨rfl, WA.vc qny (qz7 p c n sz ts) (qs7 ts) ⟨qhf p c n sz ts [], ?_, [], .nil, by simp, rfl⟩ ?_⟩
  · refine q6.trans (q6.za [22, 5, 4, 0]) ?_
    refine Eq.subst (motive := fun s' => q6 2 _ s') ?_ (q6.qyy 3 3 18 rfl rfl (by simp) ?_ ?_)
    · simp only [za, xf]
      rfl
    · simp [za, xf, AV.under]
    · simp only [List.mem_cons, List.not_mem_nil, or_false, forall_eq_or_imp, forall_eq]
      exact ⟨⟨trivial, trivial, trivial, trivial⟩, qbb _ _ _, ⟨trivial, trivial, trivial, trivial, trivial⟩, ⟨trivial, trivial, trivial, trivial, trivial⟩, fun b h => by cases h; simp⟩
  rintro s ⟨seen, hnd, hlt, rfl⟩
  unfold Ja
  refine qu4 (quv (r := 4) (m := 1) (ts := ts) (seen := seen) rfl rfl (fun hall => ?_) (fun i hi hsn => ?_))
  · have hpm := qu3 hnd hlt hall
    have hr := qrr (p := p) hpm
    have hrt := qpc (p := p) (qmd ht hlt)
    have hap : (List.map txt (xz p (bb ts seen))).Nodup := (hr.map txt).nodup_iff.2 (qfg ha)
    have hsz : ∀ t ∈ xz p (bb ts seen), 0 ≤ t.1 ∧ t.1 ≤ 8 := fun t h => by
      obtain ⟨u, hu, rfl, _⟩ := qfc (hr.mem_iff.1 h)
      simp only [hz u hu]; exact hs
    have hlen : (xz p (bb ts seen)).length = (xz p ts).length := hr.length_eq
    have hle : (xz p ts).length ≤ 1000000 := Nat.le_trans (List.length_filterMap_le _ _) hl
    have hle' : (xz p (bb ts seen)).length ≤ 1000000 := by omega
    have hso : Xo (xz p (bb ts seen)) = Xo (xz p ts) := qk8 ((ki _).trans hr) ((qaj hap).imp fun {a b} h => qc5 _ _ h) (qfg ha)
    have hnil : (xz p (bb ts seen) = []) = (xz p ts = []) := propext ⟨fun h => by rw [h] at hr; exact List.nil_perm.1 hr, fun h => by rw [h] at hr; exact List.perm_nil.1 hr⟩
    have htl := qm hrt
    have hto := z6 hrt
    rw [hlen] at htl hto
    unfold qhf
    simp (maxSteps := 3000000) only [qf, zH, X6, Xb, j9, Bl, Uq, htl, hto, hle, hap, hsz, hso, hnil, hlen, qa, zZ, ↓qp, ↓reduceIte, reduceCtorEq, nA, nM, nS, nE, nL, nD]; try simp only [qa, zY]
    refine ⟨hsz, rfl, ?_⟩
    refine Ret.xy [0, 1, 5] ⟨⟨by simp, rfl, by decide⟩, ?_⟩ (rs := [.agg [.int .i64 p, .int .i64 c, .int .i64 (if xz p ts = [] then n else sz), .slc 5 0 (xz p ts).length false 0]]) rfl rfl (by simp [xj]) ?_ ⟨?_, ?_⟩
    · simp only [Vp, ↓zy, qd _ _ (qb _), zK, ↓reduceIte, reduceCtorEq, nE, nB, nA]
    · intro j l; match j with
      | 0 => exact fun _ => ⟨_, rfl⟩
      | 1 => simp [ze, Q7]; simp [ym]
      | 2 => simp [ze, AO.ren]
      | j + 3 => simp [ze]
    · simp only [elemV, xj]
      simp only [zL, ↓reduceIte, reduceCtorEq, nE, nA]
    · simp only [Q7, ↓uw, qc _ _ (qb _), zL, ↓reduceIte, reduceCtorEq, nE, nA]
      rfl
  · unfold qhf
    have htm : ts.getD i (0, [], 0) ∈ ts := by rw [List.getD_eq_getElem?_getD, List.getElem?_eq_getElem hi]; exact List.getElem_mem _
    have hk : okD (ts.getD i (0, [], 0)).2.1 := ht _ htm
    have h1 : (ts.getD i (0, [], 0)).1 = sz := hz _ htm
    have hfind := qlx (ts := ts) (k := 0) hi
    have hlast : (seen ++ [i]).getLast? = some i := List.getLast?_concat ..
    have hpk : bb ts (seen ++ [i]) = bb ts seen ++ [ts.getD i (0, [], 0)] := by simp [bb]
    have hnd' : (seen ++ [i]).Nodup := by
      rw [List.nodup_append]
      exact ⟨hnd, by simp, fun a ha b hb => by simp at hb; subst hb; rintro rfl; exact hsn ha⟩
    have hlt' : ∀ j ∈ seen ++ [i], j < ts.length := fun j hj => by
      rcases List.mem_append.1 hj with h | h
      · exact hlt j h
      · simp at h; omega
    have hsl : seen.length < ts.length := by
      have := Us ts.length (seen ++ [i]) hnd' hlt'
      simp at this; omega
    rw [Nat.zero_add] at hfind
    generalize htt : ts.getD i (0, [], 0) = t at hk h1 hfind hpk ⊢
    obtain ⟨n1, m1, k1⟩ := t
    simp only at hk h1 hfind
    subst h1
    have hone : (dia n1 m1).all AV.one = true := xo _ _
    have hrt := qpc (p := p) (qmd ht hlt)
    have htl := qm hrt
    have htk : List.take ((xz p (bb ts seen)).length * 18) (qn (xz p (bb ts seen))) = qn (xz p (bb ts seen)) := List.take_of_length_le (by rw [htl]; exact Nat.le_refl _)
    have hbd : (xz p (bb ts seen)).length ≤ 1000000 := by
      have := List.length_filterMap_le (fun t : Int × List Nat × Int => if t.2.2.emod p = 0 then none else some (t.1, t.2.1, t.2.2.emod p)) (bb ts seen)
      have h2 : (bb ts seen).length = seen.length := by simp [bb]
      unfold xz; omega
    by_cases hkz : k1.emod p = 0
    · have hre : xz p (bb ts (seen ++ [i])) = xz p (bb ts seen) := by rw [hpk]; simp [xz, hkz]
      simp (maxSteps := 3000000) only [qf, zH, Xb, j9, Bl, Uq, hkz, hp, hm, qe, hk.1, hlast, hfind, hone, x9, u9 hk.1, qbd hk.1, Yi (t := (n1, m1, 0)) hk.1, jq, bn, xp, y7, q9 hk.1, jr, src, G7, qqa, Int.toNat_zero, Option.map_some, Option.map_none, List.length_replicate, Qe (t := (0, List.replicate 16 0, 0)) (u := (n1, m1, k1.emod p)) (by simp) hk.1, Vc (t := (n1, m1, k1.emod p)) hk.1, htk, htl, qa, zZ, ↓qp, ↓reduceIte, reduceCtorEq, nA, nM, nS, nE, nL, nD]; try simp only [qa, zY]
      refine ⟨_, q6.xy [0, 1, 2, 3, 4, 5] [22, 5, 4, 0] ⟨by decide, ?_⟩ ?_, ⟨seen ++ [i], hnd', hlt', ?_⟩, ?_⟩
      · simp only [Vp, ↓zy, qd _ _ (qb _), zK, ↓reduceIte, reduceCtorEq, nE, nB, nA]
      · simp only [zK, ↓reduceIte, reduceCtorEq, nE, nB, nA]
      · unfold qhf
        simp only [Q7, ↓uw, qc _ _ (qb _), hre, zL, ↓reduceIte, reduceCtorEq, nE, nA]
        rfl
      · simp only [qs7]
        simp only [Q7, ↓uw, zL, ↓reduceIte, reduceCtorEq, nE, nA]
        simp; omega
    · have hre : xz p (bb ts (seen ++ [i])) = xz p (bb ts seen) ++ [(n1, m1, k1.emod p)] := by rw [hpk]; simp [xz, hkz]
      simp (maxSteps := 3000000) only [qf, zH, Xb, j9, Bl, Uq, hkz, hp, hm, qe, hk.1, hlast, hfind, hone, x9, u9 hk.1, qbd hk.1, Yi (t := (n1, m1, 0)) hk.1, jq, bn, xp, y7, q9 hk.1, jr, src, G7, qqa, Int.toNat_zero, Option.map_some, Option.map_none, List.length_replicate, Qe (t := (0, List.replicate 16 0, 0)) (u := (n1, m1, k1.emod p)) (by simp) hk.1, Vc (t := (n1, m1, k1.emod p)) hk.1, htk, htl, qa, zZ, ↓qp, ↓reduceIte, reduceCtorEq, nA, nM, nS, nE, nL, nD]; try simp only [qa, zY]
      refine ⟨rfl, ⟨Nat.le_refl _, by omega⟩, rfl, _, q6.xy [0, 1, 2, 3, 4, 8] [22, 5, 4, 0] ⟨by decide, ?_⟩ ?_, ⟨seen ++ [i], hnd', hlt', ?_⟩, ?_⟩
      · simp only [Vp, ↓zy, qhv, qd _ _ (qb _), zK, ↓reduceIte, reduceCtorEq, nE, nB, nA]
      · simp only [zK, ↓reduceIte, reduceCtorEq, nE, nB, nA]
      · unfold qhf
        have hne : (xz p (bb ts seen) ++ [(n1, m1, k1.emod p)] = []) = False := by simp
        simp only [Q7, ↓uw, qhv, qc _ _ (qb _), hre, hne, List.length_append, List.length_nil, List.length_cons, zL, ↓reduceIte, reduceCtorEq, nE, nA]
        rfl
      · simp only [qs7]
        simp only [Q7, ↓uw, zL, ↓reduceIte, reduceCtorEq, nE, nA]
        simp; omega
def tsE : Nat → List AE → Option (List (Int × List Nat × Int))
  | _, [] => some []
  | k, ⟨.agg l, .int .i64 v, b⟩ :: es => match gq l, tsE (k + 1) es with
    | some (n, m), some ts => if b = k then some ((n, m, v) :: ts) else none
    | _, _ => none
  | _, _ => none
theorem qjv : ∀ {ts : List (Int × List Nat × Int)} {k : Nat}, okT ts → tsE k (esT k ts) = some ts
  | [], _, _ => rfl
  | t :: l, k, h => by
    simp only [esT, tsE, zb (h t (List.mem_cons_self ..)), qjv (ts := l) (k := k + 1) fun u hu => h u (List.mem_cons_of_mem _ hu), if_true]
theorem qma : ∀ {es : List AE} {k : Nat} {ts : List (Int × List Nat × Int)}, tsE k es = some ts → es = esT k ts ∧ okT ts
  | [], k, ts, h => by simp only [tsE, Option.some.injEq] at h; subst h; exact ⟨rfl, fun t ht => by cases ht⟩
  | ⟨key, val, b⟩ :: es, k, ts, h => by
    unfold tsE at h
    split at h
    · rename_i e; cases e
    · rename_i e; cases e
      split at h
      · rename_i n m ts' hd hts
        split at h
        · rename_i hb
          cases h; subst hb
          obtain ⟨rfl, hm⟩ := xk hd
          obtain ⟨e1, e2⟩ := qma hts
          refine ⟨by rw [e1]; rfl, fun t ht => ?_⟩
          rcases List.mem_cons.1 ht with rfl | ht
          · exact hm
          · exact e2 t ht
        · cases h
      · cases h
    · cases h
theorem qkg {α : Type} : ∀ {l : List α} {i : Nat} {a : α}, l[i]? = some a → l.set i a = l
  | [], i, a, h => by simp at h
  | x :: l, 0, a, h => by simp only [List.getElem?_cons_zero, Option.some.injEq] at h; simp [h]
  | x :: l, i + 1, a, h => by simp only [List.getElem?_cons_succ] at h; simp [qkg h]
def qd6 (ts : List (Int × List Nat × Int)) : Int := match ts with | t :: _ => t.1 | [] => 0
def yw : BE := fun hp xs => match xs with
  | [.ptr b 0, .map m] => match rd hp b, hp[m]? with
    | some (.int .i64 p :: .int .i64 c :: .int .i64 n :: _), some (.map es ck) => match tsE 0 es with
      | some ts => chk (ck = ts.length ∧ (0 < p ∧ p ≤ 1000000) ∧ ts.length ≤ 1000000 ∧ (0 ≤ qd6 ts ∧ qd6 ts ≤ 8) ∧ (∀ t ∈ ts, t.1 = qd6 ts) ∧ (ts.map txt).Nodup)
          (some (elemV p c (if xz p ts = [] then n else qd6 ts) hp.length (xz p ts).length, hp ++ [.vec 18 (qn (Xo (xz p ts)))]))
      | none => none
    | _, _ => none
  | _ => none
theorem qyn : Am.Callee Try.prog 113 yw := Callee.fp fun hp xs v hp' he => by
  unfold yw at he
  split at he
  · rename_i b m
    split at he
    · rename_i p c n L es ck hrd hm
      split at he
      · rename_i ts hts
        obtain ⟨⟨h1, h2, h3, h4, h5, h6⟩, he⟩ := qo he
        simp only [Option.some.injEq, Prod.mk.injEq] at he
        obtain ⟨rfl, rfl⟩ := he
        obtain ⟨rfl, hok⟩ := qma hts
        subst h1
        have hne : m ≠ b := by
          rintro rfl
          simp [rd, hm] at hrd
        refine ⟨[(b, 0), (m, 0)], [.ptr 0 0, .map 1], _, _, _, qyt p c n (qd6 ts) ts h2 h4 hok h5 h6 h3, ?_, rfl, ⟨⟨_, hrd, by simp, by simp [AV.zz, AV.ren]⟩, ⟨rfl, ?_⟩, trivial⟩, ?_, ?_, ?_, ?_, ?_⟩
        · simp [ofL, AV.zz, AV.ren]
        · rw [Q7]; exact hm
        · simp [Va, AO.wr, hne]
        · exact ⟨⟨trivial, trivial, trivial, trivial⟩, qbb _ _ _, trivial⟩
        · exact ⟨by simp [AV.under], by simp [AV.under], trivial⟩
        · simp [elemV, AV.ren, AV.zz, Ren.ext]
        · simp only [after, upd, qzt, show (ym ts).wr = true from rfl, Q7, qx2, yo, if_true, Bool.false_eq_true, if_false, qkg (show hp[m]? = some (ym ts) from hm), qc _ _ (qb _), List.length_cons, List.length_nil, List.drop_succ_cons, List.drop_zero, List.map_cons, List.map_nil]
      · cases he
    · cases he
  · cases he
def B28 : xh := (B27.put 113 (yw))
theorem qyz : zf Try.prog B28 := (qny.put (qyn))
abbrev KD : List LT := [LT.int, LT.int, LT.int, LT.int, LT.int, LT.int, LT.int, LT.int, LT.int, LT.int, LT.int, LT.int, LT.int, LT.int, LT.int, LT.int, LT.int]
theorem qlv : ∀ (m m' : List Nat), m.length = m'.length → vy (List.replicate m.length .int) (u8s m) (u8s m') = some (decide (m = m'))
  | [], [], _ => rfl
  | [], _ :: _, h => by simp at h
  | _ :: _, [], h => by simp at h
  | a :: m, b :: m', h => by
    have ih := qlv m m' (by simpa using h)
    simp only [u8s] at ih
    simp only [List.length_cons, List.replicate_succ, u8s, List.map_cons, vy, leq, if_true, ih]
    by_cases e : a = b
    · subst e; simp
    · have : ¬ ((a : Int) = (b : Int)) := by omega
      simp [e, this]
theorem Um {n n' : Int} {m m' : List Nat} (h : m.length = 16) (h' : m'.length = 16) : vy KD (dia n m) (dia n' m') = some (decide (n = n' ∧ m = m')) := by
  have h1 := qlv m m' (by rw [h, h'])
  rw [h] at h1
  have h2 : KD = .int :: List.replicate 16 .int := rfl
  rw [h2]
  simp only [dia, vy, leq, if_true, h1]
  by_cases e : n = n'
  · subst e; simp
  · simp [e]
theorem qjj {n : Int} {m : List Nat} (h : m.length = 16) : kok KD true (.agg (dia n m)) = true := by
  simp only [kok, keq, Um h h]
def B29 : xh := B28
theorem qyv : zf Try.prog B29 := qyz
theorem k8 (p c n : Int) (b k m : Nat) : AV.ren (Vy m) (.agg [.int .i64 p, .int .i64 c, .int .i64 n, .slc b 0 k false 0]) = .agg [.int .i64 p, .int .i64 c, .int .i64 n, .slc (m + b) 0 k false 0] := rfl
def B30 : xh := B29
theorem qn6 : zf Try.prog B30 := qyv
theorem uy (p c n e : Int) (b k m : Nat) : AV.ren (Vy m) (.tup [.agg [.int .i64 p, .int .i64 c, .int .i64 n, .slc b 0 k false 0], .int .i64 e]) = .tup [.agg [.int .i64 p, .int .i64 c, .int .i64 n, .slc (m + b) 0 k false 0], .int .i64 e] := rfl
end Go.Proofs.Ytkgoadglalpbfaa

/- Contracts: comparisons of elements. Contracts: marks in elements. Contracts: marks in elements, the elements themselves. Contracts: the program's test of lists of diagrams. Contracts: the reference's element of a diagram. Contracts: the reference's element of a diagram. Contracts: entries for the elements of diagrams. Contracts: comparing and sorting terms. Contracts: an element of a sum. -/
import Derived.Test.YtkgoadglalpbfaaP1
import Derived.Test.YtkgoadglalpbfaaAmC
import Derived.Shelf.Small.Strs
namespace Go.Proofs.Ytkgoadglalpbfaa
open Go.Am Go.Dia
open Nat renaming reduceAdd → nA, reduceMul → nM, reduceSub → nS, reduceEqDiff → nE, reduceLT → nL, reduceLeDiff → nD, reduceBEq → nB
open Int renaming reduceEq → iE, reduceNe → iN, reduceBEq → iB, reduceBNe → iC, reduceLT → iL, reduceLE → iD, reduceAdd → iA, reduceSub → iS, reduceMul → iM
set_option linter.unusedSimpArgs false
set_option linter.unusedVariables false
set_option maxRecDepth 4000
set_option maxHeartbeats 1000000
theorem qdc : B13 106 = some (qk Jn) := rfl
def Jk : AC := .seq (.seq (.region [oM 11 5,oM 12 0,o0 13 (.len .slc (.t 12)),oP 14 .lss 11 13]) (.cond 14 .skip (.exit 0))) (.seq (.block 1 (.seq (.draw false [oM 17 0,oM 18 5,oX 19 18 17 18,oN 20 18 19,oM 21 1,oM 22 5,oX 23 18 21 22,oN 24 18 23,oC 25 106 [.t 20,.t 24],o0 26 (.un .not (.t 25))]) (.cond 26 (.seq (.region [oB 4 false]) .ret) .skip))) (.region [oM 15 5,oK 16 .add 15 1,oM 5 16]))
def Ue : AC := .seq (.region [oB 4 true]) .ret
def qcz : AC := .seq (.region [oB 4 false]) (.seq (.seq (.region [oM 6 0,o0 7 (.len .slc (.t 6)),oM 8 1,o0 9 (.len .slc (.t 8)),oP 10 .neq 7 9]) (.cond 10 (.seq (.region [oB 4 false]) .ret) .skip)) (.seq (.seq (.region [oI 5 0]) (.block 0 (.loop Jk))) Ue))
theorem qkf : zh Try.prog 54 = some ⟨27, qcz, [.slot 4]⟩ := by kernel_rfl
def Gc : AC := .seq (.region [o0 2 (.box (.t 0)),o0 3 (.box (.t 1)),oB 4 false]) (.seq (.seq (.region [oF 5 0 2,oL 6 5,oF 7 0 3,oL 8 7,oP 9 .neq 6 8]) (.cond 9 (.seq (.region [oB 4 false]) .ret) .skip)) (.seq (.seq (.region [oF 10 1 2,oL 11 10,oF 12 1 3,oL 13 12,oP 14 .neq 11 13]) (.cond 14 (.seq (.region [oB 4 false]) .ret) .skip)) (.seq (.seq (.region [oF 15 2 2,oL 16 15,oF 17 2 3,oL 18 17,oP 19 .neq 16 18]) (.cond 19 (.seq (.region [oB 4 false]) .ret) .skip)) (.seq (.seq (.region [oF 20 3 2,oL 21 20,oF 22 3 3,oL 23 22,oC 24 54 [.t 21,.t 23],o0 25 (.un .not (.t 24))]) (.cond 25 (.seq (.region [oB 4 false]) .ret) .skip)) (.seq (.region [oB 4 true]) .ret)))))
theorem qgu : zh Try.prog 19 = some ⟨26, Gc, [.slot 4]⟩ := by kernel_rfl
def Jy : Nat → List AV → Option (List (Int × List Nat × Int))
  | 0, _ => some []
  | k + 1, l => match qcb (l.take 18), Jy k (l.drop 18) with
    | some t, some ts => some (t :: ts)
    | _, _ => none
theorem qhb : ∀ {ts : List (Int × List Nat × Int)} {x : List AV}, okT ts → Jy ts.length (qn ts ++ x) = some ts
  | [], _, _ => rfl
  | t :: ts, x, h => by
    have h1 := qhb (ts := ts) (x := x) fun u hu => h u (List.mem_cons_of_mem _ hu)
    have h2 := zp (h t (by simp))
    simp only [qn, List.flatMap_cons, List.length_cons, Jy, List.append_assoc] at h1 ⊢
    rw [List.take_append_of_le_length (by omega), List.take_of_length_le (by omega), Bg (h t (by simp)), List.drop_append, List.drop_of_length_le (by omega), h2, List.nil_append]
    simp only [Nat.sub_self, List.drop_zero, h1]
theorem jm {ts : List (Int × List Nat × Int)} (h : okT ts) : Jy ts.length (qn ts) = some ts := by
  have := qhb (x := []) h
  rwa [List.append_nil] at this
theorem j0 : ∀ {k : Nat} {l : List AV} {ts : List (Int × List Nat × Int)}, Jy k l = some ts → ts.length = k ∧ okT ts ∧ l.take (k * 18) = qn ts ∧ k * 18 ≤ l.length
  | 0, l, ts, h => by cases h; exact ⟨rfl, by simp [okT], by simp [qn], by omega⟩
  | k + 1, l, ts, h => by
    simp only [Jy] at h
    split at h
    · rename_i t us ht hus
      cases h
      obtain ⟨h1, h2, h3, h4⟩ := j0 hus
      obtain ⟨h5, h6⟩ := Ye ht
      have h7 := zp h6
      have h8 : 18 ≤ l.length := by
        have := congrArg List.length h5
        rw [h7, List.length_take] at this; omega
      rw [List.length_drop] at h4
      refine ⟨by simp [h1], fun u hu => ?_, ?_, by omega⟩
      · rcases List.mem_cons.1 hu with rfl | hu
        · exact h6
        · exact h2 u hu
      · rw [show (k + 1) * 18 = 18 + k * 18 from by omega, List.take_add, h5, h3]; rfl
    · cases h
def two (b b' : Nat) : Ren := fun j => if j = 0 then some (b, 0) else if j = 1 then some (b', 0) else none
theorem Callee.ro2 {f : FuncId} {g : BE} (h : ∀ hp xs v hp', g hp xs = some (v, hp') → ∃ (l l' : List AV) (b b' : Nat) (ys : List AV), hp' = hp ∧ (∃ L, rd hp b = some L ∧ l.length ≤ L.length ∧ L.take l.length = l) ∧ (∃ L, rd hp b' = some L ∧ l'.length ≤ L.length ∧ L.take l'.length = l') ∧
    AV.zb l = true ∧ AV.zb l' = true ∧ xs = AV.zk (two b b') ys ∧ xs.all vj = true ∧ AV.qx 2 ys ∧ v.zm = true ∧ Am.Fn Try.prog f ys [.ro l, .ro l'] fun v' H' => v' = v ∧ H' = [.ro l, .ro l']) : Am.Callee Try.prog f g := by
  intro hp xs v hp' he
  obtain ⟨l, l', b, b', ys, rfl, ⟨L, hL, h1, h2⟩, ⟨L', hL', h1', h2'⟩, h3, h3', h4, h5, h6, h7, h8⟩ := h hp xs v hp' he
  refine ⟨[.ro l, .ro l'], ys, _, two b b', [(b, 0), (b', 0)], h8, h4, h5, ⟨fun j hj => ?_, rfl, fun j o c hj hb => ?_, fun j k bj bk oj ok hj hk hoj hok hw => ?_⟩, ?_, h6, ?_⟩
  · match j, hj with
    | 0, _ => rfl
    | 1, _ => rfl
  · match j, hj, hb with
    | 0, hj, hb =>
      cases hj; cases hb
      exact ⟨L, hL, by omega, by rw [List.drop_zero, qc _ _ h3]; exact h2⟩
    | 1, hj, hb =>
      cases hj; cases hb
      exact ⟨L', hL', by omega, by rw [List.drop_zero, qc _ _ h3']; exact h2'⟩
    | j + 2, hj, hb => simp at hj
  · match j, hoj with
    | 0, hoj => cases hoj; cases hw
    | 1, hoj => cases hoj; cases hw
    | j + 2, hoj => simp at hoj
  · intro j o hj
    match j, hj with
    | 0, hj => cases hj; exact ql _ _ h3
    | 1, hj => cases hj; exact ql _ _ h3'
    | j + 2, hj => simp at hj
  · rintro v' H' ⟨rfl, rfl⟩
    exact ⟨Z8 _ _ h7, by simp [after, upd, AO.wr]⟩
theorem Bk {l l' : List AV} (h : AV.zb l = true) (h' : AV.zb l' = true) : ∀ (j : Nat) (o : AO), [AO.ro l, AO.ro l'][j]? = some o → o.under [AO.ro l, AO.ro l'].length := by
  intro j o e
  match j, e with
  | 0, e => cases e; exact ql _ _ h
  | 1, e => cases e; exact ql _ _ h'
  | j + 2, e => simp at e
theorem ql1 (a b : List (Int × List Nat × Int)) (ha : okT a) (hb : okT b) (hal : a.length ≤ 2000000) :
    Am.Fn Try.prog 54 [.slc 0 0 a.length false 0, .slc 1 0 b.length false 0] [.ro (qn a), .ro (qn b)] (fun v H' => v = .bool (decide (a = b)) ∧ H' = [.ro (qn a), .ro (qn b)]) := by
  refine Am.Fn.xt (R := fun v => v = _) qoi mixed qkf (by simp) (Bk (qb _) (qb _)) ?_
  simp (maxSteps := 3000000) only [qcz, qa, zZ, ↓qm, ↓reduceIte, reduceCtorEq, nA, nM, nS, nE, nL, nD]; try simp only [qa, zY]
  refine ⟨fun h => ⟨⟨_, rfl⟩, ?_⟩, fun h => ?_⟩
  · symm; rw [decide_eq_false_iff_not]; rintro rfl; exact h rfl
  have hlen : a.length = b.length := by omega
  refine WA.jj qoi (fun s => ∃ k : Nat, s = ⟨[(5, .int .i64 k), (0, .slc 0 0 a.length false 0), (1, .slc 1 0 b.length false 0)], [.ro (qn a), .ro (qn b)]⟩ ∧ k ≤ a.length ∧ ∀ i, i < k → a[i]? = b[i]?)
    (fun s => match get s.env 5 with | .int _ k => (2000000 - k).toNat | _ => 0) ⟨_, q6.qz [5, 0, 1], 0, rfl, by omega, by intros; omega⟩ ?_
  rintro s ⟨k, rfl, hk, hc⟩
  have hw : qv .i64 ((k : Int) + 1) = ((k + 1 : Nat) : Int) := by rw [wrap64 (by omega) (by omega)]; rfl
  have hla := qt ha
  have hlb := qt hb
  by_cases hlt : k < a.length
  · have hga := ki ha hlt
    have hgb := ki hb (i := k) (by omega)
    have hoa := ha a[k] (List.getElem_mem hlt)
    have hob := hb b[k] (List.getElem_mem (by omega))
    simp (maxSteps := 3000000) only [Jk, hw, qdc, Jn, hla, hlb, hga, hgb, Bg hoa, Bg hob, rd, List.getElem?_cons_zero, List.getElem?_cons_succ, qa, zZ, ↓qm, ↓reduceIte, reduceCtorEq, nA, nM, nS, nE, nL, nD]; try simp only [qa, zY]
    refine ⟨fun _ => ⟨⟨⟨by omega, by omega⟩, by omega⟩, by omega, ⟨⟨by omega, by omega⟩, by omega⟩, by omega, fun h2 => ⟨⟨_, rfl⟩, ?_⟩, fun h2 => ⟨_, q6.qz [5, 0, 1], ⟨k + 1, rfl, by omega, fun i hi => ?_⟩, ?_⟩⟩, fun h => absurd (by omega) h⟩
    · symm; rw [decide_eq_false_iff_not]; rintro rfl; exact h2 rfl
    · by_cases e : i = k
      · subst e; rw [List.getElem?_eq_getElem hlt, List.getElem?_eq_getElem (by omega), h2]
      · exact hc i (by omega)
    · simp only [zL, ↓reduceIte, reduceCtorEq, nE, nA]; omega
  · simp (maxSteps := 3000000) only [Jk, Ue, hw, qa, zZ, ↓qm, ↓reduceIte, reduceCtorEq, nA, nM, nS, nE, nL, nD]; try simp only [qa, zY]
    refine ⟨fun h => absurd h (by omega), fun _ => ⟨⟨_, rfl⟩, ?_⟩⟩
    symm; rw [decide_eq_true_eq]
    refine List.ext_getElem? fun i => ?_
    by_cases e : i < a.length
    · exact hc i (by omega)
    · rw [List.getElem?_eq_none (by omega), List.getElem?_eq_none (by omega)]
def Wm : BE := fun hp xs => match xs with
  | [.slc b 0 k false 0, .slc b' 0 k' false 0] => match rd hp b, rd hp b' with
    | some L, some L' => match Jy k L, Jy k' L' with
      | some ts, some ts' => chk (k ≤ 2000000) (some (.bool (decide (ts = ts')), hp))
      | _, _ => none
    | _, _ => none
  | _ => none
theorem qlh : Am.Callee Try.prog 54 Wm := Callee.ro2 fun hp xs v hp' he => by
  unfold Wm at he
  split at he
  · rename_i b k b' k'
    split at he
    · rename_i L L' hL hL'
      split at he
      · rename_i ts ts' h1 h1'
        obtain ⟨h0, he⟩ := qi he
        simp only [Option.some.injEq, Prod.mk.injEq] at he
        obtain ⟨rfl, rfl⟩ := he
        obtain ⟨e1, e2, e3, e4⟩ := j0 h1
        obtain ⟨f1, f2, f3, f4⟩ := j0 h1'
        have g1 := qt e2
        have g2 := qt f2
        refine ⟨qn ts, qn ts', b, b', [.slc 0 0 ts.length false 0, .slc 1 0 ts'.length false 0], rfl, ⟨L, hL, by omega, by rw [g1, e1]; exact e3⟩, ⟨L', hL', by omega, by rw [g2, f1]; exact f3⟩, qb _, qb _, ?_, rfl, ?_, rfl, ql1 ts ts' e2 f2 (by omega)⟩
        · simp only [AV.zk, AV.ren, two, if_true, e1, f1, Nat.zero_add]
          rfl
        · exact ⟨by simp [AV.under], by simp [AV.under], trivial⟩
      · cases he
    · cases he
  · cases he
def B14 : zq := (B13.put 54 (Wm))
theorem qtj : qy Try.prog B14 := (qoi.put (qlh))
theorem qdb : B14 106 = some (qk Jn) := rfl
theorem qb4 : B14 54 = some (Wm) := rfl
def elemV (p c n : Int) (b k : Nat) : AV := .agg [.int .i64 p, .int .i64 c, .int .i64 n, .slc b 0 k false 0]
theorem qgw (p c n p' c' n' : Int) (a b : List (Int × List Nat × Int)) (ha : okT a) (hb : okT b) (hal : a.length ≤ 2000000) :
    Am.Fn Try.prog 19 [elemV p c n 0 a.length, elemV p' c' n' 1 b.length] [.ro (qn a), .ro (qn b)] (fun v H' => v = .bool (decide ((p = p' ∧ c = c' ∧ n = n') ∧ a = b)) ∧ H' = [.ro (qn a), .ro (qn b)]) := by
  refine Am.Fn.xt (R := fun v => v = _) qtj mixed qgu (by simp) (Bk (qb _) (qb _)) ?_
  simp (maxSteps := 3000000) only [Gc, elemV, qdb, qb4, Jn, Wm, jm ha, jm hb, rd, List.getElem?_cons_zero, List.getElem?_cons_succ, qa, zZ, ↓qm, ↓reduceIte, reduceCtorEq, nA, nM, nS, nE, nL, nD]; try simp only [qa, zY]
  have hf : ¬((p = p' ∧ c = c' ∧ n = n') ∧ a = b) → false = decide ((p = p' ∧ c = c' ∧ n = n') ∧ a = b) := fun h => by
    symm; rw [decide_eq_false_iff_not]; exact h
  refine ⟨fun h => ⟨⟨_, rfl⟩, hf fun e => h e.1.1⟩, fun h => ⟨fun h2 => ⟨⟨_, rfl⟩, hf fun e => h2 e.1.2.1⟩, fun h2 => ⟨fun h3 => ⟨⟨_, rfl⟩, hf fun e => h3 e.1.2.2⟩, fun h3 => ⟨hal, fun h4 => ⟨⟨_, rfl⟩, hf fun e => h4 e.2⟩, fun h4 => ⟨⟨_, rfl⟩, ?_⟩⟩⟩⟩⟩
  symm; rw [decide_eq_true_eq]; exact ⟨⟨h, h2, h3⟩, h4⟩
def uo : BE := fun hp xs => match xs with
  | [.agg [.int .i64 p, .int .i64 c, .int .i64 n, .slc b 0 k false 0], .agg [.int .i64 p', .int .i64 c', .int .i64 n', .slc b' 0 k' false 0]] => match rd hp b, rd hp b' with
    | some L, some L' => match Jy k L, Jy k' L' with
      | some ts, some ts' => chk (k ≤ 2000000) (some (.bool (decide ((p = p' ∧ c = c' ∧ n = n') ∧ ts = ts')), hp))
      | _, _ => none
    | _, _ => none
  | _ => none
theorem qgq : Am.Callee Try.prog 19 uo := Callee.ro2 fun hp xs v hp' he => by
  unfold uo at he
  split at he
  · rename_i p c n b k p' c' n' b' k'
    split at he
    · rename_i L L' hL hL'
      split at he
      · rename_i ts ts' h1 h1'
        obtain ⟨h0, he⟩ := qi he
        simp only [Option.some.injEq, Prod.mk.injEq] at he
        obtain ⟨rfl, rfl⟩ := he
        obtain ⟨e1, e2, e3, e4⟩ := j0 h1
        obtain ⟨f1, f2, f3, f4⟩ := j0 h1'
        have g1 := qt e2
        have g2 := qt f2
        refine ⟨qn ts, qn ts', b, b', [elemV p c n 0 ts.length, elemV p' c' n' 1 ts'.length], rfl, ⟨L, hL, by omega, by rw [g1, e1]; exact e3⟩, ⟨L', hL', by omega, by rw [g2, f1]; exact f3⟩, qb _, qb _, ?_, rfl, ?_, rfl, qgw p c n p' c' n' ts ts' e2 f2 (by omega)⟩
        · simp only [elemV, AV.zk, AV.ren, two, if_true, e1, f1, Nat.zero_add]
          rfl
        · exact ⟨⟨trivial, trivial, trivial, by simp [AV.under], trivial⟩, ⟨trivial, trivial, trivial, by simp [AV.under], trivial⟩, trivial⟩
      · cases he
    · cases he
  · cases he
def B15 : zq := (B14.put 19 (uo))
theorem Ke : qy Try.prog B15 := (qtj.put (qgq))
def Zh : AC := .seq (.seq (.region [oM 21 6,oK 22 .lss 21 16]) (.cond 22 .skip (.exit 2))) (.seq (.block 3 (.seq (.region [oM 25 0,oM 26 5,oM 27 6,oM 28 1,o0 29 (.conv .u8 (.t 28)),oX 30 18 25 26,oF 31 0 30,oF 32 1 31,o0 33 (.xf 16 1 (.t 32) (.t 27)),oT 33 29]) (.region [oM 34 1,oK 35 .add 34 1,oM 1 35]))) (.region [oM 23 6,oK 24 .add 23 1,oM 6 24]))
def Wo : AC := .seq (.region [oM 36 0,oM 37 5,oM 38 1,oX 39 18 36 37,oF 40 17 39,oT 40 38]) (.region [oM 41 1,oK 42 .add 41 1,oM 1 42])
def V4 : AC := .region [oM 11 5,oK 12 .add 11 1,oM 5 12]
def Zp : AC := .seq (.seq (.region [oM 7 5,oM 8 0,o0 9 (.len .slc (.t 8)),oP 10 .lss 7 9]) (.cond 10 .skip (.exit 0))) (.seq (.block 1 (.seq (.region [oM 13 0,oM 14 5,oM 15 1,oX 16 18 13 14,oF 17 0 16,oF 18 0 17,oT 18 15]) (.seq (.region [oM 19 1,oK 20 .add 19 1,oM 1 20]) (.seq (.seq (.region [oI 6 0]) (.block 2 (.loop Zh))) Wo)))) V4)
def Wt : AC := .seq (.region [oM 43 1,oM 4 43]) .ret
def Gp : AC := .seq (.region [oI 4 0]) (.seq (.seq (.region [oI 5 0]) (.block 0 (.loop Zp))) Wt)
theorem qgs : zh Try.prog 55 = some ⟨44, Gp, [.slot 4]⟩ := by kernel_rfl
def Yn : AC := .seq (.region [o0 2 (.box (.t 0)),oI 4 0]) (.seq (.region [oF 5 3 2,oL 6 5,oM 7 1,oC 8 55 [.t 6,.t 7],oM 1 8]) (.seq (.region [oM 9 1,oM 4 9]) .ret))
theorem qdo : zh Try.prog 20 = some ⟨10, Yn, [.slot 4]⟩ := by kernel_rfl
def Zi : AC := .seq (.seq (.region [oM 23 6,oK 24 .lss 23 16]) (.cond 24 .skip (.exit 2))) (.seq (.block 3 (.seq (.seq (.region [oM 27 0,oM 28 5,oM 29 6,oX 30 18 27 28,oF 31 0 30,oF 32 1 31,o0 33 (.xf 16 1 (.t 32) (.t 29)),oL 34 33,oM 35 1,o0 36 (.conv .u8 (.t 35)),oP 37 .neq 34 36]) (.cond 37 (.seq (.region [oI 4 (-1)]) .ret) .skip)) (.region [oM 38 1,oK 39 .add 38 1,oM 1 39]))) (.region [oM 25 6,oK 26 .add 25 1,oM 6 26]))
def Vy : AC := .seq (.seq (.region [oM 40 0,oM 41 5,oX 42 18 40 41,oF 43 17 42,oL 44 43,oM 45 1,oP 46 .neq 44 45]) (.cond 46 (.seq (.region [oI 4 (-1)]) .ret) .skip)) (.region [oM 47 1,oK 48 .add 47 1,oM 1 48])
def We : AC := .region [oM 11 5,oK 12 .add 11 1,oM 5 12]
def Zq : AC := .seq (.seq (.region [oM 7 5,oM 8 0,o0 9 (.len .slc (.t 8)),oP 10 .lss 7 9]) (.cond 10 .skip (.exit 0))) (.seq (.block 1 (.seq (.seq (.region [oM 13 0,oM 14 5,oX 15 18 13 14,oF 16 0 15,oF 17 0 16,oL 18 17,oM 19 1,oP 20 .neq 18 19]) (.cond 20 (.seq (.region [oI 4 (-1)]) .ret) .skip)) (.seq (.region [oM 21 1,oK 22 .add 21 1,oM 1 22]) (.seq (.seq (.region [oI 6 0]) (.block 2 (.loop Zi))) Vy)))) We)
def Wu : AC := .seq (.region [oM 49 1,oM 4 49]) .ret
def Gh : AC := .seq (.region [oI 4 0]) (.seq (.seq (.region [oI 5 0]) (.block 0 (.loop Zq))) Wu)
theorem qgh : zh Try.prog 67 = some ⟨50, Gh, [.slot 4]⟩ := by kernel_rfl
def Y0 : AC := .seq (.region [o0 2 (.box (.t 0)),oI 4 0]) (.seq (.region [oF 5 3 2,oL 6 5,oM 7 1,oC 8 67 [.t 6,.t 7],oM 1 8]) (.seq (.seq (.region [oM 9 1,oK 10 .lss 9 0]) (.cond 10 (.seq (.region [oI 4 (-1)]) .ret) .skip)) (.seq (.region [oM 11 1,oM 4 11]) .ret)))
theorem qdp : zh Try.prog 26 = some ⟨12, Y0, [.slot 4]⟩ := by kernel_rfl
def Kv (k : Nat) : List Nat := (List.range 16).map fun j => (k + j) % 256
def qfw (k : Nat) : Int × List Nat × Int := (((k : Nat) : Int), Kv (k + 1), ((k + 17 : Nat) : Int))
def marks (n k : Nat) : List (Int × List Nat × Int) := (List.range n).map fun i => qfw (k + 18 * i)
theorem qeh (k : Nat) : okD (Kv k) := ⟨by simp [Kv], fun x hx => by
  simp only [Kv, List.mem_map] at hx
  obtain ⟨j, _, rfl⟩ := hx
  exact Nat.mod_lt _ (by decide)⟩
theorem Wf (n k : Nat) : okT (marks n k) := fun t ht => by
  simp only [marks, List.mem_map] at ht
  obtain ⟨j, _, rfl⟩ := ht
  exact qeh _
theorem zz (n k : Nat) : (marks n k).length = n := by simp [marks]
theorem Bj {n k i : Nat} (h : i < n) : (marks n k)[i]'(by rw [zz]; exact h) = qfw (k + 18 * i) := by simp [marks]
theorem qqw {k j : Nat} (h : j < 16) : (Kv k).getD j 0 = (k + j) % 256 := by simp [Kv, List.getD_eq_getElem?_getD, h]
theorem qhz {x : Nat} : qv .u8 (x : Int) = ((x % 256 : Nat) : Int) := by
  simp only [qv, IntKind.wrap, IntKind.signed, IntKind.bits]
  simp
theorem qey {ts : List (Int × List Nat × Int)} {i j : Nat} {v : AV} {t' : Int × List Nat × Int} (h : okT ts) (hi : i < ts.length) (hj : j < 18) (hv : (trm ts[i]).set j v = trm t') : (qn ts).set (i * 18 + j) v = qn (ts.set i t') := by
  induction ts generalizing i with
  | nil => simp at hi
  | cons t ts ih =>
    have h1 := zp (h t (by simp))
    cases i with
    | zero =>
      simp only [List.getElem_cons_zero] at hv
      simp only [qn, List.flatMap_cons, Nat.zero_mul, Nat.zero_add, List.set_cons_zero]
      rw [List.set_append_left _ _ (by omega), hv]
    | succ i =>
      simp only [List.getElem_cons_succ] at hv
      have h2 := ih (fun u hu => h u (List.mem_cons_of_mem _ hu)) (by simpa using hi) hv
      simp only [qn, List.flatMap_cons, List.set_cons_succ] at h2 ⊢
      rw [List.set_append_right _ _ (by omega), h1, show (i + 1) * 18 + j - 18 = i * 18 + j from by omega, h2]
theorem qt7 {t : Int × List Nat × Int} {x : Int} : (trm t).set 0 (.int .i64 x) = trm (x, t.2) := rfl
theorem qv3 {t : Int × List Nat × Int} {j x : Nat} (h : okD t.2.1) (hj : j < 16) : (trm t).set (1 + j) (.int .u8 (x : Int)) = trm (t.1, t.2.1.set j x, t.2.2) := by
  simp only [trm]
  rw [List.set_append_left _ _ (by rw [qd, h.1]; omega), Bh]
theorem qha {t : Int × List Nat × Int} {x : Int} (h : okD t.2.1) : (trm t).set 17 (.int .i64 x) = trm (t.1, t.2.1, x) := by
  simp only [trm]
  rw [List.set_append_right _ _ (by rw [qd, h.1]; omega), qd, h.1]; rfl
def part (k : Nat) (m : List Nat) (j : Nat) : List Nat := (List.range 16).map fun t => if t < j then (k + t) % 256 else m.getD t 0
theorem qq9 {k : Nat} {m : List Nat} (h : m.length = 16) : part k m 0 = m := by
  refine qjc (by simp [part]) h fun i hi => ?_
  simp [part, List.getD_eq_getElem?_getD, hi]
theorem qtt {k : Nat} {m : List Nat} : part k m 16 = Kv k := by
  simp only [part, Kv]
  refine List.map_congr_left fun t ht => ?_
  rw [if_pos (List.mem_range.1 ht)]
theorem qq0 {k j : Nat} {m : List Nat} (hj : j < 16) : (part k m j).set j ((k + j) % 256) = part k m (j + 1) := by
  refine qjc (by simp [part]) (by simp [part]) fun i hi => ?_
  rw [kj]
  have hl : (part k m j).length = 16 := by simp [part]
  by_cases e : j = i
  · subst e
    rw [if_pos ⟨rfl, by omega⟩]
    simp [part, List.getD_eq_getElem?_getD, hi]
  · rw [if_neg (fun h => e h.1)]
    simp only [part, List.getD_eq_getElem?_getD, List.getElem?_map, List.getElem?_range hi, Option.map_some, Option.getD_some]
    by_cases h1 : i < j
    · rw [if_pos h1, if_pos (by omega)]
    · rw [if_neg h1, if_neg (by omega)]
theorem qd8 {k j : Nat} {m : List Nat} (h : okD m) : okD (part k m j) := ⟨by simp [part], fun x hx => by
  simp only [part, List.mem_map] at hx
  obtain ⟨t, _, rfl⟩ := hx
  split
  · exact Nat.mod_lt _ (by decide)
  · exact h.get t⟩
theorem qh8 {s : Nat} {l : List AV} (h : AV.zb l = true) : ∀ (j : Nat) (o : AO), [AO.vec s l][j]? = some o → o.under [AO.vec s l].length := by
  intro j o e
  cases j with
  | zero => simp only [List.getElem?_cons_zero, Option.some.injEq] at e; subst e; exact ql _ _ h
  | succ j => simp at e
theorem qgp (ts : List (Int × List Nat × Int)) (k : Nat) (ht : okT ts) (hk : k ≤ 100000000) (hl : ts.length ≤ 2000000) :
    Am.Fn Try.prog 55 [.slc 0 0 ts.length false 0, .int .i64 k] [.vec 18 (qn ts)] (fun v H' => v = .int .i64 ((k + 18 * ts.length : Nat) : Int) ∧ H' = [.vec 18 (qn (marks ts.length k))]) := by
  refine Am.Fn.ofB Ke mixed qgs (by simp) (qh8 (qb _)) ?_
  simp (maxSteps := 3000000) only [Gp, qa, zZ, ↓qm, ↓reduceIte, reduceCtorEq, nA, nM, nS, nE, nL, nD]; try simp only [qa, zY]
  refine WA.jj Ke (fun s => ∃ i : Nat, ∃ us, s = ⟨[(5, .int .i64 i), (1, .int .i64 ((k + 18 * i : Nat) : Int)), (0, .slc 0 0 ts.length false 0)], [.vec 18 (qn us)]⟩ ∧ i ≤ ts.length ∧ us = marks i k ++ ts.drop i)
    (fun s => match get s.env 5 with | .int _ x => ts.length - x.toNat | _ => 0) ⟨_, q6.qz [5, 1, 0], 0, ts, rfl, by omega, by simp [marks]⟩ ?_
  rintro s ⟨i, us, rfl, hi, hus⟩
  have hul : us.length = ts.length := by rw [hus, List.length_append, zz, List.length_drop]; omega
  have huo : okT us := by
    rw [hus]; intro t h
    rcases List.mem_append.1 h with h | h
    · exact Wf _ _ t h
    · exact ht t (List.mem_of_mem_drop h)
  have hutl := qt huo
  have hw : qv .i64 ((i : Int) + 1) = ((i + 1 : Nat) : Int) := by rw [wrap64 (by omega) (by omega)]; rfl
  have hw1 : qv .i64 (((k + 18 * i : Nat) : Int) + 1) = ((k + 18 * i + 1 : Nat) : Int) := by rw [wrap64 (by omega) (by omega)]; rfl
  by_cases hlt : i < ts.length
  · have h0 : (qn us).set (i * 18) (.int .i64 ((k + 18 * i : Nat) : Int)) = qn (us.set i (((k + 18 * i : Nat) : Int), us[i].2)) := by
      have := qey (j := 0) huo (by omega) (by decide) (qt7 (t := us[i]) (x := ((k + 18 * i : Nat) : Int)))
      exact this
    simp (maxSteps := 3000000) only [Zp, hw, hw1, hutl, h0, rd, wrt, wrl, AO.yu, List.getElem?_cons_zero, List.set_cons_zero, qa, zZ, ↓qm, ↓reduceIte, reduceCtorEq, nA, nM, nS, nE, nL, nD]; try simp only [qa, zY]
    refine ⟨fun _ => ⟨⟨⟨by omega, by omega⟩, by omega⟩, ⟨by omega, rfl⟩, ?_⟩, fun h => absurd (by omega) h⟩
    have hlu : i < us.length := by omega
    generalize hm : us[i].2.1 = m at *
    generalize hf : us[i].2.2 = f at *
    have hmo : okD m := by rw [← hm]; exact huo _ (List.getElem_mem hlu)
    have huf : (us.set i (((k + 18 * i : Nat) : Int), us[i].2)) = us.set i (((k + 18 * i : Nat) : Int), m, f) := by rw [← hm, ← hf]
    rw [huf]
    have hV : ∀ x : Int × List Nat × Int, okD x.2.1 → okT (us.set i x) := fun x hx t h => by
      rcases List.mem_or_eq_of_mem_set h with h | h
      · exact huo t h
      · rw [h]; exact hx
    refine WA.jj Ke (fun s => ∃ j : Nat, s = ⟨[(6, .int .i64 j), (5, .int .i64 i), (1, .int .i64 ((k + 18 * i + 1 + j : Nat) : Int)), (0, .slc 0 0 ts.length false 0)], [.vec 18 (qn (us.set i (((k + 18 * i : Nat) : Int), part (k + 18 * i + 1) m j, f)))]⟩ ∧ j ≤ 16)
      (fun s => match get s.env 6 with | .int _ k => (100 - k).toNat | _ => 0) ⟨_, q6.qz [6, 5, 1, 0], 0, ?_, by omega⟩ ?_
    · simp only [qq9 hmo.1, zL, ↓reduceIte, reduceCtorEq, nE, nA]
      rfl
    rintro s ⟨j, rfl, hj⟩
    have hwj : qv .i64 ((j : Int) + 1) = ((j + 1 : Nat) : Int) := by rw [wrap64 (by omega) (by omega)]; rfl
    have hwq : qv .i64 (((k + 18 * i + 1 + j : Nat) : Int) + 1) = ((k + 18 * i + 1 + j + 1 : Nat) : Int) := by rw [wrap64 (by omega) (by omega)]; rfl
    have hVo := hV (((k + 18 * i : Nat) : Int), part (k + 18 * i + 1) m j, f) (qd8 hmo)
    have hVl := qt hVo
    rw [List.length_set] at hVl
    by_cases hj16 : j < 16
    · have hst : (qn (us.set i (((k + 18 * i : Nat) : Int), part (k + 18 * i + 1) m j, f))).set (i * 18 + 1 + j) (.int .u8 (((k + 18 * i + 1 + j) % 256 : Nat) : Int)) = qn (us.set i (((k + 18 * i : Nat) : Int), part (k + 18 * i + 1) m (j + 1), f)) := by
        have h1 := qey (i := i) (j := 1 + j) (v := .int .u8 (((k + 18 * i + 1 + j) % 256 : Nat) : Int)) (t' := (((k + 18 * i : Nat) : Int), (part (k + 18 * i + 1) m j).set j ((k + 18 * i + 1 + j) % 256), f)) hVo (by rw [List.length_set]; omega) (by omega) (by
          rw [List.getElem_set_self]; exact qv3 (qd8 hmo) hj16)
        rw [List.set_set, qq0 hj16] at h1
        rw [show i * 18 + 1 + j = i * 18 + (1 + j) from by omega]; exact h1
      simp (maxSteps := 3000000) only [Zh, hwj, hwq, hVl, qhz, hst, rd, wrt, wrl, AO.yu, List.getElem?_cons_zero, List.set_cons_zero, qa, zZ, ↓qm, ↓reduceIte, reduceCtorEq, nA, nM, nS, nE, nL, nD]; try simp only [qa, zY]
      refine ⟨fun _ => ⟨⟨⟨by omega, by omega⟩, by omega⟩, ⟨by omega, by omega⟩, ⟨by omega, rfl⟩, _, q6.qz [6, 5, 1, 0], ⟨j + 1, ?_, by omega⟩, ?_⟩, fun h => absurd (by omega) h⟩
      · simp only [zL, ↓reduceIte, reduceCtorEq, nE, nA]
        rfl
      · simp only [zL, ↓reduceIte, reduceCtorEq, nE, nA]; omega
    · have hj' : j = 16 := by omega
      subst hj'
      have hst : (qn (us.set i (((k + 18 * i : Nat) : Int), part (k + 18 * i + 1) m 16, f))).set (i * 18 + 17) (.int .i64 ((k + 18 * i + 1 + 16 : Nat) : Int)) = qn (us.set i (qfw (k + 18 * i))) := by
        have h1 := qey (i := i) (j := 17) (v := .int .i64 ((k + 18 * i + 1 + 16 : Nat) : Int)) (t' := (((k + 18 * i : Nat) : Int), part (k + 18 * i + 1) m 16, ((k + 18 * i + 1 + 16 : Nat) : Int))) hVo (by rw [List.length_set]; omega) (by omega) (by
          rw [List.getElem_set_self]; exact qha (qd8 hmo))
        rw [List.set_set, qtt] at h1
        exact h1
      simp (maxSteps := 3000000) only [Zh, Wo, V4, hw, hwj, hwq, hVl, hst, rd, wrt, wrl, AO.yu, List.getElem?_cons_zero, List.set_cons_zero, qa, zZ, ↓qm, ↓reduceIte, reduceCtorEq, nA, nM, nS, nE, nL, nD]; try simp only [qa, zY]
      refine ⟨fun h => absurd h (by omega), fun _ => ⟨⟨⟨by omega, by omega⟩, by omega⟩, ⟨by omega, rfl⟩, _, q6.qz [5, 1, 0], ⟨i + 1, us.set i (qfw (k + 18 * i)), ?_, by omega, ?_⟩, ?_⟩⟩
      · simp only [zL, ↓reduceIte, reduceCtorEq, nE, nA]
        rw [show k + 18 * i + 1 + 16 + 1 = k + 18 * (i + 1) from by omega]
      · rw [hus]
        refine List.ext_getElem (by simp [zz]; omega) fun x hx1 hx2 => ?_
        simp only [List.getElem_set]
        by_cases e : i = x
        · subst e
          rw [if_pos rfl, List.getElem_append_left (by rw [zz]; omega), Bj (by omega)]
        · rw [if_neg e]
          by_cases h2 : x < i
          · rw [List.getElem_append_left (by rw [zz]; omega), List.getElem_append_left (by rw [zz]; omega), Bj (by omega), Bj (by omega)]
          · rw [List.getElem_append_right (by rw [zz]; omega), List.getElem_append_right (by rw [zz]; omega)]
            simp only [zz, List.getElem_drop]
            congr 1; omega
      · simp only [Int.toNat_natCast, zL, ↓reduceIte, reduceCtorEq, nE, nA]; omega
  · have hi' : i = ts.length := by omega
    subst hi'
    simp (maxSteps := 3000000) only [Zp, Wt, hw, hw1, rd, wrt, wrl, AO.yu, List.getElem?_cons_zero, List.set_cons_zero, qa, zZ, ↓qm, ↓reduceIte, reduceCtorEq, nA, nM, nS, nE, nL, nD]; try simp only [qa, zY]
    refine ⟨fun h => absurd h (by omega), fun _ => ?_⟩
    refine Ret.jb [0] ⟨⟨Nat.le_refl 1, rfl, by decide⟩, ?_⟩ (rs := [.int .i64 ((k + 18 * ts.length : Nat) : Int)]) rfl rfl (by simp [zy]) ?_ ⟨?_, ?_⟩
    · simp only [qe _ _ (qb _), zK, ↓reduceIte, reduceCtorEq, nE, nB, nA]
    · intro j l; cases j <;> simp [q9, AO.ren]
    · simp only [zy]
      simp only [zL, ↓reduceIte, reduceCtorEq, nE, nA]
    · simp only [qc _ _ (qb _), zL, ↓reduceIte, reduceCtorEq, nE, nA]
      rw [hus, List.drop_length, List.append_nil]
theorem qgn (n k : Nat) (hk : k ≤ 100000000) (hl : n ≤ 2000000) :
    Am.Fn Try.prog 67 [.slc 0 0 n false 0, .int .i64 k] [.ro (qn (marks n k))] (fun v H' => v = .int .i64 ((k + 18 * n : Nat) : Int) ∧ H' = [.ro (qn (marks n k))]) := by
  refine Am.Fn.xt (R := fun v => v = _) Ke mixed qgh (by simp) (wi (qb _)) ?_
  simp (maxSteps := 3000000) only [Gh, qa, zZ, ↓qm, ↓reduceIte, reduceCtorEq, nA, nM, nS, nE, nL, nD]; try simp only [qa, zY]
  refine WA.jj Ke (fun s => ∃ i : Nat, s = ⟨[(5, .int .i64 i), (1, .int .i64 ((k + 18 * i : Nat) : Int)), (0, .slc 0 0 n false 0)], [.ro (qn (marks n k))]⟩ ∧ i ≤ n)
    (fun s => match get s.env 5 with | .int _ x => n - x.toNat | _ => 0) ⟨_, q6.qz [5, 1, 0], 0, rfl, by omega⟩ ?_
  rintro s ⟨i, rfl, hi⟩
  have hml := qt (Wf n k)
  rw [zz] at hml
  have hw : qv .i64 ((i : Int) + 1) = ((i + 1 : Nat) : Int) := by rw [wrap64 (by omega) (by omega)]; rfl
  have hw1 : qv .i64 (((k + 18 * i : Nat) : Int) + 1) = ((k + 18 * i + 1 : Nat) : Int) := by rw [wrap64 (by omega) (by omega)]; rfl
  by_cases hlt : i < n
  · have hcell : ∀ j, j < 18 → (qn (marks n k))[i * 18 + j]? = (trm (qfw (k + 18 * i)))[j]? := fun j hj => by
      have h1 := ki (Wf n k) (i := i) (by rw [zz]; exact hlt)
      rw [Bj hlt] at h1
      rw [← h1, List.getElem?_take_of_lt hj, List.getElem?_drop]
    have hc0 : (qn (marks n k))[i * 18]? = some (.int .i64 ((k + 18 * i : Nat) : Int)) := hcell 0 (by decide)
    simp (maxSteps := 3000000) only [Zq, hw, hw1, hml, hc0, rd, List.getElem?_cons_zero, qa, zZ, ↓qm, ↓reduceIte, reduceCtorEq, nA, nM, nS, nE, nL, nD]; try simp only [qa, zY]
    refine ⟨fun _ => ⟨⟨⟨by omega, by omega⟩, by omega⟩, ?_⟩, fun h => absurd (by omega) h⟩
    refine WA.jj Ke (fun s => ∃ j : Nat, s = ⟨[(6, .int .i64 j), (5, .int .i64 i), (1, .int .i64 ((k + 18 * i + 1 + j : Nat) : Int)), (0, .slc 0 0 n false 0)], [.ro (qn (marks n k))]⟩ ∧ j ≤ 16)
      (fun s => match get s.env 6 with | .int _ k => (100 - k).toNat | _ => 0) ⟨_, q6.qz [6, 5, 1, 0], 0, rfl, by omega⟩ ?_
    rintro s ⟨j, rfl, hj⟩
    have hwj : qv .i64 ((j : Int) + 1) = ((j + 1 : Nat) : Int) := by rw [wrap64 (by omega) (by omega)]; rfl
    have hwq : qv .i64 (((k + 18 * i + 1 + j : Nat) : Int) + 1) = ((k + 18 * i + 1 + j + 1 : Nat) : Int) := by rw [wrap64 (by omega) (by omega)]; rfl
    by_cases hj16 : j < 16
    · have hcj : (qn (marks n k))[i * 18 + 1 + j]? = some (.int .u8 (((k + 18 * i + 1 + j) % 256 : Nat) : Int)) := by
        have hmk : (qfw (k + 18 * i)).2.1.length = 16 := (qeh _).1
        rw [show i * 18 + 1 + j = i * 18 + (1 + j) from by omega, hcell _ (by omega), trm, List.getElem?_append_left (by rw [qd, hmk]; omega)]
        rw [X1 (by rw [hmk]; exact hj16)]
        rw [show (qfw (k + 18 * i)).2.1 = Kv (k + 18 * i + 1) from rfl, qqw hj16]
      simp (maxSteps := 3000000) only [Zi, hwj, hwq, hml, hcj, qhz, rd, List.getElem?_cons_zero, qa, zZ, ↓qm, ↓reduceIte, reduceCtorEq, nA, nM, nS, nE, nL, nD]; try simp only [qa, zY]
      refine ⟨fun _ => ⟨⟨⟨by omega, by omega⟩, by omega⟩, ⟨by omega, by omega⟩, _, q6.qz [6, 5, 1, 0], ⟨j + 1, ?_, by omega⟩, ?_⟩, fun h => absurd (by omega) h⟩
      · simp only [zL, ↓reduceIte, reduceCtorEq, nE, nA]
        rfl
      · simp only [zL, ↓reduceIte, reduceCtorEq, nE, nA]; omega
    · have hj' : j = 16 := by omega
      subst hj'
      have hcf : (qn (marks n k))[i * 18 + 17]? = some (.int .i64 ((k + 18 * i + 1 + 16 : Nat) : Int)) := by
        rw [hcell 17 (by decide), bz (qeh _)]; rfl
      simp (maxSteps := 3000000) only [Zi, Vy, We, hw, hwj, hwq, hml, hcf, rd, List.getElem?_cons_zero, qa, zZ, ↓qm, ↓reduceIte, reduceCtorEq, nA, nM, nS, nE, nL, nD]; try simp only [qa, zY]
      refine ⟨fun h => absurd h (by omega), fun _ => ⟨⟨⟨by omega, by omega⟩, by omega⟩, _, q6.qz [5, 1, 0], ⟨i + 1, ?_, by omega⟩, ?_⟩⟩
      · simp only [zL, ↓reduceIte, reduceCtorEq, nE, nA]
        rw [show k + 18 * i + 1 + 16 + 1 = k + 18 * (i + 1) from by omega]
      · simp only [Int.toNat_natCast, zL, ↓reduceIte, reduceCtorEq, nE, nA]; omega
  · have hi' : i = n := by omega
    subst hi'
    simp (maxSteps := 3000000) only [Zq, Wu, hw, hw1, rd, List.getElem?_cons_zero, qa, zZ, ↓qm, ↓reduceIte, reduceCtorEq, nA, nM, nS, nE, nL, nD]; try simp only [qa, zY]
    exact ⟨fun h => absurd h (by omega), fun _ => ⟨_, rfl⟩⟩
def one (b : Nat) : Ren := fun j => if j = 0 then some (b, 0) else none
theorem Callee.wr1 {f : FuncId} {g : BE} (h : ∀ hp xs v hp', g hp xs = some (v, hp') → ∃ (sz : Nat) (l l' : List AV) (b : Nat) (ys : List AV), hp[b]? = some (.vec sz l) ∧ hp' = hp.set b (.vec sz l') ∧
    AV.zb l = true ∧ AV.zb l' = true ∧ xs = AV.zk (one b) ys ∧ xs.all vj = true ∧ AV.qx 1 ys ∧ v.zm = true ∧ Am.Fn Try.prog f ys [.vec sz l] fun v' H' => v' = v ∧ H' = [.vec sz l']) : Am.Callee Try.prog f g := by
  intro hp xs v hp' he
  obtain ⟨sz, l, l', b, ys, hb, rfl, h3, h3', h4, h5, h6, h7, h8⟩ := h hp xs v hp' he
  refine ⟨[.vec sz l], ys, _, one b, [(b, 0)], h8, h4, h5, ⟨fun j hj => ?_, rfl, fun j o c hj hc => ?_, fun j k bj bk oj ok hj hk hoj hok hw hl hjk => ?_⟩, ?_, h6, ?_⟩
  · match j, hj with
    | 0, _ => rfl
  · match j, hj, hc with
    | 0, hj, hc =>
      cases hj; cases hc
      exact ⟨rfl, by simp only [AO.ren, qc _ _ h3]; exact hb⟩
    | j + 1, hj, hc => simp at hj
  · match j, k, hoj, hok with
    | 0, 0, _, _ => rfl
    | 0, k + 1, _, hok => simp at hok
    | j + 1, _, hoj, _ => simp at hoj
  · intro j o hj
    match j, hj with
    | 0, hj => cases hj; exact ql _ _ h3
    | j + 1, hj => simp at hj
  · rintro v' H' ⟨rfl, rfl⟩
    refine ⟨Z8 _ _ h7, ?_⟩
    simp only [after, upd, AO.wr, if_true, AO.ren, qc _ _ h3', List.length_cons, List.length_nil, List.drop_succ_cons, List.drop_nil, List.map_nil, List.append_nil]
theorem Callee.ro1 {f : FuncId} {g : BE} (h : ∀ hp xs v hp', g hp xs = some (v, hp') → ∃ (l : List AV) (b : Nat) (ys : List AV), hp' = hp ∧ (∃ L, rd hp b = some L ∧ l.length ≤ L.length ∧ L.take l.length = l) ∧
    AV.zb l = true ∧ xs = AV.zk (one b) ys ∧ xs.all vj = true ∧ AV.qx 1 ys ∧ v.zm = true ∧ Am.Fn Try.prog f ys [.ro l] fun v' H' => v' = v ∧ H' = [.ro l]) : Am.Callee Try.prog f g := by
  intro hp xs v hp' he
  obtain ⟨l, b, ys, rfl, ⟨L, hL, h1, h2⟩, h3, h4, h5, h6, h7, h8⟩ := h hp xs v hp' he
  refine ⟨[.ro l], ys, _, one b, [(b, 0)], h8, h4, h5, ⟨fun j hj => ?_, rfl, fun j o c hj hb => ?_, fun j k bj bk oj ok hj hk hoj hok hw => ?_⟩, ?_, h6, ?_⟩
  · match j, hj with
    | 0, _ => rfl
  · match j, hj, hb with
    | 0, hj, hb =>
      cases hj; cases hb
      exact ⟨L, hL, by omega, by rw [List.drop_zero, qc _ _ h3]; exact h2⟩
    | j + 1, hj, hb => simp at hj
  · match j, hoj with
    | 0, hoj => cases hoj; cases hw
    | j + 1, hoj => simp at hoj
  · intro j o hj
    match j, hj with
    | 0, hj => cases hj; exact ql _ _ h3
    | j + 1, hj => simp at hj
  · rintro v' H' ⟨rfl, rfl⟩
    exact ⟨Z8 _ _ h7, by simp [after, upd, AO.wr]⟩
def Qd : BE := fun hp xs => match xs with
  | [.slc b 0 n false 0, .int .i64 k] => match hp[b]? with
    | some (.vec 18 l) => match Jy n l with
      | some ts => chk (l.length = n * 18 ∧ 0 ≤ k ∧ k ≤ 100000000 ∧ n ≤ 2000000) (some (.int .i64 ((k.toNat + 18 * n : Nat) : Int), hp.set b (.vec 18 (qn (marks n k.toNat)))))
      | none => none
    | _ => none
  | _ => none
theorem qgg : Am.Callee Try.prog 55 Qd := Callee.wr1 fun hp xs v hp' he => by
  unfold Qd at he
  split at he
  · rename_i b n k
    split at he
    · rename_i l hb
      split at he
      · rename_i ts hts
        obtain ⟨h0, he⟩ := qi he
        simp only [Option.some.injEq, Prod.mk.injEq] at he
        obtain ⟨rfl, rfl⟩ := he
        obtain ⟨e1, e2, e3, e4⟩ := j0 hts
        have hl : l = qn ts := by rw [← e3, List.take_of_length_le (by omega)]
        subst hl
        obtain ⟨k, rfl⟩ : ∃ j : Nat, k = j := ⟨k.toNat, by omega⟩
        rw [Int.toNat_natCast]
        refine ⟨18, qn ts, _, b, [.slc 0 0 ts.length false 0, .int .i64 k], hb, rfl, qb _, qb _, ?_, rfl, ⟨by simp [AV.under], trivial, trivial⟩, rfl, ?_⟩
        · simp only [AV.zk, AV.ren, one, if_true, e1, Nat.zero_add]
        · have := qgp ts k e2 (by omega) (by omega)
          rw [e1] at this ⊢
          exact this
      · cases he
    · cases he
  · cases he
def Qf : BE := fun hp xs => match xs with
  | [.slc b 0 n false 0, .int .i64 k] => match rd hp b with
    | some L => match Jy n L with
      | some ts => chk (ts = marks n k.toNat ∧ 0 ≤ k ∧ k ≤ 100000000 ∧ n ≤ 2000000) (some (.int .i64 ((k.toNat + 18 * n : Nat) : Int), hp))
      | none => none
    | _ => none
  | _ => none
theorem qf7 : Am.Callee Try.prog 67 Qf := Callee.ro1 fun hp xs v hp' he => by
  unfold Qf at he
  split at he
  · rename_i b n k
    split at he
    · rename_i L hL
      split at he
      · rename_i ts hts
        obtain ⟨h0, he⟩ := qi he
        simp only [Option.some.injEq, Prod.mk.injEq] at he
        obtain ⟨rfl, rfl⟩ := he
        obtain ⟨e1, e2, e3, e4⟩ := j0 hts
        obtain ⟨k, rfl⟩ : ∃ j : Nat, k = j := ⟨k.toNat, by omega⟩
        rw [Int.toNat_natCast] at h0 ⊢
        obtain ⟨rfl, h0⟩ := h0
        have g1 := qt e2
        refine ⟨qn (marks n k), b, [.slc 0 0 n false 0, .int .i64 k], rfl, ⟨L, hL, by rw [g1, zz]; omega, by rw [g1, zz]; exact e3⟩, qb _, ?_, rfl, ⟨by simp [AV.under], trivial, trivial⟩, rfl, qgn n k (by omega) (by omega)⟩
        simp only [AV.zk, AV.ren, one, if_true, Nat.zero_add]
      · cases he
    · cases he
  · cases he
def B16 : zq := ((B15.put 55 (Qd)).put 67 (Qf))
theorem qn7 : qy Try.prog B16 := ((Ke.put (qgg)).put (qf7))
theorem Jf : B16 55 = some (Qd) := rfl
theorem J1 : B16 67 = some (Qf) := rfl
theorem qdk (p c n : Int) (ts : List (Int × List Nat × Int)) (k : Nat) (ht : okT ts) (hk : k ≤ 100000000) (hl : ts.length ≤ 2000000) :
    Am.Fn Try.prog 20 [elemV p c n 0 ts.length, .int .i64 k] [.vec 18 (qn ts)] (fun v H' => v = .int .i64 ((k + 18 * ts.length : Nat) : Int) ∧ H' = [.vec 18 (qn (marks ts.length k))]) := by
  refine Am.Fn.ofB qn7 mixed qdo (by simp) (qh8 (qb _)) ?_
  have h1 := qt ht
  simp (maxSteps := 3000000) only [Yn, elemV, Jf, J1, Qf, Qd, jm ht, h1, rd, List.getElem?_cons_zero, List.getElem?_cons_succ, qa, zZ, ↓qm, ↓reduceIte, reduceCtorEq, nA, nM, nS, nE, nL, nD]; try simp only [qa, zY]
  refine ⟨⟨by omega, by omega, hl⟩, ?_⟩
  refine Ret.jb [0] ⟨⟨Nat.le_refl 1, rfl, by decide⟩, ?_⟩ (rs := [.int .i64 ((k + 18 * ts.length : Nat) : Int)]) rfl rfl (by simp [zy]) ?_ ⟨?_, ?_⟩
  · simp only [qe _ _ (qb _), zK, ↓reduceIte, reduceCtorEq, nE, nB, nA]
  · intro j l; cases j <;> simp [q9, AO.ren]
  · simp only [zy]
    simp only [zL, ↓reduceIte, reduceCtorEq, nE, nA]
  · simp only [qc _ _ (qb _), zL, ↓reduceIte, reduceCtorEq, nE, nA]
theorem qdj (p c m : Int) (n k : Nat) (hk : k ≤ 100000000) (hl : n ≤ 2000000) :
    Am.Fn Try.prog 26 [elemV p c m 0 n, .int .i64 k] [.ro (qn (marks n k))] (fun v H' => v = .int .i64 ((k + 18 * n : Nat) : Int) ∧ H' = [.ro (qn (marks n k))]) := by
  refine Am.Fn.xt (R := fun v => v = _) qn7 mixed qdp (by simp) (wi (qb _)) ?_
  have h1 : Jy n (qn (marks n k)) = some (marks n k) := by have := jm (Wf n k); rwa [zz] at this
  simp (maxSteps := 3000000) only [Y0, elemV, Jf, J1, Qf, Qd, h1, rd, List.getElem?_cons_zero, List.getElem?_cons_succ, qa, zZ, ↓qm, ↓reduceIte, reduceCtorEq, nA, nM, nS, nE, nL, nD]; try simp only [qa, zY]
  exact ⟨⟨by omega, by omega, hl⟩, fun h => absurd h (by omega), fun _ => ⟨_, rfl⟩⟩
def vy : BE := fun hp xs => match xs with
  | [.agg [.int .i64 p, .int .i64 c, .int .i64 m, .slc b 0 n false 0], .int .i64 k] => match hp[b]? with
    | some (.vec 18 l) => match Jy n l with
      | some ts => chk (l.length = n * 18 ∧ 0 ≤ k ∧ k ≤ 100000000 ∧ n ≤ 2000000) (some (.int .i64 ((k.toNat + 18 * n : Nat) : Int), hp.set b (.vec 18 (qn (marks n k.toNat)))))
      | none => none
    | _ => none
  | _ => none
theorem qdh : Am.Callee Try.prog 20 vy := Callee.wr1 fun hp xs v hp' he => by
  unfold vy at he
  split at he
  · rename_i p c m b n k
    split at he
    · rename_i l hb
      split at he
      · rename_i ts hts
        obtain ⟨h0, he⟩ := qi he
        simp only [Option.some.injEq, Prod.mk.injEq] at he
        obtain ⟨rfl, rfl⟩ := he
        obtain ⟨e1, e2, e3, e4⟩ := j0 hts
        have hl : l = qn ts := by rw [← e3, List.take_of_length_le (by omega)]
        subst hl
        obtain ⟨k, rfl⟩ : ∃ j : Nat, k = j := ⟨k.toNat, by omega⟩
        rw [Int.toNat_natCast]
        refine ⟨18, qn ts, _, b, [elemV p c m 0 ts.length, .int .i64 k], hb, rfl, qb _, qb _, ?_, rfl, ⟨⟨trivial, trivial, trivial, by simp [AV.under], trivial⟩, trivial, trivial⟩, rfl, ?_⟩
        · simp only [elemV, AV.zk, AV.ren, one, if_true, e1, Nat.zero_add]
        · have := qdk p c m ts k e2 (by omega) (by omega)
          rw [e1] at this ⊢
          exact this
      · cases he
    · cases he
  · cases he
def wa : BE := fun hp xs => match xs with
  | [.agg [.int .i64 p, .int .i64 c, .int .i64 m, .slc b 0 n false 0], .int .i64 k] => match rd hp b with
    | some L => match Jy n L with
      | some ts => chk (ts = marks n k.toNat ∧ 0 ≤ k ∧ k ≤ 100000000 ∧ n ≤ 2000000) (some (.int .i64 ((k.toNat + 18 * n : Nat) : Int), hp))
      | none => none
    | _ => none
  | _ => none
theorem qdg : Am.Callee Try.prog 26 wa := Callee.ro1 fun hp xs v hp' he => by
  unfold wa at he
  split at he
  · rename_i p c m b n k
    split at he
    · rename_i L hL
      split at he
      · rename_i ts hts
        obtain ⟨h0, he⟩ := qi he
        simp only [Option.some.injEq, Prod.mk.injEq] at he
        obtain ⟨rfl, rfl⟩ := he
        obtain ⟨e1, e2, e3, e4⟩ := j0 hts
        obtain ⟨k, rfl⟩ : ∃ j : Nat, k = j := ⟨k.toNat, by omega⟩
        rw [Int.toNat_natCast] at h0 ⊢
        obtain ⟨rfl, h0⟩ := h0
        have g1 := qt e2
        refine ⟨qn (marks n k), b, [elemV p c m 0 n, .int .i64 k], rfl, ⟨L, hL, by rw [g1, zz]; omega, by rw [g1, zz]; exact e3⟩, qb _, ?_, rfl, ⟨⟨trivial, trivial, trivial, by simp [AV.under], trivial⟩, trivial, trivial⟩, rfl, qdj p c m n k (by omega) (by omega)⟩
        simp only [elemV, AV.zk, AV.ren, one, if_true, Nat.zero_add]
      · cases he
    · cases he
  · cases he
def B17 : zq := ((B16.put 20 (vy)).put 26 (wa))
theorem qz7 : qy Try.prog B17 := ((qn7.put (qdh)).put (qdg))
def Gt : AC := .seq (.region [o0 1 (.box (.t 0)),oB 2 false]) (.seq (.region [oN 3 17 1,oC 4 99 [.t 3],o0 5 (.un .not (.t 4)),oM 2 5]) .ret)
theorem qgb : zh Try.prog 111 = some ⟨6, Gt, [.slot 2]⟩ := by kernel_rfl
def jr : AC := .seq (.region [oP 9 .lss 8 7]) (.seq (.cond 9 .skip (.exit 0)) (.seq (.block 1 (.seq (.region [oM 10 8,oM 5 10]) (.seq (.region [oM 11 1,oM 12 0,oM 13 5,oX 14 17 12 13,oN 15 17 14,⟨some 16,none,.call (.t 11) [.t 15]⟩]) (.cond 16 (.seq (.region [oM 17 5,oM 4 17]) .ret) .skip)))) (.region [oK 18 .add 8 1,oM 8 18])))
def wu : AC := .seq (.region [oI 4 (-1)]) .ret
def ug : AC := .seq (.region [oI 4 0]) (.seq (.seq (.region [oM 6 0,o0 7 (.len .slc (.t 6)),oI 8 0]) (.block 0 (.loop jr))) wu)
theorem Zc : zh Try.prog 136 = some ⟨19, ug, [.slot 4]⟩ := by kernel_rfl
def wq : AC := .seq (.region [oB 4 false]) (.seq (.region [oM 5 0,oM 6 1,oC 7 136 [.t 5,.t 6],oK 8 .geq 7 0,oM 4 8]) .ret)
theorem Qo : zh Try.prog 110 = some ⟨9, wq, [.slot 4]⟩ := by kernel_rfl
def qci : AC := .seq (.region [oI 2 0]) (.seq (.seq (.region [oM 3 0,⟨some 4,none,.call (.c (.fn 110 [] [])) [.t 3,(.c (.fn 111 [] []))]⟩]) (.cond 4 (.seq (.region [oI 2 1]) .ret) .skip)) (.seq (.region [oI 2 0]) .ret))
theorem qlj : zh Try.prog 63 = some ⟨5, qci, [.slot 2]⟩ := by kernel_rfl
theorem qe0 (n : Int) (m : List Nat) (hm : okD m) : Am.Fn Try.prog 99 [.agg (dia n m)] [] (fun v H' => v = .bool (isS n.toNat m) ∧ H' = []) := by
  rw [Kh _ _ hm.1]; exact qf3 n m hm
theorem qgy : Am.Callee Try.prog 99 (qk js) :=
  Am.Callee.plain fun xs v he => by
    unfold js at he
    split at he
    · split at he
      · rename_i n m hd
        cases he
        obtain ⟨rfl, hm⟩ := zi hd
        exact ⟨by simp only [AV.zb, AV.zm, qf, Bool.and_self], rfl, qe0 n m hm⟩
      · cases he
    · cases he
def B18 : zq := (B17.put 99 (qk js))
theorem qsy : qy Try.prog B18 := (qz7.put (qgy))
theorem G1 : B18 99 = some (qk js) := rfl
theorem qgi (n : Int) (m : List Nat) (hm : okD m) : Am.Fn Try.prog 111 [.agg (dia n m)] [] (fun v H' => v = .bool (!isS n.toNat m) ∧ H' = []) := by
  refine Am.Fn.xt (R := fun v => v = _) qsy mixed qgb (by simp) (by simp) ?_
  have hml := hm.1
  simp (maxSteps := 3000000) only [Gt, G1, js, vd hml, hml, qd, qu hm, rd, List.getElem?_cons_zero, List.getElem?_cons_succ, qa, zZ, ↓qm, ↓reduceIte, reduceCtorEq, nA, nM, nS, nE, nL, nD]; try simp only [qa, zY]
def qab : List AV → Option AV
  | [.agg l] => match ye l with
    | some (n, m) => some (.bool (!isS n.toNat m))
    | none => none
  | _ => none
theorem qg3 : Am.Callee Try.prog 111 (qk qab) :=
  Am.Callee.plain fun xs v he => by
    unfold qab at he
    split at he
    · split at he
      · rename_i n m hd
        cases he
        obtain ⟨rfl, hm⟩ := zi hd
        exact ⟨by simp only [AV.zb, AV.zm, qf, Bool.and_self], rfl, qgi n m hm⟩
      · cases he
    · cases he
def B19 : zq := (B18.put 111 (qk qab))
theorem qnl : qy Try.prog B19 := (qsy.put (qg3))
theorem Km : B19 99 = some (qk js) := rfl
theorem Ko : B19 111 = some (qk qab) := rfl
def dis (ds : List (Int × List Nat)) : List AV := ds.flatMap fun d => dia d.1 d.2
def qmc (ds : List (Int × List Nat)) : Prop := ∀ d, d ∈ ds → okD d.2
def bad (d : Int × List Nat) : Bool := !isS d.1.toNat d.2
theorem Zl : ∀ (ds : List (Int × List Nat)), AV.zb (dis ds) = true
  | [] => rfl
  | d :: ds => by simp only [dis, List.flatMap_cons]; exact Bq _ _ (qf _ _) (Zl ds)
theorem W0 : ∀ {ds : List (Int × List Nat)}, qmc ds → (dis ds).length = ds.length * 17
  | [], _ => rfl
  | d :: ds, h => by
    have h0 := h d (by simp)
    have := W0 (ds := ds) fun u hu => h u (List.mem_cons_of_mem _ hu)
    unfold dis at this
    simp only [dis, List.flatMap_cons, List.length_append, qd, h0.1, List.length_cons, this]; omega
theorem qpz : ∀ {ds : List (Int × List Nat)} {i : Nat}, qmc ds → (h : i < ds.length) → List.take 17 (List.drop (i * 17) (dis ds)) = dia ds[i].1 ds[i].2
  | d :: ds, 0, h, hi => by
    have h0 := h d (by simp)
    simp only [dis, List.flatMap_cons, Nat.zero_mul, List.drop_zero, List.getElem_cons_zero]
    rw [List.take_append_of_le_length (by rw [qd, h0.1]; exact Nat.le_refl _), qp h0.1]
  | d :: ds, i + 1, h, hi => by
    have h0 := h d (by simp)
    have h1 := qpz (ds := ds) (i := i) (fun u hu => h u (List.mem_cons_of_mem _ hu)) (by simpa using hi)
    simp only [dis, List.flatMap_cons, List.getElem_cons_succ] at h1 ⊢
    rw [List.drop_append, List.drop_of_length_le (by rw [qd, h0.1]; omega), List.nil_append, qd, h0.1, ← h1]
    congr 2; omega
theorem qkr (ds : List (Int × List Nat)) (ex : Bool) (c : Nat) (hd : qmc ds) (hl : ds.length ≤ 1000000) :
    Am.Fn Try.prog 136 [.slc 0 0 ds.length ex c, .fn 111 [] []] [.ro (dis ds)] (fun v H' => v = .int .i64 (if ds.any bad then (ds.findIdx bad : Nat) else -1) ∧ H' = [.ro (dis ds)]) := by
  refine Am.Fn.xt (R := fun v => v = _) qnl mixed Zc (by simp) (wi (Zl _)) ?_
  simp (maxSteps := 3000000) only [ug, qa, zZ, ↓qm, ↓reduceIte, reduceCtorEq, nA, nM, nS, nE, nL, nD]; try simp only [qa, zY]
  refine WA.jj qnl (fun s => ∃ k : Nat, s = ⟨[(8, .int .i64 k), (7, .int .i64 ds.length), (0, .slc 0 0 ds.length ex c), (1, .fn 111 [] [])], [.ro (dis ds)]⟩ ∧ k ≤ ds.length ∧ ∀ i, (h : i < k) → ∀ h2, bad (ds[i]'h2) = false)
    (fun s => match get s.env 8 with | .int _ x => ds.length - x.toNat | _ => 0) ⟨_, q6.qz [8, 7, 0, 1], 0, rfl, by omega, by intros; omega⟩ ?_
  rintro s ⟨k, rfl, hk, hc⟩
  have hw : qv .i64 ((k : Int) + 1) = ((k + 1 : Nat) : Int) := by rw [wrap64 (by omega) (by omega)]; rfl
  have hdl := W0 hd
  by_cases hlt : k < ds.length
  · have hg := qpz hd hlt
    have ho := hd ds[k] (List.getElem_mem hlt)
    simp (maxSteps := 3000000) only [jr, Km, Ko, qab, js, hw, hdl, hg, qu ho, rd, List.getElem?_cons_zero, qa, zZ, ↓qm, ↓reduceIte, reduceCtorEq, nA, nM, nS, nE, nL, nD]; try simp only [qa, zY]
    refine ⟨fun _ => ⟨⟨⟨by omega, by omega⟩, by omega⟩, by omega, fun h2 => ⟨⟨_, rfl⟩, ?_⟩, fun h2 => ⟨_, q6.qz [8, 7, 0, 1], ⟨k + 1, rfl, by omega, fun i hi h3 => ?_⟩, ?_⟩⟩, fun h => absurd (by omega) h⟩
    · have hb : bad ds[k] = true := by unfold bad; rw [h2]; rfl
      have h1 : ds.any bad = true := List.any_eq_true.2 ⟨ds[k], List.getElem_mem hlt, hb⟩
      have h3 : ds.findIdx bad = k := (List.findIdx_eq hlt).2 ⟨hb, fun j hj => hc j hj (by omega)⟩
      rw [h1, h3, if_pos rfl]
    · by_cases e : i = k
      · subst e; unfold bad; rw [h2]; rfl
      · exact hc i (by omega) h3
    · simp only [Int.toNat_natCast, zL, ↓reduceIte, reduceCtorEq, nE, nA]; omega
  · simp (maxSteps := 3000000) only [jr, wu, hw, hdl, rd, List.getElem?_cons_zero, qa, zZ, ↓qm, ↓reduceIte, reduceCtorEq, nA, nM, nS, nE, nL, nD]; try simp only [qa, zY]
    refine ⟨fun h => absurd h (by omega), fun _ => ⟨⟨_, rfl⟩, ?_⟩⟩
    have h1 : ds.any bad = false := List.any_eq_false.2 fun d hd' => by
      obtain ⟨i, hi, rfl⟩ := List.getElem_of_mem hd'
      rw [hc i (by omega) hi]; simp
    rw [h1]; rfl
def qc4 : Nat → List AV → Option (List (Int × List Nat))
  | 0, _ => some []
  | k + 1, l => match ye (l.take 17), qc4 k (l.drop 17) with
    | some t, some ts => some (t :: ts)
    | _, _ => none
theorem W8 : ∀ {k : Nat} {l : List AV} {ds : List (Int × List Nat)}, l.length = k * 17 → qc4 k l = some ds → ds.length = k ∧ qmc ds ∧ l = dis ds
  | 0, l, ts, hl, h => by
    cases h
    have : l = [] := List.length_eq_zero_iff.1 (by omega)
    subst this
    exact ⟨rfl, by simp [qmc], rfl⟩
  | k + 1, l, ts, hl, h => by
    simp only [qc4] at h
    split at h
    · rename_i t us ht hus
      cases h
      obtain ⟨n, m⟩ := t
      obtain ⟨h1, h2, h3⟩ := W8 (by rw [List.length_drop]; omega) hus
      obtain ⟨h5, h6⟩ := zi ht
      refine ⟨by simp [h1], fun u hu => ?_, ?_⟩
      · rcases List.mem_cons.1 hu with rfl | hu
        · exact h6
        · exact h2 u hu
      · rw [← List.take_append_drop 17 l, h5, h3]; rfl
    · cases h
def W7 : List AV → List AV → Option AV := fun l xs => match xs with
  | [.slc 0 0 k ex c, .fn 111 [] []] => match qc4 k l with
    | some ds => chk (k ≤ 1000000) (some (.int .i64 (if ds.any bad then (ds.findIdx bad : Nat) else -1)))
    | none => none
  | _ => none
theorem qxa : Am.Callee Try.prog 136 (bt 0 17 W7) :=
  Am.Callee.bt fun l pre post len ex c v hp hl he => by
    have : pre = [] := List.length_eq_zero_iff.1 hp
    subst this
    rw [List.nil_append] at he ⊢
    unfold W7 at he
    split at he
    · rename_i k ex' c' hx
      cases hx
      split at he
      · rename_i ds hds
        obtain ⟨h0, he⟩ := qi he
        cases he
        obtain ⟨rfl, h2, rfl⟩ := W8 hl hds
        exact ⟨Zl _, rfl, rfl, rfl, qkr ds ex c h2 h0⟩
      · cases he
    · cases he
def B20 : zq := (B19.put 136 (bt 0 17 W7))
theorem qt6 : qy Try.prog B20 := (qnl.put (qxa))
theorem Kk : B20 99 = some (qk js) := rfl
theorem Gx : B20 111 = some (qk qab) := rfl
theorem kc : B20 136 = some (bt 0 17 W7) := rfl
theorem qa8 : ∀ {ds : List (Int × List Nat)}, qmc ds → qc4 ds.length (dis ds) = some ds
  | [], _ => rfl
  | d :: ds, h => by
    have h1 := qa8 (ds := ds) fun u hu => h u (List.mem_cons_of_mem _ hu)
    have h2 := (h d (by simp)).1
    simp only [dis, List.flatMap_cons, List.length_cons, qc4] at h1 ⊢
    rw [List.take_append_of_le_length (by rw [qd, h2]; exact Nat.le_refl _), qp h2, qu (h d (by simp)), List.drop_append, List.drop_of_length_le (by rw [qd, h2]; exact Nat.le_refl _), qd, h2, List.nil_append]
    simp only [Nat.sub_self, List.drop_zero, h1]
theorem qfn (ds : List (Int × List Nat)) (ex : Bool) (c : Nat) (hd : qmc ds) (hl : ds.length ≤ 1000000) :
    Am.Fn Try.prog 110 [.slc 0 0 ds.length ex c, .fn 111 [] []] [.ro (dis ds)] (fun v H' => v = .bool (ds.any bad) ∧ H' = [.ro (dis ds)]) := by
  refine Am.Fn.xt (R := fun v => v = _) qt6 mixed Qo (by simp) (wi (Zl _)) ?_
  have hdl := W0 hd
  have htk : List.take (ds.length * 17) (dis ds) = dis ds := by rw [List.take_of_length_le]; rw [hdl]; exact Nat.le_refl _
  simp (maxSteps := 3000000) only [wq, Kk, Gx, kc, qab, W7, js, hdl, htk, qa8 hd, rd, List.getElem?_cons_zero, List.take_zero, List.drop_succ_cons, List.drop_zero, qa, zZ, ↓qm, ↓reduceIte, reduceCtorEq, nA, nM, nS, nE, nL, nD]; try simp only [qa, zY]
  refine ⟨Nat.le_refl _, hl, ⟨_, rfl⟩, ?_⟩
  cases ds.any bad
  · rfl
  · rw [if_pos rfl, decide_eq_true_eq]; omega
def Jt : List AV → List AV → Option AV := fun l xs => match xs with
  | [.slc 0 0 k ex c, .fn 111 [] []] => match qc4 k l with
    | some ds => chk (k ≤ 1000000) (some (.bool (ds.any bad)))
    | none => none
  | _ => none
theorem qny : Am.Callee Try.prog 110 (bt 0 17 Jt) :=
  Am.Callee.bt fun l pre post len ex c v hp hl he => by
    have : pre = [] := List.length_eq_zero_iff.1 hp
    subst this
    rw [List.nil_append] at he ⊢
    unfold Jt at he
    split at he
    · rename_i k ex' c' hx
      cases hx
      split at he
      · rename_i ds hds
        obtain ⟨h0, he⟩ := qi he
        cases he
        obtain ⟨rfl, h2, rfl⟩ := W8 hl hds
        exact ⟨Zl _, rfl, rfl, rfl, qfn ds ex c h2 h0⟩
      · cases he
    · cases he
def B21 : zq := (B20.put 110 (bt 0 17 Jt))
theorem qvu : qy Try.prog B21 := (qt6.put (qny))
theorem G9 : B21 99 = some (qk js) := rfl
theorem Kg : B21 111 = some (qk qab) := rfl
theorem kb : B21 136 = some (bt 0 17 W7) := rfl
theorem b7 : B21 110 = some (bt 0 17 Jt) := rfl
theorem qkq (ds : List (Int × List Nat)) (ex : Bool) (c : Nat) (hd : qmc ds) (hl : ds.length ≤ 1000000) :
    Am.Fn Try.prog 63 [.slc 0 0 ds.length ex c] [.ro (dis ds)] (fun v H' => v = .int .i64 (if ds.any bad then 1 else 0) ∧ H' = [.ro (dis ds)]) := by
  refine Am.Fn.xt (R := fun v => v = _) qvu mixed qlj (by simp) (wi (Zl _)) ?_
  have hdl := W0 hd
  have htk : List.take (ds.length * 17) (dis ds) = dis ds := by rw [List.take_of_length_le]; rw [hdl]; exact Nat.le_refl _
  simp (maxSteps := 3000000) only [qci, G9, Kg, kb, b7, qab, Jt, W7, js, hdl, htk, qa8 hd, rd, List.getElem?_cons_zero, List.take_zero, List.drop_succ_cons, List.drop_zero, qa, zZ, ↓qm, ↓reduceIte, reduceCtorEq, nA, nM, nS, nE, nL, nD]; try simp only [qa, zY]
  refine ⟨Nat.le_refl _, hl, fun h => ⟨⟨_, rfl⟩, by rw [h]; rfl⟩, fun h => ⟨⟨_, rfl⟩, by rw [h]; rfl⟩⟩
def V3 : List AV → List AV → Option AV := fun l xs => match xs with
  | [.slc 0 0 k ex c] => match qc4 k l with
    | some ds => chk (k ≤ 1000000) (some (.int .i64 (if ds.any bad then 1 else 0)))
    | none => none
  | _ => none
theorem qqr : Am.Callee Try.prog 63 (bt 0 17 V3) :=
  Am.Callee.bt fun l pre post len ex c v hp hl he => by
    have : pre = [] := List.length_eq_zero_iff.1 hp
    subst this
    rw [List.nil_append] at he ⊢
    unfold V3 at he
    split at he
    · rename_i k ex' c' hx
      cases hx
      split at he
      · rename_i ds hds
        obtain ⟨h0, he⟩ := qi he
        cases he
        obtain ⟨rfl, h2, rfl⟩ := W8 hl hds
        exact ⟨Zl _, rfl, rfl, rfl, qkq ds ex c h2 h0⟩
      · cases he
    · cases he
def B22 : zq := (B21.put 63 (bt 0 17 V3))
theorem qnw : qy Try.prog B22 := (qvu.put (qqr))
theorem qdq : B22 108 = some (qk J4) := rfl
theorem qba : B22 109 = some (qk xp) := rfl
def vg : AC := .seq (.seq (.region [oM 25 9,oM 26 10,oP 27 .lss 25 26]) (.cond 27 .skip (.exit 0))) (.block 1 (.seq (.region [oM 28 9,oM 29 10,oP 30 .add 28 29,oK 31 .quo 30 2,oM 12 31]) (.seq (.region [oM 32 1,oM 33 12,oX 34 18 32 33,oF 35 0 34,oN 36 17 35,oC 37 109 [.t 36],oM 38 11,oP 39 .lss 37 38]) (.cond 39 (.region [oM 40 12,oK 41 .add 40 1,oM 9 41]) (.region [oM 42 12,oM 10 42])))))
def v7 : AC := .seq (.seq (.region [oM 61 0,oM 62 1,oM 63 9,oX 64 18 62 63,oF 65 17 64,oL 66 65,oM 67 3,oP 68 .add 66 67,oC 69 108 [.t 61,.t 68],oM 14 69]) (.seq (.region [oM 70 14,oK 71 .neq 70 0]) (.cond 71 (.region [oM 72 13,oN 73 17 6,oM 74 14,o0 75 (.build [.int .i64 0,.int .u8 0,.int .u8 0,.int .u8 0,.int .u8 0,.int .u8 0,.int .u8 0,.int .u8 0,.int .u8 0,.int .u8 0,.int .u8 0,.int .u8 0,.int .u8 0,.int .u8 0,.int .u8 0,.int .u8 0,.int .u8 0,.int .i64 0] [(0,17,.t 73),(17,1,.t 74)]),o0 76 (.kh 1 [.int .i64 0,.int .u8 0,.int .u8 0,.int .u8 0,.int .u8 0,.int .u8 0,.int .u8 0,.int .u8 0,.int .u8 0,.int .u8 0,.int .u8 0,.int .u8 0,.int .u8 0,.int .u8 0,.int .u8 0,.int .u8 0,.int .u8 0,.int .i64 0] [(0,18,.t 75)]),o0 77 (.append 18 32 (.t 72) (.t 76)),oM 13 77]) .skip))) (.seq (.region [oM 78 13,oM 79 1,oM 80 9,oK 81 .add 80 1,o0 82 (.Gk 18 (.t 79) (some (.t 81)) none),o0 83 (.append 18 32 (.t 78) (.t 82)),oM 8 83]) .ret)
def ym : AC := .cond 60 v7 .skip
def yn : AC := .seq (.region [oM 84 13,oN 85 17 6,oM 86 3,o0 87 (.build [.int .i64 0,.int .u8 0,.int .u8 0,.int .u8 0,.int .u8 0,.int .u8 0,.int .u8 0,.int .u8 0,.int .u8 0,.int .u8 0,.int .u8 0,.int .u8 0,.int .u8 0,.int .u8 0,.int .u8 0,.int .u8 0,.int .u8 0,.int .i64 0] [(0,17,.t 85),(17,1,.t 86)]),o0 88 (.kh 1 [.int .i64 0,.int .u8 0,.int .u8 0,.int .u8 0,.int .u8 0,.int .u8 0,.int .u8 0,.int .u8 0,.int .u8 0,.int .u8 0,.int .u8 0,.int .u8 0,.int .u8 0,.int .u8 0,.int .u8 0,.int .u8 0,.int .u8 0,.int .i64 0] [(0,18,.t 87)]),o0 89 (.append 18 32 (.t 84) (.t 88)),oM 13 89]) (.seq (.region [oM 90 13,oM 91 1,oM 92 9,o0 93 (.Gk 18 (.t 91) (some (.t 92)) none),o0 94 (.append 18 32 (.t 90) (.t 93)),oM 8 94]) .ret)
def yj : AC := .seq (.region [o0 43 (.kh 0 [] []),oM 44 1,oM 45 9,o0 46 (.Gk 18 (.t 44) none (some (.t 45))),o0 47 (.append 18 32 (.t 43) (.t 46)),oM 13 47]) (.seq (.seq (.draw false [oM 48 9,oM 49 1,o0 50 (.len .slc (.t 49)),oP 51 .lss 48 50,oM 52 51,oG 53 52 true (.mov (.t 1)),oG 54 52 true (.mov (.t 9)),oG 55 52 true (.Zf 18 (.t 53) (.t 54)),oG 56 52 true (.wt 0 (.t 55)),oG 57 52 true (.ka 17 (.t 56)),oG 58 52 true (.ka 17 (.t 6)),oG 59 52 true (.eqs false [.int,.int,.int,.int,.int,.int,.int,.int,.int,.int,.int,.int,.int,.int,.int,.int,.int] (.t 57) (.t 58)),o0 60 (.pick (.t 52) (.t 59) (.c (.bool false)))]) ym) yn)
def Yk : AC := .seq (.region [o0 6 (.box (.t 2)),o0 8 (.mov (.c (.v (.slice none 0 0))))]) (.seq (.region [oM 15 0,oM 16 3,oC 17 108 [.t 15,.t 16],oM 3 17]) (.seq (.seq (.region [oM 18 3,oK 19 .eql 18 0]) (.cond 19 (.seq (.region [oM 20 1,oM 8 20]) .ret) .skip)) (.seq (.region [oM 21 1,o0 22 (.len .slc (.t 21)),oN 23 17 6,oC 24 109 [.t 23],oI 9 0,oM 10 22,oM 11 24]) (.seq (.block 0 (.loop vg)) yj))))
theorem qfp : zh Try.prog 61 = some ⟨95, Yk, [.slot 8]⟩ := by kernel_rfl
theorem xz : [AV.int .i64 0, .int .u8 0, .int .u8 0, .int .u8 0, .int .u8 0, .int .u8 0, .int .u8 0, .int .u8 0, .int .u8 0, .int .u8 0, .int .u8 0, .int .u8 0, .int .u8 0, .int .u8 0, .int .u8 0, .int .u8 0, .int .u8 0, .int .i64 0] = trm (0, List.replicate 16 0, 0) := rfl
theorem yi (t : Int × List Nat × Int) : (trm t).length = t.2.1.length + 2 := by simp [trm, qd]
theorem X3 {t : Int × List Nat × Int} {n : Int} {m : List Nat} (h : t.2.1.length = 16) (h' : m.length = 16) : over (trm t) 0 (dia n m) = trm (n, m, t.2.2) := by
  simp only [over, trm, List.take_zero, List.nil_append, Nat.zero_add, qd, h']
  rw [List.drop_append, List.drop_of_length_le (by rw [qd, h]; exact Nat.le_refl _), qd, h]; rfl
theorem Jg {t : Int × List Nat × Int} {f : Int} (h : t.2.1.length = 16) : over (trm t) 17 [.int .i64 f] = trm (t.1, t.2.1, f) := by
  simp only [over, trm]
  rw [List.take_append_of_le_length (by rw [qd, h]; exact Nat.le_refl _), List.take_of_length_le (by rw [qd, h]; exact Nat.le_refl _), List.drop_of_length_le (by simp [qd, h]), List.append_nil]
theorem Qw {t u : Int × List Nat × Int} (h : t.2.1.length = 16) (h' : u.2.1.length = 16) : over (trm t) 0 (trm u) = trm u := qav (by rw [yi, yi, h, h'])
theorem Qc {t : Int × List Nat × Int} (h : t.2.1.length = 16) : List.take 18 (trm t) = trm t := by rw [List.take_of_length_le]; rw [yi, h]; exact Nat.le_refl _
theorem x6 (t : Int × List Nat × Int) : (trm t).all AV.one = true := by simp [trm, zl, AV.one]
theorem Bx : ((0 : Nat) : Int) = 0 := rfl
theorem qpn : ((1 : Nat) : Int) = 1 := rfl
def qv0 (p : Int) (n : Nat) (m : List Nat) (k : Int) (v : AV) (H' : List AO) : Prop := if k.emod p = 0 then v = .slc 0 0 0 true 0 ∧ H' = [.ro []] else v = .slc 1 0 1 false 0 ∧ H' = [.ro [], .vec 18 (qn [((n : Int), m, k.emod p)])]
theorem qkn (p : Int) (n : Nat) (m : List Nat) (k : Int) (hp : 0 < p ∧ p ≤ 1000000) (hn : n ≤ 8) (hm : okD m) :
    Am.Fn Try.prog 61 [.int .i64 p, .slc 0 0 0 true 0, .agg (dia n m), .int .i64 k] [.ro []] (qv0 p n m k) := by
  refine Am.Fn.ofB qnw mixed qfp (by simp) (wi rfl) ?_
  have hml := hm.1
  simp (maxSteps := 3000000) only [Yk, qdq, qba, J4, xp, vd hml, hml, qd, qu hm, rd, List.getElem?_cons_zero, List.getElem?_cons_succ, qa, zZ, ↓qm, ↓reduceIte, reduceCtorEq, nA, nM, nS, nE, nL, nD]; try simp only [qa, zY]
  refine ⟨hp, fun h => ?_, fun h => ⟨⟨by omega, by omega⟩, ?_⟩⟩
  · refine Ret.jb [0] ⟨⟨Nat.le_refl 1, rfl, by decide⟩, ?_⟩ (rs := [.slc 0 0 0 true 0]) rfl (by rfl) (by simp [zy]) ?_ ?_
    · simp only [zK, ↓reduceIte, reduceCtorEq, nE, nB, nA]
    · intro j l; cases j <;> simp [q9, AO.ren]
    · unfold qv0
      rw [if_pos h]
      simp only [zy]
      simp only [zL, ↓reduceIte, reduceCtorEq, nE, nA]
      exact ⟨trivial, trivial⟩
  · refine WA.jj qnw (fun s => s = ⟨[(11, .str (xi n m)), (10, .int .i64 0), (9, .int .i64 0), (6, .ptr 1 0), (0, .int .i64 p), (1, .slc 0 0 0 true 0), (3, .int .i64 (k.emod p))], [.ro [], .cells (dia n m)]⟩) (fun _ => 0) ⟨_, q6.qz [11, 10, 9, 6, 0, 1, 3], rfl⟩ ?_
    rintro s rfl
    have hdl : (dia (n : Int) m).length = 17 := by rw [qd, hml]
    have hz : (List.replicate 16 0 : List Nat).length = 16 := rfl
    have e1 : over (trm (0, List.replicate 16 0, 0)) 0 (dia (n : Int) m) = trm ((n : Int), m, 0) := X3 (t := (0, List.replicate 16 0, 0)) hz hml
    have e2 : ∀ f : Int, over (trm ((n : Int), m, 0)) 17 [.int .i64 f] = trm ((n : Int), m, f) := fun f => Jg (t := ((n : Int), m, 0)) hml
    have e3 : ∀ f : Int, over (trm (0, List.replicate 16 0, 0)) 0 (trm ((n : Int), m, f)) = trm ((n : Int), m, f) := fun f => Qw (t := (0, List.replicate 16 0, 0)) hz hml
    have e4 : ∀ f : Int, List.take 18 (trm ((n : Int), m, f)) = trm ((n : Int), m, f) := fun f => Qc (t := ((n : Int), m, f)) hml
    simp (maxSteps := 3000000) only [vg, yj, vh, src, lim, uq, Option.map_some, Option.map_none, rd, List.getElem?_cons_zero, List.getElem?_cons_succ, List.set_cons_zero, List.set_cons_succ, Bx, qpn, Int.lt_irrefl, Int.le_refl, Nat.zero_mul, Int.toNat_zero, List.take_zero, List.drop_zero, List.all_nil, qa, zZ, ↓qm, ↓reduceIte, reduceCtorEq, nA, nM, nS, nE, nL, nD]; try simp only [qa, zY]
    simp (maxSteps := 3000000) only [ym, yn, xz, yi, e1, e2, e3, e4, x6, hml, hz, qp hml, qd, vh, src, lim, uq, Option.map_some, Option.map_none, rd, List.getElem?_cons_zero, List.getElem?_cons_succ, List.set_cons_zero, List.set_cons_succ, Bx, qpn, Int.lt_irrefl, Int.le_refl, Nat.zero_mul, Int.toNat_zero, List.take_zero, List.drop_zero, List.all_nil, qa, zZ, ↓qm, ↓reduceIte, reduceCtorEq, nA, nM, nS, nE, nL, nD]; try simp only [qa, zY]
    refine Ret.jb [0, 6] ⟨⟨by simp, rfl, by decide⟩, ?_⟩ (rs := [.slc 6 0 1 false 0]) rfl (by rfl) (by simp [zy]) ?_ ?_
    · simp only [qe _ _ (vo _), zK, ↓reduceIte, reduceCtorEq, nE, nB, nA]
    · intro j l; match j with
      | 0 => intro _; exact ⟨[], rfl⟩
      | 1 => simp [q9, AO.ren]
      | j + 2 => simp [q9]
    · unfold qv0
      rw [if_neg h]
      simp only [zy]
      simp only [qc _ _ (vo _), zL, ↓reduceIte, reduceCtorEq, nE, nA]
      exact ⟨trivial, by simp only [qn, List.flatMap_cons, List.flatMap_nil, List.append_nil]⟩
def qn4 : BE := fun hp xs => match xs with
  | [.int .i64 p, .slc b 0 0 true 0, .agg l, .int .i64 k] => match rd hp b, ye l with
    | some _, some (n, m) => chk ((0 < p ∧ p ≤ 1000000) ∧ 0 ≤ n ∧ n ≤ 8) (if k.emod p = 0 then some (.slc b 0 0 true 0, hp) else some (.slc hp.length 0 1 false 0, hp ++ [.vec 18 (qn [(n, m, k.emod p)])]))
    | _, _ => none
  | _ => none
theorem qzt : Am.Callee Try.prog 61 qn4 := by
  intro hp xs v hp' he
  unfold qn4 at he
  split at he
  · rename_i p b l k
    split at he
    · rename_i L n m hL hd
      obtain ⟨h0, he⟩ := qi he
      obtain ⟨rfl, hm⟩ := zi hd
      obtain ⟨n, rfl⟩ : ∃ j : Nat, n = j := ⟨n.toNat, by omega⟩
      refine ⟨[.ro []], [.int .i64 p, .slc 0 0 0 true 0, .agg (dia n m), .int .i64 k], qv0 p n m k, one b, [(b, 0)], qkn p n m k h0.1 (by omega) hm, ?_, rfl, ⟨fun j hj => ?_, rfl, fun j o c hj hb => ?_, fun j k bj bk oj ok hj hk hoj hok hw => ?_⟩, ?_, ⟨trivial, by simp [AV.under], ql _ _ (qf _ _), trivial, trivial⟩, ?_⟩
      · simp only [AV.zk, AV.ren, one, if_true, Nat.zero_add, qc _ _ (qf _ _)]
      · match j, hj with
        | 0, _ => rfl
      · match j, hj, hb with
        | 0, hj, hb =>
          cases hj; cases hb
          exact ⟨L, hL, by simp, by simp [AV.zk]⟩
        | j + 1, hj, hb => simp at hj
      · match j, hoj with
        | 0, hoj => cases hoj; cases hw
        | j + 1, hoj => simp at hoj
      · intro j o hj
        match j, hj with
        | 0, hj => cases hj; trivial
        | j + 1, hj => simp at hj
      · intro v' H' hr
        unfold qv0 at hr
        split at he
        · rename_i hk
          rw [if_pos hk] at hr
          obtain ⟨rfl, rfl⟩ := hr
          simp only [Option.some.injEq, Prod.mk.injEq] at he
          obtain ⟨rfl, rfl⟩ := he
          exact ⟨by simp [AV.ren, Ren.ext, one], by simp [after, upd, AO.wr]⟩
        · rename_i hk
          rw [if_neg hk] at hr
          obtain ⟨rfl, rfl⟩ := hr
          simp only [Option.some.injEq, Prod.mk.injEq] at he
          obtain ⟨rfl, rfl⟩ := he
          exact ⟨by simp [AV.ren, Ren.ext], by simp [after, upd, AO.wr, AO.ren, qc _ _ (qb _)]⟩
    · cases he
  · cases he
def B23 : zq := (B22.put 61 (qn4))
theorem qy9 : qy Try.prog B23 := (qnw.put (qzt))
theorem qid {a b c d x : AV} : over [a, b, c, d] 0 [x] = [x, b, c, d] := rfl
theorem qiy {a b c d x : AV} : over [a, b, c, d] 1 [x] = [a, x, c, d] := rfl
theorem qjn {a b c d x : AV} : over [a, b, c, d] 2 [x] = [a, b, x, d] := rfl
theorem qif {a b c d x : AV} : over [a, b, c, d] 3 [x] = [a, b, c, x] := rfl
theorem qi1 {a b c d x y z w : AV} : over [a, b, c, d] 0 [x, y, z, w] = [x, y, z, w] := rfl
theorem qj : type_of% (And.intro @qid (And.intro @qiy (And.intro @qjn (And.intro @qif @qi1)))) := (And.intro @qid (And.intro @qiy (And.intro @qjn (And.intro @qif @qi1))))
def B24 : zq := B23
theorem qzk : qy Try.prog B24 := qy9
def qty : Go.Shelf.Ren := ⟨fun | 106 => 139 | 213 => 154 | 265 => 166 | n => n, fun | 9 => 9 | 3 => 3 | n => n, fun | n => n⟩
theorem q05 : Go.Proofs.Lays.n106 Try.prog qty where
  mixed := by kernel_rfl
  f106 := Try.func139.trans (congrArg some (by kernel_rfl))
  f213 := Try.func154.trans (congrArg some (by kernel_rfl))
  f265 := Try.func166.trans (congrArg some (by kernel_rfl))
  t3 := Try.underlying3
  a3 := Try.isAgg3
  z3 := Try.sizeOf3
  v3 := Try.zeroValue3
  t9 := Try.underlying9
  a9 := Try.isAgg9
  z9 := Try.sizeOf9
  v9 := Try.zeroValue9
def qv1 : Go.Shelf.Ren := ⟨fun | 6 => 137 | 15 => 153 | 14 => 152 | 28 => 164 | 29 => 165 | 20 => 156 | 21 => 157 | 22 => 158 | 23 => 159 | 24 => 160 | 25 => 161 | 26 => 162 | 27 => 163 | 46 => 167 | 47 => 168 | 48 => 169 | 49 => 170 | 50 => 171 | 57 => 172 | n => n, fun | 22 => 29 | 24 => 64 | 25 => 132 | 3 => 3 | 39 => 147 | 0 => 0 | 53 => 162 | 55 => 96 | 4 => 4 | 46 => 155 | 45 => 154 | 50 => 159 | 5 => 5 | 9 => 9 | 66 => 164 | 70 => 168 | 76 => 170 | 77 => 171 | n => n, fun | n => n⟩
theorem q06 : Go.Proofs.SlLaysF0.n6 Try.prog qv1 where
  mixed := by kernel_rfl
  f6 := ⟨Try.f137.name, by kernel_rfl, Try.func137.trans (congrArg some (by kernel_rfl))⟩
  f14 := ⟨Try.f152.name, by kernel_rfl, Try.func152.trans (congrArg some (by kernel_rfl))⟩
  f15 := Try.func153.trans (congrArg some (by kernel_rfl))
  f20 := ⟨Try.f156.name, by kernel_rfl, Try.func156.trans (congrArg some (by kernel_rfl))⟩
  f21 := ⟨Try.f157.name, by kernel_rfl, Try.func157.trans (congrArg some (by kernel_rfl))⟩
  f22 := ⟨Try.f158.name, by kernel_rfl, Try.func158.trans (congrArg some (by kernel_rfl))⟩
  f23 := ⟨Try.f159.name, by kernel_rfl, Try.func159.trans (congrArg some (by kernel_rfl))⟩
  f24 := ⟨Try.f160.name, by kernel_rfl, Try.func160.trans (congrArg some (by kernel_rfl))⟩
  f25 := ⟨Try.f161.name, by kernel_rfl, Try.func161.trans (congrArg some (by kernel_rfl))⟩
  f26 := ⟨Try.f162.name, by kernel_rfl, Try.func162.trans (congrArg some (by kernel_rfl))⟩
  f27 := ⟨Try.f163.name, by kernel_rfl, Try.func163.trans (congrArg some (by kernel_rfl))⟩
  f28 := Try.func164.trans (congrArg some (by kernel_rfl))
  f29 := Try.func165.trans (congrArg some (by kernel_rfl))
  f46 := ⟨Try.f167.name, by kernel_rfl, Try.func167.trans (congrArg some (by kernel_rfl))⟩
  f47 := Try.func168.trans (congrArg some (by kernel_rfl))
  f48 := Try.func169.trans (congrArg some (by kernel_rfl))
  f49 := ⟨Try.f170.name, by kernel_rfl, Try.func170.trans (congrArg some (by kernel_rfl))⟩
  f50 := ⟨Try.f171.name, by kernel_rfl, Try.func171.trans (congrArg some (by kernel_rfl))⟩
  f57 := ⟨Try.f172.name, by kernel_rfl, Try.func172.trans (congrArg some (by kernel_rfl))⟩
  t0 := Try.underlying0
  a0 := Try.isAgg0
  z0 := Try.sizeOf0
  v0 := Try.zeroValue0
  t3 := Try.underlying3
  a3 := Try.isAgg3
  z3 := Try.sizeOf3
  v3 := Try.zeroValue3
  t4 := Try.underlying4
  a4 := Try.isAgg4
  z4 := Try.sizeOf4
  v4 := Try.zeroValue4
  t5 := Try.underlying5
  a5 := Try.isAgg5
  z5 := Try.sizeOf5
  v5 := Try.zeroValue5
  t9 := Try.underlying9
  a9 := Try.isAgg9
  z9 := Try.sizeOf9
  v9 := Try.zeroValue9
  t22 := Try.underlying29
  a22 := Try.isAgg29
  z22 := Try.sizeOf29
  v22 := Try.zeroValue29
  t25 := Try.underlying132
  a25 := Try.isAgg132
  z25 := Try.sizeOf132
  v25 := Try.zeroValue132
  t39 := Try.underlying147
  a39 := Try.isAgg147
  z39 := Try.sizeOf147
  v39 := Try.zeroValue147
  t45 := Try.underlying154
  a45 := Try.isAgg154
  z45 := Try.sizeOf154
  v45 := Try.zeroValue154
  t46 := Try.underlying155
  a46 := Try.isAgg155
  z46 := Try.sizeOf155
  v46 := Try.zeroValue155
  t50 := Try.underlying159
  a50 := Try.isAgg159
  z50 := Try.sizeOf159
  v50 := Try.zeroValue159
  t53 := Try.underlying162
  a53 := Try.isAgg162
  z53 := Try.sizeOf162
  v53 := Try.zeroValue162
  t55 := Try.underlying96
  a55 := Try.isAgg96
  z55 := Try.sizeOf96
  v55 := Try.zeroValue96
  t66 := Try.underlying164
  a66 := Try.isAgg164
  z66 := Try.sizeOf164
  v66 := Try.zeroValue164
  t70 := Try.underlying168
  a70 := Try.isAgg168
  z70 := Try.sizeOf168
  v70 := Try.zeroValue168
  t76 := Try.underlying170
  a76 := Try.isAgg170
  z76 := Try.sizeOf170
  v76 := Try.zeroValue170
  t77 := Try.underlying171
  a77 := Try.isAgg171
  z77 := Try.sizeOf171
  v77 := Try.zeroValue171
def Wa : List AV → Option AV
  | [.str a, .str b] => some (.int .i64 (Go.Lib.compareBytes a b))
  | _ => none
theorem qrq (a b : List UInt8) : Am.Fn Try.prog 139 [.str a, .str b] [] (fun v H' => v = .int .i64 (Go.Lib.compareBytes a b) ∧ H' = []) :=
  qlo ⟨Try.f139, Try.func139, by kernel_rfl, by kernel_rfl⟩ rfl rfl fun w => Go.Proofs.Any.strings_Compare q05 ⟨a.toArray⟩ ⟨b.toArray⟩ w
theorem qrr : Am.Callee Try.prog 139 (qk Wa) := Am.Callee.plain fun xs v he => by
  unfold Wa at he
  split at he
  · cases he; exact ⟨rfl, rfl, qrq _ _⟩
  · cases he
def B26 : zq := (B24.put 139 (qk Wa))
theorem qsv : qy Try.prog B26 := (qzk.put (qrr))
theorem Ub : B26 100 = some (Z6 17 vi) := rfl
theorem K1 : B26 139 = some (qk Wa) := rfl
def Jo : AC := .seq (.region [o0 2 (.box (.t 0)),o0 3 (.box (.t 1)),oI 4 0]) (.seq (.region [oF 5 0 2,oC 6 100 [.t 5],oF 7 0 3,oC 8 100 [.t 7],oC 9 139 [.t 6,.t 8],oM 4 9]) .ret)
theorem Gw : zh Try.prog 138 = some ⟨10, Jo, [.slot 4]⟩ := by kernel_rfl
def txt (t : Int × List Nat × Int) : List UInt8 := xi t.1.toNat t.2.1
def qu2 (t u : Int × List Nat × Int) : Int := Go.Lib.compareBytes (txt t) (txt u)
theorem qyb (t u : Int × List Nat × Int) (ht : okD t.2.1) (hu : okD u.2.1) (h1 : 0 ≤ t.1 ∧ t.1 ≤ 8) (h2 : 0 ≤ u.1 ∧ u.1 ≤ 8) :
    Am.Fn Try.prog 138 [.agg (trm t), .agg (trm u)] [] (fun v H' => v = .int .i64 (qu2 t u) ∧ H' = []) := by
  refine Am.Fn.xt (R := fun v => v = _) qsv mixed Gw (by simp) (by simp) ?_
  simp (maxSteps := 3000000) only [Jo, Ub, K1, Wa, vi, Vb ht, Vb hu, zp ht, zp hu, qu ht, qu hu, h1, h2, rd, List.getElem?_cons_zero, List.getElem?_cons_succ, qa, zZ, ↓qm, ↓reduceIte, reduceCtorEq, nA, nM, nS, nE, nL, nD]; try simp only [qa, zY]
  rfl
theorem qpk : ∀ (a b : List UInt8), (Go.Lib.compareBytes a b < 0) ↔ Op.bytesLess a b = true
  | [], [] => by simp [Go.Lib.compareBytes, Op.bytesLess]
  | [], b :: y => by simp [Go.Lib.compareBytes, Op.bytesLess]
  | a :: x, [] => by simp [Go.Lib.compareBytes, Op.bytesLess]
  | a :: x, b :: y => by
    simp only [Go.Lib.compareBytes, Op.bytesLess, Bool.or_eq_true, Bool.and_eq_true, decide_eq_true_eq, beq_iff_eq]
    by_cases h : a < b
    · simp [h]
    · by_cases h2 : b < a
      · have : a ≠ b := fun e => by subst e; exact UInt8.lt_irrefl _ h2
        simp [h, h2, this]
      · have : a = b := UInt8.le_antisymm (UInt8.not_lt.1 h2) (UInt8.not_lt.1 h)
        subst this
        simp only [h, if_false, false_or, true_and]
        exact qpk x y
theorem Q5 : ∀ (a : List UInt8), Op.bytesLess a a = false
  | [] => rfl
  | a :: x => by simp [Op.bytesLess, Q5 x]
theorem wz : ∀ (a b c : List UInt8), Op.bytesLess a b = true → Op.bytesLess b c = true → Op.bytesLess a c = true
  | _, _, [], _, h => by cases ‹List UInt8› <;> simp [Op.bytesLess] at h
  | [], _, c :: z, h, _ => by simp [Op.bytesLess]
  | a :: x, [], c :: z, h, _ => by simp [Op.bytesLess] at h
  | a :: x, b :: y, c :: z, h, h' => by
    simp only [Op.bytesLess, Bool.or_eq_true, Bool.and_eq_true, decide_eq_true_eq, beq_iff_eq] at h h' ⊢
    rcases h with h | ⟨rfl, h⟩
    · rcases h' with h' | ⟨rfl, h'⟩
      · exact .inl (UInt8.lt_trans h h')
      · exact .inl h
    · rcases h' with h' | ⟨rfl, h'⟩
      · exact .inl h'
      · exact .inr ⟨rfl, wz x y z h h'⟩
theorem Xa : ∀ (a b : List UInt8), Op.bytesLess a b = false → Op.bytesLess b a = false → a = b
  | [], [], _, _ => rfl
  | [], b :: y, h, _ => by simp [Op.bytesLess] at h
  | a :: x, [], _, h => by simp [Op.bytesLess] at h
  | a :: x, b :: y, h, h' => by
    simp only [Op.bytesLess, Bool.or_eq_false_iff, Bool.and_eq_false_iff, decide_eq_false_iff_not, beq_eq_false_iff_ne] at h h'
    have e : a = b := UInt8.le_antisymm (UInt8.not_lt.1 h'.1) (UInt8.not_lt.1 h.1)
    subst e
    rw [Xa x y (by simpa using h.2) (by simpa using h'.2)]
theorem qc2 (a b : List UInt8) (h : Op.bytesLess a b = true) : Op.bytesLess b a = false := by
  cases hb : Op.bytesLess b a with
  | false => rfl
  | true => have := wz a b a h hb; rw [Q5] at this; cases this
def ltT (t u : Int × List Nat × Int) : Bool := Op.bytesLess (txt t) (txt u)
abbrev G4 := {t : Int × List Nat × Int // okD t.2.1 ∧ 0 ≤ t.1 ∧ t.1 ≤ 8}
instance : Inhabited G4 := ⟨⟨(0, List.replicate 16 0, 0), ⟨by simp, by intro x hx; simp at hx; omega⟩, by decide, by decide⟩⟩
theorem qi3 (x y : G4) : Go.Proofs.ltOf (fun x y : G4 => qu2 x.1 y.1) x y = ltT x.1 y.1 := by
  unfold Go.Proofs.ltOf qu2 ltT
  have := qpk (txt x.1) (txt y.1)
  cases h : Op.bytesLess (txt x.1) (txt y.1) with
  | true => exact decide_eq_true (this.2 h)
  | false => exact decide_eq_false (fun h2 => by rw [this.1 h2] at h; cases h)
theorem swo : Go.Sort.SWO (Go.Proofs.ltOf (fun x y : G4 => qu2 x.1 y.1)) where
  irrefl x := by rw [qi3]; exact Q5 _
  trans x y z h h' := by rw [qi3] at *; exact wz _ _ _ h h'
  ntrans x y z h h' := by
    rw [qi3] at *
    cases hc : ltT x.1 z.1 with
    | false => rfl
    | true =>
      exfalso
      by_cases e : txt x.1 = txt y.1
      · unfold ltT at *; rw [e] at hc; rw [hc] at h'; cases h'
      · have h1 : ltT y.1 x.1 = true := by
          cases hb : ltT y.1 x.1 with
          | true => rfl
          | false => exact absurd (Xa _ _ h hb) e
        have := wz _ _ _ h1 hc
        unfold ltT at h'; rw [this] at h'; cases h'
def qos (t : Int × List Nat × Int) : List (Int × List Nat × Int) → List (Int × List Nat × Int)
  | [] => [t]
  | u :: l => if ltT t u then t :: u :: l else u :: qos t l
def Xs : List (Int × List Nat × Int) → List (Int × List Nat × Int)
  | [] => []
  | t :: l => qos t (Xs l)
theorem qbx (t : Int × List Nat × Int) : ∀ l, (qos t l).Perm (t :: l)
  | [] => .refl _
  | u :: l => by
    unfold qos; split
    · exact .refl _
    · exact ((qbx t l).cons u).trans (.swap t u l)
theorem kq : ∀ l, (Xs l).Perm l
  | [] => .refl _
  | t :: l => (qbx t _).trans ((kq l).cons t)
def Ui (l : List (Int × List Nat × Int)) : Prop := (l.map txt).Nodup
def upT (l : List (Int × List Nat × Int)) : Prop := l.Pairwise fun a b => ltT a b = true
theorem qpa {t : Int × List Nat × Int} : ∀ {l}, upT l → (∀ u ∈ l, txt t ≠ txt u) → upT (qos t l)
  | [], _, _ => by simp [qos, upT]
  | u :: l, h, hn => by
    unfold qos
    have h' := List.pairwise_cons.1 h
    split
    · rename_i hlt
      exact List.pairwise_cons.2 ⟨fun a ha => by
        rcases List.mem_cons.1 ha with rfl | ha
        · exact hlt
        · exact wz _ _ _ hlt (h'.1 a ha), h⟩
    · rename_i hlt
      refine List.pairwise_cons.2 ⟨fun a ha => ?_, qpa h'.2 fun v hv => hn v (List.mem_cons_of_mem _ hv)⟩
      have hm := (qbx t l).mem_iff.1 ha
      rcases List.mem_cons.1 hm with rfl | hm
      · cases hb : ltT u a with
        | true => rfl
        | false => exact absurd (Xa _ _ (Bool.eq_false_iff.2 hlt) hb) (hn u (List.mem_cons_self ..))
      · exact h'.1 a hm
theorem K6 : ∀ {l}, Ui l → upT (Xs l)
  | [], _ => .nil
  | t :: l, h => by
    have h' := List.nodup_cons.1 h
    refine qpa (K6 h'.2) fun u hu e => h'.1 ?_
    rw [e]
    exact List.mem_map.2 ⟨u, (kq l).mem_iff.1 hu, rfl⟩
theorem qbs : ∀ {a b : List (Int × List Nat × Int)}, upT a → upT b → a.Perm b → a = b
  | [], b, _, _, hp => by rw [List.nil_perm.1 hp]
  | x :: a, [], _, _, hp => by have := hp.length_eq; simp at this
  | x :: a, y :: b, ha, hb, hp => by
    have ha' := List.pairwise_cons.1 ha
    have hb' := List.pairwise_cons.1 hb
    have e : x = y := by
      have h1 : x ∈ y :: b := hp.mem_iff.1 (List.mem_cons_self ..)
      have h2 : y ∈ x :: a := hp.mem_iff.2 (List.mem_cons_self ..)
      rcases List.mem_cons.1 h1 with h | h
      · exact h
      · rcases List.mem_cons.1 h2 with h' | h'
        · exact h'.symm
        · have c1 := hb'.1 x h
          have c2 := ha'.1 y h'
          have := qc2 _ _ c1
          unfold ltT at c2; rw [this] at c2; cases c2
    subst e
    rw [qbs ha'.2 hb'.2 ((List.perm_cons x).1 hp)]
theorem qlz {a l : List (Int × List Nat × Int)} (hp : a.Perm l) (hs : a.Pairwise fun x y => ltT y x = false) (hl : Ui l) : a = Xs l := by
  have hn : (a.map txt).Nodup := (hp.map txt).nodup_iff.2 hl
  refine qbs ?_ (K6 hl) (hp.trans (kq l).symm)
  unfold upT
  rw [List.pairwise_iff_getElem] at hs ⊢
  intro i j hi hj hij
  cases hb : ltT a[i] a[j] with
  | true => rfl
  | false =>
    have e := Xa _ _ hb (hs i j hi hj hij)
    have := (List.pairwise_iff_getElem.1 hn) i j (by simpa using hi) (by simpa using hj) hij
    simp only [List.getElem_map] at this
    exact absurd e this
theorem qza (ts : List (Int × List Nat × Int)) (hl : ts.length ≤ 1000000000) (hok : ∀ t ∈ ts, okD t.2.1 ∧ 0 ≤ t.1 ∧ t.1 ≤ 8) (hap : Ui ts) :
    Am.Fn Try.prog 137 [.slc 0 0 ts.length false 0, .fn 138 [] []] [.vec 18 (qn ts)] (fun v H' => v = .tup [] ∧ H' = [.vec 18 (qn (Xs ts))]) := by
  obtain ⟨d, rfl⟩ : ∃ d : List G4, ts = d.map Subtype.val := ⟨ts.attach.map fun x => ⟨x.1, hok x.1 x.2⟩, by rw [List.map_map]; exact (List.attach_map_subtype_val ts).symm⟩
  have e : ∀ d : List G4, qn (d.map Subtype.val) = d.flatMap fun x => trm x.1 := fun d => by simp [qn, List.flatMap_map]
  have := qx3 q06 18 (by decide) Try.isAgg64 Try.sizeOf64 (fun x : G4 => trm x.1) (fun x => zp x.2.1) (fun x a ha => ?_) (fun x => vo _) (fun x y => qu2 x.1 y.1) swo
    ⟨Try.f137, Try.func137, by kernel_rfl, by kernel_rfl⟩ 138 ⟨Try.f138, Try.func138, by kernel_rfl, by kernel_rfl⟩
    (fun x y => qyb x.1 y.1 x.2.1 y.2.1 x.2.2 y.2.2) d (by simp at hl; omega)
  · rw [List.length_map, e]
    refine this.mono ?_
    rintro v H' ⟨rfl, d', hp, hs, rfl⟩
    refine ⟨rfl, ?_⟩
    rw [← e d', qlz (hp.map _) ?_ hap]
    exact List.pairwise_map.2 (hs.imp fun {a b} h => by rw [qi3] at h; exact h)
  · simp only [trm, dia, List.cons_append, List.mem_cons, List.mem_append, List.not_mem_nil, or_false] at ha
    rcases ha with rfl | ha | rfl
    · rfl
    · unfold u8s at ha
      obtain ⟨y, _, rfl⟩ := List.mem_map.1 ha
      rfl
    · rfl
def Uj : BE := fun hp xs => match xs with
  | [.slc b 0 n false 0, .fn 138 [] []] => match hp[b]? with
    | some (.vec 18 l) => match Jy n l with
      | some ts => chk (l.length = n * 18 ∧ n ≤ 1000000 ∧ (∀ t ∈ ts, 0 ≤ t.1 ∧ t.1 ≤ 8) ∧ (ts.map txt).Nodup) (some (.tup [], hp.set b (.vec 18 (qn (Xs ts)))))
      | none => none
    | _ => none
  | _ => none
theorem qzf : Am.Callee Try.prog 137 Uj := Callee.wr1 fun hp xs v hp' he => by
  unfold Uj at he
  split at he
  · rename_i b n
    split at he
    · rename_i l hb
      split at he
      · rename_i ts hts
        obtain ⟨h0, he⟩ := qi he
        simp only [Option.some.injEq, Prod.mk.injEq] at he
        obtain ⟨rfl, rfl⟩ := he
        obtain ⟨e1, e2, e3, e4⟩ := j0 hts
        have hl : l = qn ts := by rw [← e3, List.take_of_length_le (by omega)]
        subst hl
        refine ⟨18, qn ts, _, b, [.slc 0 0 ts.length false 0, .fn 138 [] []], hb, rfl, qb _, qb _, ?_, rfl, ⟨by simp [AV.under], ⟨trivial, trivial⟩, trivial⟩, rfl, ?_⟩
        · simp only [AV.zk, AV.ren, one, if_true, e1, Nat.zero_add]
        · exact qza ts (by omega) (fun t ht => ⟨e2 t ht, h0.2.2.1 t ht⟩) h0.2.2.2
      · cases he
    · cases he
  · cases he
def B27 : zq := (B26.put 137 (Uj))
theorem qop : qy Try.prog B27 := (qsv.put (qzf))
theorem Zy : B27 103 = some (qk Ur) := rfl
theorem ji : B27 137 = some (Uj) := rfl
def esT : Nat → List (Int × List Nat × Int) → List AE
  | _, [] => []
  | k, t :: l => ⟨.agg (dia t.1 t.2.1), .int .i64 t.2.2, k⟩ :: esT (k + 1) l
def Qp (ts : List (Int × List Nat × Int)) : AO := .map (esT 0 ts) ts.length
def xg (p : Int) (ts : List (Int × List Nat × Int)) : List (Int × List Nat × Int) := ts.filterMap fun t => if t.2.2.emod p = 0 then none else some (t.1, t.2.1, t.2.2.emod p)
def y5 (ts : List (Int × List Nat × Int)) (seen : List Nat) : List (Int × List Nat × Int) := seen.map fun i => ts.getD i (0, [], 0)
theorem Be : ∀ {ts : List (Int × List Nat × Int)} {k : Nat} {e : AE}, e ∈ esT k ts → ∃ i, i < ts.length ∧ e = ⟨.agg (dia (ts.getD i (0, [], 0)).1 (ts.getD i (0, [], 0)).2.1), .int .i64 (ts.getD i (0, [], 0)).2.2, k + i⟩
  | [], k, e, h => by cases h
  | t :: l, k, e, h => by
    rcases List.mem_cons.1 h with rfl | h
    · exact ⟨0, by simp, by simp⟩
    · obtain ⟨i, h1, rfl⟩ := Be h
      refine ⟨i + 1, by simpa using h1, ?_⟩
      simp only [List.getD_cons_succ, AE.mk.injEq, true_and]; omega
theorem qp6 : ∀ {ts : List (Int × List Nat × Int)} {k i : Nat}, i < ts.length → (⟨.agg (dia (ts.getD i (0, [], 0)).1 (ts.getD i (0, [], 0)).2.1), .int .i64 (ts.getD i (0, [], 0)).2.2, k + i⟩ : AE) ∈ esT k ts
  | t :: l, k, 0, h => by simp [esT]
  | t :: l, k, i + 1, h => by
    have := qp6 (ts := l) (k := k + 1) (i := i) (by simpa using h)
    simp only [esT, List.mem_cons]
    right
    rw [show k + (i + 1) = k + 1 + i by omega]
    simpa using this
theorem qmt : ∀ {ts : List (Int × List Nat × Int)} {k i : Nat}, i < ts.length → (esT k ts).find? (fun x => x.born == k + i) = some ⟨.agg (dia (ts.getD i (0, [], 0)).1 (ts.getD i (0, [], 0)).2.1), .int .i64 (ts.getD i (0, [], 0)).2.2, k + i⟩
  | t :: l, k, 0, h => by simp [esT]
  | t :: l, k, i + 1, h => by
    have := qmt (ts := l) (k := k + 1) (i := i) (by simpa using h)
    rw [show k + 1 + i = k + (i + 1) by omega] at this
    simp only [esT, List.find?_cons]
    rw [show (k == k + (i + 1)) = false by simp]
    simpa using this
theorem qbz (n : Nat) (ts : List (Int × List Nat × Int)) (k : Nat) : ∀ e ∈ esT k ts, e.key.under n ∧ e.val.under n := fun e he => by
  obtain ⟨i, _, rfl⟩ := Be he
  exact ⟨ql _ _ (qf _ _), trivial⟩
theorem Q4 (ρ : Ren) (ts : List (Int × List Nat × Int)) : (Qp ts).ren ρ = Qp ts := by
  simp only [Qp, AO.ren]
  congr 1
  conv => rhs; rw [← List.map_id (esT 0 ts)]
  refine List.map_congr_left fun e he => ?_
  obtain ⟨i, _, rfl⟩ := Be he
  simp only [AE.ren, AV.ren, qc _ _ (qf _ _), id]
theorem Vc (ids : List Nat) (ts : List (Int × List Nat × Int)) : (Qp ts).within ids = true := by
  simp only [Qp, AO.within, List.all_eq_true]
  intro e he
  obtain ⟨i, _, rfl⟩ := Be he
  simp only [AV.within, qe _ _ (qf _ _), Bool.and_self]
theorem yl (ids : List Nat) (ts : List (Int × List Nat × Int)) (k : Nat) : (AO.map (esT 0 ts) k).within ids = true := Vc ids ts
theorem Ve (ρ : Ren) (ts : List (Int × List Nat × Int)) (k : Nat) : (AO.map (esT 0 ts) k).ren ρ = AO.map (esT 0 ts) k := by
  have := Q4 ρ ts
  simp only [Qp, AO.ren, AO.map.injEq] at this ⊢
  exact ⟨this.1, trivial⟩
theorem qvg {r m : Nat} {ts : List (Int × List Nat × Int)} {seen : List Nat} {hp : List AO} {K : AV → List AO → Prop} (h1 : hp[r]? = some (.xw (some m) ts.length seen ts.length)) (h2 : hp[m]? = some (Qp ts))
    (hend : (∀ i, i < ts.length → i ∈ seen) → K (.tup [.bool false]) hp)
    (hgo : ∀ i, i < ts.length → i ∉ seen → K (.tup [.bool true, .agg (dia (ts.getD i (0, [], 0)).1 (ts.getD i (0, [], 0)).2.1), .int .i64 (ts.getD i (0, [], 0)).2.2]) (hp.set r (.xw (some m) ts.length (seen ++ [i]) ts.length))) :
    wbN (.ptr r 0) hp K := by
  simp only [wbN, qpv, h1, h2, Qp]
  refine ⟨_, qbn ⟨trivial, trivial, fun e he => ?_⟩, fun h => ?_, fun e he hs => ?_⟩
  · obtain ⟨i, h3, rfl⟩ := Be he; show 0 + i < _; omega
  · refine hend fun i hi => ?_
    have := h _ (qp6 (k := 0) hi)
    simpa using this
  · obtain ⟨i, h3, rfl⟩ := Be he
    simp only [Nat.zero_add] at hs ⊢
    exact hgo i h3 hs
theorem qu5 {B : zq} {n0 nt : Nat} {dst : Option Nat} {it : Opd} {l : List AI} {b : AC} {Q : AX → St → Prop} {s : St}
    (h : wbN (ev s.env it) s.hp (fun v hp' => wbC Try.prog B n0 nt (.seq (.region l) b) Q ⟨xm dst v s.env, hp'⟩)) : wbC Try.prog B n0 nt (.seq (.region (⟨dst, none, .next it⟩ :: l)) b) Q s := h
theorem qv5 {ts : List (Int × List Nat × Int)} {seen : List Nat} (hn : seen.Nodup) (hlt : ∀ i ∈ seen, i < ts.length) (h : ∀ i, i < ts.length → i ∈ seen) : (y5 ts seen).Perm ts := by
  have hp : seen.Perm (List.range ts.length) := (List.perm_ext_iff_of_nodup hn List.nodup_range).2 fun i => ⟨fun hi => List.mem_range.2 (hlt i hi), fun hi => h i (List.mem_range.1 hi)⟩
  have e : (List.range ts.length).map (fun i => ts.getD i (0, [], 0)) = ts := by
    apply List.ext_getElem (by simp)
    intro i h1 h2
    simp at h1
    simp [h1]
  unfold y5
  refine (hp.map _).trans ?_
  rw [e]
theorem qrf {p : Int} {a b : List (Int × List Nat × Int)} (h : a.Perm b) : (xg p a).Perm (xg p b) := h.filterMap _
theorem qfk {p : Int} : ∀ {l : List (Int × List Nat × Int)}, Ui l → Ui (xg p l) := fun {l} h => by
  unfold Ui xg at *
  refine List.Nodup.sublist ?_ h
  induction l with
  | nil => exact List.nil_sublist _
  | cons t l ih =>
    simp only [List.filterMap_cons]
    split
    · exact (ih (List.nodup_cons.1 h).2).trans (List.sublist_cons_self _ _)
    · rename_i u hu
      split at hu
      · cases hu
      · cases hu
        exact (ih (List.nodup_cons.1 h).2).cons_cons _
theorem qe7 {p : Int} {l : List (Int × List Nat × Int)} {t : Int × List Nat × Int} (h : t ∈ xg p l) : ∃ u ∈ l, t = (u.1, u.2.1, u.2.2.emod p) ∧ u.2.2.emod p ≠ 0 := by
  obtain ⟨u, hu, he⟩ := List.mem_filterMap.1 h
  split at he
  · cases he
  · rename_i hne; cases he; exact ⟨u, hu, rfl, hne⟩
theorem qpb {p : Int} {l : List (Int × List Nat × Int)} (h : okT l) : okT (xg p l) := fun t ht => by
  obtain ⟨u, hu, rfl, _⟩ := qe7 ht; exact h u hu
theorem qlk {ts : List (Int × List Nat × Int)} {seen : List Nat} (h : okT ts) (hlt : ∀ i ∈ seen, i < ts.length) : okT (y5 ts seen) := fun t ht => by
  obtain ⟨i, hi, rfl⟩ := List.mem_map.1 ht
  have := hlt i hi
  simp only [List.getD_eq_getElem?_getD, List.getElem?_eq_getElem this, Option.getD_some]
  exact h _ (List.getElem_mem _)
theorem qhp (l : List (Int × List Nat × Int)) (t : Int × List Nat × Int) : qn l ++ trm t = qn (l ++ [t]) := by simp [qn]
theorem zw : [AV.int .i64 0, .int .u8 0, .int .u8 0, .int .u8 0, .int .u8 0, .int .u8 0, .int .u8 0, .int .u8 0, .int .u8 0, .int .u8 0, .int .u8 0, .int .u8 0, .int .u8 0, .int .u8 0, .int .u8 0, .int .u8 0, .int .u8 0] = dia 0 (List.replicate 16 0) := rfl
theorem uk {n : Int} {m : List Nat} (h : m.length = 16) : over (dia 0 (List.replicate 16 0)) 0 (dia n m) = dia n m := qav (by rw [qd, qd, h, List.length_replicate])
theorem qby {n : Int} {m : List Nat} (h : m.length = 16) : over (trm (0, List.replicate 16 0, 0)) 0 (dia n m) = trm (n, m, 0) := X3 (by simp) h
theorem xj : (trm (0, List.replicate 16 0, 0)).length = 18 := rfl
theorem jx : (dia 0 (List.replicate 16 0)).length = 17 := rfl
def Xz : AC := .seq (.region [⟨some 23,none,.next (.t 22)⟩,oE 24 0 23]) (.seq (.cond 24 .skip (.exit 0)) (.block 1 (.seq (.region [o0 25 (.entry (.t 22)),oE 26 0 25,oE 27 1 25,o0 6 (.alloc [.int .i64 0,.int .u8 0,.int .u8 0,.int .u8 0,.int .u8 0,.int .u8 0,.int .u8 0,.int .u8 0,.int .u8 0,.int .u8 0,.int .u8 0,.int .u8 0,.int .u8 0,.int .u8 0,.int .u8 0,.int .u8 0,.int .u8 0]),oS 17 6 26,oM 7 27]) (.seq (.region [oM 28 7,oM 29 0,o0 30 (.j4 (.t 29)),oF 31 0 30,oL 32 31,oC 33 103 [.t 28,.t 32],oM 7 33]) (.seq (.region [oM 34 7,oK 35 .neq 34 0]) (.cond 35 (.seq (.region [oF 36 0 6,oL 37 36,oF 38 2 5,oT 38 37]) (.region [oF 39 3 5,oL 40 39,oN 41 17 6,oM 42 7,o0 43 (.build [.int .i64 0,.int .u8 0,.int .u8 0,.int .u8 0,.int .u8 0,.int .u8 0,.int .u8 0,.int .u8 0,.int .u8 0,.int .u8 0,.int .u8 0,.int .u8 0,.int .u8 0,.int .u8 0,.int .u8 0,.int .u8 0,.int .u8 0,.int .i64 0] [(0,17,.t 41),(17,1,.t 42)]),o0 44 (.kh 1 [.int .i64 0,.int .u8 0,.int .u8 0,.int .u8 0,.int .u8 0,.int .u8 0,.int .u8 0,.int .u8 0,.int .u8 0,.int .u8 0,.int .u8 0,.int .u8 0,.int .u8 0,.int .u8 0,.int .u8 0,.int .u8 0,.int .u8 0,.int .i64 0] [(0,18,.t 43)]),o0 45 (.append 18 32 (.t 40) (.t 44)),oF 46 3 5,oT 46 45])) .skip))))))
def Xu : AC := .seq (.region [oF 47 3 5,oL 48 47,⟨some 49,none,.call (.c (.fn 137 [] [])) [.t 48,(.c (.fn 138 [] []))]⟩]) (.seq (.region [oN 50 4 5,oS 4 4 50]) .ret)
def Wc : AC := .seq (.region [o0 4 (.alloc [.int .i64 0,.int .i64 0,.int .i64 0,(.v (.slice none 0 0))])]) (.seq (.draw false [oM 8 0,o0 9 (.j4 (.t 8)),oF 10 0 9,oL 11 10,oM 12 0,o0 13 (.j4 (.t 12)),oF 14 1 13,oL 15 14,oM 16 0,o0 17 (.j4 (.t 16)),oF 18 2 17,oL 19 18,o0 20 (.build [.int .i64 0,.int .i64 0,.int .i64 0,(.v (.slice none 0 0))] [(0,1,.t 11),(1,1,.t 15),(2,1,.t 19)]),o0 5 (.alloc [.int .i64 0,.int .i64 0,.int .i64 0,(.v (.slice none 0 0))]),oS 4 5 20]) (.seq (.seq (.region [oM 21 1,o0 22 (.Ug (.t 21))]) (.block 0 (.loop Xz))) Xu))
theorem qbp : zh Try.prog 113 = some ⟨51, Wc, [.ba 4 4]⟩ := by kernel_rfl
def qh2 (p c n sz : Int) (ts : List (Int × List Nat × Int)) (seen : List Nat) : St :=
  ⟨[(22, .ptr 4 0), (5, .ptr 3 0), (4, .ptr 2 0), (0, .ptr 0 0)], [.ro [.int .i64 p, .int .i64 c, .int .i64 n], Qp ts, .cells [.int .i64 0, .int .i64 0, .int .i64 0, .v (.slice none 0 0)],
    .cells [.int .i64 p, .int .i64 c, .int .i64 (if xg p (y5 ts seen) = [] then n else sz), .slc 5 0 (xg p (y5 ts seen)).length false 0], .xw (some 1) ts.length seen ts.length, .vec 18 (qn (xg p (y5 ts seen)))]⟩
def q0x (p c n sz : Int) (ts : List (Int × List Nat × Int)) (s : St) : Prop := ∃ seen : List Nat, seen.Nodup ∧ (∀ i ∈ seen, i < ts.length) ∧ s = qh2 p c n sz ts seen
def qwa (ts : List (Int × List Nat × Int)) (s : St) : Nat := match s.hp[4]? with | some (AO.xw _ _ seen _) => ts.length - seen.length | _ => 0
theorem qz9 (p c n sz : Int) (ts : List (Int × List Nat × Int)) (hp : 0 < p ∧ p ≤ 1000000) (hs : 0 ≤ sz ∧ sz ≤ 8) (ht : okT ts) (hz : ∀ t ∈ ts, t.1 = sz) (ha : Ui ts) (hl : ts.length ≤ 1000000) :
    Am.Fn Try.prog 113 [.ptr 0 0, .map 1] [.ro [.int .i64 p, .int .i64 c, .int .i64 n], Qp ts] (fun v H' => v = elemV p c (if xg p ts = [] then n else sz) 2 (xg p ts).length ∧
      H' = [.ro [.int .i64 p, .int .i64 c, .int .i64 n], Qp ts, .vec 18 (qn (Xs (xg p ts)))]) := by
  refine Am.Fn.ofB qop mixed qbp (by simp) ?_ ?_
  · intro j o hj
    match j, hj with
    | 0, hj => cases hj; exact ⟨trivial, trivial, trivial, trivial⟩
    | 1, hj => cases hj; exact qbz _ _ _
    | j + 2, hj => simp at hj
  have hm : Qp ts = .map (esT 0 ts) ts.length := rfl
  simp (maxSteps := 3000000) only [Wc, hm, qid, qiy, qjn, qif, qi1, Zy, ji, Ur, Uj, vh, rd, wrt, wrl, AO.yu, List.getElem?_cons_zero, List.getElem?_cons_succ, List.set_cons_zero, List.set_cons_succ, qa, zZ, ↓qm, ↓reduceIte, reduceCtorEq, nA, nM, nS, nE, nL, nD]; try simp only [qa, zY]
  refine ⟨rfl, WA.jj qop (q0x p c n sz ts) (qwa ts) ⟨qh2 p c n sz ts [], ?_, [], .nil, by simp, rfl⟩ ?_⟩
  · refine q6.trans (q6.qz [22, 5, 4, 0]) ?_
    refine Eq.subst (motive := fun s' => q6 2 _ s') ?_ (q6.q01 3 3 18 rfl rfl (by simp) ?_ ?_)
    · simp only [qz, zt]
      rfl
    · simp [qz, zt, AV.under]
    · simp only [List.mem_cons, List.not_mem_nil, or_false, forall_eq_or_imp, forall_eq]
      exact ⟨⟨trivial, trivial, trivial, trivial⟩, qbz _ _ _, ⟨trivial, trivial, trivial, trivial, trivial⟩, ⟨trivial, trivial, trivial, trivial, trivial⟩, fun b h => by cases h; simp⟩
  rintro s ⟨seen, hnd, hlt, rfl⟩
  unfold Xz
  refine qu5 (qvg (r := 4) (m := 1) (ts := ts) (seen := seen) rfl rfl (fun hall => ?_) (fun i hi hsn => ?_))
  · have hpm := qv5 hnd hlt hall
    have hr := qrf (p := p) hpm
    have hrt := qpb (p := p) (qlk ht hlt)
    have hap : (List.map txt (xg p (y5 ts seen))).Nodup := (hr.map txt).nodup_iff.2 (qfk ha)
    have hsz : ∀ t ∈ xg p (y5 ts seen), 0 ≤ t.1 ∧ t.1 ≤ 8 := fun t h => by
      obtain ⟨u, hu, rfl, _⟩ := qe7 (hr.mem_iff.1 h)
      simp only [hz u hu]; exact hs
    have hlen : (xg p (y5 ts seen)).length = (xg p ts).length := hr.length_eq
    have hle : (xg p ts).length ≤ 1000000 := Nat.le_trans (List.length_filterMap_le _ _) hl
    have hle' : (xg p (y5 ts seen)).length ≤ 1000000 := by omega
    have hso : Xs (xg p (y5 ts seen)) = Xs (xg p ts) := qlz ((kq _).trans hr) ((K6 hap).imp fun {a b} h => qc2 _ _ h) (qfk ha)
    have hnil : (xg p (y5 ts seen) = []) = (xg p ts = []) := propext ⟨fun h => by rw [h] at hr; exact List.nil_perm.1 hr, fun h => by rw [h] at hr; exact List.perm_nil.1 hr⟩
    have htl := qt hrt
    have hto := jm hrt
    rw [hlen] at htl hto
    unfold qh2
    simp (maxSteps := 3000000) only [qj, zH, Xu, Zy, ji, Ur, Uj, htl, hto, hle, hap, hsz, hso, hnil, hlen, qa, zZ, ↓qm, ↓reduceIte, reduceCtorEq, nA, nM, nS, nE, nL, nD]; try simp only [qa, zY]
    refine ⟨hsz, rfl, ?_⟩
    refine Ret.jb [0, 1, 5] ⟨⟨by simp, rfl, by decide⟩, ?_⟩ (rs := [.agg [.int .i64 p, .int .i64 c, .int .i64 (if xg p ts = [] then n else sz), .slc 5 0 (xg p ts).length false 0]]) rfl rfl (by simp [zy]) ?_ ⟨?_, ?_⟩
    · simp only [Vc, ↓yl, qe _ _ (qb _), zK, ↓reduceIte, reduceCtorEq, nE, nB, nA]
    · intro j l; match j with
      | 0 => exact fun _ => ⟨_, rfl⟩
      | 1 => simp [q9, Q4]; simp [Qp]
      | 2 => simp [q9, AO.ren]
      | j + 3 => simp [q9]
    · simp only [elemV, zy]
      simp only [zL, ↓reduceIte, reduceCtorEq, nE, nA]
    · simp only [Q4, ↓Ve, qc _ _ (qb _), zL, ↓reduceIte, reduceCtorEq, nE, nA]
      rfl
  · unfold qh2
    have htm : ts.getD i (0, [], 0) ∈ ts := by rw [List.getD_eq_getElem?_getD, List.getElem?_eq_getElem hi]; exact List.getElem_mem _
    have hk : okD (ts.getD i (0, [], 0)).2.1 := ht _ htm
    have h1 : (ts.getD i (0, [], 0)).1 = sz := hz _ htm
    have hfind := qmt (ts := ts) (k := 0) hi
    have hlast : (seen ++ [i]).getLast? = some i := List.getLast?_concat ..
    have hpk : y5 ts (seen ++ [i]) = y5 ts seen ++ [ts.getD i (0, [], 0)] := by simp [y5]
    have hnd' : (seen ++ [i]).Nodup := by
      rw [List.nodup_append]
      exact ⟨hnd, by simp, fun a ha b hb => by simp at hb; subst hb; rintro rfl; exact hsn ha⟩
    have hlt' : ∀ j ∈ seen ++ [i], j < ts.length := fun j hj => by
      rcases List.mem_append.1 hj with h | h
      · exact hlt j h
      · simp at h; omega
    have hsl : seen.length < ts.length := by
      have := Uw ts.length (seen ++ [i]) hnd' hlt'
      simp at this; omega
    rw [Nat.zero_add] at hfind
    generalize htt : ts.getD i (0, [], 0) = t at hk h1 hfind hpk ⊢
    obtain ⟨n1, m1, k1⟩ := t
    simp only at hk h1 hfind
    subst h1
    have hone : (dia n1 m1).all AV.one = true := zl _ _
    have hrt := qpb (p := p) (qlk ht hlt)
    have htl := qt hrt
    have htk : List.take ((xg p (y5 ts seen)).length * 18) (qn (xg p (y5 ts seen))) = qn (xg p (y5 ts seen)) := List.take_of_length_le (by rw [htl]; exact Nat.le_refl _)
    have hbd : (xg p (y5 ts seen)).length ≤ 1000000 := by
      have := List.length_filterMap_le (fun t : Int × List Nat × Int => if t.2.2.emod p = 0 then none else some (t.1, t.2.1, t.2.2.emod p)) (y5 ts seen)
      have h2 : (y5 ts seen).length = seen.length := by simp [y5]
      unfold xg; omega
    by_cases hkz : k1.emod p = 0
    · have hre : xg p (y5 ts (seen ++ [i])) = xg p (y5 ts seen) := by rw [hpk]; simp [xg, hkz]
      simp (maxSteps := 3000000) only [qj, zH, Zy, ji, Ur, Uj, hkz, hp, hm, qd, hk.1, hlast, hfind, hone, zw, uk hk.1, qby hk.1, Jg (t := (n1, m1, 0)) hk.1, xz, yi, xj, jx, qp hk.1, x6, src, Bx, qpn, Int.toNat_zero, Option.map_some, Option.map_none, List.length_replicate, Qw (t := (0, List.replicate 16 0, 0)) (u := (n1, m1, k1.emod p)) (by simp) hk.1, Qc (t := (n1, m1, k1.emod p)) hk.1, htk, htl, qa, zZ, ↓qm, ↓reduceIte, reduceCtorEq, nA, nM, nS, nE, nL, nD]; try simp only [qa, zY]
      refine ⟨_, q6.jb [0, 1, 2, 3, 4, 5] [22, 5, 4, 0] ⟨by decide, ?_⟩ ?_, ⟨seen ++ [i], hnd', hlt', ?_⟩, ?_⟩
      · simp only [Vc, ↓yl, qe _ _ (qb _), zK, ↓reduceIte, reduceCtorEq, nE, nB, nA]
      · simp only [zK, ↓reduceIte, reduceCtorEq, nE, nB, nA]
      · unfold qh2
        simp only [Q4, ↓Ve, qc _ _ (qb _), hre, zL, ↓reduceIte, reduceCtorEq, nE, nA]
        rfl
      · simp only [qwa]
        simp only [Q4, ↓Ve, zL, ↓reduceIte, reduceCtorEq, nE, nA]
        simp; omega
    · have hre : xg p (y5 ts (seen ++ [i])) = xg p (y5 ts seen) ++ [(n1, m1, k1.emod p)] := by rw [hpk]; simp [xg, hkz]
      simp (maxSteps := 3000000) only [qj, zH, Zy, ji, Ur, Uj, hkz, hp, hm, qd, hk.1, hlast, hfind, hone, zw, uk hk.1, qby hk.1, Jg (t := (n1, m1, 0)) hk.1, xz, yi, xj, jx, qp hk.1, x6, src, Bx, qpn, Int.toNat_zero, Option.map_some, Option.map_none, List.length_replicate, Qw (t := (0, List.replicate 16 0, 0)) (u := (n1, m1, k1.emod p)) (by simp) hk.1, Qc (t := (n1, m1, k1.emod p)) hk.1, htk, htl, qa, zZ, ↓qm, ↓reduceIte, reduceCtorEq, nA, nM, nS, nE, nL, nD]; try simp only [qa, zY]
      refine ⟨rfl, ⟨Nat.le_refl _, by omega⟩, rfl, _, q6.jb [0, 1, 2, 3, 4, 8] [22, 5, 4, 0] ⟨by decide, ?_⟩ ?_, ⟨seen ++ [i], hnd', hlt', ?_⟩, ?_⟩
      · simp only [Vc, ↓yl, qhp, qe _ _ (qb _), zK, ↓reduceIte, reduceCtorEq, nE, nB, nA]
      · simp only [zK, ↓reduceIte, reduceCtorEq, nE, nB, nA]
      · unfold qh2
        have hne : (xg p (y5 ts seen) ++ [(n1, m1, k1.emod p)] = []) = False := by simp
        simp only [Q4, ↓Ve, qhp, qc _ _ (qb _), hre, hne, List.length_append, List.length_nil, List.length_cons, zL, ↓reduceIte, reduceCtorEq, nE, nA]
        rfl
      · simp only [qwa]
        simp only [Q4, ↓Ve, zL, ↓reduceIte, reduceCtorEq, nE, nA]
        simp; omega
end Go.Proofs.Ytkgoadglalpbfaa

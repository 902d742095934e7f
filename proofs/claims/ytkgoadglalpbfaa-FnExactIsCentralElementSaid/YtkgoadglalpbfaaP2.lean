/- Contracts: comparisons of elements. Contracts: marks in elements. Contracts: marks in elements, the elements themselves. Contracts: the program's test of lists of diagrams. Contracts: the reference's element of a diagram. Contracts: the reference's element of a diagram. Contracts: entries for the elements of diagrams. Contracts: comparing and sorting terms. Contracts: an element of a sum. Contracts: the element of a diagram. Contracts: the statement FnExactElementOf. -/
import Derived.Test.YtkgoadglalpbfaaP1
import Derived.Test.YtkgoadglalpbfaaAmC
import Derived.Shelf.Small.Strs
namespace Go.Proofs.Ytkgoadglalpbfaa
open Go.Am Go.Dia
open Nat renaming reduceAdd → nA, reduceMul → nM, reduceSub → nS, reduceEqDiff → nE, reduceLT → nL, reduceLeDiff → nD, reduceBEq → nB
open Int renaming reduceEq → iE, reduceNe → iN, reduceBEq → iB, reduceBNe → iC, reduceLT → iL, reduceLE → iD, reduceAdd → iA, reduceSub → iS, reduceMul → iM
set_option linter.unusedSimpArgs false
set_option linter.unusedVariables false
set_option maxRecDepth 4000
set_option maxHeartbeats 1000000
theorem qdl : B13 106 = some (qj J3) := rfl
def Ju : AC := .seq (.seq (.region [oM 11 5,oM 12 0,o0 13 (.len .slc (.t 12)),oP 14 .lss 11 13]) (.cond 14 .skip (.exit 0))) (.seq (.block 1 (.seq (.draw false [oM 17 0,oM 18 5,oX 19 18 17 18,oN 20 18 19,oM 21 1,oM 22 5,oX 23 18 21 22,oN 24 18 23,oC 25 106 [.t 20,.t 24],o0 26 (.un .not (.t 25))]) (.cond 26 (.seq (.region [oB 4 false]) .ret) .skip))) (.region [oM 15 5,oK 16 .add 15 1,oM 5 16]))
def Uo : AC := .seq (.region [oB 4 true]) .ret
def qc7 : AC := .seq (.region [oB 4 false]) (.seq (.seq (.region [oM 6 0,o0 7 (.len .slc (.t 6)),oM 8 1,o0 9 (.len .slc (.t 8)),oP 10 .neq 7 9]) (.cond 10 (.seq (.region [oB 4 false]) .ret) .skip)) (.seq (.seq (.region [oI 5 0]) (.block 0 (.loop Ju))) Uo))
theorem qlz : zk Try.prog 54 = some ⟨27, qc7, [.slot 4]⟩ := by kernel_rfl
def Gl : AC := .seq (.region [o0 2 (.box (.t 0)),o0 3 (.box (.t 1)),oB 4 false]) (.seq (.seq (.region [oF 5 0 2,oL 6 5,oF 7 0 3,oL 8 7,oP 9 .neq 6 8]) (.cond 9 (.seq (.region [oB 4 false]) .ret) .skip)) (.seq (.seq (.region [oF 10 1 2,oL 11 10,oF 12 1 3,oL 13 12,oP 14 .neq 11 13]) (.cond 14 (.seq (.region [oB 4 false]) .ret) .skip)) (.seq (.seq (.region [oF 15 2 2,oL 16 15,oF 17 2 3,oL 18 17,oP 19 .neq 16 18]) (.cond 19 (.seq (.region [oB 4 false]) .ret) .skip)) (.seq (.seq (.region [oF 20 3 2,oL 21 20,oF 22 3 3,oL 23 22,oC 24 54 [.t 21,.t 23],o0 25 (.un .not (.t 24))]) (.cond 25 (.seq (.region [oB 4 false]) .ret) .skip)) (.seq (.region [oB 4 true]) .ret)))))
theorem qgr : zk Try.prog 19 = some ⟨26, Gl, [.slot 4]⟩ := by kernel_rfl
def Jt : Nat → List AV → Option (List (Int × List Nat × Int))
  | 0, _ => some []
  | k + 1, l => match qcn (l.take 18), Jt k (l.drop 18) with
    | some t, some ts => some (t :: ts)
    | _, _ => none
theorem qg8 : ∀ {ts : List (Int × List Nat × Int)} {x : List AV}, okT ts → Jt ts.length (qt ts ++ x) = some ts
  | [], _, _ => rfl
  | t :: ts, x, h => by
    have h1 := qg8 (ts := ts) (x := x) fun u hu => h u (List.mem_cons_of_mem _ hu)
    have h2 := zp (h t (by simp))
    simp only [qt, List.flatMap_cons, List.length_cons, Jt, List.append_assoc] at h1 ⊢
    rw [List.take_append_of_le_length (by omega), List.take_of_length_le (by omega), Bq (h t (by simp)), List.drop_append, List.drop_of_length_le (by omega), h2, List.nil_append]
    simp only [Nat.sub_self, List.drop_zero, h1]
theorem jq {ts : List (Int × List Nat × Int)} (h : okT ts) : Jt ts.length (qt ts) = some ts := by
  have := qg8 (x := []) h
  rwa [List.append_nil] at this
theorem j2 : ∀ {k : Nat} {l : List AV} {ts : List (Int × List Nat × Int)}, Jt k l = some ts → ts.length = k ∧ okT ts ∧ l.take (k * 18) = qt ts ∧ k * 18 ≤ l.length
  | 0, l, ts, h => by cases h; exact ⟨rfl, by simp [okT], by simp [qt], by omega⟩
  | k + 1, l, ts, h => by
    simp only [Jt] at h
    split at h
    · rename_i t us ht hus
      cases h
      obtain ⟨h1, h2, h3, h4⟩ := j2 hus
      obtain ⟨h5, h6⟩ := W0 ht
      have h7 := zp h6
      have h8 : 18 ≤ l.length := by
        have := congrArg List.length h5
        rw [h7, List.length_take] at this; omega
      rw [List.length_drop] at h4
      refine ⟨by simp [h1], fun u hu => ?_, ?_, by omega⟩
      · rcases List.mem_cons.1 hu with rfl | hu
        · exact h6
        · exact h2 u hu
      · rw [show (k + 1) * 18 = 18 + k * 18 from by omega, List.take_add, h5, h3]; rfl
    · cases h
def two (b b' : Nat) : Ren := fun j => if j = 0 then some (b, 0) else if j = 1 then some (b', 0) else none
theorem Callee.ro2 {f : FuncId} {g : BE} (h : ∀ hp xs v hp', g hp xs = some (v, hp') → ∃ (l l' : List AV) (b b' : Nat) (ys : List AV), hp' = hp ∧ (∃ L, rd hp b = some L ∧ l.length ≤ L.length ∧ L.take l.length = l) ∧ (∃ L, rd hp b' = some L ∧ l'.length ≤ L.length ∧ L.take l'.length = l') ∧
    AV.zg l = true ∧ AV.zg l' = true ∧ xs = AV.zl (two b b') ys ∧ xs.all vq = true ∧ AV.qy 2 ys ∧ v.zm = true ∧ Am.Fn Try.prog f ys [.ro l, .ro l'] fun v' H' => v' = v ∧ H' = [.ro l, .ro l']) : Am.Callee Try.prog f g := by
  intro hp xs v hp' he
  obtain ⟨l, l', b, b', ys, rfl, ⟨L, hL, h1, h2⟩, ⟨L', hL', h1', h2'⟩, h3, h3', h4, h5, h6, h7, h8⟩ := h hp xs v hp' he
  refine ⟨[.ro l, .ro l'], ys, _, two b b', [(b, 0), (b', 0)], h8, h4, h5, ⟨fun j hj => ?_, rfl, fun j o c hj hb => ?_, fun j k bj bk oj ok hj hk hoj hok hw => ?_⟩, ?_, h6, ?_⟩
  · match j, hj with
    | 0, _ => rfl
    | 1, _ => rfl
  · match j, hj, hb with
    | 0, hj, hb =>
      cases hj; cases hb
      exact ⟨L, hL, by omega, by rw [List.drop_zero, qd _ _ h3]; exact h2⟩
    | 1, hj, hb =>
      cases hj; cases hb
      exact ⟨L', hL', by omega, by rw [List.drop_zero, qd _ _ h3']; exact h2'⟩
    | j + 2, hj, hb => simp at hj
  · match j, hoj with
    | 0, hoj => cases hoj; cases hw
    | 1, hoj => cases hoj; cases hw
    | j + 2, hoj => simp at hoj
  · intro j o hj
    match j, hj with
    | 0, hj => cases hj; exact ql _ _ h3
    | 1, hj => cases hj; exact ql _ _ h3'
    | j + 2, hj => simp at hj
  · rintro v' H' ⟨rfl, rfl⟩
    exact ⟨Qy _ _ h7, by simp [after, upd, AO.wr]⟩
theorem Jb {l l' : List AV} (h : AV.zg l = true) (h' : AV.zg l' = true) : ∀ (j : Nat) (o : AO), [AO.ro l, AO.ro l'][j]? = some o → o.under [AO.ro l, AO.ro l'].length := by
  intro j o e
  match j, e with
  | 0, e => cases e; exact ql _ _ h
  | 1, e => cases e; exact ql _ _ h'
  | j + 2, e => simp at e
theorem qmj (a b : List (Int × List Nat × Int)) (ha : okT a) (hb : okT b) (hal : a.length ≤ 2000000) :
    Am.Fn Try.prog 54 [.slc 0 0 a.length false 0, .slc 1 0 b.length false 0] [.ro (qt a), .ro (qt b)] (fun v H' => v = .bool (decide (a = b)) ∧ H' = [.ro (qt a), .ro (qt b)]) := by
  refine Am.Fn.xj (R := fun v => v = _) qoe mixed qlz (by simp) (Jb (qb _) (qb _)) ?_
  simp (maxSteps := 3000000) only [qc7, qa, zZ, ↓qm, ↓reduceIte, reduceCtorEq, nA, nM, nS, nE, nL, nD]; try simp only [qa, zY]
  refine ⟨fun h => ⟨⟨_, rfl⟩, ?_⟩, fun h => ?_⟩
  · symm; rw [decide_eq_false_iff_not]; rintro rfl; exact h rfl
  have hlen : a.length = b.length := by omega
  refine WA.jt qoe (fun s => ∃ k : Nat, s = ⟨[(5, .int .i64 k), (0, .slc 0 0 a.length false 0), (1, .slc 1 0 b.length false 0)], [.ro (qt a), .ro (qt b)]⟩ ∧ k ≤ a.length ∧ ∀ i, i < k → a[i]? = b[i]?)
    (fun s => match get s.env 5 with | .int _ k => (2000000 - k).toNat | _ => 0) ⟨_, q6.qz [5, 0, 1], 0, rfl, by omega, by intros; omega⟩ ?_
  rintro s ⟨k, rfl, hk, hc⟩
  have hw : qu .i64 ((k : Int) + 1) = ((k + 1 : Nat) : Int) := by rw [wrap64 (by omega) (by omega)]; rfl
  have hla := qw ha
  have hlb := qw hb
  by_cases hlt : k < a.length
  · have hga := ub ha hlt
    have hgb := ub hb (i := k) (by omega)
    have hoa := ha a[k] (List.getElem_mem hlt)
    have hob := hb b[k] (List.getElem_mem (by omega))
    simp (maxSteps := 3000000) only [Ju, hw, qdl, J3, hla, hlb, hga, hgb, Bq hoa, Bq hob, rd, List.getElem?_cons_zero, List.getElem?_cons_succ, qa, zZ, ↓qm, ↓reduceIte, reduceCtorEq, nA, nM, nS, nE, nL, nD]; try simp only [qa, zY]
    refine ⟨fun _ => ⟨⟨⟨by omega, by omega⟩, by omega⟩, by omega, ⟨⟨by omega, by omega⟩, by omega⟩, by omega, fun h2 => ⟨⟨_, rfl⟩, ?_⟩, fun h2 => ⟨_, q6.qz [5, 0, 1], ⟨k + 1, rfl, by omega, fun i hi => ?_⟩, ?_⟩⟩, fun h => absurd (by omega) h⟩
    · symm; rw [decide_eq_false_iff_not]; rintro rfl; exact h2 rfl
    · by_cases e : i = k
      · subst e; rw [List.getElem?_eq_getElem hlt, List.getElem?_eq_getElem (by omega), h2]
      · exact hc i (by omega)
    · simp only [zL, ↓reduceIte, reduceCtorEq, nE, nA]; omega
  · simp (maxSteps := 3000000) only [Ju, Uo, hw, qa, zZ, ↓qm, ↓reduceIte, reduceCtorEq, nA, nM, nS, nE, nL, nD]; try simp only [qa, zY]
    refine ⟨fun h => absurd h (by omega), fun _ => ⟨⟨_, rfl⟩, ?_⟩⟩
    symm; rw [decide_eq_true_eq]
    refine List.ext_getElem? fun i => ?_
    by_cases e : i < a.length
    · exact hc i (by omega)
    · rw [List.getElem?_eq_none (by omega), List.getElem?_eq_none (by omega)]
def Wg : BE := fun hp xs => match xs with
  | [.slc b 0 k false 0, .slc b' 0 k' false 0] => match rd hp b, rd hp b' with
    | some L, some L' => match Jt k L, Jt k' L' with
      | some ts, some ts' => chk (k ≤ 2000000) (some (.bool (decide (ts = ts')), hp))
      | _, _ => none
    | _, _ => none
  | _ => none
theorem qlu : Am.Callee Try.prog 54 Wg := Callee.ro2 fun hp xs v hp' he => by
  unfold Wg at he
  split at he
  · rename_i b k b' k'
    split at he
    · rename_i L L' hL hL'
      split at he
      · rename_i ts ts' h1 h1'
        obtain ⟨h0, he⟩ := qk he
        simp only [Option.some.injEq, Prod.mk.injEq] at he
        obtain ⟨rfl, rfl⟩ := he
        obtain ⟨e1, e2, e3, e4⟩ := j2 h1
        obtain ⟨f1, f2, f3, f4⟩ := j2 h1'
        have g1 := qw e2
        have g2 := qw f2
        refine ⟨qt ts, qt ts', b, b', [.slc 0 0 ts.length false 0, .slc 1 0 ts'.length false 0], rfl, ⟨L, hL, by omega, by rw [g1, e1]; exact e3⟩, ⟨L', hL', by omega, by rw [g2, f1]; exact f3⟩, qb _, qb _, ?_, rfl, ?_, rfl, qmj ts ts' e2 f2 (by omega)⟩
        · simp only [AV.zl, AV.ren, two, if_true, e1, f1, Nat.zero_add]
          rfl
        · exact ⟨by simp [AV.under], by simp [AV.under], trivial⟩
      · cases he
    · cases he
  · cases he
def B14 : zo := (B13.put 54 (Wg))
theorem qwj : qx Try.prog B14 := (qoe.put (qlu))
theorem qdp : B14 106 = some (qj J3) := rfl
theorem qbu : B14 54 = some (Wg) := rfl
def elemV (p c n : Int) (b k : Nat) : AV := .agg [.int .i64 p, .int .i64 c, .int .i64 n, .slc b 0 k false 0]
theorem qgi (p c n p' c' n' : Int) (a b : List (Int × List Nat × Int)) (ha : okT a) (hb : okT b) (hal : a.length ≤ 2000000) :
    Am.Fn Try.prog 19 [elemV p c n 0 a.length, elemV p' c' n' 1 b.length] [.ro (qt a), .ro (qt b)] (fun v H' => v = .bool (decide ((p = p' ∧ c = c' ∧ n = n') ∧ a = b)) ∧ H' = [.ro (qt a), .ro (qt b)]) := by
  refine Am.Fn.xj (R := fun v => v = _) qwj mixed qgr (by simp) (Jb (qb _) (qb _)) ?_
  simp (maxSteps := 3000000) only [Gl, elemV, qdp, qbu, J3, Wg, jq ha, jq hb, rd, List.getElem?_cons_zero, List.getElem?_cons_succ, qa, zZ, ↓qm, ↓reduceIte, reduceCtorEq, nA, nM, nS, nE, nL, nD]; try simp only [qa, zY]
  have hf : ¬((p = p' ∧ c = c' ∧ n = n') ∧ a = b) → false = decide ((p = p' ∧ c = c' ∧ n = n') ∧ a = b) := fun h => by
    symm; rw [decide_eq_false_iff_not]; exact h
  refine ⟨fun h => ⟨⟨_, rfl⟩, hf fun e => h e.1.1⟩, fun h => ⟨fun h2 => ⟨⟨_, rfl⟩, hf fun e => h2 e.1.2.1⟩, fun h2 => ⟨fun h3 => ⟨⟨_, rfl⟩, hf fun e => h3 e.1.2.2⟩, fun h3 => ⟨hal, fun h4 => ⟨⟨_, rfl⟩, hf fun e => h4 e.2⟩, fun h4 => ⟨⟨_, rfl⟩, ?_⟩⟩⟩⟩⟩
  symm; rw [decide_eq_true_eq]; exact ⟨⟨h, h2, h3⟩, h4⟩
def uu : BE := fun hp xs => match xs with
  | [.agg [.int .i64 p, .int .i64 c, .int .i64 n, .slc b 0 k false 0], .agg [.int .i64 p', .int .i64 c', .int .i64 n', .slc b' 0 k' false 0]] => match rd hp b, rd hp b' with
    | some L, some L' => match Jt k L, Jt k' L' with
      | some ts, some ts' => chk (k ≤ 2000000) (some (.bool (decide ((p = p' ∧ c = c' ∧ n = n') ∧ ts = ts')), hp))
      | _, _ => none
    | _, _ => none
  | _ => none
theorem qf4 : Am.Callee Try.prog 19 uu := Callee.ro2 fun hp xs v hp' he => by
  unfold uu at he
  split at he
  · rename_i p c n b k p' c' n' b' k'
    split at he
    · rename_i L L' hL hL'
      split at he
      · rename_i ts ts' h1 h1'
        obtain ⟨h0, he⟩ := qk he
        simp only [Option.some.injEq, Prod.mk.injEq] at he
        obtain ⟨rfl, rfl⟩ := he
        obtain ⟨e1, e2, e3, e4⟩ := j2 h1
        obtain ⟨f1, f2, f3, f4⟩ := j2 h1'
        have g1 := qw e2
        have g2 := qw f2
        refine ⟨qt ts, qt ts', b, b', [elemV p c n 0 ts.length, elemV p' c' n' 1 ts'.length], rfl, ⟨L, hL, by omega, by rw [g1, e1]; exact e3⟩, ⟨L', hL', by omega, by rw [g2, f1]; exact f3⟩, qb _, qb _, ?_, rfl, ?_, rfl, qgi p c n p' c' n' ts ts' e2 f2 (by omega)⟩
        · simp only [elemV, AV.zl, AV.ren, two, if_true, e1, f1, Nat.zero_add]
          rfl
        · exact ⟨⟨trivial, trivial, trivial, by simp [AV.under], trivial⟩, ⟨trivial, trivial, trivial, by simp [AV.under], trivial⟩, trivial⟩
      · cases he
    · cases he
  · cases he
def B15 : zo := (B14.put 19 (uu))
theorem qze : qx Try.prog B15 := (qwj.put (qf4))
theorem qsa {t : Int × List Nat × Int} {x : Int} (h : okD t.2.1) : (trm t).set 17 (.int .i64 x) = trm (t.1, t.2.1, x) := by
  simp only [trm]
  rw [List.set_append_right _ _ (by rw [qc, h.1]; omega), qc, h.1]; rfl
def part (k : Nat) (m : List Nat) (j : Nat) : List Nat := (List.range 16).map fun t => if t < j then (k + t) % 256 else m.getD t 0
def one (b : Nat) : Ren := fun j => if j = 0 then some (b, 0) else none
theorem Callee.wr1 {f : FuncId} {g : BE} (h : ∀ hp xs v hp', g hp xs = some (v, hp') → ∃ (sz : Nat) (l l' : List AV) (b : Nat) (ys : List AV), hp[b]? = some (.vec sz l) ∧ hp' = hp.set b (.vec sz l') ∧
    AV.zg l = true ∧ AV.zg l' = true ∧ xs = AV.zl (one b) ys ∧ xs.all vq = true ∧ AV.qy 1 ys ∧ v.zm = true ∧ Am.Fn Try.prog f ys [.vec sz l] fun v' H' => v' = v ∧ H' = [.vec sz l']) : Am.Callee Try.prog f g := by
  intro hp xs v hp' he
  obtain ⟨sz, l, l', b, ys, hb, rfl, h3, h3', h4, h5, h6, h7, h8⟩ := h hp xs v hp' he
  refine ⟨[.vec sz l], ys, _, one b, [(b, 0)], h8, h4, h5, ⟨fun j hj => ?_, rfl, fun j o c hj hc => ?_, fun j k bj bk oj ok hj hk hoj hok hw hl hjk => ?_⟩, ?_, h6, ?_⟩
  · match j, hj with
    | 0, _ => rfl
  · match j, hj, hc with
    | 0, hj, hc =>
      cases hj; cases hc
      exact ⟨rfl, by simp only [AO.ren, qd _ _ h3]; exact hb⟩
    | j + 1, hj, hc => simp at hj
  · match j, k, hoj, hok with
    | 0, 0, _, _ => rfl
    | 0, k + 1, _, hok => simp at hok
    | j + 1, _, hoj, _ => simp at hoj
  · intro j o hj
    match j, hj with
    | 0, hj => cases hj; exact ql _ _ h3
    | j + 1, hj => simp at hj
  · rintro v' H' ⟨rfl, rfl⟩
    refine ⟨Qy _ _ h7, ?_⟩
    simp only [after, upd, AO.wr, if_true, AO.ren, qd _ _ h3', List.length_cons, List.length_nil, List.drop_succ_cons, List.drop_nil, List.map_nil, List.append_nil]
theorem Callee.ro1 {f : FuncId} {g : BE} (h : ∀ hp xs v hp', g hp xs = some (v, hp') → ∃ (l : List AV) (b : Nat) (ys : List AV), hp' = hp ∧ (∃ L, rd hp b = some L ∧ l.length ≤ L.length ∧ L.take l.length = l) ∧
    AV.zg l = true ∧ xs = AV.zl (one b) ys ∧ xs.all vq = true ∧ AV.qy 1 ys ∧ v.zm = true ∧ Am.Fn Try.prog f ys [.ro l] fun v' H' => v' = v ∧ H' = [.ro l]) : Am.Callee Try.prog f g := by
  intro hp xs v hp' he
  obtain ⟨l, b, ys, rfl, ⟨L, hL, h1, h2⟩, h3, h4, h5, h6, h7, h8⟩ := h hp xs v hp' he
  refine ⟨[.ro l], ys, _, one b, [(b, 0)], h8, h4, h5, ⟨fun j hj => ?_, rfl, fun j o c hj hb => ?_, fun j k bj bk oj ok hj hk hoj hok hw => ?_⟩, ?_, h6, ?_⟩
  · match j, hj with
    | 0, _ => rfl
  · match j, hj, hb with
    | 0, hj, hb =>
      cases hj; cases hb
      exact ⟨L, hL, by omega, by rw [List.drop_zero, qd _ _ h3]; exact h2⟩
    | j + 1, hj, hb => simp at hj
  · match j, hoj with
    | 0, hoj => cases hoj; cases hw
    | j + 1, hoj => simp at hoj
  · intro j o hj
    match j, hj with
    | 0, hj => cases hj; exact ql _ _ h3
    | j + 1, hj => simp at hj
  · rintro v' H' ⟨rfl, rfl⟩
    exact ⟨Qy _ _ h7, by simp [after, upd, AO.wr]⟩
def B16 : zo := B15
theorem qzi : qx Try.prog B16 := qze
def B17 : zo := B16
theorem q0n : qx Try.prog B17 := qzi
def Gf : AC := .seq (.region [o0 1 (.box (.t 0)),oB 2 false]) (.seq (.region [oN 3 17 1,oC 4 99 [.t 3],o0 5 (.un .not (.t 4)),oM 2 5]) .ret)
theorem qgm : zk Try.prog 111 = some ⟨6, Gf, [.slot 2]⟩ := by kernel_rfl
def ju : AC := .seq (.region [oP 9 .lss 8 7]) (.seq (.cond 9 .skip (.exit 0)) (.seq (.block 1 (.seq (.region [oM 10 8,oM 5 10]) (.seq (.region [oM 11 1,oM 12 0,oM 13 5,oX 14 17 12 13,oN 15 17 14,⟨some 16,none,.call (.t 11) [.t 15]⟩]) (.cond 16 (.seq (.region [oM 17 5,oM 4 17]) .ret) .skip)))) (.region [oK 18 .add 8 1,oM 8 18])))
def wv : AC := .seq (.region [oI 4 (-1)]) .ret
def ua : AC := .seq (.region [oI 4 0]) (.seq (.seq (.region [oM 6 0,o0 7 (.len .slc (.t 6)),oI 8 0]) (.block 0 (.loop ju))) wv)
theorem Zw : zk Try.prog 136 = some ⟨19, ua, [.slot 4]⟩ := by kernel_rfl
def wx : AC := .seq (.region [oB 4 false]) (.seq (.region [oM 5 0,oM 6 1,oC 7 136 [.t 5,.t 6],oK 8 .geq 7 0,oM 4 8]) .ret)
theorem Qm : zk Try.prog 110 = some ⟨9, wx, [.slot 4]⟩ := by kernel_rfl
def qcv : AC := .seq (.region [oI 2 0]) (.seq (.seq (.region [oM 3 0,⟨some 4,none,.call (.c (.fn 110 [] [])) [.t 3,(.c (.fn 111 [] []))]⟩]) (.cond 4 (.seq (.region [oI 2 1]) .ret) .skip)) (.seq (.region [oI 2 0]) .ret))
theorem qjp : zk Try.prog 63 = some ⟨5, qcv, [.slot 2]⟩ := by kernel_rfl
theorem qev (n : Int) (m : List Nat) (hm : okD m) : Am.Fn Try.prog 99 [.agg (dia n m)] [] (fun v H' => v = .bool (isS n.toNat m) ∧ H' = []) := by
  rw [Ko _ _ hm.1]; exact qgq n m hm
theorem qgk : Am.Callee Try.prog 99 (qj jz) :=
  Am.Callee.plain fun xs v he => by
    unfold jz at he
    split at he
    · split at he
      · rename_i n m hd
        cases he
        obtain ⟨rfl, hm⟩ := zj hd
        exact ⟨by simp only [AV.zg, AV.zm, qe, Bool.and_self], rfl, qev n m hm⟩
      · cases he
    · cases he
def B18 : zo := (B17.put 99 (qj jz))
theorem qvy : qx Try.prog B18 := (q0n.put (qgk))
theorem Kn : B18 99 = some (qj jz) := rfl
theorem qgx (n : Int) (m : List Nat) (hm : okD m) : Am.Fn Try.prog 111 [.agg (dia n m)] [] (fun v H' => v = .bool (!isS n.toNat m) ∧ H' = []) := by
  refine Am.Fn.xj (R := fun v => v = _) qvy mixed qgm (by simp) (by simp) ?_
  have hml := hm.1
  simp (maxSteps := 3000000) only [Gf, Kn, jz, vj hml, hml, qc, qp hm, rd, List.getElem?_cons_zero, List.getElem?_cons_succ, qa, zZ, ↓qm, ↓reduceIte, reduceCtorEq, nA, nM, nS, nE, nL, nD]; try simp only [qa, zY]
def qa9 : List AV → Option AV
  | [.agg l] => match yk l with
    | some (n, m) => some (.bool (!isS n.toNat m))
    | none => none
  | _ => none
theorem qgh : Am.Callee Try.prog 111 (qj qa9) :=
  Am.Callee.plain fun xs v he => by
    unfold qa9 at he
    split at he
    · split at he
      · rename_i n m hd
        cases he
        obtain ⟨rfl, hm⟩ := zj hd
        exact ⟨by simp only [AV.zg, AV.zm, qe, Bool.and_self], rfl, qgx n m hm⟩
      · cases he
    · cases he
def B19 : zo := (B18.put 111 (qj qa9))
theorem qon : qx Try.prog B19 := (qvy.put (qgh))
theorem K0 : B19 99 = some (qj jz) := rfl
theorem G5 : B19 111 = some (qj qa9) := rfl
def dis (ds : List (Int × List Nat)) : List AV := ds.flatMap fun d => dia d.1 d.2
def ql3 (ds : List (Int × List Nat)) : Prop := ∀ d, d ∈ ds → okD d.2
def bad (d : Int × List Nat) : Bool := !isS d.1.toNat d.2
theorem Zi : ∀ (ds : List (Int × List Nat)), AV.zg (dis ds) = true
  | [] => rfl
  | d :: ds => by simp only [dis, List.flatMap_cons]; exact Bz _ _ (qe _ _) (Zi ds)
theorem W2 : ∀ {ds : List (Int × List Nat)}, ql3 ds → (dis ds).length = ds.length * 17
  | [], _ => rfl
  | d :: ds, h => by
    have h0 := h d (by simp)
    have := W2 (ds := ds) fun u hu => h u (List.mem_cons_of_mem _ hu)
    unfold dis at this
    simp only [dis, List.flatMap_cons, List.length_append, qc, h0.1, List.length_cons, this]; omega
theorem qpn : ∀ {ds : List (Int × List Nat)} {i : Nat}, ql3 ds → (h : i < ds.length) → List.take 17 (List.drop (i * 17) (dis ds)) = dia ds[i].1 ds[i].2
  | d :: ds, 0, h, hi => by
    have h0 := h d (by simp)
    simp only [dis, List.flatMap_cons, Nat.zero_mul, List.drop_zero, List.getElem_cons_zero]
    rw [List.take_append_of_le_length (by rw [qc, h0.1]; exact Nat.le_refl _), qn h0.1]
  | d :: ds, i + 1, h, hi => by
    have h0 := h d (by simp)
    have h1 := qpn (ds := ds) (i := i) (fun u hu => h u (List.mem_cons_of_mem _ hu)) (by simpa using hi)
    simp only [dis, List.flatMap_cons, List.getElem_cons_succ] at h1 ⊢
    rw [List.drop_append, List.drop_of_length_le (by rw [qc, h0.1]; omega), List.nil_append, qc, h0.1, ← h1]
    congr 2; omega
theorem qj9 (ds : List (Int × List Nat)) (ex : Bool) (c : Nat) (hd : ql3 ds) (hl : ds.length ≤ 1000000) :
    Am.Fn Try.prog 136 [.slc 0 0 ds.length ex c, .fn 111 [] []] [.ro (dis ds)] (fun v H' => v = .int .i64 (if ds.any bad then (ds.findIdx bad : Nat) else -1) ∧ H' = [.ro (dis ds)]) := by
  refine Am.Fn.xj (R := fun v => v = _) qon mixed Zw (by simp) (bb (Zi _)) ?_
  simp (maxSteps := 3000000) only [ua, qa, zZ, ↓qm, ↓reduceIte, reduceCtorEq, nA, nM, nS, nE, nL, nD]; try simp only [qa, zY]
  refine WA.jt qon (fun s => ∃ k : Nat, s = ⟨[(8, .int .i64 k), (7, .int .i64 ds.length), (0, .slc 0 0 ds.length ex c), (1, .fn 111 [] [])], [.ro (dis ds)]⟩ ∧ k ≤ ds.length ∧ ∀ i, (h : i < k) → ∀ h2, bad (ds[i]'h2) = false)
    (fun s => match get s.env 8 with | .int _ x => ds.length - x.toNat | _ => 0) ⟨_, q6.qz [8, 7, 0, 1], 0, rfl, by omega, by intros; omega⟩ ?_
  rintro s ⟨k, rfl, hk, hc⟩
  have hw : qu .i64 ((k : Int) + 1) = ((k + 1 : Nat) : Int) := by rw [wrap64 (by omega) (by omega)]; rfl
  have hdl := W2 hd
  by_cases hlt : k < ds.length
  · have hg := qpn hd hlt
    have ho := hd ds[k] (List.getElem_mem hlt)
    simp (maxSteps := 3000000) only [ju, K0, G5, qa9, jz, hw, hdl, hg, qp ho, rd, List.getElem?_cons_zero, qa, zZ, ↓qm, ↓reduceIte, reduceCtorEq, nA, nM, nS, nE, nL, nD]; try simp only [qa, zY]
    refine ⟨fun _ => ⟨⟨⟨by omega, by omega⟩, by omega⟩, by omega, fun h2 => ⟨⟨_, rfl⟩, ?_⟩, fun h2 => ⟨_, q6.qz [8, 7, 0, 1], ⟨k + 1, rfl, by omega, fun i hi h3 => ?_⟩, ?_⟩⟩, fun h => absurd (by omega) h⟩
    · have hb : bad ds[k] = true := by unfold bad; rw [h2]; rfl
      have h1 : ds.any bad = true := List.any_eq_true.2 ⟨ds[k], List.getElem_mem hlt, hb⟩
      have h3 : ds.findIdx bad = k := (List.findIdx_eq hlt).2 ⟨hb, fun j hj => hc j hj (by omega)⟩
      rw [h1, h3, if_pos rfl]
    · by_cases e : i = k
      · subst e; unfold bad; rw [h2]; rfl
      · exact hc i (by omega) h3
    · simp only [Int.toNat_natCast, zL, ↓reduceIte, reduceCtorEq, nE, nA]; omega
  · simp (maxSteps := 3000000) only [ju, wv, hw, hdl, rd, List.getElem?_cons_zero, qa, zZ, ↓qm, ↓reduceIte, reduceCtorEq, nA, nM, nS, nE, nL, nD]; try simp only [qa, zY]
    refine ⟨fun h => absurd h (by omega), fun _ => ⟨⟨_, rfl⟩, ?_⟩⟩
    have h1 : ds.any bad = false := List.any_eq_false.2 fun d hd' => by
      obtain ⟨i, hi, rfl⟩ := List.getElem_of_mem hd'
      rw [hc i (by omega) hi]; simp
    rw [h1]; rfl
def qdb : Nat → List AV → Option (List (Int × List Nat))
  | 0, _ => some []
  | k + 1, l => match yk (l.take 17), qdb k (l.drop 17) with
    | some t, some ts => some (t :: ts)
    | _, _ => none
theorem Yi : ∀ {k : Nat} {l : List AV} {ds : List (Int × List Nat)}, l.length = k * 17 → qdb k l = some ds → ds.length = k ∧ ql3 ds ∧ l = dis ds
  | 0, l, ts, hl, h => by
    cases h
    have : l = [] := List.length_eq_zero_iff.1 (by omega)
    subst this
    exact ⟨rfl, by simp [ql3], rfl⟩
  | k + 1, l, ts, hl, h => by
    simp only [qdb] at h
    split at h
    · rename_i t us ht hus
      cases h
      obtain ⟨n, m⟩ := t
      obtain ⟨h1, h2, h3⟩ := Yi (by rw [List.length_drop]; omega) hus
      obtain ⟨h5, h6⟩ := zj ht
      refine ⟨by simp [h1], fun u hu => ?_, ?_⟩
      · rcases List.mem_cons.1 hu with rfl | hu
        · exact h6
        · exact h2 u hu
      · rw [← List.take_append_drop 17 l, h5, h3]; rfl
    · cases h
def W7 : List AV → List AV → Option AV := fun l xs => match xs with
  | [.slc 0 0 k ex c, .fn 111 [] []] => match qdb k l with
    | some ds => chk (k ≤ 1000000) (some (.int .i64 (if ds.any bad then (ds.findIdx bad : Nat) else -1)))
    | none => none
  | _ => none
theorem qyt : Am.Callee Try.prog 136 (bw 0 17 W7) :=
  Am.Callee.bw fun l pre post len ex c v hp hl he => by
    have : pre = [] := List.length_eq_zero_iff.1 hp
    subst this
    rw [List.nil_append] at he ⊢
    unfold W7 at he
    split at he
    · rename_i k ex' c' hx
      cases hx
      split at he
      · rename_i ds hds
        obtain ⟨h0, he⟩ := qk he
        cases he
        obtain ⟨rfl, h2, rfl⟩ := Yi hl hds
        exact ⟨Zi _, rfl, rfl, rfl, qj9 ds ex c h2 h0⟩
      · cases he
    · cases he
def B20 : zo := (B19.put 136 (bw 0 17 W7))
theorem qwh : qx Try.prog B20 := (qon.put (qyt))
theorem Ke : B20 99 = some (qj jz) := rfl
theorem Kf : B20 111 = some (qj qa9) := rfl
theorem kf : B20 136 = some (bw 0 17 W7) := rfl
theorem qcd : ∀ {ds : List (Int × List Nat)}, ql3 ds → qdb ds.length (dis ds) = some ds
  | [], _ => rfl
  | d :: ds, h => by
    have h1 := qcd (ds := ds) fun u hu => h u (List.mem_cons_of_mem _ hu)
    have h2 := (h d (by simp)).1
    simp only [dis, List.flatMap_cons, List.length_cons, qdb] at h1 ⊢
    rw [List.take_append_of_le_length (by rw [qc, h2]; exact Nat.le_refl _), qn h2, qp (h d (by simp)), List.drop_append, List.drop_of_length_le (by rw [qc, h2]; exact Nat.le_refl _), qc, h2, List.nil_append]
    simp only [Nat.sub_self, List.drop_zero, h1]
theorem qe6 (ds : List (Int × List Nat)) (ex : Bool) (c : Nat) (hd : ql3 ds) (hl : ds.length ≤ 1000000) :
    Am.Fn Try.prog 110 [.slc 0 0 ds.length ex c, .fn 111 [] []] [.ro (dis ds)] (fun v H' => v = .bool (ds.any bad) ∧ H' = [.ro (dis ds)]) := by
  refine Am.Fn.xj (R := fun v => v = _) qwh mixed Qm (by simp) (bb (Zi _)) ?_
  have hdl := W2 hd
  have htk : List.take (ds.length * 17) (dis ds) = dis ds := by rw [List.take_of_length_le]; rw [hdl]; exact Nat.le_refl _
  simp (maxSteps := 3000000) only [wx, Ke, Kf, kf, qa9, W7, jz, hdl, htk, qcd hd, rd, List.getElem?_cons_zero, List.take_zero, List.drop_succ_cons, List.drop_zero, qa, zZ, ↓qm, ↓reduceIte, reduceCtorEq, nA, nM, nS, nE, nL, nD]; try simp only [qa, zY]
  refine ⟨Nat.le_refl _, hl, ⟨_, rfl⟩, ?_⟩
  cases ds.any bad
  · rfl
  · rw [if_pos rfl, decide_eq_true_eq]; omega
def Jf : List AV → List AV → Option AV := fun l xs => match xs with
  | [.slc 0 0 k ex c, .fn 111 [] []] => match qdb k l with
    | some ds => chk (k ≤ 1000000) (some (.bool (ds.any bad)))
    | none => none
  | _ => none
theorem qna : Am.Callee Try.prog 110 (bw 0 17 Jf) :=
  Am.Callee.bw fun l pre post len ex c v hp hl he => by
    have : pre = [] := List.length_eq_zero_iff.1 hp
    subst this
    rw [List.nil_append] at he ⊢
    unfold Jf at he
    split at he
    · rename_i k ex' c' hx
      cases hx
      split at he
      · rename_i ds hds
        obtain ⟨h0, he⟩ := qk he
        cases he
        obtain ⟨rfl, h2, rfl⟩ := Yi hl hds
        exact ⟨Zi _, rfl, rfl, rfl, qe6 ds ex c h2 h0⟩
      · cases he
    · cases he
def B21 : zo := (B20.put 110 (bw 0 17 Jf))
theorem quf : qx Try.prog B21 := (qwh.put (qna))
theorem Kl : B21 99 = some (qj jz) := rfl
theorem Kt : B21 111 = some (qj qa9) := rfl
theorem ke : B21 136 = some (bw 0 17 W7) := rfl
theorem gq : B21 110 = some (bw 0 17 Jf) := rfl
theorem qkv (ds : List (Int × List Nat)) (ex : Bool) (c : Nat) (hd : ql3 ds) (hl : ds.length ≤ 1000000) :
    Am.Fn Try.prog 63 [.slc 0 0 ds.length ex c] [.ro (dis ds)] (fun v H' => v = .int .i64 (if ds.any bad then 1 else 0) ∧ H' = [.ro (dis ds)]) := by
  refine Am.Fn.xj (R := fun v => v = _) quf mixed qjp (by simp) (bb (Zi _)) ?_
  have hdl := W2 hd
  have htk : List.take (ds.length * 17) (dis ds) = dis ds := by rw [List.take_of_length_le]; rw [hdl]; exact Nat.le_refl _
  simp (maxSteps := 3000000) only [qcv, Kl, Kt, ke, gq, qa9, Jf, W7, jz, hdl, htk, qcd hd, rd, List.getElem?_cons_zero, List.take_zero, List.drop_succ_cons, List.drop_zero, qa, zZ, ↓qm, ↓reduceIte, reduceCtorEq, nA, nM, nS, nE, nL, nD]; try simp only [qa, zY]
  refine ⟨Nat.le_refl _, hl, fun h => ⟨⟨_, rfl⟩, by rw [h]; rfl⟩, fun h => ⟨⟨_, rfl⟩, by rw [h]; rfl⟩⟩
def Wp : List AV → List AV → Option AV := fun l xs => match xs with
  | [.slc 0 0 k ex c] => match qdb k l with
    | some ds => chk (k ≤ 1000000) (some (.int .i64 (if ds.any bad then 1 else 0)))
    | none => none
  | _ => none
theorem qrh : Am.Callee Try.prog 63 (bw 0 17 Wp) :=
  Am.Callee.bw fun l pre post len ex c v hp hl he => by
    have : pre = [] := List.length_eq_zero_iff.1 hp
    subst this
    rw [List.nil_append] at he ⊢
    unfold Wp at he
    split at he
    · rename_i k ex' c' hx
      cases hx
      split at he
      · rename_i ds hds
        obtain ⟨h0, he⟩ := qk he
        cases he
        obtain ⟨rfl, h2, rfl⟩ := Yi hl hds
        exact ⟨Zi _, rfl, rfl, rfl, qkv ds ex c h2 h0⟩
      · cases he
    · cases he
def B22 : zo := (B21.put 63 (bw 0 17 Wp))
theorem qnf : qx Try.prog B22 := (quf.put (qrh))
theorem qdq : B22 108 = some (qj J2) := rfl
theorem qb1 : B22 109 = some (qj xr) := rfl
def vi : AC := .seq (.seq (.region [oM 25 9,oM 26 10,oP 27 .lss 25 26]) (.cond 27 .skip (.exit 0))) (.block 1 (.seq (.region [oM 28 9,oM 29 10,oP 30 .add 28 29,oK 31 .quo 30 2,oM 12 31]) (.seq (.region [oM 32 1,oM 33 12,oX 34 18 32 33,oF 35 0 34,oN 36 17 35,oC 37 109 [.t 36],oM 38 11,oP 39 .lss 37 38]) (.cond 39 (.region [oM 40 12,oK 41 .add 40 1,oM 9 41]) (.region [oM 42 12,oM 10 42])))))
def wg : AC := .seq (.seq (.region [oM 61 0,oM 62 1,oM 63 9,oX 64 18 62 63,oF 65 17 64,oL 66 65,oM 67 3,oP 68 .add 66 67,oC 69 108 [.t 61,.t 68],oM 14 69]) (.seq (.region [oM 70 14,oK 71 .neq 70 0]) (.cond 71 (.region [oM 72 13,oN 73 17 6,oM 74 14,o0 75 (.build [.int .i64 0,.int .u8 0,.int .u8 0,.int .u8 0,.int .u8 0,.int .u8 0,.int .u8 0,.int .u8 0,.int .u8 0,.int .u8 0,.int .u8 0,.int .u8 0,.int .u8 0,.int .u8 0,.int .u8 0,.int .u8 0,.int .u8 0,.int .i64 0] [(0,17,.t 73),(17,1,.t 74)]),o0 76 (.gb 1 [.int .i64 0,.int .u8 0,.int .u8 0,.int .u8 0,.int .u8 0,.int .u8 0,.int .u8 0,.int .u8 0,.int .u8 0,.int .u8 0,.int .u8 0,.int .u8 0,.int .u8 0,.int .u8 0,.int .u8 0,.int .u8 0,.int .u8 0,.int .i64 0] [(0,18,.t 75)]),o0 77 (.append 18 32 (.t 72) (.t 76)),oM 13 77]) .skip))) (.seq (.region [oM 78 13,oM 79 1,oM 80 9,oK 81 .add 80 1,o0 82 (.Gd 18 (.t 79) (some (.t 81)) none),o0 83 (.append 18 32 (.t 78) (.t 82)),oM 8 83]) .ret)
def yr : AC := .cond 60 wg .skip
def ym : AC := .seq (.region [oM 84 13,oN 85 17 6,oM 86 3,o0 87 (.build [.int .i64 0,.int .u8 0,.int .u8 0,.int .u8 0,.int .u8 0,.int .u8 0,.int .u8 0,.int .u8 0,.int .u8 0,.int .u8 0,.int .u8 0,.int .u8 0,.int .u8 0,.int .u8 0,.int .u8 0,.int .u8 0,.int .u8 0,.int .i64 0] [(0,17,.t 85),(17,1,.t 86)]),o0 88 (.gb 1 [.int .i64 0,.int .u8 0,.int .u8 0,.int .u8 0,.int .u8 0,.int .u8 0,.int .u8 0,.int .u8 0,.int .u8 0,.int .u8 0,.int .u8 0,.int .u8 0,.int .u8 0,.int .u8 0,.int .u8 0,.int .u8 0,.int .u8 0,.int .i64 0] [(0,18,.t 87)]),o0 89 (.append 18 32 (.t 84) (.t 88)),oM 13 89]) (.seq (.region [oM 90 13,oM 91 1,oM 92 9,o0 93 (.Gd 18 (.t 91) (some (.t 92)) none),o0 94 (.append 18 32 (.t 90) (.t 93)),oM 8 94]) .ret)
def yl : AC := .seq (.region [o0 43 (.gb 0 [] []),oM 44 1,oM 45 9,o0 46 (.Gd 18 (.t 44) none (some (.t 45))),o0 47 (.append 18 32 (.t 43) (.t 46)),oM 13 47]) (.seq (.seq (.draw false [oM 48 9,oM 49 1,o0 50 (.len .slc (.t 49)),oP 51 .lss 48 50,oM 52 51,oG 53 52 true (.mov (.t 1)),oG 54 52 true (.mov (.t 9)),oG 55 52 true (.Zg 18 (.t 53) (.t 54)),oG 56 52 true (.v7 0 (.t 55)),oG 57 52 true (.Q0 17 (.t 56)),oG 58 52 true (.Q0 17 (.t 6)),oG 59 52 true (.eqs false [.int,.int,.int,.int,.int,.int,.int,.int,.int,.int,.int,.int,.int,.int,.int,.int,.int] (.t 57) (.t 58)),o0 60 (.pick (.t 52) (.t 59) (.c (.bool false)))]) yr) ym)
def Yk : AC := .seq (.region [o0 6 (.box (.t 2)),o0 8 (.mov (.c (.v (.slice none 0 0))))]) (.seq (.region [oM 15 0,oM 16 3,oC 17 108 [.t 15,.t 16],oM 3 17]) (.seq (.seq (.region [oM 18 3,oK 19 .eql 18 0]) (.cond 19 (.seq (.region [oM 20 1,oM 8 20]) .ret) .skip)) (.seq (.region [oM 21 1,o0 22 (.len .slc (.t 21)),oN 23 17 6,oC 24 109 [.t 23],oI 9 0,oM 10 22,oM 11 24]) (.seq (.block 0 (.loop vi)) yl))))
theorem qek : zk Try.prog 61 = some ⟨95, Yk, [.slot 8]⟩ := by kernel_rfl
theorem xv : [AV.int .i64 0, .int .u8 0, .int .u8 0, .int .u8 0, .int .u8 0, .int .u8 0, .int .u8 0, .int .u8 0, .int .u8 0, .int .u8 0, .int .u8 0, .int .u8 0, .int .u8 0, .int .u8 0, .int .u8 0, .int .u8 0, .int .u8 0, .int .i64 0] = trm (0, List.replicate 16 0, 0) := rfl
theorem w9 (t : Int × List Nat × Int) : (trm t).length = t.2.1.length + 2 := by simp [trm, qc]
theorem X2 {t : Int × List Nat × Int} {n : Int} {m : List Nat} (h : t.2.1.length = 16) (h' : m.length = 16) : over (trm t) 0 (dia n m) = trm (n, m, t.2.2) := by
  simp only [over, trm, List.take_zero, List.nil_append, Nat.zero_add, qc, h']
  rw [List.drop_append, List.drop_of_length_le (by rw [qc, h]; exact Nat.le_refl _), qc, h]; rfl
theorem Jp {t : Int × List Nat × Int} {f : Int} (h : t.2.1.length = 16) : over (trm t) 17 [.int .i64 f] = trm (t.1, t.2.1, f) := by
  simp only [over, trm]
  rw [List.take_append_of_le_length (by rw [qc, h]; exact Nat.le_refl _), List.take_of_length_le (by rw [qc, h]; exact Nat.le_refl _), List.drop_of_length_le (by simp [qc, h]), List.append_nil]
theorem Qw {t u : Int × List Nat × Int} (h : t.2.1.length = 16) (h' : u.2.1.length = 16) : over (trm t) 0 (trm u) = trm u := qbb (by rw [w9, w9, h, h'])
theorem Zl {t : Int × List Nat × Int} (h : t.2.1.length = 16) : List.take 18 (trm t) = trm t := by rw [List.take_of_length_le]; rw [w9, h]; exact Nat.le_refl _
theorem x8 (t : Int × List Nat × Int) : (trm t).all AV.one = true := by simp [trm, zi, AV.one]
theorem Gt : ((0 : Nat) : Int) = 0 := rfl
theorem qpt : ((1 : Nat) : Int) = 1 := rfl
def quv (p : Int) (n : Nat) (m : List Nat) (k : Int) (v : AV) (H' : List AO) : Prop := if k.emod p = 0 then v = .slc 0 0 0 true 0 ∧ H' = [.ro []] else v = .slc 1 0 1 false 0 ∧ H' = [.ro [], .vec 18 (qt [((n : Int), m, k.emod p)])]
theorem qka (p : Int) (n : Nat) (m : List Nat) (k : Int) (hp : 0 < p ∧ p ≤ 1000000) (hn : n ≤ 8) (hm : okD m) :
    Am.Fn Try.prog 61 [.int .i64 p, .slc 0 0 0 true 0, .agg (dia n m), .int .i64 k] [.ro []] (quv p n m k) := by
  refine Am.Fn.ofB qnf mixed qek (by simp) (bb rfl) ?_
  have hml := hm.1
  simp (maxSteps := 3000000) only [Yk, qdq, qb1, J2, xr, vj hml, hml, qc, qp hm, rd, List.getElem?_cons_zero, List.getElem?_cons_succ, qa, zZ, ↓qm, ↓reduceIte, reduceCtorEq, nA, nM, nS, nE, nL, nD]; try simp only [qa, zY]
  refine ⟨hp, fun h => ?_, fun h => ⟨⟨by omega, by omega⟩, ?_⟩⟩
  · refine Ret.jn [0] ⟨⟨Nat.le_refl 1, rfl, by decide⟩, ?_⟩ (rs := [.slc 0 0 0 true 0]) rfl (by rfl) (by simp [z6]) ?_ ?_
    · simp only [zK, ↓reduceIte, reduceCtorEq, nE, nB, nA]
    · intro j l; cases j <;> simp [zb, AO.ren]
    · unfold quv
      rw [if_pos h]
      simp only [z6]
      simp only [zL, ↓reduceIte, reduceCtorEq, nE, nA]
      exact ⟨trivial, trivial⟩
  · refine WA.jt qnf (fun s => s = ⟨[(11, .str (xi n m)), (10, .int .i64 0), (9, .int .i64 0), (6, .ptr 1 0), (0, .int .i64 p), (1, .slc 0 0 0 true 0), (3, .int .i64 (k.emod p))], [.ro [], .cells (dia n m)]⟩) (fun _ => 0) ⟨_, q6.qz [11, 10, 9, 6, 0, 1, 3], rfl⟩ ?_
    rintro s rfl
    have hdl : (dia (n : Int) m).length = 17 := by rw [qc, hml]
    have hz : (List.replicate 16 0 : List Nat).length = 16 := rfl
    have e1 : over (trm (0, List.replicate 16 0, 0)) 0 (dia (n : Int) m) = trm ((n : Int), m, 0) := X2 (t := (0, List.replicate 16 0, 0)) hz hml
    have e2 : ∀ f : Int, over (trm ((n : Int), m, 0)) 17 [.int .i64 f] = trm ((n : Int), m, f) := fun f => Jp (t := ((n : Int), m, 0)) hml
    have e3 : ∀ f : Int, over (trm (0, List.replicate 16 0, 0)) 0 (trm ((n : Int), m, f)) = trm ((n : Int), m, f) := fun f => Qw (t := (0, List.replicate 16 0, 0)) hz hml
    have e4 : ∀ f : Int, List.take 18 (trm ((n : Int), m, f)) = trm ((n : Int), m, f) := fun f => Zl (t := ((n : Int), m, f)) hml
    simp (maxSteps := 3000000) only [vi, yl, vn, src, lim, yu, Option.map_some, Option.map_none, rd, List.getElem?_cons_zero, List.getElem?_cons_succ, List.set_cons_zero, List.set_cons_succ, Gt, qpt, Int.lt_irrefl, Int.le_refl, Nat.zero_mul, Int.toNat_zero, List.take_zero, List.drop_zero, List.all_nil, qa, zZ, ↓qm, ↓reduceIte, reduceCtorEq, nA, nM, nS, nE, nL, nD]; try simp only [qa, zY]
    simp (maxSteps := 3000000) only [yr, ym, xv, w9, e1, e2, e3, e4, x8, hml, hz, qn hml, qc, vn, src, lim, yu, Option.map_some, Option.map_none, rd, List.getElem?_cons_zero, List.getElem?_cons_succ, List.set_cons_zero, List.set_cons_succ, Gt, qpt, Int.lt_irrefl, Int.le_refl, Nat.zero_mul, Int.toNat_zero, List.take_zero, List.drop_zero, List.all_nil, qa, zZ, ↓qm, ↓reduceIte, reduceCtorEq, nA, nM, nS, nE, nL, nD]; try simp only [qa, zY]
    refine Ret.jn [0, 6] ⟨⟨by simp, rfl, by decide⟩, ?_⟩ (rs := [.slc 6 0 1 false 0]) rfl (by rfl) (by simp [z6]) ?_ ?_
    · simp only [qg _ _ (vu _), zK, ↓reduceIte, reduceCtorEq, nE, nB, nA]
    · intro j l; match j with
      | 0 => intro _; exact ⟨[], rfl⟩
      | 1 => simp [zb, AO.ren]
      | j + 2 => simp [zb]
    · unfold quv
      rw [if_neg h]
      simp only [z6]
      simp only [qd _ _ (vu _), zL, ↓reduceIte, reduceCtorEq, nE, nA]
      exact ⟨trivial, by simp only [qt, List.flatMap_cons, List.flatMap_nil, List.append_nil]⟩
def qnp : BE := fun hp xs => match xs with
  | [.int .i64 p, .slc b 0 0 true 0, .agg l, .int .i64 k] => match rd hp b, yk l with
    | some _, some (n, m) => chk ((0 < p ∧ p ≤ 1000000) ∧ 0 ≤ n ∧ n ≤ 8) (if k.emod p = 0 then some (.slc b 0 0 true 0, hp) else some (.slc hp.length 0 1 false 0, hp ++ [.vec 18 (qt [(n, m, k.emod p)])]))
    | _, _ => none
  | _ => none
theorem qzq : Am.Callee Try.prog 61 qnp := by
  intro hp xs v hp' he
  unfold qnp at he
  split at he
  · rename_i p b l k
    split at he
    · rename_i L n m hL hd
      obtain ⟨h0, he⟩ := qk he
      obtain ⟨rfl, hm⟩ := zj hd
      obtain ⟨n, rfl⟩ : ∃ j : Nat, n = j := ⟨n.toNat, by omega⟩
      refine ⟨[.ro []], [.int .i64 p, .slc 0 0 0 true 0, .agg (dia n m), .int .i64 k], quv p n m k, one b, [(b, 0)], qka p n m k h0.1 (by omega) hm, ?_, rfl, ⟨fun j hj => ?_, rfl, fun j o c hj hb => ?_, fun j k bj bk oj ok hj hk hoj hok hw => ?_⟩, ?_, ⟨trivial, by simp [AV.under], ql _ _ (qe _ _), trivial, trivial⟩, ?_⟩
      · simp only [AV.zl, AV.ren, one, if_true, Nat.zero_add, qd _ _ (qe _ _)]
      · match j, hj with
        | 0, _ => rfl
      · match j, hj, hb with
        | 0, hj, hb =>
          cases hj; cases hb
          exact ⟨L, hL, by simp, by simp [AV.zl]⟩
        | j + 1, hj, hb => simp at hj
      · match j, hoj with
        | 0, hoj => cases hoj; cases hw
        | j + 1, hoj => simp at hoj
      · intro j o hj
        match j, hj with
        | 0, hj => cases hj; trivial
        | j + 1, hj => simp at hj
      · intro v' H' hr
        unfold quv at hr
        split at he
        · rename_i hk
          rw [if_pos hk] at hr
          obtain ⟨rfl, rfl⟩ := hr
          simp only [Option.some.injEq, Prod.mk.injEq] at he
          obtain ⟨rfl, rfl⟩ := he
          exact ⟨by simp [AV.ren, Ren.ext, one], by simp [after, upd, AO.wr]⟩
        · rename_i hk
          rw [if_neg hk] at hr
          obtain ⟨rfl, rfl⟩ := hr
          simp only [Option.some.injEq, Prod.mk.injEq] at he
          obtain ⟨rfl, rfl⟩ := he
          exact ⟨by simp [AV.ren, Ren.ext], by simp [after, upd, AO.wr, AO.ren, qd _ _ (qb _)]⟩
    · cases he
  · cases he
def B23 : zo := (B22.put 61 (qnp))
theorem qz3 : qx Try.prog B23 := (qnf.put (qzq))
theorem qja {a b c d x : AV} : over [a, b, c, d] 0 [x] = [x, b, c, d] := rfl
theorem qil {a b c d x : AV} : over [a, b, c, d] 1 [x] = [a, x, c, d] := rfl
theorem qio {a b c d x : AV} : over [a, b, c, d] 2 [x] = [a, b, x, d] := rfl
theorem qi4 {a b c d x : AV} : over [a, b, c, d] 3 [x] = [a, b, c, x] := rfl
theorem qin {a b c d x y z w : AV} : over [a, b, c, d] 0 [x, y, z, w] = [x, y, z, w] := rfl
theorem qh : type_of% (And.intro @qja (And.intro @qil (And.intro @qio (And.intro @qi4 @qin)))) := (And.intro @qja (And.intro @qil (And.intro @qio (And.intro @qi4 @qin))))
def B24 : zo := B23
theorem q0d : qx Try.prog B24 := qz3
def qt0 : Go.Shelf.Ren := ⟨fun | 106 => 139 | 213 => 154 | 265 => 166 | n => n, fun | 9 => 9 | 3 => 3 | n => n, fun | n => n⟩
theorem q1m : Go.Proofs.Lays.n106 Try.prog qt0 where
  mixed := by kernel_rfl
  f106 := Try.func139.trans (congrArg some (by kernel_rfl))
  f213 := Try.func154.trans (congrArg some (by kernel_rfl))
  f265 := Try.func166.trans (congrArg some (by kernel_rfl))
  t3 := Try.underlying3
  a3 := Try.isAgg3
  z3 := Try.sizeOf3
  v3 := Try.zeroValue3
  t9 := Try.underlying9
  a9 := Try.isAgg9
  z9 := Try.sizeOf9
  v9 := Try.zeroValue9
def qvf : Go.Shelf.Ren := ⟨fun | 6 => 137 | 15 => 153 | 14 => 152 | 28 => 164 | 29 => 165 | 20 => 156 | 21 => 157 | 22 => 158 | 23 => 159 | 24 => 160 | 25 => 161 | 26 => 162 | 27 => 163 | 46 => 167 | 47 => 168 | 48 => 169 | 49 => 170 | 50 => 171 | 57 => 172 | n => n, fun | 22 => 29 | 24 => 64 | 25 => 132 | 3 => 3 | 39 => 147 | 0 => 0 | 53 => 162 | 55 => 96 | 4 => 4 | 46 => 155 | 45 => 154 | 50 => 159 | 5 => 5 | 9 => 9 | 66 => 164 | 70 => 168 | 76 => 170 | 77 => 171 | n => n, fun | n => n⟩
theorem q1t : Go.Proofs.SlLaysF0.n6 Try.prog qvf where
  mixed := by kernel_rfl
  f6 := ⟨Try.f137.name, by kernel_rfl, Try.func137.trans (congrArg some (by kernel_rfl))⟩
  f14 := ⟨Try.f152.name, by kernel_rfl, Try.func152.trans (congrArg some (by kernel_rfl))⟩
  f15 := Try.func153.trans (congrArg some (by kernel_rfl))
  f20 := ⟨Try.f156.name, by kernel_rfl, Try.func156.trans (congrArg some (by kernel_rfl))⟩
  f21 := ⟨Try.f157.name, by kernel_rfl, Try.func157.trans (congrArg some (by kernel_rfl))⟩
  f22 := ⟨Try.f158.name, by kernel_rfl, Try.func158.trans (congrArg some (by kernel_rfl))⟩
  f23 := ⟨Try.f159.name, by kernel_rfl, Try.func159.trans (congrArg some (by kernel_rfl))⟩
  f24 := ⟨Try.f160.name, by kernel_rfl, Try.func160.trans (congrArg some (by kernel_rfl))⟩
  f25 := ⟨Try.f161.name, by kernel_rfl, Try.func161.trans (congrArg some (by kernel_rfl))⟩
  f26 := ⟨Try.f162.name, by kernel_rfl, Try.func162.trans (congrArg some (by kernel_rfl))⟩
  f27 := ⟨Try.f163.name, by kernel_rfl, Try.func163.trans (congrArg some (by kernel_rfl))⟩
  f28 := Try.func164.trans (congrArg some (by kernel_rfl))
  f29 := Try.func165.trans (congrArg some (by kernel_rfl))
  f46 := ⟨Try.f167.name, by kernel_rfl, Try.func167.trans (congrArg some (by kernel_rfl))⟩
  f47 := Try.func168.trans (congrArg some (by kernel_rfl))
  f48 := Try.func169.trans (congrArg some (by kernel_rfl))
  f49 := ⟨Try.f170.name, by kernel_rfl, Try.func170.trans (congrArg some (by kernel_rfl))⟩
  f50 := ⟨Try.f171.name, by kernel_rfl, Try.func171.trans (congrArg some (by kernel_rfl))⟩
  f57 := ⟨Try.f172.name, by kernel_rfl, Try.func172.trans (congrArg some (by kernel_rfl))⟩
  t0 := Try.underlying0
  a0 := Try.isAgg0
  z0 := Try.sizeOf0
  v0 := Try.zeroValue0
  t3 := Try.underlying3
  a3 := Try.isAgg3
  z3 := Try.sizeOf3
  v3 := Try.zeroValue3
  t4 := Try.underlying4
  a4 := Try.isAgg4
  z4 := Try.sizeOf4
  v4 := Try.zeroValue4
  t5 := Try.underlying5
  a5 := Try.isAgg5
  z5 := Try.sizeOf5
  v5 := Try.zeroValue5
  t9 := Try.underlying9
  a9 := Try.isAgg9
  z9 := Try.sizeOf9
  v9 := Try.zeroValue9
  t22 := Try.underlying29
  a22 := Try.isAgg29
  z22 := Try.sizeOf29
  v22 := Try.zeroValue29
  t25 := Try.underlying132
  a25 := Try.isAgg132
  z25 := Try.sizeOf132
  v25 := Try.zeroValue132
  t39 := Try.underlying147
  a39 := Try.isAgg147
  z39 := Try.sizeOf147
  v39 := Try.zeroValue147
  t45 := Try.underlying154
  a45 := Try.isAgg154
  z45 := Try.sizeOf154
  v45 := Try.zeroValue154
  t46 := Try.underlying155
  a46 := Try.isAgg155
  z46 := Try.sizeOf155
  v46 := Try.zeroValue155
  t50 := Try.underlying159
  a50 := Try.isAgg159
  z50 := Try.sizeOf159
  v50 := Try.zeroValue159
  t53 := Try.underlying162
  a53 := Try.isAgg162
  z53 := Try.sizeOf162
  v53 := Try.zeroValue162
  t55 := Try.underlying96
  a55 := Try.isAgg96
  z55 := Try.sizeOf96
  v55 := Try.zeroValue96
  t66 := Try.underlying164
  a66 := Try.isAgg164
  z66 := Try.sizeOf164
  v66 := Try.zeroValue164
  t70 := Try.underlying168
  a70 := Try.isAgg168
  z70 := Try.sizeOf168
  v70 := Try.zeroValue168
  t76 := Try.underlying170
  a76 := Try.isAgg170
  z76 := Try.sizeOf170
  v76 := Try.zeroValue170
  t77 := Try.underlying171
  a77 := Try.isAgg171
  z77 := Try.sizeOf171
  v77 := Try.zeroValue171
def Wo : List AV → Option AV
  | [.str a, .str b] => some (.int .i64 (Go.Lib.compareBytes a b))
  | _ => none
theorem qsp (a b : List UInt8) : Am.Fn Try.prog 139 [.str a, .str b] [] (fun v H' => v = .int .i64 (Go.Lib.compareBytes a b) ∧ H' = []) :=
  qla ⟨Try.f139, Try.func139, by kernel_rfl, by kernel_rfl⟩ rfl rfl fun w => Go.Proofs.Any.strings_Compare q1m ⟨a.toArray⟩ ⟨b.toArray⟩ w
theorem qro : Am.Callee Try.prog 139 (qj Wo) := Am.Callee.plain fun xs v he => by
  unfold Wo at he
  split at he
  · cases he; exact ⟨rfl, rfl, qsp _ _⟩
  · cases he
def B26 : zo := (B24.put 139 (qj Wo))
theorem qu5 : qx Try.prog B26 := (q0d.put (qro))
theorem Y8 : B26 100 = some (Z6 17 vl) := rfl
theorem qat : B26 139 = some (qj Wo) := rfl
def Jj : AC := .seq (.region [o0 2 (.box (.t 0)),o0 3 (.box (.t 1)),oI 4 0]) (.seq (.region [oF 5 0 2,oC 6 100 [.t 5],oF 7 0 3,oC 8 100 [.t 7],oC 9 139 [.t 6,.t 8],oM 4 9]) .ret)
theorem G6 : zk Try.prog 138 = some ⟨10, Jj, [.slot 4]⟩ := by kernel_rfl
def txt (t : Int × List Nat × Int) : List UInt8 := xi t.1.toNat t.2.1
def qw1 (t u : Int × List Nat × Int) : Int := Go.Lib.compareBytes (txt t) (txt u)
theorem qxp (t u : Int × List Nat × Int) (ht : okD t.2.1) (hu : okD u.2.1) (h1 : 0 ≤ t.1 ∧ t.1 ≤ 8) (h2 : 0 ≤ u.1 ∧ u.1 ≤ 8) :
    Am.Fn Try.prog 138 [.agg (trm t), .agg (trm u)] [] (fun v H' => v = .int .i64 (qw1 t u) ∧ H' = []) := by
  refine Am.Fn.xj (R := fun v => v = _) qu5 mixed G6 (by simp) (by simp) ?_
  simp (maxSteps := 3000000) only [Jj, Y8, qat, Wo, vl, Vn ht, Vn hu, zp ht, zp hu, qp ht, qp hu, h1, h2, rd, List.getElem?_cons_zero, List.getElem?_cons_succ, qa, zZ, ↓qm, ↓reduceIte, reduceCtorEq, nA, nM, nS, nE, nL, nD]; try simp only [qa, zY]
  rfl
theorem qqb : ∀ (a b : List UInt8), (Go.Lib.compareBytes a b < 0) ↔ Op.bytesLess a b = true
  | [], [] => by simp [Go.Lib.compareBytes, Op.bytesLess]
  | [], b :: y => by simp [Go.Lib.compareBytes, Op.bytesLess]
  | a :: x, [] => by simp [Go.Lib.compareBytes, Op.bytesLess]
  | a :: x, b :: y => by
    simp only [Go.Lib.compareBytes, Op.bytesLess, Bool.or_eq_true, Bool.and_eq_true, decide_eq_true_eq, beq_iff_eq]
    by_cases h : a < b
    · simp [h]
    · by_cases h2 : b < a
      · have : a ≠ b := fun e => by subst e; exact UInt8.lt_irrefl _ h2
        simp [h, h2, this]
      · have : a = b := UInt8.le_antisymm (UInt8.not_lt.1 h2) (UInt8.not_lt.1 h)
        subst this
        simp only [h, if_false, false_or, true_and]
        exact qqb x y
theorem Zb : ∀ (a : List UInt8), Op.bytesLess a a = false
  | [] => rfl
  | a :: x => by simp [Op.bytesLess, Zb x]
theorem ya : ∀ (a b c : List UInt8), Op.bytesLess a b = true → Op.bytesLess b c = true → Op.bytesLess a c = true
  | _, _, [], _, h => by cases ‹List UInt8› <;> simp [Op.bytesLess] at h
  | [], _, c :: z, h, _ => by simp [Op.bytesLess]
  | a :: x, [], c :: z, h, _ => by simp [Op.bytesLess] at h
  | a :: x, b :: y, c :: z, h, h' => by
    simp only [Op.bytesLess, Bool.or_eq_true, Bool.and_eq_true, decide_eq_true_eq, beq_iff_eq] at h h' ⊢
    rcases h with h | ⟨rfl, h⟩
    · rcases h' with h' | ⟨rfl, h'⟩
      · exact .inl (UInt8.lt_trans h h')
      · exact .inl h
    · rcases h' with h' | ⟨rfl, h'⟩
      · exact .inl h'
      · exact .inr ⟨rfl, ya x y z h h'⟩
theorem Z7 : ∀ (a b : List UInt8), Op.bytesLess a b = false → Op.bytesLess b a = false → a = b
  | [], [], _, _ => rfl
  | [], b :: y, h, _ => by simp [Op.bytesLess] at h
  | a :: x, [], _, h => by simp [Op.bytesLess] at h
  | a :: x, b :: y, h, h' => by
    simp only [Op.bytesLess, Bool.or_eq_false_iff, Bool.and_eq_false_iff, decide_eq_false_iff_not, beq_eq_false_iff_ne] at h h'
    have e : a = b := UInt8.le_antisymm (UInt8.not_lt.1 h'.1) (UInt8.not_lt.1 h.1)
    subst e
    rw [Z7 x y (by simpa using h.2) (by simpa using h'.2)]
theorem qc3 (a b : List UInt8) (h : Op.bytesLess a b = true) : Op.bytesLess b a = false := by
  cases hb : Op.bytesLess b a with
  | false => rfl
  | true => have := ya a b a h hb; rw [Zb] at this; cases this
def ltT (t u : Int × List Nat × Int) : Bool := Op.bytesLess (txt t) (txt u)
abbrev Kr := {t : Int × List Nat × Int // okD t.2.1 ∧ 0 ≤ t.1 ∧ t.1 ≤ 8}
instance : Inhabited Kr := ⟨⟨(0, List.replicate 16 0, 0), ⟨by simp, by intro x hx; simp at hx; omega⟩, by decide, by decide⟩⟩
theorem qii (x y : Kr) : Go.Proofs.ltOf (fun x y : Kr => qw1 x.1 y.1) x y = ltT x.1 y.1 := by
  unfold Go.Proofs.ltOf qw1 ltT
  have := qqb (txt x.1) (txt y.1)
  cases h : Op.bytesLess (txt x.1) (txt y.1) with
  | true => exact decide_eq_true (this.2 h)
  | false => exact decide_eq_false (fun h2 => by rw [this.1 h2] at h; cases h)
theorem swo : Go.Sort.SWO (Go.Proofs.ltOf (fun x y : Kr => qw1 x.1 y.1)) where
  irrefl x := by rw [qii]; exact Zb _
  trans x y z h h' := by rw [qii] at *; exact ya _ _ _ h h'
  ntrans x y z h h' := by
    rw [qii] at *
    cases hc : ltT x.1 z.1 with
    | false => rfl
    | true =>
      exfalso
      by_cases e : txt x.1 = txt y.1
      · unfold ltT at *; rw [e] at hc; rw [hc] at h'; cases h'
      · have h1 : ltT y.1 x.1 = true := by
          cases hb : ltT y.1 x.1 with
          | true => rfl
          | false => exact absurd (Z7 _ _ h hb) e
        have := ya _ _ _ h1 hc
        unfold ltT at h'; rw [this] at h'; cases h'
def qnx (t : Int × List Nat × Int) : List (Int × List Nat × Int) → List (Int × List Nat × Int)
  | [] => [t]
  | u :: l => if ltT t u then t :: u :: l else u :: qnx t l
def Xt : List (Int × List Nat × Int) → List (Int × List Nat × Int)
  | [] => []
  | t :: l => qnx t (Xt l)
theorem qbs (t : Int × List Nat × Int) : ∀ l, (qnx t l).Perm (t :: l)
  | [] => .refl _
  | u :: l => by
    unfold qnx; split
    · exact .refl _
    · exact ((qbs t l).cons u).trans (.swap t u l)
theorem kv : ∀ l, (Xt l).Perm l
  | [] => .refl _
  | t :: l => (qbs t _).trans ((kv l).cons t)
def Ub (l : List (Int × List Nat × Int)) : Prop := (l.map txt).Nodup
def upT (l : List (Int × List Nat × Int)) : Prop := l.Pairwise fun a b => ltT a b = true
theorem qp1 {t : Int × List Nat × Int} : ∀ {l}, upT l → (∀ u ∈ l, txt t ≠ txt u) → upT (qnx t l)
  | [], _, _ => by simp [qnx, upT]
  | u :: l, h, hn => by
    unfold qnx
    have h' := List.pairwise_cons.1 h
    split
    · rename_i hlt
      exact List.pairwise_cons.2 ⟨fun a ha => by
        rcases List.mem_cons.1 ha with rfl | ha
        · exact hlt
        · exact ya _ _ _ hlt (h'.1 a ha), h⟩
    · rename_i hlt
      refine List.pairwise_cons.2 ⟨fun a ha => ?_, qp1 h'.2 fun v hv => hn v (List.mem_cons_of_mem _ hv)⟩
      have hm := (qbs t l).mem_iff.1 ha
      rcases List.mem_cons.1 hm with rfl | hm
      · cases hb : ltT u a with
        | true => rfl
        | false => exact absurd (Z7 _ _ (Bool.eq_false_iff.2 hlt) hb) (hn u (List.mem_cons_self ..))
      · exact h'.1 a hm
theorem qa4 : ∀ {l}, Ub l → upT (Xt l)
  | [], _ => .nil
  | t :: l, h => by
    have h' := List.nodup_cons.1 h
    refine qp1 (qa4 h'.2) fun u hu e => h'.1 ?_
    rw [e]
    exact List.mem_map.2 ⟨u, (kv l).mem_iff.1 hu, rfl⟩
theorem qcc : ∀ {a b : List (Int × List Nat × Int)}, upT a → upT b → a.Perm b → a = b
  | [], b, _, _, hp => by rw [List.nil_perm.1 hp]
  | x :: a, [], _, _, hp => by have := hp.length_eq; simp at this
  | x :: a, y :: b, ha, hb, hp => by
    have ha' := List.pairwise_cons.1 ha
    have hb' := List.pairwise_cons.1 hb
    have e : x = y := by
      have h1 : x ∈ y :: b := hp.mem_iff.1 (List.mem_cons_self ..)
      have h2 : y ∈ x :: a := hp.mem_iff.2 (List.mem_cons_self ..)
      rcases List.mem_cons.1 h1 with h | h
      · exact h
      · rcases List.mem_cons.1 h2 with h' | h'
        · exact h'.symm
        · have c1 := hb'.1 x h
          have c2 := ha'.1 y h'
          have := qc3 _ _ c1
          unfold ltT at c2; rw [this] at c2; cases c2
    subst e
    rw [qcc ha'.2 hb'.2 ((List.perm_cons x).1 hp)]
theorem qkr {a l : List (Int × List Nat × Int)} (hp : a.Perm l) (hs : a.Pairwise fun x y => ltT y x = false) (hl : Ub l) : a = Xt l := by
  have hn : (a.map txt).Nodup := (hp.map txt).nodup_iff.2 hl
  refine qcc ?_ (qa4 hl) (hp.trans (kv l).symm)
  unfold upT
  rw [List.pairwise_iff_getElem] at hs ⊢
  intro i j hi hj hij
  cases hb : ltT a[i] a[j] with
  | true => rfl
  | false =>
    have e := Z7 _ _ hb (hs i j hi hj hij)
    have := (List.pairwise_iff_getElem.1 hn) i j (by simpa using hi) (by simpa using hj) hij
    simp only [List.getElem_map] at this
    exact absurd e this
theorem q0k (ts : List (Int × List Nat × Int)) (hl : ts.length ≤ 1000000000) (hok : ∀ t ∈ ts, okD t.2.1 ∧ 0 ≤ t.1 ∧ t.1 ≤ 8) (hap : Ub ts) :
    Am.Fn Try.prog 137 [.slc 0 0 ts.length false 0, .fn 138 [] []] [.vec 18 (qt ts)] (fun v H' => v = .tup [] ∧ H' = [.vec 18 (qt (Xt ts))]) := by
  obtain ⟨d, rfl⟩ : ∃ d : List Kr, ts = d.map Subtype.val := ⟨ts.attach.map fun x => ⟨x.1, hok x.1 x.2⟩, by rw [List.map_map]; exact (List.attach_map_subtype_val ts).symm⟩
  have e : ∀ d : List Kr, qt (d.map Subtype.val) = d.flatMap fun x => trm x.1 := fun d => by simp [qt, List.flatMap_map]
  have := qxc q1t 18 (by decide) Try.isAgg64 Try.sizeOf64 (fun x : Kr => trm x.1) (fun x => zp x.2.1) (fun x a ha => ?_) (fun x => vu _) (fun x y => qw1 x.1 y.1) swo
    ⟨Try.f137, Try.func137, by kernel_rfl, by kernel_rfl⟩ 138 ⟨Try.f138, Try.func138, by kernel_rfl, by kernel_rfl⟩
    (fun x y => qxp x.1 y.1 x.2.1 y.2.1 x.2.2 y.2.2) d (by simp at hl; omega)
  · rw [List.length_map, e]
    refine this.mono ?_
    rintro v H' ⟨rfl, d', hp, hs, rfl⟩
    refine ⟨rfl, ?_⟩
    rw [← e d', qkr (hp.map _) ?_ hap]
    exact List.pairwise_map.2 (hs.imp fun {a b} h => by rw [qii] at h; exact h)
  · simp only [trm, dia, List.cons_append, List.mem_cons, List.mem_append, List.not_mem_nil, or_false] at ha
    rcases ha with rfl | ha | rfl
    · rfl
    · unfold u8s at ha
      obtain ⟨y, _, rfl⟩ := List.mem_map.1 ha
      rfl
    · rfl
def U3 : BE := fun hp xs => match xs with
  | [.slc b 0 n false 0, .fn 138 [] []] => match hp[b]? with
    | some (.vec 18 l) => match Jt n l with
      | some ts => chk (l.length = n * 18 ∧ n ≤ 1000000 ∧ (∀ t ∈ ts, 0 ≤ t.1 ∧ t.1 ≤ 8) ∧ (ts.map txt).Nodup) (some (.tup [], hp.set b (.vec 18 (qt (Xt ts)))))
      | none => none
    | _ => none
  | _ => none
theorem qzz : Am.Callee Try.prog 137 U3 := Callee.wr1 fun hp xs v hp' he => by
  unfold U3 at he
  split at he
  · rename_i b n
    split at he
    · rename_i l hb
      split at he
      · rename_i ts hts
        obtain ⟨h0, he⟩ := qk he
        simp only [Option.some.injEq, Prod.mk.injEq] at he
        obtain ⟨rfl, rfl⟩ := he
        obtain ⟨e1, e2, e3, e4⟩ := j2 hts
        have hl : l = qt ts := by rw [← e3, List.take_of_length_le (by omega)]
        subst hl
        refine ⟨18, qt ts, _, b, [.slc 0 0 ts.length false 0, .fn 138 [] []], hb, rfl, qb _, qb _, ?_, rfl, ⟨by simp [AV.under], ⟨trivial, trivial⟩, trivial⟩, rfl, ?_⟩
        · simp only [AV.zl, AV.ren, one, if_true, e1, Nat.zero_add]
        · exact q0k ts (by omega) (fun t ht => ⟨e2 t ht, h0.2.2.1 t ht⟩) h0.2.2.2
      · cases he
    · cases he
  · cases he
def B27 : zo := (B26.put 137 (U3))
theorem qpa : qx Try.prog B27 := (qu5.put (qzz))
theorem Zy : B27 103 = some (qj Bg) := rfl
theorem jj : B27 137 = some (U3) := rfl
def esT : Nat → List (Int × List Nat × Int) → List AE
  | _, [] => []
  | k, t :: l => ⟨.agg (dia t.1 t.2.1), .int .i64 t.2.2, k⟩ :: esT (k + 1) l
def Ql (ts : List (Int × List Nat × Int)) : AO := .map (esT 0 ts) ts.length
def xf (p : Int) (ts : List (Int × List Nat × Int)) : List (Int × List Nat × Int) := ts.filterMap fun t => if t.2.2.emod p = 0 then none else some (t.1, t.2.1, t.2.2.emod p)
def yz (ts : List (Int × List Nat × Int)) (seen : List Nat) : List (Int × List Nat × Int) := seen.map fun i => ts.getD i (0, [], 0)
theorem Br : ∀ {ts : List (Int × List Nat × Int)} {k : Nat} {e : AE}, e ∈ esT k ts → ∃ i, i < ts.length ∧ e = ⟨.agg (dia (ts.getD i (0, [], 0)).1 (ts.getD i (0, [], 0)).2.1), .int .i64 (ts.getD i (0, [], 0)).2.2, k + i⟩
  | [], k, e, h => by cases h
  | t :: l, k, e, h => by
    rcases List.mem_cons.1 h with rfl | h
    · exact ⟨0, by simp, by simp⟩
    · obtain ⟨i, h1, rfl⟩ := Br h
      refine ⟨i + 1, by simpa using h1, ?_⟩
      simp only [List.getD_cons_succ, AE.mk.injEq, true_and]; omega
theorem qpd : ∀ {ts : List (Int × List Nat × Int)} {k i : Nat}, i < ts.length → (⟨.agg (dia (ts.getD i (0, [], 0)).1 (ts.getD i (0, [], 0)).2.1), .int .i64 (ts.getD i (0, [], 0)).2.2, k + i⟩ : AE) ∈ esT k ts
  | t :: l, k, 0, h => by simp [esT]
  | t :: l, k, i + 1, h => by
    have := qpd (ts := l) (k := k + 1) (i := i) (by simpa using h)
    simp only [esT, List.mem_cons]
    right
    rw [show k + (i + 1) = k + 1 + i by omega]
    simpa using this
theorem qmd : ∀ {ts : List (Int × List Nat × Int)} {k i : Nat}, i < ts.length → (esT k ts).find? (fun x => x.born == k + i) = some ⟨.agg (dia (ts.getD i (0, [], 0)).1 (ts.getD i (0, [], 0)).2.1), .int .i64 (ts.getD i (0, [], 0)).2.2, k + i⟩
  | t :: l, k, 0, h => by simp [esT]
  | t :: l, k, i + 1, h => by
    have := qmd (ts := l) (k := k + 1) (i := i) (by simpa using h)
    rw [show k + 1 + i = k + (i + 1) by omega] at this
    simp only [esT, List.find?_cons]
    rw [show (k == k + (i + 1)) = false by simp]
    simpa using this
theorem qbk (n : Nat) (ts : List (Int × List Nat × Int)) (k : Nat) : ∀ e ∈ esT k ts, e.key.under n ∧ e.val.under n := fun e he => by
  obtain ⟨i, _, rfl⟩ := Br he
  exact ⟨ql _ _ (qe _ _), trivial⟩
theorem Q6 (ρ : Ren) (ts : List (Int × List Nat × Int)) : (Ql ts).ren ρ = Ql ts := by
  simp only [Ql, AO.ren]
  congr 1
  conv => rhs; rw [← List.map_id (esT 0 ts)]
  refine List.map_congr_left fun e he => ?_
  obtain ⟨i, _, rfl⟩ := Br he
  simp only [AE.ren, AV.ren, qd _ _ (qe _ _), id]
theorem Vb (ids : List Nat) (ts : List (Int × List Nat × Int)) : (Ql ts).within ids = true := by
  simp only [Ql, AO.within, List.all_eq_true]
  intro e he
  obtain ⟨i, _, rfl⟩ := Br he
  simp only [AV.within, qg _ _ (qe _ _), Bool.and_self]
theorem yo (ids : List Nat) (ts : List (Int × List Nat × Int)) (k : Nat) : (AO.map (esT 0 ts) k).within ids = true := Vb ids ts
theorem Vo (ρ : Ren) (ts : List (Int × List Nat × Int)) (k : Nat) : (AO.map (esT 0 ts) k).ren ρ = AO.map (esT 0 ts) k := by
  have := Q6 ρ ts
  simp only [Ql, AO.ren, AO.map.injEq] at this ⊢
  exact ⟨this.1, trivial⟩
theorem qvj {r m : Nat} {ts : List (Int × List Nat × Int)} {seen : List Nat} {hp : List AO} {K : AV → List AO → Prop} (h1 : hp[r]? = some (.xw (some m) ts.length seen ts.length)) (h2 : hp[m]? = some (Ql ts))
    (hend : (∀ i, i < ts.length → i ∈ seen) → K (.tup [.bool false]) hp)
    (hgo : ∀ i, i < ts.length → i ∉ seen → K (.tup [.bool true, .agg (dia (ts.getD i (0, [], 0)).1 (ts.getD i (0, [], 0)).2.1), .int .i64 (ts.getD i (0, [], 0)).2.2]) (hp.set r (.xw (some m) ts.length (seen ++ [i]) ts.length))) :
    wbN (.ptr r 0) hp K := by
  simp only [wbN, qqk, h1, h2, Ql]
  refine ⟨_, qbl ⟨trivial, trivial, fun e he => ?_⟩, fun h => ?_, fun e he hs => ?_⟩
  · obtain ⟨i, h3, rfl⟩ := Br he; show 0 + i < _; omega
  · refine hend fun i hi => ?_
    have := h _ (qpd (k := 0) hi)
    simpa using this
  · obtain ⟨i, h3, rfl⟩ := Br he
    simp only [Nat.zero_add] at hs ⊢
    exact hgo i h3 hs
theorem qs8 {B : zo} {n0 nt : Nat} {dst : Option Nat} {it : Opd} {l : List AI} {b : AC} {Q : AX → St → Prop} {s : St}
    (h : wbN (ev s.env it) s.hp (fun v hp' => wbC Try.prog B n0 nt (.seq (.region l) b) Q ⟨xp dst v s.env, hp'⟩)) : wbC Try.prog B n0 nt (.seq (.region (⟨dst, none, .next it⟩ :: l)) b) Q s := h
theorem qux {ts : List (Int × List Nat × Int)} {seen : List Nat} (hn : seen.Nodup) (hlt : ∀ i ∈ seen, i < ts.length) (h : ∀ i, i < ts.length → i ∈ seen) : (yz ts seen).Perm ts := by
  have hp : seen.Perm (List.range ts.length) := (List.perm_ext_iff_of_nodup hn List.nodup_range).2 fun i => ⟨fun hi => List.mem_range.2 (hlt i hi), fun hi => h i (List.mem_range.1 hi)⟩
  have e : (List.range ts.length).map (fun i => ts.getD i (0, [], 0)) = ts := by
    apply List.ext_getElem (by simp)
    intro i h1 h2
    simp at h1
    simp [h1]
  unfold yz
  refine (hp.map _).trans ?_
  rw [e]
theorem qrk {p : Int} {a b : List (Int × List Nat × Int)} (h : a.Perm b) : (xf p a).Perm (xf p b) := h.filterMap _
theorem qfu {p : Int} : ∀ {l : List (Int × List Nat × Int)}, Ub l → Ub (xf p l) := fun {l} h => by
  unfold Ub xf at *
  refine List.Nodup.sublist ?_ h
  induction l with
  | nil => exact List.nil_sublist _
  | cons t l ih =>
    simp only [List.filterMap_cons]
    split
    · exact (ih (List.nodup_cons.1 h).2).trans (List.sublist_cons_self _ _)
    · rename_i u hu
      split at hu
      · cases hu
      · cases hu
        exact (ih (List.nodup_cons.1 h).2).cons_cons _
theorem qd7 {p : Int} {l : List (Int × List Nat × Int)} {t : Int × List Nat × Int} (h : t ∈ xf p l) : ∃ u ∈ l, t = (u.1, u.2.1, u.2.2.emod p) ∧ u.2.2.emod p ≠ 0 := by
  obtain ⟨u, hu, he⟩ := List.mem_filterMap.1 h
  split at he
  · cases he
  · rename_i hne; cases he; exact ⟨u, hu, rfl, hne⟩
theorem qpe {p : Int} {l : List (Int × List Nat × Int)} (h : okT l) : okT (xf p l) := fun t ht => by
  obtain ⟨u, hu, rfl, _⟩ := qd7 ht; exact h u hu
theorem qjz {ts : List (Int × List Nat × Int)} {seen : List Nat} (h : okT ts) (hlt : ∀ i ∈ seen, i < ts.length) : okT (yz ts seen) := fun t ht => by
  obtain ⟨i, hi, rfl⟩ := List.mem_map.1 ht
  have := hlt i hi
  simp only [List.getD_eq_getElem?_getD, List.getElem?_eq_getElem this, Option.getD_some]
  exact h _ (List.getElem_mem _)
theorem qhg (l : List (Int × List Nat × Int)) (t : Int × List Nat × Int) : qt l ++ trm t = qt (l ++ [t]) := by simp [qt]
theorem zq : [AV.int .i64 0, .int .u8 0, .int .u8 0, .int .u8 0, .int .u8 0, .int .u8 0, .int .u8 0, .int .u8 0, .int .u8 0, .int .u8 0, .int .u8 0, .int .u8 0, .int .u8 0, .int .u8 0, .int .u8 0, .int .u8 0, .int .u8 0] = dia 0 (List.replicate 16 0) := rfl
theorem yx {n : Int} {m : List Nat} (h : m.length = 16) : over (dia 0 (List.replicate 16 0)) 0 (dia n m) = dia n m := qbb (by rw [qc, qc, h, List.length_replicate])
theorem qbi {n : Int} {m : List Nat} (h : m.length = 16) : over (trm (0, List.replicate 16 0, 0)) 0 (dia n m) = trm (n, m, 0) := X2 (by simp) h
theorem xh : (trm (0, List.replicate 16 0, 0)).length = 18 := rfl
theorem x6 : (dia 0 (List.replicate 16 0)).length = 17 := rfl
def X0 : AC := .seq (.region [⟨some 23,none,.next (.t 22)⟩,oE 24 0 23]) (.seq (.cond 24 .skip (.exit 0)) (.block 1 (.seq (.region [o0 25 (.entry (.t 22)),oE 26 0 25,oE 27 1 25,o0 6 (.alloc [.int .i64 0,.int .u8 0,.int .u8 0,.int .u8 0,.int .u8 0,.int .u8 0,.int .u8 0,.int .u8 0,.int .u8 0,.int .u8 0,.int .u8 0,.int .u8 0,.int .u8 0,.int .u8 0,.int .u8 0,.int .u8 0,.int .u8 0]),oS 17 6 26,oM 7 27]) (.seq (.region [oM 28 7,oM 29 0,o0 30 (.j0 (.t 29)),oF 31 0 30,oL 32 31,oC 33 103 [.t 28,.t 32],oM 7 33]) (.seq (.region [oM 34 7,oK 35 .neq 34 0]) (.cond 35 (.seq (.region [oF 36 0 6,oL 37 36,oF 38 2 5,oT 38 37]) (.region [oF 39 3 5,oL 40 39,oN 41 17 6,oM 42 7,o0 43 (.build [.int .i64 0,.int .u8 0,.int .u8 0,.int .u8 0,.int .u8 0,.int .u8 0,.int .u8 0,.int .u8 0,.int .u8 0,.int .u8 0,.int .u8 0,.int .u8 0,.int .u8 0,.int .u8 0,.int .u8 0,.int .u8 0,.int .u8 0,.int .i64 0] [(0,17,.t 41),(17,1,.t 42)]),o0 44 (.gb 1 [.int .i64 0,.int .u8 0,.int .u8 0,.int .u8 0,.int .u8 0,.int .u8 0,.int .u8 0,.int .u8 0,.int .u8 0,.int .u8 0,.int .u8 0,.int .u8 0,.int .u8 0,.int .u8 0,.int .u8 0,.int .u8 0,.int .u8 0,.int .i64 0] [(0,18,.t 43)]),o0 45 (.append 18 32 (.t 40) (.t 44)),oF 46 3 5,oT 46 45])) .skip))))))
def Xx : AC := .seq (.region [oF 47 3 5,oL 48 47,⟨some 49,none,.call (.c (.fn 137 [] [])) [.t 48,(.c (.fn 138 [] []))]⟩]) (.seq (.region [oN 50 4 5,oS 4 4 50]) .ret)
def Wm : AC := .seq (.region [o0 4 (.alloc [.int .i64 0,.int .i64 0,.int .i64 0,(.v (.slice none 0 0))])]) (.seq (.draw false [oM 8 0,o0 9 (.j0 (.t 8)),oF 10 0 9,oL 11 10,oM 12 0,o0 13 (.j0 (.t 12)),oF 14 1 13,oL 15 14,oM 16 0,o0 17 (.j0 (.t 16)),oF 18 2 17,oL 19 18,o0 20 (.build [.int .i64 0,.int .i64 0,.int .i64 0,(.v (.slice none 0 0))] [(0,1,.t 11),(1,1,.t 15),(2,1,.t 19)]),o0 5 (.alloc [.int .i64 0,.int .i64 0,.int .i64 0,(.v (.slice none 0 0))]),oS 4 5 20]) (.seq (.seq (.region [oM 21 1,o0 22 (.Ug (.t 21))]) (.block 0 (.loop X0))) Xx))
theorem qbg : zk Try.prog 113 = some ⟨51, Wm, [.Qa 4 4]⟩ := by kernel_rfl
def qhz (p c n sz : Int) (ts : List (Int × List Nat × Int)) (seen : List Nat) : St :=
  ⟨[(22, .ptr 4 0), (5, .ptr 3 0), (4, .ptr 2 0), (0, .ptr 0 0)], [.ro [.int .i64 p, .int .i64 c, .int .i64 n], Ql ts, .cells [.int .i64 0, .int .i64 0, .int .i64 0, .v (.slice none 0 0)],
    .cells [.int .i64 p, .int .i64 c, .int .i64 (if xf p (yz ts seen) = [] then n else sz), .slc 5 0 (xf p (yz ts seen)).length false 0], .xw (some 1) ts.length seen ts.length, .vec 18 (qt (xf p (yz ts seen)))]⟩
def q0y (p c n sz : Int) (ts : List (Int × List Nat × Int)) (s : St) : Prop := ∃ seen : List Nat, seen.Nodup ∧ (∀ i ∈ seen, i < ts.length) ∧ s = qhz p c n sz ts seen
def qv3 (ts : List (Int × List Nat × Int)) (s : St) : Nat := match s.hp[4]? with | some (AO.xw _ _ seen _) => ts.length - seen.length | _ => 0
theorem qzy (p c n sz : Int) (ts : List (Int × List Nat × Int)) (hp : 0 < p ∧ p ≤ 1000000) (hs : 0 ≤ sz ∧ sz ≤ 8) (ht : okT ts) (hz : ∀ t ∈ ts, t.1 = sz) (ha : Ub ts) (hl : ts.length ≤ 1000000) :
    Am.Fn Try.prog 113 [.ptr 0 0, .map 1] [.ro [.int .i64 p, .int .i64 c, .int .i64 n], Ql ts] (fun v H' => v = elemV p c (if xf p ts = [] then n else sz) 2 (xf p ts).length ∧
      H' = [.ro [.int .i64 p, .int .i64 c, .int .i64 n], Ql ts, .vec 18 (qt (Xt (xf p ts)))]) := by
  refine Am.Fn.ofB qpa mixed qbg (by simp) ?_ ?_
  · intro j o hj
    match j, hj with
    | 0, hj => cases hj; exact ⟨trivial, trivial, trivial, trivial⟩
    | 1, hj => cases hj; exact qbk _ _ _
    | j + 2, hj => simp at hj
  have hm : Ql ts = .map (esT 0 ts) ts.length := rfl
  simp (maxSteps := 3000000) only [Wm, hm, qja, qil, qio, qi4, qin, Zy, jj, Bg, U3, vn, rd, wrt, wrl, AO.bp, List.getElem?_cons_zero, List.getElem?_cons_succ, List.set_cons_zero, List.set_cons_succ, qa, zZ, ↓qm, ↓reduceIte, reduceCtorEq, nA, nM, nS, nE, nL, nD]; try simp only [qa, zY]
  refine ⟨rfl, WA.jt qpa (q0y p c n sz ts) (qv3 ts) ⟨qhz p c n sz ts [], ?_, [], .nil, by simp, rfl⟩ ?_⟩
  · refine q6.trans (q6.qz [22, 5, 4, 0]) ?_
    refine Eq.subst (motive := fun s' => q6 2 _ s') ?_ (q6.q1u 3 3 18 rfl rfl (by simp) ?_ ?_)
    · simp only [qz, zs]
      rfl
    · simp [qz, zs, AV.under]
    · simp only [List.mem_cons, List.not_mem_nil, or_false, forall_eq_or_imp, forall_eq]
      exact ⟨⟨trivial, trivial, trivial, trivial⟩, qbk _ _ _, ⟨trivial, trivial, trivial, trivial, trivial⟩, ⟨trivial, trivial, trivial, trivial, trivial⟩, fun b h => by cases h; simp⟩
  rintro s ⟨seen, hnd, hlt, rfl⟩
  unfold X0
  refine qs8 (qvj (r := 4) (m := 1) (ts := ts) (seen := seen) rfl rfl (fun hall => ?_) (fun i hi hsn => ?_))
  · have hpm := qux hnd hlt hall
    have hr := qrk (p := p) hpm
    have hrt := qpe (p := p) (qjz ht hlt)
    have hap : (List.map txt (xf p (yz ts seen))).Nodup := (hr.map txt).nodup_iff.2 (qfu ha)
    have hsz : ∀ t ∈ xf p (yz ts seen), 0 ≤ t.1 ∧ t.1 ≤ 8 := fun t h => by
      obtain ⟨u, hu, rfl, _⟩ := qd7 (hr.mem_iff.1 h)
      simp only [hz u hu]; exact hs
    have hlen : (xf p (yz ts seen)).length = (xf p ts).length := hr.length_eq
    have hle : (xf p ts).length ≤ 1000000 := Nat.le_trans (List.length_filterMap_le _ _) hl
    have hle' : (xf p (yz ts seen)).length ≤ 1000000 := by omega
    have hso : Xt (xf p (yz ts seen)) = Xt (xf p ts) := qkr ((kv _).trans hr) ((qa4 hap).imp fun {a b} h => qc3 _ _ h) (qfu ha)
    have hnil : (xf p (yz ts seen) = []) = (xf p ts = []) := propext ⟨fun h => by rw [h] at hr; exact List.nil_perm.1 hr, fun h => by rw [h] at hr; exact List.perm_nil.1 hr⟩
    have htl := qw hrt
    have hto := jq hrt
    rw [hlen] at htl hto
    unfold qhz
    simp (maxSteps := 3000000) only [qh, zH, Xx, Zy, jj, Bg, U3, htl, hto, hle, hap, hsz, hso, hnil, hlen, qa, zZ, ↓qm, ↓reduceIte, reduceCtorEq, nA, nM, nS, nE, nL, nD]; try simp only [qa, zY]
    refine ⟨hsz, rfl, ?_⟩
    refine Ret.jn [0, 1, 5] ⟨⟨by simp, rfl, by decide⟩, ?_⟩ (rs := [.agg [.int .i64 p, .int .i64 c, .int .i64 (if xf p ts = [] then n else sz), .slc 5 0 (xf p ts).length false 0]]) rfl rfl (by simp [z6]) ?_ ⟨?_, ?_⟩
    · simp only [Vb, ↓yo, qg _ _ (qb _), zK, ↓reduceIte, reduceCtorEq, nE, nB, nA]
    · intro j l; match j with
      | 0 => exact fun _ => ⟨_, rfl⟩
      | 1 => simp [zb, Q6]; simp [Ql]
      | 2 => simp [zb, AO.ren]
      | j + 3 => simp [zb]
    · simp only [elemV, z6]
      simp only [zL, ↓reduceIte, reduceCtorEq, nE, nA]
    · simp only [Q6, ↓Vo, qd _ _ (qb _), zL, ↓reduceIte, reduceCtorEq, nE, nA]
      rfl
  · unfold qhz
    have htm : ts.getD i (0, [], 0) ∈ ts := by rw [List.getD_eq_getElem?_getD, List.getElem?_eq_getElem hi]; exact List.getElem_mem _
    have hk : okD (ts.getD i (0, [], 0)).2.1 := ht _ htm
    have h1 : (ts.getD i (0, [], 0)).1 = sz := hz _ htm
    have hfind := qmd (ts := ts) (k := 0) hi
    have hlast : (seen ++ [i]).getLast? = some i := List.getLast?_concat ..
    have hpk : yz ts (seen ++ [i]) = yz ts seen ++ [ts.getD i (0, [], 0)] := by simp [yz]
    have hnd' : (seen ++ [i]).Nodup := by
      rw [List.nodup_append]
      exact ⟨hnd, by simp, fun a ha b hb => by simp at hb; subst hb; rintro rfl; exact hsn ha⟩
    have hlt' : ∀ j ∈ seen ++ [i], j < ts.length := fun j hj => by
      rcases List.mem_append.1 hj with h | h
      · exact hlt j h
      · simp at h; omega
    have hsl : seen.length < ts.length := by
      have := Bn ts.length (seen ++ [i]) hnd' hlt'
      simp at this; omega
    rw [Nat.zero_add] at hfind
    generalize htt : ts.getD i (0, [], 0) = t at hk h1 hfind hpk ⊢
    obtain ⟨n1, m1, k1⟩ := t
    simp only at hk h1 hfind
    subst h1
    have hone : (dia n1 m1).all AV.one = true := zi _ _
    have hrt := qpe (p := p) (qjz ht hlt)
    have htl := qw hrt
    have htk : List.take ((xf p (yz ts seen)).length * 18) (qt (xf p (yz ts seen))) = qt (xf p (yz ts seen)) := List.take_of_length_le (by rw [htl]; exact Nat.le_refl _)
    have hbd : (xf p (yz ts seen)).length ≤ 1000000 := by
      have := List.length_filterMap_le (fun t : Int × List Nat × Int => if t.2.2.emod p = 0 then none else some (t.1, t.2.1, t.2.2.emod p)) (yz ts seen)
      have h2 : (yz ts seen).length = seen.length := by simp [yz]
      unfold xf; omega
    by_cases hkz : k1.emod p = 0
    · have hre : xf p (yz ts (seen ++ [i])) = xf p (yz ts seen) := by rw [hpk]; simp [xf, hkz]
      simp (maxSteps := 3000000) only [qh, zH, Zy, jj, Bg, U3, hkz, hp, hm, qc, hk.1, hlast, hfind, hone, zq, yx hk.1, qbi hk.1, Jp (t := (n1, m1, 0)) hk.1, xv, w9, xh, x6, qn hk.1, x8, src, Gt, qpt, Int.toNat_zero, Option.map_some, Option.map_none, List.length_replicate, Qw (t := (0, List.replicate 16 0, 0)) (u := (n1, m1, k1.emod p)) (by simp) hk.1, Zl (t := (n1, m1, k1.emod p)) hk.1, htk, htl, qa, zZ, ↓qm, ↓reduceIte, reduceCtorEq, nA, nM, nS, nE, nL, nD]; try simp only [qa, zY]
      refine ⟨_, q6.jn [0, 1, 2, 3, 4, 5] [22, 5, 4, 0] ⟨by decide, ?_⟩ ?_, ⟨seen ++ [i], hnd', hlt', ?_⟩, ?_⟩
      · simp only [Vb, ↓yo, qg _ _ (qb _), zK, ↓reduceIte, reduceCtorEq, nE, nB, nA]
      · simp only [zK, ↓reduceIte, reduceCtorEq, nE, nB, nA]
      · unfold qhz
        simp only [Q6, ↓Vo, qd _ _ (qb _), hre, zL, ↓reduceIte, reduceCtorEq, nE, nA]
        rfl
      · simp only [qv3]
        simp only [Q6, ↓Vo, zL, ↓reduceIte, reduceCtorEq, nE, nA]
        simp; omega
    · have hre : xf p (yz ts (seen ++ [i])) = xf p (yz ts seen) ++ [(n1, m1, k1.emod p)] := by rw [hpk]; simp [xf, hkz]
      simp (maxSteps := 3000000) only [qh, zH, Zy, jj, Bg, U3, hkz, hp, hm, qc, hk.1, hlast, hfind, hone, zq, yx hk.1, qbi hk.1, Jp (t := (n1, m1, 0)) hk.1, xv, w9, xh, x6, qn hk.1, x8, src, Gt, qpt, Int.toNat_zero, Option.map_some, Option.map_none, List.length_replicate, Qw (t := (0, List.replicate 16 0, 0)) (u := (n1, m1, k1.emod p)) (by simp) hk.1, Zl (t := (n1, m1, k1.emod p)) hk.1, htk, htl, qa, zZ, ↓qm, ↓reduceIte, reduceCtorEq, nA, nM, nS, nE, nL, nD]; try simp only [qa, zY]
      refine ⟨rfl, ⟨Nat.le_refl _, by omega⟩, rfl, _, q6.jn [0, 1, 2, 3, 4, 8] [22, 5, 4, 0] ⟨by decide, ?_⟩ ?_, ⟨seen ++ [i], hnd', hlt', ?_⟩, ?_⟩
      · simp only [Vb, ↓yo, qhg, qg _ _ (qb _), zK, ↓reduceIte, reduceCtorEq, nE, nB, nA]
      · simp only [zK, ↓reduceIte, reduceCtorEq, nE, nB, nA]
      · unfold qhz
        have hne : (xf p (yz ts seen) ++ [(n1, m1, k1.emod p)] = []) = False := by simp
        simp only [Q6, ↓Vo, qhg, qd _ _ (qb _), hre, hne, List.length_append, List.length_nil, List.length_cons, zL, ↓reduceIte, reduceCtorEq, nE, nA]
        rfl
      · simp only [qv3]
        simp only [Q6, ↓Vo, zL, ↓reduceIte, reduceCtorEq, nE, nA]
        simp; omega
def tsE : Nat → List AE → Option (List (Int × List Nat × Int))
  | _, [] => some []
  | k, ⟨.agg l, .int .i64 v, b⟩ :: es => match yk l, tsE (k + 1) es with
    | some (n, m), some ts => if b = k then some ((n, m, v) :: ts) else none
    | _, _ => none
  | _, _ => none
theorem qqe : ∀ {ts : List (Int × List Nat × Int)} {k : Nat}, okT ts → tsE k (esT k ts) = some ts
  | [], _, _ => rfl
  | t :: l, k, h => by
    simp only [esT, tsE, qp (h t (List.mem_cons_self ..)), qqe (ts := l) (k := k + 1) fun u hu => h u (List.mem_cons_of_mem _ hu), if_true]
theorem qkq : ∀ {es : List AE} {k : Nat} {ts : List (Int × List Nat × Int)}, tsE k es = some ts → es = esT k ts ∧ okT ts
  | [], k, ts, h => by simp only [tsE, Option.some.injEq] at h; subst h; exact ⟨rfl, fun t ht => by cases ht⟩
  | ⟨key, val, b⟩ :: es, k, ts, h => by
    unfold tsE at h
    split at h
    · rename_i e; cases e
    · rename_i e; cases e
      split at h
      · rename_i n m ts' hd hts
        split at h
        · rename_i hb
          cases h; subst hb
          obtain ⟨rfl, hm⟩ := zj hd
          obtain ⟨e1, e2⟩ := qkq hts
          refine ⟨by rw [e1]; rfl, fun t ht => ?_⟩
          rcases List.mem_cons.1 ht with rfl | ht
          · exact hm
          · exact e2 t ht
        · cases h
      · cases h
    · cases h
theorem qm3 {α : Type} : ∀ {l : List α} {i : Nat} {a : α}, l[i]? = some a → l.set i a = l
  | [], i, a, h => by simp at h
  | x :: l, 0, a, h => by simp only [List.getElem?_cons_zero, Option.some.injEq] at h; simp [h]
  | x :: l, i + 1, a, h => by simp only [List.getElem?_cons_succ] at h; simp [qm3 h]
def qdk (ts : List (Int × List Nat × Int)) : Int := match ts with | t :: _ => t.1 | [] => 0
def Xh : BE := fun hp xs => match xs with
  | [.ptr b 0, .map m] => match rd hp b, hp[m]? with
    | some (.int .i64 p :: .int .i64 c :: .int .i64 n :: _), some (.map es ck) => match tsE 0 es with
      | some ts => chk (ck = ts.length ∧ (0 < p ∧ p ≤ 1000000) ∧ ts.length ≤ 1000000 ∧ (0 ≤ qdk ts ∧ qdk ts ≤ 8) ∧ (∀ t ∈ ts, t.1 = qdk ts) ∧ (ts.map txt).Nodup)
          (some (elemV p c (if xf p ts = [] then n else qdk ts) hp.length (xf p ts).length, hp ++ [.vec 18 (qt (Xt (xf p ts)))]))
      | none => none
    | _, _ => none
  | _ => none
theorem qz8 : Am.Callee Try.prog 113 Xh := Callee.fp fun hp xs v hp' he => by
  unfold Xh at he
  split at he
  · rename_i b m
    split at he
    · rename_i p c n L es ck hrd hm
      split at he
      · rename_i ts hts
        obtain ⟨⟨h1, h2, h3, h4, h5, h6⟩, he⟩ := qk he
        simp only [Option.some.injEq, Prod.mk.injEq] at he
        obtain ⟨rfl, rfl⟩ := he
        obtain ⟨rfl, hok⟩ := qkq hts
        subst h1
        have hne : m ≠ b := by
          rintro rfl
          simp [rd, hm] at hrd
        refine ⟨[(b, 0), (m, 0)], [.ptr 0 0, .map 1], _, _, _, qzy p c n (qdk ts) ts h2 h4 hok h5 h6 h3, ?_, rfl, ⟨⟨_, hrd, by simp, by simp [AV.zl, AV.ren]⟩, ⟨rfl, ?_⟩, trivial⟩, ?_, ?_, ?_, ?_, ?_⟩
        · simp [ofL, AV.zl, AV.ren]
        · rw [Q6]; exact hm
        · simp [Ji, AO.wr, hne]
        · exact ⟨⟨trivial, trivial, trivial, trivial⟩, qbk _ _ _, trivial⟩
        · exact ⟨by simp [AV.under], by simp [AV.under], trivial⟩
        · simp [elemV, AV.ren, AV.zl, Ren.ext]
        · simp only [after, upd, q03, show (Ql ts).wr = true from rfl, Q6, qy8, Vr, if_true, Bool.false_eq_true, if_false, qm3 (show hp[m]? = some (Ql ts) from hm), qd _ _ (qb _), List.length_cons, List.length_nil, List.drop_succ_cons, List.drop_zero, List.map_cons, List.map_nil]
      · cases he
    · cases he
  · cases he
def B28 : zo := (B27.put 113 (Xh))
theorem qs0 : qx Try.prog B28 := (qpa.put (qz8))
theorem qb2 : B28 64 = some (qj j3) := rfl
theorem qbp : B28 63 = some (bw 0 17 Wp) := rfl
theorem qbf : B28 65 = some (qj V4) := rfl
theorem Y6 : B28 113 = some (Xh) := rfl
abbrev KD : List LT := [LT.int, LT.int, LT.int, LT.int, LT.int, LT.int, LT.int, LT.int, LT.int, LT.int, LT.int, LT.int, LT.int, LT.int, LT.int, LT.int, LT.int]
theorem qly : ∀ (m m' : List Nat), m.length = m'.length → jl (List.replicate m.length .int) (u8s m) (u8s m') = some (decide (m = m'))
  | [], [], _ => rfl
  | [], _ :: _, h => by simp at h
  | _ :: _, [], h => by simp at h
  | a :: m, b :: m', h => by
    have ih := qly m m' (by simpa using h)
    simp only [u8s] at ih
    simp only [List.length_cons, List.replicate_succ, u8s, List.map_cons, jl, leq, if_true, ih]
    by_cases e : a = b
    · subst e; simp
    · have : ¬ ((a : Int) = (b : Int)) := by omega
      simp [e, this]
theorem V6 {n n' : Int} {m m' : List Nat} (h : m.length = 16) (h' : m'.length = 16) : jl KD (dia n m) (dia n' m') = some (decide (n = n' ∧ m = m')) := by
  have h1 := qly m m' (by rw [h, h'])
  rw [h] at h1
  have h2 : KD = .int :: List.replicate 16 .int := rfl
  rw [h2]
  simp only [dia, jl, leq, if_true, h1]
  by_cases e : n = n'
  · subst e; simp
  · simp [e]
theorem qpz {n : Int} {m : List Nat} (h : m.length = 16) : kok KD true (.agg (dia n m)) = true := by
  simp only [kok, keq, V6 h h]
def qe3 : AC := .seq (.region [o0 6 (.box (.t 2)),o0 8 (.alloc [.int .i64 0,.int .i64 0,.int .i64 0,(.v (.slice none 0 0))])]) (.seq (.region [oM 10 0,oM 11 1,oF 12 0 6,oL 13 12,o0 14 (.build [.int .i64 0,.int .i64 0,.int .i64 0,(.v (.slice none 0 0))] [(0,1,.t 10),(1,1,.t 11),(2,1,.t 13)]),o0 9 (.alloc [.int .i64 0,.int .i64 0,.int .i64 0,(.v (.slice none 0 0))]),oS 4 9 14]) (.seq (.region [o0 15 (.qas),oN 16 17 6,oM 17 3,⟨none,none,.op (.U1 [.int,.int,.int,.int,.int,.int,.int,.int,.int,.int,.int,.int,.int,.int,.int,.int,.int] true (.t 15) (.t 16) (.t 17))⟩,oM 18 15,oC 19 113 [.t 9,.t 18],oS 4 8 19]) .ret))
theorem qob : zk Try.prog 66 = some ⟨20, qe3, [.Qa 8 4]⟩ := by kernel_rfl
theorem qu2 (p c n : Int) (m : List Nat) (k : Int) (hp : 0 < p ∧ p ≤ 1000000) (hn : 0 ≤ n ∧ n ≤ 8) (hm : okD m) :
    Am.Fn Try.prog 66 [.int .i64 p, .int .i64 c, .agg (dia n m), .int .i64 k] [] (fun v H' => v = elemV p c n 0 (if k.emod p = 0 then ([] : List (Int × List Nat × Int)) else [(n, m, k.emod p)]).length ∧ H' = [.vec 18 (qt (if k.emod p = 0 then [] else [(n, m, k.emod p)]))]) := by
  refine Am.Fn.ofB qs0 mixed qob (by simp) (by simp) ?_
  have hr : xf p [(n, m, k)] = if k.emod p = 0 then [] else [(n, m, k.emod p)] := by
    unfold xf; by_cases h : k.emod p = 0 <;> simp [h]
  have hle : (if k.emod p = 0 then [] else [(n, m, k.emod p)]).length ≤ 1 := by split <;> simp
  generalize (if k.emod p = 0 then [] else [(n, m, k.emod p)]) = L at hr hle ⊢
  have hs : Xt L = L := by
    match L, hle with
    | [], _ => rfl
    | [t], _ => rfl
  have hsz : qdk [(n, m, k)] = n := rfl
  have hall : ∀ t ∈ [(n, m, k)], t.1 = n := by simp
  have hnd : [txt (n, m, k)].Nodup := by simp
  simp (maxSteps := 3000000) only [qh, zH, qe3, qb2, qbp, qbf, Y6, j3, Wp, V4, Xh, qc, hm.1, qp hm, qpz hm.1, qn hm.1, vq, uj, tsE, hp, hn, hsz, hall, hnd, hr, hs, elemV, ite_self, qa, zZ, ↓qm, ↓reduceIte, reduceCtorEq, nA, nM, nS, nE, nL, nD]; try simp only [qa, zY]
  refine ⟨rfl, hall, rfl, ?_⟩
  refine Ret.jn [4] ⟨⟨by simp, rfl, by decide⟩, ?_⟩ (rs := [.agg [.int .i64 p, .int .i64 c, .int .i64 n, .slc 4 0 L.length false 0]]) rfl rfl (by simp [z6]) ?_ ⟨?_, ?_⟩
  · simp only [qg _ _ (qb _), zK, ↓reduceIte, reduceCtorEq, nE, nB, nA]
  · intro j l; match j with
    | 0 => simp [zb, AO.ren]
    | j + 1 => simp [zb]
  · simp only [z6]
    simp only [zL, ↓reduceIte, reduceCtorEq, nE, nA]
  · simp only [qd _ _ (qb _), zL, ↓reduceIte, reduceCtorEq, nE, nA]
def ug : List AV → Option (AV × List AO)
  | [.int .i64 p, .int .i64 c, .agg l, .int .i64 k] => match yk l with
    | some (n, m) => chk ((0 < p ∧ p ≤ 1000000) ∧ (0 ≤ n ∧ n ≤ 8)) (some (elemV p c n 0 (if k.emod p = 0 then ([] : List (Int × List Nat × Int)) else [(n, m, k.emod p)]).length, [.vec 18 (qt (if k.emod p = 0 then [] else [(n, m, k.emod p)]))]))
    | none => none
  | _ => none
theorem qtq : Am.Callee Try.prog 66 (qbj ug) :=
  Am.Callee.new fun xs v H he => by
    unfold ug at he
    split at he
    · rename_i p c l k
      split at he
      · rename_i n m hd
        obtain ⟨⟨h1, h2⟩, he⟩ := qk he
        obtain ⟨rfl, hm⟩ := zj hd
        have e1 := congrArg Prod.fst (Option.some.inj he)
        have e2 := congrArg Prod.snd (Option.some.inj he)
        simp only at e1 e2
        subst e1; subst e2
        exact ⟨by simp only [AV.zg, AV.zm, qe, Bool.and_self], qu2 p c n m k h1 h2 hm⟩
      · cases he
    · cases he
def B29 : zo := (B28.put 66 (qbj ug))
theorem qzb : qx Try.prog B29 := (qs0.put (qtq))
theorem qo3 (p c n : Int) (b k m : Nat) : AV.ren (W1 m) (.agg [.int .i64 p, .int .i64 c, .int .i64 n, .slc b 0 k false 0]) = .agg [.int .i64 p, .int .i64 c, .int .i64 n, .slc (m + b) 0 k false 0] := rfl
def B30 : zo := B29
theorem qou : qx Try.prog B30 := qzb
end Go.Proofs.Ytkgoadglalpbfaa
namespace Go.Proofs.Ytkgoadglalpbfaa
open Go.Am Go.Dia
open Nat renaming reduceAdd → nA, reduceMul → nM, reduceSub → nS, reduceEqDiff → nE, reduceLT → nL, reduceLeDiff → nD, reduceBEq → nB
open Int renaming reduceEq → iE, reduceNe → iN, reduceBEq → iB, reduceBNe → iC, reduceLT → iL, reduceLE → iD, reduceAdd → iA, reduceSub → iS, reduceMul → iM
set_option linter.unusedSimpArgs false
set_option linter.unusedVariables false
set_option maxRecDepth 4000
set_option maxHeartbeats 1000000
end Go.Proofs.Ytkgoadglalpbfaa

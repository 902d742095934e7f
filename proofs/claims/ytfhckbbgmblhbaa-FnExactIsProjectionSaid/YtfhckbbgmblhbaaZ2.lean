/- Contracts of functions of the program, and plain laws, part 2: each text of this part is proved without further condition. -/
import Derived.Test.YtfhckbbgmblhbaaZ1
import Derived.Test.YtfhckbbgmblhbaaAmC
import Derived.Shelf.Small.Strs
namespace Go.Proofs.Ytfhckbbgmblhbaa
open Go.Am Go.Dia
open Nat renaming reduceAdd → nA, reduceMul → nM, reduceSub → nS, reduceEqDiff → nE, reduceLT → nL, reduceLeDiff → nD, reduceBEq → nB
open Int renaming reduceEq → iE, reduceNe → iN, reduceBEq → iB, reduceBNe → iC, reduceLT → iL, reduceLE → iD, reduceAdd → iA, reduceSub → iS, reduceMul → iM
set_option linter.unusedSimpArgs false
set_option linter.unusedVariables false
set_option maxRecDepth 4000
set_option maxHeartbeats 1000000
theorem qdw : B13 116 = some (qm J8) := rfl
def Jl : AC := .seq (.seq (.region [oM 11 5,oM 12 0,o0 13 (.len .slc (.t 12)),oP 14 .lss 11 13]) (.cond 14 .skip (.exit 0))) (.seq (.block 1 (.seq (.draw false [oM 17 0,oM 18 5,oX 19 18 17 18,oN 20 18 19,oM 21 1,oM 22 5,oX 23 18 21 22,oN 24 18 23,oC 25 116 [.t 20,.t 24],o0 26 (.un .not (.t 25))]) (.cond 26 (.seq (.region [oB 4 false]) .ret) .skip))) (.region [oM 15 5,oK 16 .add 15 1,oM 5 16]))
def U0 : AC := .seq (.region [oB 4 true]) .ret
def qdv : AC := .seq (.region [oB 4 false]) (.seq (.seq (.region [oM 6 0,o0 7 (.len .slc (.t 6)),oM 8 1,o0 9 (.len .slc (.t 8)),oP 10 .neq 7 9]) (.cond 10 (.seq (.region [oB 4 false]) .ret) .skip)) (.seq (.seq (.region [oI 5 0]) (.block 0 (.loop Jl))) U0))
theorem qmu : zr Try.prog 51 = some ⟨27, qdv, [.slot 4]⟩ := by kernel_rfl
def G9 : AC := .seq (.region [o0 2 (.box (.t 0)),o0 3 (.box (.t 1)),oB 4 false]) (.seq (.seq (.region [oF 5 0 2,oL 6 5,oF 7 0 3,oL 8 7,oP 9 .neq 6 8]) (.cond 9 (.seq (.region [oB 4 false]) .ret) .skip)) (.seq (.seq (.region [oF 10 1 2,oL 11 10,oF 12 1 3,oL 13 12,oP 14 .neq 11 13]) (.cond 14 (.seq (.region [oB 4 false]) .ret) .skip)) (.seq (.seq (.region [oF 15 2 2,oL 16 15,oF 17 2 3,oL 18 17,oP 19 .neq 16 18]) (.cond 19 (.seq (.region [oB 4 false]) .ret) .skip)) (.seq (.seq (.region [oF 20 3 2,oL 21 20,oF 22 3 3,oL 23 22,oC 24 51 [.t 21,.t 23],o0 25 (.un .not (.t 24))]) (.cond 25 (.seq (.region [oB 4 false]) .ret) .skip)) (.seq (.region [oB 4 true]) .ret)))))
theorem qg8 : zr Try.prog 18 = some ⟨26, G9, [.slot 4]⟩ := by kernel_rfl
def Ug : Nat → List AV → Option (List (Int × List Nat × Int))
  | 0, _ => some []
  | k + 1, l => match qdq (l.take 18), Ug k (l.drop 18) with
    | some t, some ts => some (t :: ts)
    | _, _ => none
theorem qic : ∀ {ts : List (Int × List Nat × Int)} {x : List AV}, okT ts → Ug ts.length (zk ts ++ x) = some ts
  | [], _, _ => rfl
  | t :: ts, x, h => by
    have h1 := qic (ts := ts) (x := x) fun u hu => h u (List.mem_cons_of_mem _ hu)
    have h2 := zt (h t (by simp))
    simp only [zk, List.flatMap_cons, List.length_cons, Ug, List.append_assoc] at h1 ⊢
    rw [List.take_append_of_le_length (by omega), List.take_of_length_le (by omega), Bz (h t (by simp)), List.drop_append, List.drop_of_length_le (by omega), h2, List.nil_append]
    simp only [Nat.sub_self, List.drop_zero, h1]
theorem gv {ts : List (Int × List Nat × Int)} (h : okT ts) : Ug ts.length (zk ts) = some ts := by
  have := qic (x := []) h
  rwa [List.append_nil] at this
theorem ya : ∀ {k : Nat} {l : List AV} {ts : List (Int × List Nat × Int)}, Ug k l = some ts → ts.length = k ∧ okT ts ∧ l.take (k * 18) = zk ts ∧ k * 18 ≤ l.length
  | 0, l, ts, h => by cases h; exact ⟨rfl, by simp [okT], by simp [zk], by omega⟩
  | k + 1, l, ts, h => by
    simp only [Ug] at h
    split at h
    · rename_i t us ht hus
      cases h
      obtain ⟨h1, h2, h3, h4⟩ := ya hus
      obtain ⟨h5, h6⟩ := Yi ht
      have h7 := zt h6
      have h8 : 18 ≤ l.length := by
        have := congrArg List.length h5
        rw [h7, List.length_take] at this; omega
      rw [List.length_drop] at h4
      refine ⟨by simp [h1], fun u hu => ?_, ?_, by omega⟩
      · rcases List.mem_cons.1 hu with rfl | hu
        · exact h6
        · exact h2 u hu
      · rw [show (k + 1) * 18 = 18 + k * 18 from by omega, List.take_add, h5, h3]; rfl
    · cases h
def two (b b' : Nat) : Ren := fun j => if j = 0 then some (b, 0) else if j = 1 then some (b', 0) else none
theorem Callee.ro2 {f : FuncId} {g : BE} (h : ∀ hp xs v hp', g hp xs = some (v, hp') → ∃ (l l' : List AV) (b b' : Nat) (ys : List AV), hp' = hp ∧ (∃ L, rd hp b = some L ∧ l.length ≤ L.length ∧ L.take l.length = l) ∧ (∃ L, rd hp b' = some L ∧ l'.length ≤ L.length ∧ L.take l'.length = l') ∧
    AV.zb l = true ∧ AV.zb l' = true ∧ xs = AV.zh (two b b') ys ∧ xs.all vh = true ∧ AV.qy 2 ys ∧ v.zl = true ∧ Am.Fn Try.prog f ys [.ro l, .ro l'] fun v' H' => v' = v ∧ H' = [.ro l, .ro l']) : Am.Callee Try.prog f g := by
  intro hp xs v hp' he
  obtain ⟨l, l', b, b', ys, rfl, ⟨L, hL, h1, h2⟩, ⟨L', hL', h1', h2'⟩, h3, h3', h4, h5, h6, h7, h8⟩ := h hp xs v hp' he
  refine ⟨[.ro l, .ro l'], ys, _, two b b', [(b, 0), (b', 0)], h8, h4, h5, ⟨fun j hj => ?_, rfl, fun j o c hj hb => ?_, fun j k bj bk oj ok hj hk hoj hok hw => ?_⟩, ?_, h6, ?_⟩
  · match j, hj with
    | 0, _ => rfl
    | 1, _ => rfl
  · match j, hj, hb with
    | 0, hj, hb =>
      cases hj; cases hb
      exact ⟨L, hL, by omega, by rw [List.drop_zero, qc _ _ h3]; exact h2⟩
    | 1, hj, hb =>
      cases hj; cases hb
      exact ⟨L', hL', by omega, by rw [List.drop_zero, qc _ _ h3']; exact h2'⟩
    | j + 2, hj, hb => simp at hj
  · match j, hoj with
    | 0, hoj => cases hoj; cases hw
    | 1, hoj => cases hoj; cases hw
    | j + 2, hoj => simp at hoj
  · intro j o hj
    match j, hj with
    | 0, hj => cases hj; exact qh _ _ h3
    | 1, hj => cases hj; exact qh _ _ h3'
    | j + 2, hj => simp at hj
  · rintro v' H' ⟨rfl, rfl⟩
    exact ⟨Qr _ _ h7, by simp [after, upd, AO.wr]⟩
theorem qbt {l l' : List AV} (h : AV.zb l = true) (h' : AV.zb l' = true) : ∀ (j : Nat) (o : AO), [AO.ro l, AO.ro l'][j]? = some o → o.under [AO.ro l, AO.ro l'].length := by
  intro j o e
  match j, e with
  | 0, e => cases e; exact qh _ _ h
  | 1, e => cases e; exact qh _ _ h'
  | j + 2, e => simp at e
theorem qlg (a b : List (Int × List Nat × Int)) (ha : okT a) (hb : okT b) (hal : a.length ≤ 2000000) :
    Am.Fn Try.prog 51 [.slc 0 0 a.length false 0, .slc 1 0 b.length false 0] [.ro (zk a), .ro (zk b)] (fun v H' => v = .bool (decide (a = b)) ∧ H' = [.ro (zk a), .ro (zk b)]) := by
  refine Am.Fn.jd (R := fun v => v = _) qp7 mixed qmu (by simp) (qbt (qd _) (qd _)) ?_
  simp (maxSteps := 3000000) only [qdv, qa, zZ, ↓qo, ↓reduceIte, reduceCtorEq, nA, nM, nS, nE, nL, nD]; try simp only [qa, zY]
  refine ⟨fun h => ⟨⟨_, rfl⟩, ?_⟩, fun h => ?_⟩
  · symm; rw [decide_eq_false_iff_not]; rintro rfl; exact h rfl
  have hlen : a.length = b.length := by omega
  refine WA.jn qp7 (fun s => ∃ k : Nat, s = ⟨[(5, .int .i64 k), (0, .slc 0 0 a.length false 0), (1, .slc 1 0 b.length false 0)], [.ro (zk a), .ro (zk b)]⟩ ∧ k ≤ a.length ∧ ∀ i, i < k → a[i]? = b[i]?)
    (fun s => match get s.env 5 with | .int _ k => (2000000 - k).toNat | _ => 0) ⟨_, qz.qx [5, 0, 1], 0, rfl, by omega, by intros; omega⟩ ?_
  rintro s ⟨k, rfl, hk, hc⟩
  have hw : qu .i64 ((k : Int) + 1) = ((k + 1 : Nat) : Int) := by rw [wrap64 (by omega) (by omega)]; rfl
  have hla := zg ha
  have hlb := zg hb
  by_cases hlt : k < a.length
  · have hga := kq ha hlt
    have hgb := kq hb (i := k) (by omega)
    have hoa := ha a[k] (List.getElem_mem hlt)
    have hob := hb b[k] (List.getElem_mem (by omega))
    simp (maxSteps := 3000000) only [Jl, hw, qdw, J8, hla, hlb, hga, hgb, Bz hoa, Bz hob, rd, List.getElem?_cons_zero, List.getElem?_cons_succ, qa, zZ, ↓qo, ↓reduceIte, reduceCtorEq, nA, nM, nS, nE, nL, nD]; try simp only [qa, zY]
    refine ⟨fun _ => ⟨⟨⟨by omega, by omega⟩, by omega⟩, by omega, ⟨⟨by omega, by omega⟩, by omega⟩, by omega, fun h2 => ⟨⟨_, rfl⟩, ?_⟩, fun h2 => ⟨_, qz.qx [5, 0, 1], ⟨k + 1, rfl, by omega, fun i hi => ?_⟩, ?_⟩⟩, fun h => absurd (by omega) h⟩
    · symm; rw [decide_eq_false_iff_not]; rintro rfl; exact h2 rfl
    · by_cases e : i = k
      · subst e; rw [List.getElem?_eq_getElem hlt, List.getElem?_eq_getElem (by omega), h2]
      · exact hc i (by omega)
    · simp only [zL, ↓reduceIte, reduceCtorEq, nE, nA]; omega
  · simp (maxSteps := 3000000) only [Jl, U0, hw, qa, zZ, ↓qo, ↓reduceIte, reduceCtorEq, nA, nM, nS, nE, nL, nD]; try simp only [qa, zY]
    refine ⟨fun h => absurd h (by omega), fun _ => ⟨⟨_, rfl⟩, ?_⟩⟩
    symm; rw [decide_eq_true_eq]
    refine List.ext_getElem? fun i => ?_
    by_cases e : i < a.length
    · exact hc i (by omega)
    · rw [List.getElem?_eq_none (by omega), List.getElem?_eq_none (by omega)]
def Wg : BE := fun hp xs => match xs with
  | [.slc b 0 k false 0, .slc b' 0 k' false 0] => match rd hp b, rd hp b' with
    | some L, some L' => match Ug k L, Ug k' L' with
      | some ts, some ts' => chk (k ≤ 2000000) (some (.bool (decide (ts = ts')), hp))
      | _, _ => none
    | _, _ => none
  | _ => none
theorem qll : Am.Callee Try.prog 51 Wg := Callee.ro2 fun hp xs v hp' he => by
  unfold Wg at he
  split at he
  · rename_i b k b' k'
    split at he
    · rename_i L L' hL hL'
      split at he
      · rename_i ts ts' h1 h1'
        obtain ⟨h0, he⟩ := ql he
        simp only [Option.some.injEq, Prod.mk.injEq] at he
        obtain ⟨rfl, rfl⟩ := he
        obtain ⟨e1, e2, e3, e4⟩ := ya h1
        obtain ⟨f1, f2, f3, f4⟩ := ya h1'
        have g1 := zg e2
        have g2 := zg f2
        refine ⟨zk ts, zk ts', b, b', [.slc 0 0 ts.length false 0, .slc 1 0 ts'.length false 0], rfl, ⟨L, hL, by omega, by rw [g1, e1]; exact e3⟩, ⟨L', hL', by omega, by rw [g2, f1]; exact f3⟩, qd _, qd _, ?_, rfl, ?_, rfl, qlg ts ts' e2 f2 (by omega)⟩
        · simp only [AV.zh, AV.ren, two, if_true, e1, f1, Nat.zero_add]
          rfl
        · exact ⟨by simp [AV.under], by simp [AV.under], trivial⟩
      · cases he
    · cases he
  · cases he
def B14 : za := (B13.put 51 (Wg))
theorem qwm : qn Try.prog B14 := (qp7.put (qll))
theorem qdx : B14 116 = some (qm J8) := rfl
theorem qch : B14 51 = some (Wg) := rfl
def elemV (p c n : Int) (b k : Nat) : AV := .agg [.int .i64 p, .int .i64 c, .int .i64 n, .slc b 0 k false 0]
theorem qgt (p c n p' c' n' : Int) (a b : List (Int × List Nat × Int)) (ha : okT a) (hb : okT b) (hal : a.length ≤ 2000000) :
    Am.Fn Try.prog 18 [elemV p c n 0 a.length, elemV p' c' n' 1 b.length] [.ro (zk a), .ro (zk b)] (fun v H' => v = .bool (decide ((p = p' ∧ c = c' ∧ n = n') ∧ a = b)) ∧ H' = [.ro (zk a), .ro (zk b)]) := by
  refine Am.Fn.jd (R := fun v => v = _) qwm mixed qg8 (by simp) (qbt (qd _) (qd _)) ?_
  simp (maxSteps := 3000000) only [G9, elemV, qdx, qch, J8, Wg, gv ha, gv hb, rd, List.getElem?_cons_zero, List.getElem?_cons_succ, qa, zZ, ↓qo, ↓reduceIte, reduceCtorEq, nA, nM, nS, nE, nL, nD]; try simp only [qa, zY]
  have hf : ¬((p = p' ∧ c = c' ∧ n = n') ∧ a = b) → false = decide ((p = p' ∧ c = c' ∧ n = n') ∧ a = b) := fun h => by
    symm; rw [decide_eq_false_iff_not]; exact h
  refine ⟨fun h => ⟨⟨_, rfl⟩, hf fun e => h e.1.1⟩, fun h => ⟨fun h2 => ⟨⟨_, rfl⟩, hf fun e => h2 e.1.2.1⟩, fun h2 => ⟨fun h3 => ⟨⟨_, rfl⟩, hf fun e => h3 e.1.2.2⟩, fun h3 => ⟨hal, fun h4 => ⟨⟨_, rfl⟩, hf fun e => h4 e.2⟩, fun h4 => ⟨⟨_, rfl⟩, ?_⟩⟩⟩⟩⟩
  symm; rw [decide_eq_true_eq]; exact ⟨⟨h, h2, h3⟩, h4⟩
def uv : BE := fun hp xs => match xs with
  | [.agg [.int .i64 p, .int .i64 c, .int .i64 n, .slc b 0 k false 0], .agg [.int .i64 p', .int .i64 c', .int .i64 n', .slc b' 0 k' false 0]] => match rd hp b, rd hp b' with
    | some L, some L' => match Ug k L, Ug k' L' with
      | some ts, some ts' => chk (k ≤ 2000000) (some (.bool (decide ((p = p' ∧ c = c' ∧ n = n') ∧ ts = ts')), hp))
      | _, _ => none
    | _, _ => none
  | _ => none
theorem qgr : Am.Callee Try.prog 18 uv := Callee.ro2 fun hp xs v hp' he => by
  unfold uv at he
  split at he
  · rename_i p c n b k p' c' n' b' k'
    split at he
    · rename_i L L' hL hL'
      split at he
      · rename_i ts ts' h1 h1'
        obtain ⟨h0, he⟩ := ql he
        simp only [Option.some.injEq, Prod.mk.injEq] at he
        obtain ⟨rfl, rfl⟩ := he
        obtain ⟨e1, e2, e3, e4⟩ := ya h1
        obtain ⟨f1, f2, f3, f4⟩ := ya h1'
        have g1 := zg e2
        have g2 := zg f2
        refine ⟨zk ts, zk ts', b, b', [elemV p c n 0 ts.length, elemV p' c' n' 1 ts'.length], rfl, ⟨L, hL, by omega, by rw [g1, e1]; exact e3⟩, ⟨L', hL', by omega, by rw [g2, f1]; exact f3⟩, qd _, qd _, ?_, rfl, ?_, rfl, qgt p c n p' c' n' ts ts' e2 f2 (by omega)⟩
        · simp only [elemV, AV.zh, AV.ren, two, if_true, e1, f1, Nat.zero_add]
          rfl
        · exact ⟨⟨trivial, trivial, trivial, by simp [AV.under], trivial⟩, ⟨trivial, trivial, trivial, by simp [AV.under], trivial⟩, trivial⟩
      · cases he
    · cases he
  · cases he
def B15 : za := (B14.put 18 (uv))
theorem q3m : qn Try.prog B15 := (qwm.put (qgr))
theorem qs2 {t : Int × List Nat × Int} {x : Int} (h : okD t.2.1) : (trm t).set 17 (.int .i64 x) = trm (t.1, t.2.1, x) := by
  simp only [trm]
  rw [List.set_append_right _ _ (by rw [qb, h.1]; omega), qb, h.1]; rfl
def part (k : Nat) (m : List Nat) (j : Nat) : List Nat := (List.range 16).map fun t => if t < j then (k + t) % 256 else m.getD t 0
def one (b : Nat) : Ren := fun j => if j = 0 then some (b, 0) else none
theorem Callee.wr1 {f : FuncId} {g : BE} (h : ∀ hp xs v hp', g hp xs = some (v, hp') → ∃ (sz : Nat) (l l' : List AV) (b : Nat) (ys : List AV), hp[b]? = some (.vec sz l) ∧ hp' = hp.set b (.vec sz l') ∧
    AV.zb l = true ∧ AV.zb l' = true ∧ xs = AV.zh (one b) ys ∧ xs.all vh = true ∧ AV.qy 1 ys ∧ v.zl = true ∧ Am.Fn Try.prog f ys [.vec sz l] fun v' H' => v' = v ∧ H' = [.vec sz l']) : Am.Callee Try.prog f g := by
  intro hp xs v hp' he
  obtain ⟨sz, l, l', b, ys, hb, rfl, h3, h3', h4, h5, h6, h7, h8⟩ := h hp xs v hp' he
  refine ⟨[.vec sz l], ys, _, one b, [(b, 0)], h8, h4, h5, ⟨fun j hj => ?_, rfl, fun j o c hj hc => ?_, fun j k bj bk oj ok hj hk hoj hok hw hl hjk => ?_⟩, ?_, h6, ?_⟩
  · match j, hj with
    | 0, _ => rfl
  · match j, hj, hc with
    | 0, hj, hc =>
      cases hj; cases hc
      exact ⟨rfl, by simp only [AO.ren, qc _ _ h3]; exact hb⟩
    | j + 1, hj, hc => simp at hj
  · match j, k, hoj, hok with
    | 0, 0, _, _ => rfl
    | 0, k + 1, _, hok => simp at hok
    | j + 1, _, hoj, _ => simp at hoj
  · intro j o hj
    match j, hj with
    | 0, hj => cases hj; exact qh _ _ h3
    | j + 1, hj => simp at hj
  · rintro v' H' ⟨rfl, rfl⟩
    refine ⟨Qr _ _ h7, ?_⟩
    simp only [after, upd, AO.wr, if_true, AO.ren, qc _ _ h3', List.length_cons, List.length_nil, List.drop_succ_cons, List.drop_nil, List.map_nil, List.append_nil]
theorem Callee.ro1 {f : FuncId} {g : BE} (h : ∀ hp xs v hp', g hp xs = some (v, hp') → ∃ (l : List AV) (b : Nat) (ys : List AV), hp' = hp ∧ (∃ L, rd hp b = some L ∧ l.length ≤ L.length ∧ L.take l.length = l) ∧
    AV.zb l = true ∧ xs = AV.zh (one b) ys ∧ xs.all vh = true ∧ AV.qy 1 ys ∧ v.zl = true ∧ Am.Fn Try.prog f ys [.ro l] fun v' H' => v' = v ∧ H' = [.ro l]) : Am.Callee Try.prog f g := by
  intro hp xs v hp' he
  obtain ⟨l, b, ys, rfl, ⟨L, hL, h1, h2⟩, h3, h4, h5, h6, h7, h8⟩ := h hp xs v hp' he
  refine ⟨[.ro l], ys, _, one b, [(b, 0)], h8, h4, h5, ⟨fun j hj => ?_, rfl, fun j o c hj hb => ?_, fun j k bj bk oj ok hj hk hoj hok hw => ?_⟩, ?_, h6, ?_⟩
  · match j, hj with
    | 0, _ => rfl
  · match j, hj, hb with
    | 0, hj, hb =>
      cases hj; cases hb
      exact ⟨L, hL, by omega, by rw [List.drop_zero, qc _ _ h3]; exact h2⟩
    | j + 1, hj, hb => simp at hj
  · match j, hoj with
    | 0, hoj => cases hoj; cases hw
    | j + 1, hoj => simp at hoj
  · intro j o hj
    match j, hj with
    | 0, hj => cases hj; exact qh _ _ h3
    | j + 1, hj => simp at hj
  · rintro v' H' ⟨rfl, rfl⟩
    exact ⟨Qr _ _ h7, by simp [after, upd, AO.wr]⟩
def B16 : za := B15
theorem q3k : qn Try.prog B16 := q3m
def B17 : za := B16
theorem q30 : qn Try.prog B17 := q3k
theorem qfq (n : Int) (m : List Nat) (hm : okD m) : Am.Fn Try.prog 141 [.agg (dia n m)] [] (fun v H' => v = .bool (isS n.toNat m) ∧ H' = []) := by
  rw [Zr _ _ hm.1]; exact qg6 n m hm
theorem qg0 : Am.Callee Try.prog 141 (qm wu) :=
  Am.Callee.plain fun xs v he => by
    unfold wu at he
    split at he
    · split at he
      · rename_i n m hd
        cases he
        obtain ⟨rfl, hm⟩ := zp hd
        exact ⟨by simp only [AV.zb, AV.zl, qe, Bool.and_self], rfl, qfq n m hm⟩
      · cases he
    · cases he
def B18 : za := (B17.put 141 (qm wu))
theorem q3n : qn Try.prog B18 := (q30.put (qg0))
def B19 : za := B18
theorem q2e : qn Try.prog B19 := q3n
def B20 : za := B19
theorem q2g : qn Try.prog B20 := q2e
def B21 : za := B20
theorem q23 : qn Try.prog B21 := q2g
def B22 : za := B21
theorem q2c : qn Try.prog B22 := q23
theorem vm : [AV.int .i64 0, .int .u8 0, .int .u8 0, .int .u8 0, .int .u8 0, .int .u8 0, .int .u8 0, .int .u8 0, .int .u8 0, .int .u8 0, .int .u8 0, .int .u8 0, .int .u8 0, .int .u8 0, .int .u8 0, .int .u8 0, .int .u8 0, .int .i64 0] = trm (0, List.replicate 16 0, 0) := rfl
theorem Ga (t : Int × List Nat × Int) : (trm t).length = t.2.1.length + 2 := by simp [trm, qb]
theorem qit {t : Int × List Nat × Int} {n : Int} {m : List Nat} (h : t.2.1.length = 16) (h' : m.length = 16) : over (trm t) 0 (dia n m) = trm (n, m, t.2.2) := by
  simp only [over, trm, List.take_zero, List.nil_append, Nat.zero_add, qb, h']
  rw [List.drop_append, List.drop_of_length_le (by rw [qb, h]; exact Nat.le_refl _), qb, h]; rfl
theorem qfg {t : Int × List Nat × Int} {f : Int} (h : t.2.1.length = 16) : over (trm t) 17 [.int .i64 f] = trm (t.1, t.2.1, f) := by
  simp only [over, trm]
  rw [List.take_append_of_le_length (by rw [qb, h]; exact Nat.le_refl _), List.take_of_length_le (by rw [qb, h]; exact Nat.le_refl _), List.drop_of_length_le (by simp [qb, h]), List.append_nil]
theorem Jy {t u : Int × List Nat × Int} (h : t.2.1.length = 16) (h' : u.2.1.length = 16) : over (trm t) 0 (trm u) = trm u := qbi (by rw [Ga, Ga, h, h'])
theorem Kt {t : Int × List Nat × Int} (h : t.2.1.length = 16) : List.take 18 (trm t) = trm t := by rw [List.take_of_length_le]; rw [Ga, h]; exact Nat.le_refl _
theorem wt (t : Int × List Nat × Int) : (trm t).all AV.one = true := by simp [trm, ze, AV.one]
theorem qcx : ((0 : Nat) : Int) = 0 := rfl
theorem q1v : ((1 : Nat) : Int) = 1 := rfl
def B23 : za := B22
theorem q2v : qn Try.prog B23 := q2c
theorem qj6 {a b c d x : AV} : over [a, b, c, d] 0 [x] = [x, b, c, d] := rfl
theorem qj2 {a b c d x : AV} : over [a, b, c, d] 1 [x] = [a, x, c, d] := rfl
theorem qkb {a b c d x : AV} : over [a, b, c, d] 2 [x] = [a, b, x, d] := rfl
theorem qjf {a b c d x : AV} : over [a, b, c, d] 3 [x] = [a, b, c, x] := rfl
theorem qji {a b c d x y z w : AV} : over [a, b, c, d] 0 [x, y, z, w] = [x, y, z, w] := rfl
theorem qg : type_of% (And.intro @qj6 (And.intro @qj2 (And.intro @qkb (And.intro @qjf @qji)))) := (And.intro @qj6 (And.intro @qj2 (And.intro @qkb (And.intro @qjf @qji))))
def B24 : za := B23
theorem q31 : qn Try.prog B24 := q2v
def qum : Go.Shelf.Ren := ⟨fun | 106 => 156 | 213 => 183 | 265 => 200 | n => n, fun | 9 => 9 | 3 => 3 | n => n, fun | n => n⟩
theorem q5z : Go.Proofs.Lays.n106 Try.prog qum where
  mixed := by kernel_rfl
  f106 := Try.func156.trans (congrArg some (by kernel_rfl))
  f213 := Try.func183.trans (congrArg some (by kernel_rfl))
  f265 := Try.func200.trans (congrArg some (by kernel_rfl))
  t3 := Try.underlying3
  a3 := Try.isAgg3
  z3 := Try.sizeOf3
  v3 := Try.zeroValue3
  t9 := Try.underlying9
  a9 := Try.isAgg9
  z9 := Try.sizeOf9
  v9 := Try.zeroValue9
def qxy : Go.Shelf.Ren := ⟨fun | 6 => 154 | 15 => 182 | 14 => 181 | 28 => 198 | 29 => 199 | 20 => 190 | 21 => 191 | 22 => 192 | 23 => 193 | 24 => 194 | 25 => 195 | 26 => 196 | 27 => 197 | 46 => 201 | 47 => 202 | 48 => 203 | 49 => 204 | 50 => 205 | 57 => 206 | n => n, fun | 22 => 28 | 24 => 73 | 25 => 150 | 3 => 3 | 39 => 177 | 0 => 0 | 53 => 195 | 55 => 110 | 4 => 4 | 46 => 188 | 45 => 187 | 50 => 192 | 5 => 5 | 9 => 9 | 66 => 197 | 70 => 201 | 76 => 203 | 77 => 204 | n => n, fun | n => n⟩
theorem q6a : Go.Proofs.SlLaysF0.n6 Try.prog qxy where
  mixed := by kernel_rfl
  f6 := ⟨Try.f154.name, by kernel_rfl, Try.func154.trans (congrArg some (by kernel_rfl))⟩
  f14 := ⟨Try.f181.name, by kernel_rfl, Try.func181.trans (congrArg some (by kernel_rfl))⟩
  f15 := Try.func182.trans (congrArg some (by kernel_rfl))
  f20 := ⟨Try.f190.name, by kernel_rfl, Try.func190.trans (congrArg some (by kernel_rfl))⟩
  f21 := ⟨Try.f191.name, by kernel_rfl, Try.func191.trans (congrArg some (by kernel_rfl))⟩
  f22 := ⟨Try.f192.name, by kernel_rfl, Try.func192.trans (congrArg some (by kernel_rfl))⟩
  f23 := ⟨Try.f193.name, by kernel_rfl, Try.func193.trans (congrArg some (by kernel_rfl))⟩
  f24 := ⟨Try.f194.name, by kernel_rfl, Try.func194.trans (congrArg some (by kernel_rfl))⟩
  f25 := ⟨Try.f195.name, by kernel_rfl, Try.func195.trans (congrArg some (by kernel_rfl))⟩
  f26 := ⟨Try.f196.name, by kernel_rfl, Try.func196.trans (congrArg some (by kernel_rfl))⟩
  f27 := ⟨Try.f197.name, by kernel_rfl, Try.func197.trans (congrArg some (by kernel_rfl))⟩
  f28 := Try.func198.trans (congrArg some (by kernel_rfl))
  f29 := Try.func199.trans (congrArg some (by kernel_rfl))
  f46 := ⟨Try.f201.name, by kernel_rfl, Try.func201.trans (congrArg some (by kernel_rfl))⟩
  f47 := Try.func202.trans (congrArg some (by kernel_rfl))
  f48 := Try.func203.trans (congrArg some (by kernel_rfl))
  f49 := ⟨Try.f204.name, by kernel_rfl, Try.func204.trans (congrArg some (by kernel_rfl))⟩
  f50 := ⟨Try.f205.name, by kernel_rfl, Try.func205.trans (congrArg some (by kernel_rfl))⟩
  f57 := ⟨Try.f206.name, by kernel_rfl, Try.func206.trans (congrArg some (by kernel_rfl))⟩
  t0 := Try.underlying0
  a0 := Try.isAgg0
  z0 := Try.sizeOf0
  v0 := Try.zeroValue0
  t3 := Try.underlying3
  a3 := Try.isAgg3
  z3 := Try.sizeOf3
  v3 := Try.zeroValue3
  t4 := Try.underlying4
  a4 := Try.isAgg4
  z4 := Try.sizeOf4
  v4 := Try.zeroValue4
  t5 := Try.underlying5
  a5 := Try.isAgg5
  z5 := Try.sizeOf5
  v5 := Try.zeroValue5
  t9 := Try.underlying9
  a9 := Try.isAgg9
  z9 := Try.sizeOf9
  v9 := Try.zeroValue9
  t22 := Try.underlying28
  a22 := Try.isAgg28
  z22 := Try.sizeOf28
  v22 := Try.zeroValue28
  t25 := Try.underlying150
  a25 := Try.isAgg150
  z25 := Try.sizeOf150
  v25 := Try.zeroValue150
  t39 := Try.underlying177
  a39 := Try.isAgg177
  z39 := Try.sizeOf177
  v39 := Try.zeroValue177
  t45 := Try.underlying187
  a45 := Try.isAgg187
  z45 := Try.sizeOf187
  v45 := Try.zeroValue187
  t46 := Try.underlying188
  a46 := Try.isAgg188
  z46 := Try.sizeOf188
  v46 := Try.zeroValue188
  t50 := Try.underlying192
  a50 := Try.isAgg192
  z50 := Try.sizeOf192
  v50 := Try.zeroValue192
  t53 := Try.underlying195
  a53 := Try.isAgg195
  z53 := Try.sizeOf195
  v53 := Try.zeroValue195
  t55 := Try.underlying110
  a55 := Try.isAgg110
  z55 := Try.sizeOf110
  v55 := Try.zeroValue110
  t66 := Try.underlying197
  a66 := Try.isAgg197
  z66 := Try.sizeOf197
  v66 := Try.zeroValue197
  t70 := Try.underlying201
  a70 := Try.isAgg201
  z70 := Try.sizeOf201
  v70 := Try.zeroValue201
  t76 := Try.underlying203
  a76 := Try.isAgg203
  z76 := Try.sizeOf203
  v76 := Try.zeroValue203
  t77 := Try.underlying204
  a77 := Try.isAgg204
  z77 := Try.sizeOf204
  v77 := Try.zeroValue204
def Wo : List AV → Option AV
  | [.str a, .str b] => some (.int .i64 (Go.Lib.compareBytes a b))
  | _ => none
theorem qs0 (a b : List UInt8) : Am.Fn Try.prog 156 [.str a, .str b] [] (fun v H' => v = .int .i64 (Go.Lib.compareBytes a b) ∧ H' = []) :=
  qmx ⟨Try.f156, Try.func156, by kernel_rfl, by kernel_rfl⟩ rfl rfl fun w => Go.Proofs.Any.strings_Compare q5z ⟨a.toArray⟩ ⟨b.toArray⟩ w
theorem qtn : Am.Callee Try.prog 156 (qm Wo) := Am.Callee.plain fun xs v he => by
  unfold Wo at he
  split at he
  · cases he; exact ⟨rfl, rfl, qs0 _ _⟩
  · cases he
def B26 : za := (B24.put 156 (qm Wo))
theorem qwg : qn Try.prog B26 := (q31.put (qtn))
theorem Ue : B26 142 = some (Z4 17 vj) := rfl
theorem qat : B26 156 = some (qm Wo) := rfl
def J9 : AC := .seq (.region [o0 2 (.box (.t 0)),o0 3 (.box (.t 1)),oI 4 0]) (.seq (.region [oF 5 0 2,oC 6 142 [.t 5],oF 7 0 3,oC 8 142 [.t 7],oC 9 156 [.t 6,.t 8],oM 4 9]) .ret)
theorem K0 : zr Try.prog 155 = some ⟨10, J9, [.slot 4]⟩ := by kernel_rfl
def txt (t : Int × List Nat × Int) : List UInt8 := xm t.1.toNat t.2.1
def qxo (t u : Int × List Nat × Int) : Int := Go.Lib.compareBytes (txt t) (txt u)
theorem q01 (t u : Int × List Nat × Int) (ht : okD t.2.1) (hu : okD u.2.1) (h1 : 0 ≤ t.1 ∧ t.1 ≤ 8) (h2 : 0 ≤ u.1 ∧ u.1 ≤ 8) :
    Am.Fn Try.prog 155 [.agg (trm t), .agg (trm u)] [] (fun v H' => v = .int .i64 (qxo t u) ∧ H' = []) := by
  refine Am.Fn.jd (R := fun v => v = _) qwg mixed K0 (by simp) (by simp) ?_
  simp (maxSteps := 3000000) only [J9, Ue, qat, Wo, vj, Vv ht, Vv hu, zt ht, zt hu, qq ht, qq hu, h1, h2, rd, List.getElem?_cons_zero, List.getElem?_cons_succ, qa, zZ, ↓qo, ↓reduceIte, reduceCtorEq, nA, nM, nS, nE, nL, nD]; try simp only [qa, zY]
  rfl
theorem qqu : ∀ (a b : List UInt8), (Go.Lib.compareBytes a b < 0) ↔ Op.bytesLess a b = true
  | [], [] => by simp [Go.Lib.compareBytes, Op.bytesLess]
  | [], b :: y => by simp [Go.Lib.compareBytes, Op.bytesLess]
  | a :: x, [] => by simp [Go.Lib.compareBytes, Op.bytesLess]
  | a :: x, b :: y => by
    simp only [Go.Lib.compareBytes, Op.bytesLess, Bool.or_eq_true, Bool.and_eq_true, decide_eq_true_eq, beq_iff_eq]
    by_cases h : a < b
    · simp [h]
    · by_cases h2 : b < a
      · have : a ≠ b := fun e => by subst e; exact UInt8.lt_irrefl _ h2
        simp [h, h2, this]
      · have : a = b := UInt8.le_antisymm (UInt8.not_lt.1 h2) (UInt8.not_lt.1 h)
        subst this
        simp only [h, if_false, false_or, true_and]
        exact qqu x y
theorem u7 : ∀ (a : List UInt8), Op.bytesLess a a = false
  | [] => rfl
  | a :: x => by simp [Op.bytesLess, u7 x]
theorem kb : ∀ (a b c : List UInt8), Op.bytesLess a b = true → Op.bytesLess b c = true → Op.bytesLess a c = true
  | _, _, [], _, h => by cases ‹List UInt8› <;> simp [Op.bytesLess] at h
  | [], _, c :: z, h, _ => by simp [Op.bytesLess]
  | a :: x, [], c :: z, h, _ => by simp [Op.bytesLess] at h
  | a :: x, b :: y, c :: z, h, h' => by
    simp only [Op.bytesLess, Bool.or_eq_true, Bool.and_eq_true, decide_eq_true_eq, beq_iff_eq] at h h' ⊢
    rcases h with h | ⟨rfl, h⟩
    · rcases h' with h' | ⟨rfl, h'⟩
      · exact .inl (UInt8.lt_trans h h')
      · exact .inl h
    · rcases h' with h' | ⟨rfl, h'⟩
      · exact .inl h'
      · exact .inr ⟨rfl, kb x y z h h'⟩
theorem Z7 : ∀ (a b : List UInt8), Op.bytesLess a b = false → Op.bytesLess b a = false → a = b
  | [], [], _, _ => rfl
  | [], b :: y, h, _ => by simp [Op.bytesLess] at h
  | a :: x, [], _, h => by simp [Op.bytesLess] at h
  | a :: x, b :: y, h, h' => by
    simp only [Op.bytesLess, Bool.or_eq_false_iff, Bool.and_eq_false_iff, decide_eq_false_iff_not, beq_eq_false_iff_ne] at h h'
    have e : a = b := UInt8.le_antisymm (UInt8.not_lt.1 h'.1) (UInt8.not_lt.1 h.1)
    subst e
    rw [Z7 x y (by simpa using h.2) (by simpa using h'.2)]
theorem Bu (a b : List UInt8) (h : Op.bytesLess a b = true) : Op.bytesLess b a = false := by
  cases hb : Op.bytesLess b a with
  | false => rfl
  | true => have := kb a b a h hb; rw [u7] at this; cases this
def ltT (t u : Int × List Nat × Int) : Bool := Op.bytesLess (txt t) (txt u)
abbrev Ko := {t : Int × List Nat × Int // okD t.2.1 ∧ 0 ≤ t.1 ∧ t.1 ≤ 8}
instance : Inhabited Ko := ⟨⟨(0, List.replicate 16 0, 0), ⟨by simp, by intro x hx; simp at hx; omega⟩, by decide, by decide⟩⟩
theorem qjn (x y : Ko) : Go.Proofs.ltOf (fun x y : Ko => qxo x.1 y.1) x y = ltT x.1 y.1 := by
  unfold Go.Proofs.ltOf qxo ltT
  have := qqu (txt x.1) (txt y.1)
  cases h : Op.bytesLess (txt x.1) (txt y.1) with
  | true => exact decide_eq_true (this.2 h)
  | false => exact decide_eq_false (fun h2 => by rw [this.1 h2] at h; cases h)
theorem swo : Go.Sort.SWO (Go.Proofs.ltOf (fun x y : Ko => qxo x.1 y.1)) where
  irrefl x := by rw [qjn]; exact u7 _
  trans x y z h h' := by rw [qjn] at *; exact kb _ _ _ h h'
  ntrans x y z h h' := by
    rw [qjn] at *
    cases hc : ltT x.1 z.1 with
    | false => rfl
    | true =>
      exfalso
      by_cases e : txt x.1 = txt y.1
      · unfold ltT at *; rw [e] at hc; rw [hc] at h'; cases h'
      · have h1 : ltT y.1 x.1 = true := by
          cases hb : ltT y.1 x.1 with
          | true => rfl
          | false => exact absurd (Z7 _ _ h hb) e
        have := kb _ _ _ h1 hc
        unfold ltT at h'; rw [this] at h'; cases h'
def qn5 (t : Int × List Nat × Int) : List (Int × List Nat × Int) → List (Int × List Nat × Int)
  | [] => [t]
  | u :: l => if ltT t u then t :: u :: l else u :: qn5 t l
def X5 : List (Int × List Nat × Int) → List (Int × List Nat × Int)
  | [] => []
  | t :: l => qn5 t (X5 l)
theorem qcm (t : Int × List Nat × Int) : ∀ l, (qn5 t l).Perm (t :: l)
  | [] => .refl _
  | u :: l => by
    unfold qn5; split
    · exact .refl _
    · exact ((qcm t l).cons u).trans (.swap t u l)
theorem Qe : ∀ l, (X5 l).Perm l
  | [] => .refl _
  | t :: l => (qcm t _).trans ((Qe l).cons t)
def Um (l : List (Int × List Nat × Int)) : Prop := (l.map txt).Nodup
def upT (l : List (Int × List Nat × Int)) : Prop := l.Pairwise fun a b => ltT a b = true
theorem qrs {t : Int × List Nat × Int} : ∀ {l}, upT l → (∀ u ∈ l, txt t ≠ txt u) → upT (qn5 t l)
  | [], _, _ => by simp [qn5, upT]
  | u :: l, h, hn => by
    unfold qn5
    have h' := List.pairwise_cons.1 h
    split
    · rename_i hlt
      exact List.pairwise_cons.2 ⟨fun a ha => by
        rcases List.mem_cons.1 ha with rfl | ha
        · exact hlt
        · exact kb _ _ _ hlt (h'.1 a ha), h⟩
    · rename_i hlt
      refine List.pairwise_cons.2 ⟨fun a ha => ?_, qrs h'.2 fun v hv => hn v (List.mem_cons_of_mem _ hv)⟩
      have hm := (qcm t l).mem_iff.1 ha
      rcases List.mem_cons.1 hm with rfl | hm
      · cases hb : ltT u a with
        | true => rfl
        | false => exact absurd (Z7 _ _ (Bool.eq_false_iff.2 hlt) hb) (hn u (List.mem_cons_self ..))
      · exact h'.1 a hm
theorem qaj : ∀ {l}, Um l → upT (X5 l)
  | [], _ => .nil
  | t :: l, h => by
    have h' := List.nodup_cons.1 h
    refine qrs (qaj h'.2) fun u hu e => h'.1 ?_
    rw [e]
    exact List.mem_map.2 ⟨u, (Qe l).mem_iff.1 hu, rfl⟩
theorem Gf : ∀ {a b : List (Int × List Nat × Int)}, upT a → upT b → a.Perm b → a = b
  | [], b, _, _, hp => by rw [List.nil_perm.1 hp]
  | x :: a, [], _, _, hp => by have := hp.length_eq; simp at this
  | x :: a, y :: b, ha, hb, hp => by
    have ha' := List.pairwise_cons.1 ha
    have hb' := List.pairwise_cons.1 hb
    have e : x = y := by
      have h1 : x ∈ y :: b := hp.mem_iff.1 (List.mem_cons_self ..)
      have h2 : y ∈ x :: a := hp.mem_iff.2 (List.mem_cons_self ..)
      rcases List.mem_cons.1 h1 with h | h
      · exact h
      · rcases List.mem_cons.1 h2 with h' | h'
        · exact h'.symm
        · have c1 := hb'.1 x h
          have c2 := ha'.1 y h'
          have := Bu _ _ c1
          unfold ltT at c2; rw [this] at c2; cases c2
    subst e
    rw [Gf ha'.2 hb'.2 ((List.perm_cons x).1 hp)]
theorem qle {a l : List (Int × List Nat × Int)} (hp : a.Perm l) (hs : a.Pairwise fun x y => ltT y x = false) (hl : Um l) : a = X5 l := by
  have hn : (a.map txt).Nodup := (hp.map txt).nodup_iff.2 hl
  refine Gf ?_ (qaj hl) (hp.trans (Qe l).symm)
  unfold upT
  rw [List.pairwise_iff_getElem] at hs ⊢
  intro i j hi hj hij
  cases hb : ltT a[i] a[j] with
  | true => rfl
  | false =>
    have e := Z7 _ _ hb (hs i j hi hj hij)
    have := (List.pairwise_iff_getElem.1 hn) i j (by simpa using hi) (by simpa using hj) hij
    simp only [List.getElem_map] at this
    exact absurd e this
theorem q3w (ts : List (Int × List Nat × Int)) (hl : ts.length ≤ 1000000000) (hok : ∀ t ∈ ts, okD t.2.1 ∧ 0 ≤ t.1 ∧ t.1 ≤ 8) (hap : Um ts) :
    Am.Fn Try.prog 154 [.slc 0 0 ts.length false 0, .fn 155 [] []] [.vec 18 (zk ts)] (fun v H' => v = .tup [] ∧ H' = [.vec 18 (zk (X5 ts))]) := by
  obtain ⟨d, rfl⟩ : ∃ d : List Ko, ts = d.map Subtype.val := ⟨ts.attach.map fun x => ⟨x.1, hok x.1 x.2⟩, by rw [List.map_map]; exact (List.attach_map_subtype_val ts).symm⟩
  have e : ∀ d : List Ko, zk (d.map Subtype.val) = d.flatMap fun x => trm x.1 := fun d => by simp [zk, List.flatMap_map]
  have := qz1 q6a 18 (by decide) Try.isAgg73 Try.sizeOf73 (fun x : Ko => trm x.1) (fun x => zt x.2.1) (fun x a ha => ?_) (fun x => yc _) (fun x y => qxo x.1 y.1) swo
    ⟨Try.f154, Try.func154, by kernel_rfl, by kernel_rfl⟩ 155 ⟨Try.f155, Try.func155, by kernel_rfl, by kernel_rfl⟩
    (fun x y => q01 x.1 y.1 x.2.1 y.2.1 x.2.2 y.2.2) d (by simp at hl; omega)
  · rw [List.length_map, e]
    refine this.mono ?_
    rintro v H' ⟨rfl, d', hp, hs, rfl⟩
    refine ⟨rfl, ?_⟩
    rw [← e d', qle (hp.map _) ?_ hap]
    exact List.pairwise_map.2 (hs.imp fun {a b} h => by rw [qjn] at h; exact h)
  · simp only [trm, dia, List.cons_append, List.mem_cons, List.mem_append, List.not_mem_nil, or_false] at ha
    rcases ha with rfl | ha | rfl
    · rfl
    · unfold u8s at ha
      obtain ⟨y, _, rfl⟩ := List.mem_map.1 ha
      rfl
    · rfl
def Uj : BE := fun hp xs => match xs with
  | [.slc b 0 n false 0, .fn 155 [] []] => match hp[b]? with
    | some (.vec 18 l) => match Ug n l with
      | some ts => chk (l.length = n * 18 ∧ n ≤ 1000000 ∧ (∀ t ∈ ts, 0 ≤ t.1 ∧ t.1 ≤ 8) ∧ (ts.map txt).Nodup) (some (.tup [], hp.set b (.vec 18 (zk (X5 ts)))))
      | none => none
    | _ => none
  | _ => none
theorem q3q : Am.Callee Try.prog 154 Uj := Callee.wr1 fun hp xs v hp' he => by
  unfold Uj at he
  split at he
  · rename_i b n
    split at he
    · rename_i l hb
      split at he
      · rename_i ts hts
        obtain ⟨h0, he⟩ := ql he
        simp only [Option.some.injEq, Prod.mk.injEq] at he
        obtain ⟨rfl, rfl⟩ := he
        obtain ⟨e1, e2, e3, e4⟩ := ya hts
        have hl : l = zk ts := by rw [← e3, List.take_of_length_le (by omega)]
        subst hl
        refine ⟨18, zk ts, _, b, [.slc 0 0 ts.length false 0, .fn 155 [] []], hb, rfl, qd _, qd _, ?_, rfl, ⟨by simp [AV.under], ⟨trivial, trivial⟩, trivial⟩, rfl, ?_⟩
        · simp only [AV.zh, AV.ren, one, if_true, e1, Nat.zero_add]
        · exact q3w ts (by omega) (fun t ht => ⟨e2 t ht, h0.2.2.1 t ht⟩) h0.2.2.2
      · cases he
    · cases he
  · cases he
def B27 : za := (B26.put 154 (Uj))
theorem qo7 : qn Try.prog B27 := (qwg.put (q3q))
theorem Z3 : B27 76 = some (qm U9) := rfl
theorem jm : B27 154 = some (Uj) := rfl
def esT : Nat → List (Int × List Nat × Int) → List AE
  | _, [] => []
  | k, t :: l => ⟨.agg (dia t.1 t.2.1), .int .i64 t.2.2, k⟩ :: esT (k + 1) l
def Qp (ts : List (Int × List Nat × Int)) : AO := .map (esT 0 ts) ts.length
def xn (p : Int) (ts : List (Int × List Nat × Int)) : List (Int × List Nat × Int) := ts.filterMap fun t => if t.2.2.emod p = 0 then none else some (t.1, t.2.1, t.2.2.emod p)
def um (ts : List (Int × List Nat × Int)) (seen : List Nat) : List (Int × List Nat × Int) := seen.map fun i => ts.getD i (0, [], 0)
theorem B0 : ∀ {ts : List (Int × List Nat × Int)} {k : Nat} {e : AE}, e ∈ esT k ts → ∃ i, i < ts.length ∧ e = ⟨.agg (dia (ts.getD i (0, [], 0)).1 (ts.getD i (0, [], 0)).2.1), .int .i64 (ts.getD i (0, [], 0)).2.2, k + i⟩
  | [], k, e, h => by cases h
  | t :: l, k, e, h => by
    rcases List.mem_cons.1 h with rfl | h
    · exact ⟨0, by simp, by simp⟩
    · obtain ⟨i, h1, rfl⟩ := B0 h
      refine ⟨i + 1, by simpa using h1, ?_⟩
      simp only [List.getD_cons_succ, AE.mk.injEq, true_and]; omega
theorem qqs : ∀ {ts : List (Int × List Nat × Int)} {k i : Nat}, i < ts.length → (⟨.agg (dia (ts.getD i (0, [], 0)).1 (ts.getD i (0, [], 0)).2.1), .int .i64 (ts.getD i (0, [], 0)).2.2, k + i⟩ : AE) ∈ esT k ts
  | t :: l, k, 0, h => by simp [esT]
  | t :: l, k, i + 1, h => by
    have := qqs (ts := l) (k := k + 1) (i := i) (by simpa using h)
    simp only [esT, List.mem_cons]
    right
    rw [show k + (i + 1) = k + 1 + i by omega]
    simpa using this
theorem qkh : ∀ {ts : List (Int × List Nat × Int)} {k i : Nat}, i < ts.length → (esT k ts).find? (fun x => x.born == k + i) = some ⟨.agg (dia (ts.getD i (0, [], 0)).1 (ts.getD i (0, [], 0)).2.1), .int .i64 (ts.getD i (0, [], 0)).2.2, k + i⟩
  | t :: l, k, 0, h => by simp [esT]
  | t :: l, k, i + 1, h => by
    have := qkh (ts := l) (k := k + 1) (i := i) (by simpa using h)
    rw [show k + 1 + i = k + (i + 1) by omega] at this
    simp only [esT, List.find?_cons]
    rw [show (k == k + (i + 1)) = false by simp]
    simpa using this
theorem qb4 (n : Nat) (ts : List (Int × List Nat × Int)) (k : Nat) : ∀ e ∈ esT k ts, e.key.under n ∧ e.val.under n := fun e he => by
  obtain ⟨i, _, rfl⟩ := B0 he
  exact ⟨qh _ _ (qe _ _), trivial⟩
theorem Zg (ρ : Ren) (ts : List (Int × List Nat × Int)) : (Qp ts).ren ρ = Qp ts := by
  simp only [Qp, AO.ren]
  congr 1
  conv => rhs; rw [← List.map_id (esT 0 ts)]
  refine List.map_congr_left fun e he => ?_
  obtain ⟨i, _, rfl⟩ := B0 he
  simp only [AE.ren, AV.ren, qc _ _ (qe _ _), id]
theorem Vk (ids : List Nat) (ts : List (Int × List Nat × Int)) : (Qp ts).within ids = true := by
  simp only [Qp, AO.within, List.all_eq_true]
  intro e he
  obtain ⟨i, _, rfl⟩ := B0 he
  simp only [AV.within, qk _ _ (qe _ _), Bool.and_self]
theorem yn (ids : List Nat) (ts : List (Int × List Nat × Int)) (k : Nat) : (AO.map (esT 0 ts) k).within ids = true := Vk ids ts
theorem Vw (ρ : Ren) (ts : List (Int × List Nat × Int)) (k : Nat) : (AO.map (esT 0 ts) k).ren ρ = AO.map (esT 0 ts) k := by
  have := Zg ρ ts
  simp only [Qp, AO.ren, AO.map.injEq] at this ⊢
  exact ⟨this.1, trivial⟩
theorem qwd {r m : Nat} {ts : List (Int × List Nat × Int)} {seen : List Nat} {hp : List AO} {K : AV → List AO → Prop} (h1 : hp[r]? = some (.x6 (some m) ts.length seen ts.length)) (h2 : hp[m]? = some (Qp ts))
    (hend : (∀ i, i < ts.length → i ∈ seen) → K (.tup [.bool false]) hp)
    (hgo : ∀ i, i < ts.length → i ∉ seen → K (.tup [.bool true, .agg (dia (ts.getD i (0, [], 0)).1 (ts.getD i (0, [], 0)).2.1), .int .i64 (ts.getD i (0, [], 0)).2.2]) (hp.set r (.x6 (some m) ts.length (seen ++ [i]) ts.length))) :
    wbN (.ptr r 0) hp K := by
  simp only [wbN, qrn, h1, h2, Qp]
  refine ⟨_, qb9 ⟨trivial, trivial, fun e he => ?_⟩, fun h => ?_, fun e he hs => ?_⟩
  · obtain ⟨i, h3, rfl⟩ := B0 he; show 0 + i < _; omega
  · refine hend fun i hi => ?_
    have := h _ (qqs (k := 0) hi)
    simpa using this
  · obtain ⟨i, h3, rfl⟩ := B0 he
    simp only [Nat.zero_add] at hs ⊢
    exact hgo i h3 hs
theorem qym {B : za} {n0 nt : Nat} {dst : Option Nat} {it : Opd} {l : List AI} {b : AC} {Q : AX → St → Prop} {s : St}
    (h : wbN (ev s.env it) s.hp (fun v hp' => wbC Try.prog B n0 nt (.seq (.region l) b) Q ⟨xu dst v s.env, hp'⟩)) : wbC Try.prog B n0 nt (.seq (.region (⟨dst, none, .next it⟩ :: l)) b) Q s := h
theorem qv0 {ts : List (Int × List Nat × Int)} {seen : List Nat} (hn : seen.Nodup) (hlt : ∀ i ∈ seen, i < ts.length) (h : ∀ i, i < ts.length → i ∈ seen) : (um ts seen).Perm ts := by
  have hp : seen.Perm (List.range ts.length) := (List.perm_ext_iff_of_nodup hn List.nodup_range).2 fun i => ⟨fun hi => List.mem_range.2 (hlt i hi), fun hi => h i (List.mem_range.1 hi)⟩
  have e : (List.range ts.length).map (fun i => ts.getD i (0, [], 0)) = ts := by
    apply List.ext_getElem (by simp)
    intro i h1 h2
    simp at h1
    simp [h1]
  unfold um
  refine (hp.map _).trans ?_
  rw [e]
theorem qsw {p : Int} {a b : List (Int × List Nat × Int)} (h : a.Perm b) : (xn p a).Perm (xn p b) := h.filterMap _
theorem qez {p : Int} : ∀ {l : List (Int × List Nat × Int)}, Um l → Um (xn p l) := fun {l} h => by
  unfold Um xn at *
  refine List.Nodup.sublist ?_ h
  induction l with
  | nil => exact List.nil_sublist _
  | cons t l ih =>
    simp only [List.filterMap_cons]
    split
    · exact (ih (List.nodup_cons.1 h).2).trans (List.sublist_cons_self _ _)
    · rename_i u hu
      split at hu
      · cases hu
      · cases hu
        exact (ih (List.nodup_cons.1 h).2).cons_cons _
theorem qet {p : Int} {l : List (Int × List Nat × Int)} {t : Int × List Nat × Int} (h : t ∈ xn p l) : ∃ u ∈ l, t = (u.1, u.2.1, u.2.2.emod p) ∧ u.2.2.emod p ≠ 0 := by
  obtain ⟨u, hu, he⟩ := List.mem_filterMap.1 h
  split at he
  · cases he
  · rename_i hne; cases he; exact ⟨u, hu, rfl, hne⟩
theorem qra {p : Int} {l : List (Int × List Nat × Int)} (h : okT l) : okT (xn p l) := fun t ht => by
  obtain ⟨u, hu, rfl, _⟩ := qet ht; exact h u hu
theorem qnz {ts : List (Int × List Nat × Int)} {seen : List Nat} (h : okT ts) (hlt : ∀ i ∈ seen, i < ts.length) : okT (um ts seen) := fun t ht => by
  obtain ⟨i, hi, rfl⟩ := List.mem_map.1 ht
  have := hlt i hi
  simp only [List.getD_eq_getElem?_getD, List.getElem?_eq_getElem this, Option.getD_some]
  exact h _ (List.getElem_mem _)
theorem qih (l : List (Int × List Nat × Int)) (t : Int × List Nat × Int) : zk l ++ trm t = zk (l ++ [t]) := by simp [zk]
theorem zn : [AV.int .i64 0, .int .u8 0, .int .u8 0, .int .u8 0, .int .u8 0, .int .u8 0, .int .u8 0, .int .u8 0, .int .u8 0, .int .u8 0, .int .u8 0, .int .u8 0, .int .u8 0, .int .u8 0, .int .u8 0, .int .u8 0, .int .u8 0] = dia 0 (List.replicate 16 0) := rfl
theorem yx {n : Int} {m : List Nat} (h : m.length = 16) : over (dia 0 (List.replicate 16 0)) 0 (dia n m) = dia n m := qbi (by rw [qb, qb, h, List.length_replicate])
theorem qbq {n : Int} {m : List Nat} (h : m.length = 16) : over (trm (0, List.replicate 16 0, 0)) 0 (dia n m) = trm (n, m, 0) := qit (by simp) h
theorem z8 : (trm (0, List.replicate 16 0, 0)).length = 18 := rfl
theorem xy : (dia 0 (List.replicate 16 0)).length = 17 := rfl
def Xz : AC := .seq (.region [⟨some 23,none,.next (.t 22)⟩,oE 24 0 23]) (.seq (.cond 24 .skip (.exit 0)) (.block 1 (.seq (.region [o0 25 (.entry (.t 22)),oE 26 0 25,oE 27 1 25,oD 6,oS 17 6 26,oM 7 27]) (.seq (.region [oM 28 7,oM 29 0,o0 30 (.ju (.t 29)),oF 31 0 30,oL 32 31,oC 33 76 [.t 28,.t 32],oM 7 33]) (.seq (.region [oM 34 7,oK 35 .neq 34 0]) (.cond 35 (.seq (.region [oF 36 0 6,oL 37 36,oF 38 2 5,oT 38 37]) (.region [oF 39 3 5,oL 40 39,oN 41 17 6,oM 42 7,o0 43 (.build [.int .i64 0,.int .u8 0,.int .u8 0,.int .u8 0,.int .u8 0,.int .u8 0,.int .u8 0,.int .u8 0,.int .u8 0,.int .u8 0,.int .u8 0,.int .u8 0,.int .u8 0,.int .u8 0,.int .u8 0,.int .u8 0,.int .u8 0,.int .i64 0] [(0,17,.t 41),(17,1,.t 42)]),o0 44 (.ga 1 [.int .i64 0,.int .u8 0,.int .u8 0,.int .u8 0,.int .u8 0,.int .u8 0,.int .u8 0,.int .u8 0,.int .u8 0,.int .u8 0,.int .u8 0,.int .u8 0,.int .u8 0,.int .u8 0,.int .u8 0,.int .u8 0,.int .u8 0,.int .i64 0] [(0,18,.t 43)]),o0 45 (.append 18 32 (.t 40) (.t 44)),oF 46 3 5,oT 46 45])) .skip))))))
def X0 : AC := .seq (.region [oF 47 3 5,oL 48 47,⟨some 49,none,.call (.c (.fn 154 [] [])) [.t 48,(.c (.fn 155 [] []))]⟩]) (.seq (.region [oN 50 4 5,oS 4 4 50]) .ret)
def We : AC := .seq (.region [oZ 4]) (.seq (.draw false [oM 8 0,o0 9 (.ju (.t 8)),oF 10 0 9,oL 11 10,oM 12 0,o0 13 (.ju (.t 12)),oF 14 1 13,oL 15 14,oM 16 0,o0 17 (.ju (.t 16)),oF 18 2 17,oL 19 18,o0 20 (.build [.int .i64 0,.int .i64 0,.int .i64 0,(.v (.slice none 0 0))] [(0,1,.t 11),(1,1,.t 15),(2,1,.t 19)]),oZ 5,oS 4 5 20]) (.seq (.seq (.region [oM 21 1,o0 22 (.Bf (.t 21))]) (.block 0 (.loop Xz))) X0))
theorem qcn : zr Try.prog 105 = some ⟨51, We, [.Qj 4 4]⟩ := by kernel_rfl
def qhz (p c n sz : Int) (ts : List (Int × List Nat × Int)) (seen : List Nat) : St :=
  ⟨[(22, .ptr 4 0), (5, .ptr 3 0), (4, .ptr 2 0), (0, .ptr 0 0)], [.ro [.int .i64 p, .int .i64 c, .int .i64 n], Qp ts, .cells [.int .i64 0, .int .i64 0, .int .i64 0, .v (.slice none 0 0)],
    .cells [.int .i64 p, .int .i64 c, .int .i64 (if xn p (um ts seen) = [] then n else sz), .slc 5 0 (xn p (um ts seen)).length false 0], .x6 (some 1) ts.length seen ts.length, .vec 18 (zk (xn p (um ts seen)))]⟩
def q4s (p c n sz : Int) (ts : List (Int × List Nat × Int)) (s : St) : Prop := ∃ seen : List Nat, seen.Nodup ∧ (∀ i ∈ seen, i < ts.length) ∧ s = qhz p c n sz ts seen
def qwt (ts : List (Int × List Nat × Int)) (s : St) : Nat := match s.hp[4]? with | some (AO.x6 _ _ seen _) => ts.length - seen.length | _ => 0
theorem q3c (p c n sz : Int) (ts : List (Int × List Nat × Int)) (hp : 0 < p ∧ p ≤ 1000000) (hs : 0 ≤ sz ∧ sz ≤ 8) (ht : okT ts) (hz : ∀ t ∈ ts, t.1 = sz) (ha : Um ts) (hl : ts.length ≤ 1000000) :
    Am.Fn Try.prog 105 [.ptr 0 0, .map 1] [.ro [.int .i64 p, .int .i64 c, .int .i64 n], Qp ts] (fun v H' => v = elemV p c (if xn p ts = [] then n else sz) 2 (xn p ts).length ∧
      H' = [.ro [.int .i64 p, .int .i64 c, .int .i64 n], Qp ts, .vec 18 (zk (X5 (xn p ts)))]) := by
  refine Am.Fn.ofB qo7 mixed qcn (by simp) ?_ ?_
  · intro j o hj
    match j, hj with
    | 0, hj => cases hj; exact ⟨trivial, trivial, trivial, trivial⟩
    | 1, hj => cases hj; exact qb4 _ _ _
    | j + 2, hj => simp at hj
  have hm : Qp ts = .map (esT 0 ts) ts.length := rfl
  simp (maxSteps := 3000000) only [We, hm, qj6, qj2, qkb, qjf, qji, Z3, jm, U9, Uj, vx, rd, wrt, wrl, AO.b8, List.getElem?_cons_zero, List.getElem?_cons_succ, List.set_cons_zero, List.set_cons_succ, qa, zZ, ↓qo, ↓reduceIte, reduceCtorEq, nA, nM, nS, nE, nL, nD]; try simp only [qa, zY]
  refine ⟨rfl, WA.jn qo7 (q4s p c n sz ts) (qwt ts) ⟨qhz p c n sz ts [], ?_, [], .nil, by simp, rfl⟩ ?_⟩
  · refine qz.trans (qz.qx [22, 5, 4, 0]) ?_
    refine Eq.subst (motive := fun s' => qz 2 _ s') ?_ (qz.q51 3 3 18 rfl rfl (by simp) ?_ ?_)
    · simp only [qx, zj]
      rfl
    · simp [qx, zj, AV.under]
    · simp only [List.mem_cons, List.not_mem_nil, or_false, forall_eq_or_imp, forall_eq]
      exact ⟨⟨trivial, trivial, trivial, trivial⟩, qb4 _ _ _, ⟨trivial, trivial, trivial, trivial, trivial⟩, ⟨trivial, trivial, trivial, trivial, trivial⟩, fun b h => by cases h; simp⟩
  rintro s ⟨seen, hnd, hlt, rfl⟩
  unfold Xz
  refine qym (qwd (r := 4) (m := 1) (ts := ts) (seen := seen) rfl rfl (fun hall => ?_) (fun i hi hsn => ?_))
  · have hpm := qv0 hnd hlt hall
    have hr := qsw (p := p) hpm
    have hrt := qra (p := p) (qnz ht hlt)
    have hap : (List.map txt (xn p (um ts seen))).Nodup := (hr.map txt).nodup_iff.2 (qez ha)
    have hsz : ∀ t ∈ xn p (um ts seen), 0 ≤ t.1 ∧ t.1 ≤ 8 := fun t h => by
      obtain ⟨u, hu, rfl, _⟩ := qet (hr.mem_iff.1 h)
      simp only [hz u hu]; exact hs
    have hlen : (xn p (um ts seen)).length = (xn p ts).length := hr.length_eq
    have hle : (xn p ts).length ≤ 1000000 := Nat.le_trans (List.length_filterMap_le _ _) hl
    have hle' : (xn p (um ts seen)).length ≤ 1000000 := by omega
    have hso : X5 (xn p (um ts seen)) = X5 (xn p ts) := qle ((Qe _).trans hr) ((qaj hap).imp fun {a b} h => Bu _ _ h) (qez ha)
    have hnil : (xn p (um ts seen) = []) = (xn p ts = []) := propext ⟨fun h => by rw [h] at hr; exact List.nil_perm.1 hr, fun h => by rw [h] at hr; exact List.perm_nil.1 hr⟩
    have htl := zg hrt
    have hto := gv hrt
    rw [hlen] at htl hto
    unfold qhz
    simp (maxSteps := 3000000) only [qg, zH, X0, Z3, jm, U9, Uj, htl, hto, hle, hap, hsz, hso, hnil, hlen, qa, zZ, ↓qo, ↓reduceIte, reduceCtorEq, nA, nM, nS, nE, nL, nD]; try simp only [qa, zY]
    refine ⟨hsz, rfl, ?_⟩
    refine Ret.ve [0, 1, 5] ⟨⟨by simp, rfl, by decide⟩, ?_⟩ (rs := [.agg [.int .i64 p, .int .i64 c, .int .i64 (if xn p ts = [] then n else sz), .slc 5 0 (xn p ts).length false 0]]) rfl rfl (by simp [xw]) ?_ ⟨?_, ?_⟩
    · simp only [Vk, ↓yn, qk _ _ (qd _), zK, ↓reduceIte, reduceCtorEq, nE, nB, nA]
    · intro j l; match j with
      | 0 => exact fun _ => ⟨_, rfl⟩
      | 1 => simp [zi, Zg]; simp [Qp]
      | 2 => simp [zi, AO.ren]
      | j + 3 => simp [zi]
    · simp only [elemV, xw]
      simp only [zL, ↓reduceIte, reduceCtorEq, nE, nA]
    · simp only [Zg, ↓Vw, qc _ _ (qd _), zL, ↓reduceIte, reduceCtorEq, nE, nA]
      rfl
  · unfold qhz
    have htm : ts.getD i (0, [], 0) ∈ ts := by rw [List.getD_eq_getElem?_getD, List.getElem?_eq_getElem hi]; exact List.getElem_mem _
    have hk : okD (ts.getD i (0, [], 0)).2.1 := ht _ htm
    have h1 : (ts.getD i (0, [], 0)).1 = sz := hz _ htm
    have hfind := qkh (ts := ts) (k := 0) hi
    have hlast : (seen ++ [i]).getLast? = some i := List.getLast?_concat ..
    have hpk : um ts (seen ++ [i]) = um ts seen ++ [ts.getD i (0, [], 0)] := by simp [um]
    have hnd' : (seen ++ [i]).Nodup := by
      rw [List.nodup_append]
      exact ⟨hnd, by simp, fun a ha b hb => by simp at hb; subst hb; rintro rfl; exact hsn ha⟩
    have hlt' : ∀ j ∈ seen ++ [i], j < ts.length := fun j hj => by
      rcases List.mem_append.1 hj with h | h
      · exact hlt j h
      · simp at h; omega
    have hsl : seen.length < ts.length := by
      have := Bl ts.length (seen ++ [i]) hnd' hlt'
      simp at this; omega
    rw [Nat.zero_add] at hfind
    generalize htt : ts.getD i (0, [], 0) = t at hk h1 hfind hpk ⊢
    obtain ⟨n1, m1, k1⟩ := t
    simp only at hk h1 hfind
    subst h1
    have hone : (dia n1 m1).all AV.one = true := ze _ _
    have hrt := qra (p := p) (qnz ht hlt)
    have htl := zg hrt
    have htk : List.take ((xn p (um ts seen)).length * 18) (zk (xn p (um ts seen))) = zk (xn p (um ts seen)) := List.take_of_length_le (by rw [htl]; exact Nat.le_refl _)
    have hbd : (xn p (um ts seen)).length ≤ 1000000 := by
      have := List.length_filterMap_le (fun t : Int × List Nat × Int => if t.2.2.emod p = 0 then none else some (t.1, t.2.1, t.2.2.emod p)) (um ts seen)
      have h2 : (um ts seen).length = seen.length := by simp [um]
      unfold xn; omega
    by_cases hkz : k1.emod p = 0
    · have hre : xn p (um ts (seen ++ [i])) = xn p (um ts seen) := by rw [hpk]; simp [xn, hkz]
      simp (maxSteps := 3000000) only [qg, zH, Z3, jm, U9, Uj, hkz, hp, hm, qb, hk.1, hlast, hfind, hone, zn, yx hk.1, qbq hk.1, qfg (t := (n1, m1, 0)) hk.1, vm, Ga, z8, xy, qt hk.1, wt, src, qcx, q1v, Int.toNat_zero, Option.map_some, Option.map_none, List.length_replicate, Jy (t := (0, List.replicate 16 0, 0)) (u := (n1, m1, k1.emod p)) (by simp) hk.1, Kt (t := (n1, m1, k1.emod p)) hk.1, htk, htl, qa, zZ, ↓qo, ↓reduceIte, reduceCtorEq, nA, nM, nS, nE, nL, nD]; try simp only [qa, zY]
      refine ⟨_, qz.ve [0, 1, 2, 3, 4, 5] [22, 5, 4, 0] ⟨by decide, ?_⟩ ?_, ⟨seen ++ [i], hnd', hlt', ?_⟩, ?_⟩
      · simp only [Vk, ↓yn, qk _ _ (qd _), zK, ↓reduceIte, reduceCtorEq, nE, nB, nA]
      · simp only [zK, ↓reduceIte, reduceCtorEq, nE, nB, nA]
      · unfold qhz
        simp only [Zg, ↓Vw, qc _ _ (qd _), hre, zL, ↓reduceIte, reduceCtorEq, nE, nA]
        rfl
      · simp only [qwt]
        simp only [Zg, ↓Vw, zL, ↓reduceIte, reduceCtorEq, nE, nA]
        simp; omega
    · have hre : xn p (um ts (seen ++ [i])) = xn p (um ts seen) ++ [(n1, m1, k1.emod p)] := by rw [hpk]; simp [xn, hkz]
      simp (maxSteps := 3000000) only [qg, zH, Z3, jm, U9, Uj, hkz, hp, hm, qb, hk.1, hlast, hfind, hone, zn, yx hk.1, qbq hk.1, qfg (t := (n1, m1, 0)) hk.1, vm, Ga, z8, xy, qt hk.1, wt, src, qcx, q1v, Int.toNat_zero, Option.map_some, Option.map_none, List.length_replicate, Jy (t := (0, List.replicate 16 0, 0)) (u := (n1, m1, k1.emod p)) (by simp) hk.1, Kt (t := (n1, m1, k1.emod p)) hk.1, htk, htl, qa, zZ, ↓qo, ↓reduceIte, reduceCtorEq, nA, nM, nS, nE, nL, nD]; try simp only [qa, zY]
      refine ⟨rfl, ⟨Nat.le_refl _, by omega⟩, rfl, _, qz.ve [0, 1, 2, 3, 4, 8] [22, 5, 4, 0] ⟨by decide, ?_⟩ ?_, ⟨seen ++ [i], hnd', hlt', ?_⟩, ?_⟩
      · simp only [Vk, ↓yn, qih, qk _ _ (qd _), zK, ↓reduceIte, reduceCtorEq, nE, nB, nA]
      · simp only [zK, ↓reduceIte, reduceCtorEq, nE, nB, nA]
      · unfold qhz
        have hne : (xn p (um ts seen) ++ [(n1, m1, k1.emod p)] = []) = False := by simp
        simp only [Zg, ↓Vw, qih, qc _ _ (qd _), hre, hne, List.length_append, List.length_nil, List.length_cons, zL, ↓reduceIte, reduceCtorEq, nE, nA]
        rfl
      · simp only [qwt]
        simp only [Zg, ↓Vw, zL, ↓reduceIte, reduceCtorEq, nE, nA]
        simp; omega
def tsE : Nat → List AE → Option (List (Int × List Nat × Int))
  | _, [] => some []
  | k, ⟨.agg l, .int .i64 v, b⟩ :: es => match ui l, tsE (k + 1) es with
    | some (n, m), some ts => if b = k then some ((n, m, v) :: ts) else none
    | _, _ => none
  | _, _ => none
theorem qrk : ∀ {ts : List (Int × List Nat × Int)} {k : Nat}, okT ts → tsE k (esT k ts) = some ts
  | [], _, _ => rfl
  | t :: l, k, h => by
    simp only [esT, tsE, qq (h t (List.mem_cons_self ..)), qrk (ts := l) (k := k + 1) fun u hu => h u (List.mem_cons_of_mem _ hu), if_true]
theorem qkn : ∀ {es : List AE} {k : Nat} {ts : List (Int × List Nat × Int)}, tsE k es = some ts → es = esT k ts ∧ okT ts
  | [], k, ts, h => by simp only [tsE, Option.some.injEq] at h; subst h; exact ⟨rfl, fun t ht => by cases ht⟩
  | ⟨key, val, b⟩ :: es, k, ts, h => by
    unfold tsE at h
    split at h
    · rename_i e; cases e
    · rename_i e; cases e
      split at h
      · rename_i n m ts' hd hts
        split at h
        · rename_i hb
          cases h; subst hb
          obtain ⟨rfl, hm⟩ := zp hd
          obtain ⟨e1, e2⟩ := qkn hts
          refine ⟨by rw [e1]; rfl, fun t ht => ?_⟩
          rcases List.mem_cons.1 ht with rfl | ht
          · exact hm
          · exact e2 t ht
        · cases h
      · cases h
    · cases h
theorem qlc {α : Type} : ∀ {l : List α} {i : Nat} {a : α}, l[i]? = some a → l.set i a = l
  | [], i, a, h => by simp at h
  | x :: l, 0, a, h => by simp only [List.getElem?_cons_zero, Option.some.injEq] at h; simp [h]
  | x :: l, i + 1, a, h => by simp only [List.getElem?_cons_succ] at h; simp [qlc h]
def qd5 (ts : List (Int × List Nat × Int)) : Int := match ts with | t :: _ => t.1 | [] => 0
def Xp : BE := fun hp xs => match xs with
  | [.ptr b 0, .map m] => match rd hp b, hp[m]? with
    | some (.int .i64 p :: .int .i64 c :: .int .i64 n :: _), some (.map es ck) => match tsE 0 es with
      | some ts => chk (ck = ts.length ∧ (0 < p ∧ p ≤ 1000000) ∧ ts.length ≤ 1000000 ∧ (0 ≤ qd5 ts ∧ qd5 ts ≤ 8) ∧ (∀ t ∈ ts, t.1 = qd5 ts) ∧ (ts.map txt).Nodup)
          (some (elemV p c (if xn p ts = [] then n else qd5 ts) hp.length (xn p ts).length, hp ++ [.vec 18 (zk (X5 (xn p ts)))]))
      | none => none
    | _, _ => none
  | _ => none
theorem q26 : Am.Callee Try.prog 105 Xp := Callee.fp fun hp xs v hp' he => by
  unfold Xp at he
  split at he
  · rename_i b m
    split at he
    · rename_i p c n L es ck hrd hm
      split at he
      · rename_i ts hts
        obtain ⟨⟨h1, h2, h3, h4, h5, h6⟩, he⟩ := ql he
        simp only [Option.some.injEq, Prod.mk.injEq] at he
        obtain ⟨rfl, rfl⟩ := he
        obtain ⟨rfl, hok⟩ := qkn hts
        subst h1
        have hne : m ≠ b := by
          rintro rfl
          simp [rd, hm] at hrd
        refine ⟨[(b, 0), (m, 0)], [.ptr 0 0, .map 1], _, _, _, q3c p c n (qd5 ts) ts h2 h4 hok h5 h6 h3, ?_, rfl, ⟨⟨_, hrd, by simp, by simp [AV.zh, AV.ren]⟩, ⟨rfl, ?_⟩, trivial⟩, ?_, ?_, ?_, ?_, ?_⟩
        · simp [ofL, AV.zh, AV.ren]
        · rw [Zg]; exact hm
        · simp [J4, AO.wr, hne]
        · exact ⟨⟨trivial, trivial, trivial, trivial⟩, qb4 _ _ _, trivial⟩
        · exact ⟨by simp [AV.under], by simp [AV.under], trivial⟩
        · simp [elemV, AV.ren, AV.zh, Ren.ext]
        · simp only [after, upd, q4v, show (Qp ts).wr = true from rfl, Zg, q13, U5, if_true, Bool.false_eq_true, if_false, qlc (show hp[m]? = some (Qp ts) from hm), qc _ _ (qd _), List.length_cons, List.length_nil, List.drop_succ_cons, List.drop_zero, List.map_cons, List.map_nil]
      · cases he
    · cases he
  · cases he
def B28 : za := (B27.put 105 (Xp))
theorem qyv : qn Try.prog B28 := (qo7.put (q26))
theorem Uf : B28 105 = some (Xp) := rfl
abbrev KD : List LT := [LT.int, LT.int, LT.int, LT.int, LT.int, LT.int, LT.int, LT.int, LT.int, LT.int, LT.int, LT.int, LT.int, LT.int, LT.int, LT.int, LT.int]
theorem ql3 : ∀ (m m' : List Nat), m.length = m'.length → j6 (List.replicate m.length .int) (u8s m) (u8s m') = some (decide (m = m'))
  | [], [], _ => rfl
  | [], _ :: _, h => by simp at h
  | _ :: _, [], h => by simp at h
  | a :: m, b :: m', h => by
    have ih := ql3 m m' (by simpa using h)
    simp only [u8s] at ih
    simp only [List.length_cons, List.replicate_succ, u8s, List.map_cons, j6, leq, if_true, ih]
    by_cases e : a = b
    · subst e; simp
    · have : ¬ ((a : Int) = (b : Int)) := by omega
      simp [e, this]
theorem Wk {n n' : Int} {m m' : List Nat} (h : m.length = 16) (h' : m'.length = 16) : j6 KD (dia n m) (dia n' m') = some (decide (n = n' ∧ m = m')) := by
  have h1 := ql3 m m' (by rw [h, h'])
  rw [h] at h1
  have h2 : KD = .int :: List.replicate 16 .int := rfl
  rw [h2]
  simp only [dia, j6, leq, if_true, h1]
  by_cases e : n = n'
  · subst e; simp
  · simp [e]
theorem qqh {n : Int} {m : List Nat} (h : m.length = 16) : kok KD true (.agg (dia n m)) = true := by
  simp only [kok, keq, Wk h h]
def qfy : AC := .seq (.region [o0 6 (.box (.t 2)),oZ 8]) (.seq (.region [oM 10 0,oM 11 1,oF 12 0 6,oL 13 12,o0 14 (.build [.int .i64 0,.int .i64 0,.int .i64 0,(.v (.slice none 0 0))] [(0,1,.t 10),(1,1,.t 11),(2,1,.t 13)]),oZ 9,oS 4 9 14]) (.seq (.region [o0 15 (.qag),oN 16 17 6,oM 17 3,⟨none,none,.op (.Uy [.int,.int,.int,.int,.int,.int,.int,.int,.int,.int,.int,.int,.int,.int,.int,.int,.int] true (.t 15) (.t 16) (.t 17))⟩,oM 18 15,oC 19 105 [.t 9,.t 18],oS 4 8 19]) .ret))
theorem qoe : zr Try.prog 103 = some ⟨20, qfy, [.Qj 8 4]⟩ := by kernel_rfl
theorem qya (p c n : Int) (m : List Nat) (k : Int) (hp : 0 < p ∧ p ≤ 1000000) (hn : 0 ≤ n ∧ n ≤ 8) (hm : okD m) :
    Am.Fn Try.prog 103 [.int .i64 p, .int .i64 c, .agg (dia n m), .int .i64 k] [] (fun v H' => v = elemV p c n 0 (if k.emod p = 0 then ([] : List (Int × List Nat × Int)) else [(n, m, k.emod p)]).length ∧ H' = [.vec 18 (zk (if k.emod p = 0 then [] else [(n, m, k.emod p)]))]) := by
  refine Am.Fn.ofB qyv mixed qoe (by simp) (by simp) ?_
  have hr : xn p [(n, m, k)] = if k.emod p = 0 then [] else [(n, m, k.emod p)] := by
    unfold xn; by_cases h : k.emod p = 0 <;> simp [h]
  have hle : (if k.emod p = 0 then [] else [(n, m, k.emod p)]).length ≤ 1 := by split <;> simp
  generalize (if k.emod p = 0 then [] else [(n, m, k.emod p)]) = L at hr hle ⊢
  have hs : X5 L = L := by
    match L, hle with
    | [], _ => rfl
    | [t], _ => rfl
  have hsz : qd5 [(n, m, k)] = n := rfl
  have hall : ∀ t ∈ [(n, m, k)], t.1 = n := by simp
  have hnd : [txt (n, m, k)].Nodup := by simp
  simp (maxSteps := 3000000) only [qg, zH, qfy, Uf, Xp, qb, hm.1, qq hm, qqh hm.1, qt hm.1, vh, uf, tsE, hp, hn, hsz, hall, hnd, hr, hs, elemV, ite_self, qa, zZ, ↓qo, ↓reduceIte, reduceCtorEq, nA, nM, nS, nE, nL, nD]; try simp only [qa, zY]
  refine ⟨rfl, hall, rfl, ?_⟩
  refine Ret.ve [4] ⟨⟨by simp, rfl, by decide⟩, ?_⟩ (rs := [.agg [.int .i64 p, .int .i64 c, .int .i64 n, .slc 4 0 L.length false 0]]) rfl rfl (by simp [xw]) ?_ ⟨?_, ?_⟩
  · simp only [qk _ _ (qd _), zK, ↓reduceIte, reduceCtorEq, nE, nB, nA]
  · intro j l; match j with
    | 0 => simp [zi, AO.ren]
    | j + 1 => simp [zi]
  · simp only [xw]
    simp only [zL, ↓reduceIte, reduceCtorEq, nE, nA]
  · simp only [qc _ _ (qd _), zL, ↓reduceIte, reduceCtorEq, nE, nA]
def y5 : List AV → Option (AV × List AO)
  | [.int .i64 p, .int .i64 c, .agg l, .int .i64 k] => match ui l with
    | some (n, m) => chk ((0 < p ∧ p ≤ 1000000) ∧ (0 ≤ n ∧ n ≤ 8)) (some (elemV p c n 0 (if k.emod p = 0 then ([] : List (Int × List Nat × Int)) else [(n, m, k.emod p)]).length, [.vec 18 (zk (if k.emod p = 0 then [] else [(n, m, k.emod p)]))]))
    | none => none
  | _ => none
theorem qwb : Am.Callee Try.prog 103 (Gk y5) :=
  Am.Callee.new fun xs v H he => by
    unfold y5 at he
    split at he
    · rename_i p c l k
      split at he
      · rename_i n m hd
        obtain ⟨⟨h1, h2⟩, he⟩ := ql he
        obtain ⟨rfl, hm⟩ := zp hd
        have e1 := congrArg Prod.fst (Option.some.inj he)
        have e2 := congrArg Prod.snd (Option.some.inj he)
        simp only at e1 e2
        subst e1; subst e2
        exact ⟨by simp only [AV.zb, AV.zl, qe, Bool.and_self], qya p c n m k h1 h2 hm⟩
      · cases he
    · cases he
def B29 : za := (B28.put 103 (Gk y5))
theorem q2r : qn Try.prog B29 := (qyv.put (qwb))
theorem qoo (p c n : Int) (b k m : Nat) : AV.ren (Vy m) (.agg [.int .i64 p, .int .i64 c, .int .i64 n, .slc b 0 k false 0]) = .agg [.int .i64 p, .int .i64 c, .int .i64 n, .slc (m + b) 0 k false 0] := rfl
def B30 : za := B29
theorem qoi : qn Try.prog B30 := q2r
end Go.Proofs.Ytfhckbbgmblhbaa
namespace Go.Proofs.Ytfhckbbgmblhbaa
open Go.Am Go.Dia
open Nat renaming reduceAdd → nA, reduceMul → nM, reduceSub → nS, reduceEqDiff → nE, reduceLT → nL, reduceLeDiff → nD, reduceBEq → nB
open Int renaming reduceEq → iE, reduceNe → iN, reduceBEq → iB, reduceBNe → iC, reduceLT → iL, reduceLE → iD, reduceAdd → iA, reduceSub → iS, reduceMul → iM
set_option linter.unusedSimpArgs false
set_option linter.unusedVariables false
set_option maxRecDepth 4000
set_option maxHeartbeats 1000000
end Go.Proofs.Ytfhckbbgmblhbaa
namespace Go.Proofs.Ytfhckbbgmblhbaa
open Go.Am Go.Dia
open Nat renaming reduceAdd → nA, reduceMul → nM, reduceSub → nS, reduceEqDiff → nE, reduceLT → nL, reduceLeDiff → nD, reduceBEq → nB
open Int renaming reduceEq → iE, reduceNe → iN, reduceBEq → iB, reduceBNe → iC, reduceLT → iL, reduceLE → iD, reduceAdd → iA, reduceSub → iS, reduceMul → iM
set_option linter.unusedSimpArgs false
set_option linter.unusedVariables false
set_option maxRecDepth 4000
set_option maxHeartbeats 1000000
theorem K4 : B30 39 = some (qm Ju) := rfl
def qer : AC := .seq (.region [o0 1 (.box (.t 0)),o0 2 (.alloc [.int .i64 0,.int .u8 0,.int .u8 0,.int .u8 0,.int .u8 0,.int .u8 0,.int .u8 0,.int .u8 0,.int .u8 0,.int .u8 0,.int .u8 0,.int .u8 0,.int .u8 0,.int .u8 0,.int .u8 0,.int .u8 0,.int .u8 0,.int .i64 0])]) (.seq (.region [o0 3 (.alloc [.int .i64 0,.int .u8 0,.int .u8 0,.int .u8 0,.int .u8 0,.int .u8 0,.int .u8 0,.int .u8 0,.int .u8 0,.int .u8 0,.int .u8 0,.int .u8 0,.int .u8 0,.int .u8 0,.int .u8 0,.int .u8 0,.int .u8 0,.int .i64 0])]) (.seq (.region [oF 4 0 1,oN 5 17 4,oC 6 39 [.t 5],oF 7 0 3,oS 17 7 6]) (.seq (.region [oF 8 17 1,oL 9 8,oF 10 17 3,oT 10 9]) (.seq (.region [oN 11 18 3,oS 18 2 11]) .ret))))
theorem qph : zr Try.prog 109 = some ⟨12, qer, [.Qj 2 18]⟩ := by kernel_rfl
theorem qu9 (t : Int × List Nat × Int) (ht : okD t.2.1) : Am.Fn Try.prog 109 [.agg (trm t)] [] (fun v H' => v = .agg (trm t) ∧ H' = []) := by
  refine Am.Fn.jd (R := fun v => v = _) qoi mixed qph (by simp) (by simp) ?_
  obtain ⟨n, m, k⟩ := t
  simp only at ht
  have e1 : List.take 17 (trm (n, m, k)) = dia n m := Vv (t := (n, m, k)) ht
  have e3 : (trm (n, m, k))[17]? = some (.int .i64 k) := gr (t := (n, m, k)) ht
  have e2 : (trm (n, m, 0)).set 17 (.int .i64 k) = trm (n, m, k) := qs2 (t := (n, m, 0)) ht
  simp (maxSteps := 3000000) only [qg, zH, qer, K4, Ju, vm, z8, Ga, ht.1, qq ht, e1, e2, e3, qbq ht.1, qb, Jy (t := (0, List.replicate 16 0, 0)) (u := (n, m, k)) (by simp) ht.1, Kt (t := (n, m, k)) ht.1, wt, ze, AV.one, List.length_replicate, iE, iN, iB, iC, iL, iD, iA, iS, iM, qa, zZ, ↓qo, ↓reduceIte, reduceCtorEq, nA, nM, nS, nE, nL, nD]; try simp only [qa, zY]
  exact yc _
def ua : List AV → Option AV
  | [.agg l] => match qdq l with
    | some t => some (.agg (trm t))
    | none => none
  | _ => none
theorem qwo : Am.Callee Try.prog 109 (qm ua) := Am.Callee.plain fun xs v he => by
  unfold ua at he
  split at he
  · split at he
    · rename_i l t ht
      cases he
      obtain ⟨rfl, hm⟩ := Yi ht
      exact ⟨by simp only [AV.zb, AV.zl, yc, Bool.and_self], by simp only [AV.zl, yc], qu9 t hm⟩
    · cases he
  · cases he
def q4h : za := (B30.put 109 (qm ua))
theorem qro : qn Try.prog q4h := (qoi.put (qwo))
def qd6 (H : List AO) (X : AV) (ts : List (Int × List Nat × Int)) : Prop :=
  okT ts ∧ ((X = .v (.slice none 0 0) ∧ H = [] ∧ ts = []) ∨ (X = .slc 0 0 0 true 0 ∧ H = [.dead] ∧ ts = []) ∨ ∃ all cap, X = .slc 0 0 ts.length true cap ∧ ts.length ≤ cap ∧ H = [.ro (zk all)] ∧ okT all ∧ all.take ts.length = ts ∧ ts.length ≤ all.length)
def Bh (hp : List AO) (X : AV) : Option (List (Int × List Nat × Int)) := match X with
  | .v (.slice none 0 0) => some []
  | .slc b 0 n true cap => match hp[b]? with
    | some .dead => if n = 0 ∧ cap = 0 then some [] else none
    | some (.ro l) => match Ug (l.length / 18) l with
      | some all => if l.length = all.length * 18 ∧ n ≤ cap ∧ n ≤ all.length then some (all.take n) else none
      | none => none
    | _ => none
  | _ => none
theorem Yo {hp : List AO} {X : AV} {ts : List (Int × List Nat × Int)} (h : Bh hp X = some ts) : ∃ (bs : List (Nat × Nat)) (H : List AO) (X' : AV), qd6 H X' ts ∧ X'.ren (ofL bs) = X ∧ vh X = true ∧ Ka hp (ofL bs) bs H ∧
    J4 bs H = true ∧ AO.qa0 H.length H ∧ X'.under H.length ∧ (∀ o ∈ H, o.wr = false) ∧ (∀ bs', after ⟨[], hp⟩ (ofL bs) bs H (H ++ bs') = hp ++ bs'.map (AO.ren ((ofL bs).ext H.length hp.length))) := by
  unfold Bh at h
  split at h
  · cases h
    exact ⟨[], [], .v (.slice none 0 0), ⟨fun t ht => (by cases ht), .inl ⟨rfl, rfl, rfl⟩⟩, rfl, rfl, trivial, rfl, trivial, trivial, by simp, fun bs' => by simp [after, upd]⟩
  · rename_i b n cap
    split at h
    · rename_i hb
      split at h
      · rename_i h0
        cases h
        obtain ⟨rfl, rfl⟩ := h0
        refine ⟨[(b, 0)], [.dead], .slc 0 0 0 true 0, ⟨fun t ht => (by cases ht), .inr (.inl ⟨rfl, rfl, rfl⟩)⟩, by simp [AV.ren, ofL], rfl, ⟨(List.getElem?_eq_some_iff.1 hb).1, trivial⟩, rfl, ⟨trivial, trivial⟩, by simp [AV.under], by simp [AO.wr], fun bs' => ?_⟩
        simp [after, upd, AO.wr]
      · cases h
    · rename_i l hb
      split at h
      · rename_i all hall
        split at h
        · rename_i h0
          cases h
          obtain ⟨e1, e2, e3, e4⟩ := ya hall
          have hl : l = zk all := by rw [← e3, List.take_of_length_le (by omega)]
          subst hl
          have hlen : (all.take n).length = n := by simp; omega
          refine ⟨[(b, 0)], [.ro (zk all)], .slc 0 0 n true cap, ⟨fun t ht => e2 t (List.mem_of_mem_take ht), .inr (.inr ⟨all, cap, by rw [hlen], by rw [hlen]; exact h0.2.1, rfl, e2, by rw [hlen], by rw [hlen]; exact h0.2.2⟩)⟩, by simp [AV.ren, ofL], rfl, ⟨⟨zk all, by simp [rd, hb], by simp, by simp [qc _ _ (qd _)]⟩, trivial⟩, rfl, ⟨qh _ _ (qd _), trivial⟩, by simp [AV.under], by simp [AO.wr], fun bs' => ?_⟩
          simp [after, upd, AO.wr]
        · cases h
      · cases h
    · cases h
  · cases h
theorem Zp {H : List AO} {X : AV} {ts : List (Int × List Nat × Int)} (h : qd6 H X ts) : ∀ (j : Nat) (o' : AO), H[j]? = some o' → o'.under H.length := by
  intro j o' hj
  rcases h.2 with ⟨_, rfl, _⟩ | ⟨_, rfl, _⟩ | ⟨all, cap, _, _, rfl, _⟩
  · simp at hj
  · cases j with
    | succ j => simp at hj
    | zero => cases hj; trivial
  · cases j with
    | succ j => simp at hj
    | zero => cases hj; exact qh _ _ (qd _)
def Vq : AC := .seq (.region [oI 4 0]) (.seq (.region [oM 5 1,oM 6 0,o0 7 (.len .slc (.t 6)),oP 8 .sub 5 7,oM 1 8]) (.seq (.seq (.region [oM 9 1,oK 10 .lss 9 0]) (.cond 10 (.seq (.region [oI 4 (-1)]) .ret) .skip)) (.seq (.region [oM 11 1,oM 4 11]) .ret)))
theorem qlr : zr Try.prog 45 = some ⟨12, Vq, [.slot 4]⟩ := by kernel_rfl
theorem qse (H : List AO) (X : AV) (ts : List (Int × List Nat × Int)) (k : Int) (h : qd6 H X ts) (hk : 0 ≤ k ∧ k ≤ 1000000000) (hl : ts.length ≤ 9223372036854775807) :
    Am.Fn Try.prog 45 [X, .int .i64 k] H (fun v H' => v = .int .i64 (if k - ts.length < 0 then -1 else k - ts.length) ∧ H' = H) := by
  refine Am.Fn.jd (R := fun v => v = _) qro mixed qlr (by simp) (Zp h) ?_
  have hw : qu .i64 (k - (ts.length : Int)) = k - ts.length := wrap64 (by omega) (by omega)
  rcases h.2 with ⟨rfl, rfl, rfl⟩ | ⟨rfl, rfl, rfl⟩ | ⟨all, cap, rfl, hc, rfl, _⟩
  · have hw0 : qu .i64 k = k := by simpa using hw
    have hk0 : ¬ (k < 0) := by omega
    simp (maxSteps := 3000000) only [qg, zH, Vq, iE, iN, iB, iC, iL, iD, iA, iS, iM, hw0, hk0, Zk, qcx, List.length_nil, Int.sub_zero, qa, zZ, ↓qo, ↓reduceIte, reduceCtorEq, nA, nM, nS, nE, nL, nD]; try simp only [qa, zY]
  · have hw0 : qu .i64 k = k := by simpa using hw
    have hk0 : ¬ (k < 0) := by omega
    simp (maxSteps := 3000000) only [qg, zH, Vq, iE, iN, iB, iC, iL, iD, iA, iS, iM, hw0, hk0, Zk, qcx, List.length_nil, Int.sub_zero, qa, zZ, ↓qo, ↓reduceIte, reduceCtorEq, nA, nM, nS, nE, nL, nD]; try simp only [qa, zY]
    exact ⟨_, rfl⟩
  · simp (maxSteps := 3000000) only [qg, zH, Vq, iE, iN, iB, iC, iL, iD, iA, iS, iM, hw, Zk, hc, qa, zZ, ↓qo, ↓reduceIte, reduceCtorEq, nA, nM, nS, nE, nL, nD]; try simp only [qa, zY]
    exact ⟨fun h => ⟨⟨_, rfl⟩, by rw [if_pos h]⟩, fun h => ⟨⟨_, rfl⟩, by rw [if_neg h]⟩⟩
def wm : BE := fun hp xs => match xs with
  | [X, .int .i64 k] => match Bh hp X with
    | some ts => chk ((0 ≤ k ∧ k ≤ 1000000000) ∧ ts.length ≤ 9223372036854775807) (some (.int .i64 (if k - ts.length < 0 then -1 else k - ts.length), hp))
    | none => none
  | _ => none
theorem qtf : Am.Callee Try.prog 45 wm := Callee.fp fun hp xs v hp' he => by
  unfold wm at he
  split at he
  · rename_i X k
    split at he
    · rename_i ts hts
      obtain ⟨⟨h1, h2⟩, he⟩ := ql he
      cases he
      obtain ⟨bs, H, X', hX, e1, e2, e3, e4, e5, e6, e7, e8⟩ := Yo hts
      refine ⟨bs, [X', .int .i64 k], H, H, _, qse H X' ts k hX h1 h2, by simp only [AV.zh, AV.ren, e1], (by simp only [List.all_cons, e2, List.all_nil, Bool.true_and, Bool.and_true]; rfl), e3, e4, e5, ⟨e6, trivial, trivial⟩, by simp [AV.ren], ?_⟩
      have := e8 []
      simpa using this
    · cases he
  · cases he
def quz : za := (q4h.put 45 (wm))
theorem qrp : qn Try.prog quz := (qro.put (qtf))
theorem yq : quz 39 = some (qm Ju) := rfl
theorem kh : quz 109 = some (qm ua) := rfl
theorem b7 : quz 45 = some (wm) := rfl
def kr : AC := .seq (.region [o0 2 (.box (.t 0)),oI 4 0]) (.seq (.region [oF 5 3 2,oL 6 5,oM 7 1,oC 8 45 [.t 6,.t 7],oM 1 8]) (.seq (.seq (.region [oM 9 1,oK 10 .lss 9 0]) (.cond 10 (.seq (.region [oI 4 (-1)]) .ret) .skip)) (.seq (.region [oM 11 1,oM 4 11]) .ret)))
theorem qg5 : zr Try.prog 14 = some ⟨12, kr, [.slot 4]⟩ := by kernel_rfl
theorem qlf (H : List AO) (X : AV) (ts : List (Int × List Nat × Int)) (p c n k : Int) (h : qd6 H X ts) (hX : ∀ rest, Bh (H ++ rest) X = some ts) (hk : 0 ≤ k ∧ k ≤ 1000000000) (hl : ts.length ≤ 9223372036854775807) :
    Am.Fn Try.prog 14 [.agg [.int .i64 p, .int .i64 c, .int .i64 n, X], .int .i64 k] H (fun v H' => v = .int .i64 (if k - ts.length < 0 then -1 else k - ts.length) ∧ H' = H) := by
  refine Am.Fn.jd (R := fun v => v = _) qrp mixed qg5 (by simp) (Zp h) ?_
  have hH : H = [] ∨ ∃ o, H = [o] := by
    rcases h.2 with ⟨_, rfl, _⟩ | ⟨_, rfl, _⟩ | ⟨_, _, _, _, rfl, _⟩
    · exact .inl rfl
    · exact .inr ⟨_, rfl⟩
    · exact .inr ⟨_, rfl⟩
  have hsub : -(1 : Int) < 0 := by decide
  by_cases hlt : k - (ts.length : Int) < 0
  · rcases hH with rfl | ⟨o, rfl⟩
    · simp only [List.nil_append] at hX
      simp (maxSteps := 3000000) only [qg, zH, kr, yq, kh, b7, Ju, wm, ua, iE, iN, iB, iC, iL, iD, iA, iS, iM, hX, hk, hl, hlt, qa, zZ, ↓qo, ↓reduceIte, reduceCtorEq, nA, nM, nS, nE, nL, nD]; try simp only [qa, zY]
    · simp only [List.cons_append, List.nil_append] at hX
      simp (maxSteps := 3000000) only [qg, zH, kr, yq, kh, b7, Ju, wm, ua, iE, iN, iB, iC, iL, iD, iA, iS, iM, hX, hk, hl, hlt, qa, zZ, ↓qo, ↓reduceIte, reduceCtorEq, nA, nM, nS, nE, nL, nD]; try simp only [qa, zY]
      exact ⟨_, rfl⟩
  · rcases hH with rfl | ⟨o, rfl⟩
    · simp only [List.nil_append] at hX
      simp (maxSteps := 3000000) only [qg, zH, kr, yq, kh, b7, Ju, wm, ua, iE, iN, iB, iC, iL, iD, iA, iS, iM, hX, hk, hl, hlt, qa, zZ, ↓qo, ↓reduceIte, reduceCtorEq, nA, nM, nS, nE, nL, nD]; try simp only [qa, zY]
    · simp only [List.cons_append, List.nil_append] at hX
      simp (maxSteps := 3000000) only [qg, zH, kr, yq, kh, b7, Ju, wm, ua, iE, iN, iB, iC, iL, iD, iA, iS, iM, hX, hk, hl, hlt, qa, zZ, ↓qo, ↓reduceIte, reduceCtorEq, nA, nM, nS, nE, nL, nD]; try simp only [qa, zY]
      exact ⟨_, rfl⟩
theorem qf6 {H : List AO} {X : AV} {ts : List (Int × List Nat × Int)} (h : qd6 H X ts) (rest : List AO) : Bh (H ++ rest) X = some ts := by
  rcases h.2 with ⟨rfl, rfl, rfl⟩ | ⟨rfl, rfl, rfl⟩ | ⟨all, cap, rfl, hc, rfl, hall, htk, hle⟩
  · rfl
  · rfl
  · have hl := zg hall
    have h2 : all.length * 18 / 18 = all.length := by omega
    simp only [Bh, List.cons_append, List.nil_append, List.getElem?_cons_zero, hl, h2, gv hall, true_and, hc, hle, and_self, if_true, htk]
def ur : BE := fun hp xs => match xs with
  | [.agg [.int .i64 p, .int .i64 c, .int .i64 n, X], .int .i64 k] => match Bh hp X with
    | some ts => chk ((0 ≤ k ∧ k ≤ 1000000000) ∧ ts.length ≤ 9223372036854775807) (some (.int .i64 (if k - ts.length < 0 then -1 else k - ts.length), hp))
    | none => none
  | _ => none
theorem ql8 : Am.Callee Try.prog 14 ur := Callee.fp fun hp xs v hp' he => by
  unfold ur at he
  split at he
  · rename_i p c n X k
    split at he
    · rename_i ts hts
      obtain ⟨⟨h1, h2⟩, he⟩ := ql he
      cases he
      obtain ⟨bs, H, X', hX, e1, e2, e3, e4, e5, e6, e7, e8⟩ := Yo hts
      refine ⟨bs, [.agg [.int .i64 p, .int .i64 c, .int .i64 n, X'], .int .i64 k], H, H, _, qlf H X' ts p c n k hX (qf6 hX) h1 h2, by simp only [AV.zh, AV.ren, e1], rfl, e3, e4, e5, ⟨⟨trivial, trivial, trivial, e6, trivial⟩, trivial, trivial⟩, by simp [AV.ren], ?_⟩
      have := e8 []
      simpa using this
    · cases he
  · cases he
def qxd : za := (quz.put 14 (ur))
theorem qa5 : qn Try.prog qxd := (qrp.put (ql8))
theorem Gn : qxd 39 = some (qm Ju) := rfl
theorem qbm : qxd 109 = some (qm ua) := rfl
theorem qa7 : qxd 45 = some (wm) := rfl
theorem qm6 : ∀ n, rep n (trm (0, List.replicate 16 0, 0)) = zk (List.replicate n (0, List.replicate 16 0, 0))
  | 0 => rfl
  | n + 1 => by rw [rep, qm6 n, List.replicate_succ]; rfl
theorem qia : ∀ {us : List (Int × List Nat × Int)} {i : Nat} {t : Int × List Nat × Int}, okT us → okD t.2.1 → i < us.length → over (zk us) (i * 18) (trm t) = zk (us.set i t)
  | u :: us, 0, t, h, ht, hi => by
    have h1 := zt (h u (List.mem_cons_self ..))
    simp only [zk, List.flatMap_cons, List.set_cons_zero, over, Nat.zero_mul, List.take_zero, List.nil_append, Nat.zero_add, zt ht]
    rw [List.drop_append_of_le_length (by omega), List.drop_of_length_le (by omega), List.nil_append]
  | u :: us, i + 1, t, h, ht, hi => by
    have h1 := zt (h u (List.mem_cons_self ..))
    have ih := qia (us := us) (i := i) (t := t) (fun v hv => h v (List.mem_cons_of_mem _ hv)) ht (by simpa using hi)
    simp only [zk, List.flatMap_cons, List.set_cons_succ] at ih ⊢
    rw [← ih]
    simp only [over, zt ht]
    rw [show (i + 1) * 18 = 18 + i * 18 by omega, List.take_append, List.take_of_length_le (by omega), h1, show 18 + i * 18 - 18 = i * 18 by omega, List.drop_append, List.drop_of_length_le (by omega), h1, show 18 + i * 18 + 18 - 18 = i * 18 + 18 by omega]
    simp
def gg : AC := .seq (.seq (.region [oM 8 4,oM 9 0,o0 10 (.len .slc (.t 9)),oP 11 .lss 8 10]) (.cond 11 .skip (.exit 0))) (.seq (.block 1 (.region [oM 14 3,oM 15 4,oM 16 0,oM 17 4,oX 18 18 16 17,oN 19 18 18,oC 20 109 [.t 19],oX 21 18 14 15,oS 18 21 20])) (.region [oM 12 4,oK 13 .add 12 1,oM 4 13]))
def Qy : AC := .seq (.region [oM 22 3,oM 2 22]) .ret
def Vl : AC := .seq (.region [o0 2 (.mov (.c (.v (.slice none 0 0))))]) (.seq (.region [oM 5 0,o0 6 (.len .slc (.t 5)),o0 7 (.kx 18 32 [.int .i64 0,.int .u8 0,.int .u8 0,.int .u8 0,.int .u8 0,.int .u8 0,.int .u8 0,.int .u8 0,.int .u8 0,.int .u8 0,.int .u8 0,.int .u8 0,.int .u8 0,.int .u8 0,.int .u8 0,.int .u8 0,.int .u8 0,.int .i64 0] (.t 6) (.t 6)),oM 3 7]) (.seq (.seq (.region [oI 4 0]) (.block 0 (.loop gg))) Qy))
theorem qns : zr Try.prog 48 = some ⟨23, Vl, [.slot 2]⟩ := by kernel_rfl
theorem qt1 (H : List AO) (X : AV) (ts : List (Int × List Nat × Int)) (h : qd6 H X ts) (hl : ts.length ≤ 1100000) :
    Am.Fn Try.prog 48 [X] H (fun v H' => v = .slc H.length 0 ts.length false 0 ∧ H' = H ++ [.vec 18 (zk ts)]) := by
  refine Am.Fn.ofW qa5 mixed qns (by simp) (Zp h) ?_
  rcases h.2 with ⟨rfl, rfl, rfl⟩ | ⟨rfl, rfl, rfl⟩ | ⟨all, cap, rfl, hc, rfl, hall, htk, hle⟩
  · simp (maxSteps := 3000000) only [qg, zH, Vl, iE, iN, iB, iC, iL, iD, iA, iS, iM, Zk, qcx, List.length_nil, vm, z8, Int.toNat_zero, rep, qa, zZ, ↓qo, ↓reduceIte, reduceCtorEq, nA, nM, nS, nE, nL, nD]; try simp only [qa, zY]
    refine ⟨by decide, WA.jn qa5 (fun s => s = ⟨[(4, .int .i64 0), (3, .slc 0 0 0 true 0), (0, .v (.slice none 0 0))], [.cells []]⟩) (fun _ => 0) ⟨_, qz.qx [4, 3, 0], rfl⟩ ?_⟩
    rintro s rfl
    simp (maxSteps := 3000000) only [qg, zH, gg, Qy, iE, iN, iB, iC, iL, iD, iA, iS, iM, Zk, qcx, List.length_nil, qa, zZ, ↓qo, ↓reduceIte, reduceCtorEq, nA, nM, nS, nE, nL, nD]; try simp only [qa, zY]
    refine ⟨_, qz.trans (qz.qx [2]) (qz.vec 0 0 18 (by decide) rfl rfl rfl rfl), ?_⟩
    refine Ret.ve [0] ⟨⟨by simp, rfl, by decide⟩, ?_⟩ (rs := [.slc 0 0 0 false 0]) rfl rfl (by simp [xw]) ?_ ⟨?_, ?_⟩
    · simp only [qx, zj, zV, ↓reduceIte, nE, reduceCtorEq, nB]
      simp only [zK, ↓reduceIte, reduceCtorEq, nE, nB, nA]
    · intro j l; match j with
      | 0 => simp [zi, Wu, AO.xe, AO.ren]
      | j + 1 => simp [zi]
    · simp only [xw]
      simp only [zL, ↓reduceIte, reduceCtorEq, nE, nA]
    · rfl
  · simp (maxSteps := 3000000) only [qg, zH, Vl, iE, iN, iB, iC, iL, iD, iA, iS, iM, Zk, qcx, List.length_nil, vm, z8, Int.toNat_zero, rep, qa, zZ, ↓qo, ↓reduceIte, reduceCtorEq, nA, nM, nS, nE, nL, nD]; try simp only [qa, zY]
    refine ⟨by decide, WA.jn qa5 (fun s => s = ⟨[(4, .int .i64 0), (3, .slc 1 0 0 true 0), (0, .slc 0 0 0 true 0)], [.dead, .cells []]⟩) (fun _ => 0) ⟨_, qz.qx [4, 3, 0], rfl⟩ ?_⟩
    rintro s rfl
    simp (maxSteps := 3000000) only [qg, zH, gg, Qy, iE, iN, iB, iC, iL, iD, iA, iS, iM, Zk, qcx, List.length_nil, qa, zZ, ↓qo, ↓reduceIte, reduceCtorEq, nA, nM, nS, nE, nL, nD]; try simp only [qa, zY]
    refine ⟨_, qz.trans (qz.qx [2]) (qz.vec 1 0 18 (by decide) rfl rfl rfl rfl), ?_⟩
    refine Ret.ve [0, 1] ⟨⟨by simp, rfl, by decide⟩, ?_⟩ (rs := [.slc 1 0 0 false 0]) rfl rfl (by simp [xw]) ?_ ⟨?_, ?_⟩
    · simp only [qx, zj, zV, ↓reduceIte, nE, reduceCtorEq, nB]
      simp only [zK, ↓reduceIte, reduceCtorEq, nE, nB, nA]
    · intro j l; match j with
      | 0 => simp [zi, Wu, AO.xe, AO.ren]
      | 1 => simp [zi, Wu, AO.xe, AO.ren]
      | j + 2 => simp [zi]
    · simp only [xw]
      simp only [zL, ↓reduceIte, reduceCtorEq, nE, nA]
    · rfl
  · simp (maxSteps := 3000000) only [qg, zH, Vl, iE, iN, iB, iC, iL, iD, iA, iS, iM, Zk, hc, List.length_nil, vm, z8, qm6, qa, zZ, ↓qo, ↓reduceIte, reduceCtorEq, nA, nM, nS, nE, nL, nD]; try simp only [qa, zY]
    refine ⟨⟨by omega, by omega, by omega⟩, WA.jn qa5 (fun s => ∃ (i : Nat) (us : List (Int × List Nat × Int)), i ≤ ts.length ∧ us = ts.take i ++ List.replicate (ts.length - i) (0, List.replicate 16 0, 0) ∧ s = ⟨[(4, .int .i64 i), (3, .slc 1 0 ts.length true ts.length), (0, .slc 0 0 ts.length true cap)], [.ro (zk all), .cells (zk us)]⟩)
      (fun s => match get s.env 4 with | .int _ x => ts.length - x.toNat | _ => 0) ⟨_, qz.qx [4, 3, 0], 0, _, by omega, by simp, rfl⟩ ?_⟩
    rintro s ⟨i, us, hi, hus, rfl⟩
    have hul : us.length = ts.length := by rw [hus]; simp; omega
    have huo : okT us := by
      rw [hus]; intro t h'
      rcases List.mem_append.1 h' with h' | h'
      · exact h.1 t (List.mem_of_mem_take h')
      · rw [(List.mem_replicate.1 h').2]; exact ⟨by simp, by intro x hx; simp at hx; omega⟩
    have hutl := zg huo
    have hal := zg hall
    have hw : qu .i64 ((i : Int) + 1) = ((i + 1 : Nat) : Int) := by rw [wrap64 (by omega) (by omega)]; rfl
    by_cases hlt : i < ts.length
    · have hai : i < all.length := by omega
      have hget : all[i] = ts[i] := by
        have : ts[i] = (all.take ts.length)[i]'(by simp; omega) := by congr 1; exact htk.symm
        rw [this, List.getElem_take]
      have h0 := kq hall hai
      rw [hget] at h0
      have hok : okD ts[i].2.1 := h.1 _ (List.getElem_mem hlt)
      have hov := qia huo hok (show i < us.length by omega)
      have hset : us.set i ts[i] = ts.take (i + 1) ++ List.replicate (ts.length - (i + 1)) (0, List.replicate 16 0, 0) := by
        rw [hus, List.set_append_right _ _ (by rw [List.length_take]; omega), List.length_take, Nat.min_eq_left hi, Nat.sub_self, show ts.length - i = (ts.length - (i + 1)) + 1 by omega, List.replicate_succ, List.set_cons_zero, List.take_succ_eq_append_getElem hlt, List.append_assoc]
        rfl
      have hli : ((i : Int) < (ts.length : Int)) := by omega
      have hli' : (0 : Int) ≤ i := by omega
      have hb1 : i * 18 < all.length * 18 := by omega
      have hb2 : i * 18 + 18 ≤ all.length * 18 := by omega
      have hb3 : i * 18 < us.length * 18 := by omega
      have hb4 : i * 18 + 18 ≤ us.length * 18 := by omega
      simp (maxSteps := 3000000) only [qg, zH, gg, Gn, qbm, qa7, Ju, wm, ua, iE, iN, iB, iC, iL, iD, iA, iS, iM, Zk, hc, hw, hal, hutl, h0, hov, Bz hok, wt, zt hok, hli, hli', hb1, hb2, hb3, hb4, and_self, qa, zZ, ↓qo, ↓reduceIte, reduceCtorEq, nA, nM, nS, nE, nL, nD]; try simp only [qa, zY]
      refine ⟨_, qz.qx [4, 3, 0], ⟨i + 1, us.set i ts[i], by omega, hset, ?_⟩, ?_⟩
      · simp only [zL, ↓reduceIte, reduceCtorEq, nE, nA]
      · simp only [zL, ↓reduceIte, reduceCtorEq, nE, nA]; omega
    · have hi' : i = ts.length := by omega
      subst hi'
      have hu : us = ts := by rw [hus]; simp
      subst hu
      simp (maxSteps := 3000000) only [qg, zH, gg, Qy, iE, iN, iB, iC, iL, iD, iA, iS, iM, Zk, hc, Int.lt_irrefl, qa, zZ, ↓qo, ↓reduceIte, reduceCtorEq, nA, nM, nS, nE, nL, nD]; try simp only [qa, zY]
      refine ⟨_, qz.trans (qz.qx [2]) (qz.vec 1 us.length 18 (by decide) rfl hutl.symm rfl ?_), ?_⟩
      · simp only [vn _ _ (qd _), zV, ↓reduceIte, nE, reduceCtorEq, nB]
      refine Ret.ve [0, 1] ⟨⟨by simp, rfl, by decide⟩, ?_⟩ (rs := [.slc 1 0 us.length false 0]) ?_ rfl (by simp [xw]) ?_ ⟨?_, ?_⟩
      · simp only [qx, zj, j5 _ _ _ (qd _), zV, ↓reduceIte, nE, reduceCtorEq, nB]
        simp only [qk _ _ (qd _), zK, ↓reduceIte, reduceCtorEq, nE, nB, nA]
      · simp only [qx, zj, zV, ↓reduceIte, nE, reduceCtorEq, nB]
        rfl
      · intro j l; match j with
        | 0 => exact fun _ => ⟨_, rfl⟩
        | 1 => simp [zi, Wu, AO.xe, AO.ren]
        | j + 2 => simp [zi]
      · simp only [xw]
        simp only [zL, ↓reduceIte, reduceCtorEq, nE, nA]
      · simp only [j5 _ _ _ (qd _), zV, ↓reduceIte, nE, reduceCtorEq, nB]
        simp only [qc _ _ (qd _), zL, ↓reduceIte, reduceCtorEq, nE, nA]
def Jh : BE := fun hp xs => match xs with
  | [X] => match Bh hp X with
    | some ts => chk (ts.length ≤ 1100000) (some (.slc hp.length 0 ts.length false 0, hp ++ [.vec 18 (zk ts)]))
    | none => none
  | _ => none
theorem qsv : Am.Callee Try.prog 48 Jh := Callee.fp fun hp xs v hp' he => by
  unfold Jh at he
  split at he
  · rename_i X
    split at he
    · rename_i ts hts
      obtain ⟨h1, he⟩ := ql he
      simp only [Option.some.injEq, Prod.mk.injEq] at he
      obtain ⟨rfl, rfl⟩ := he
      obtain ⟨bs, H, X', hX, e1, e2, e3, e4, e5, e6, e7, e8⟩ := Yo hts
      refine ⟨bs, [X'], H, _, _, qt1 H X' ts hX h1, by simp only [AV.zh, e1], (by simp only [List.all_cons, e2, List.all_nil, Bool.true_and, Bool.and_true]), e3, e4, e5, ⟨e6, trivial⟩, ?_, ?_⟩
      · simp [AV.ren, Ren.ext]
      · rw [e8]; simp only [List.map_cons, List.map_nil, U5, qc _ _ (qd _)]
    · cases he
  · cases he
def qsa : za := (qxd.put 48 (Jh))
theorem qqr : qn Try.prog qsa := (qa5.put (qsv))
theorem X6 : qsa 39 = some (qm Ju) := rfl
theorem Wl : qsa 109 = some (qm ua) := rfl
theorem Vh : qsa 45 = some (wm) := rfl
theorem Vf : qsa 48 = some (Jh) := rfl
def Vz : AC := .seq (.region [o0 1 (.box (.t 0)),oZ 2]) (.seq (.region [oZ 3]) (.seq (.region [oF 4 0 1,oL 5 4,oF 6 0 3,oT 6 5]) (.seq (.region [oF 7 1 1,oL 8 7,oF 9 1 3,oT 9 8]) (.seq (.region [oF 10 2 1,oL 11 10,oF 12 2 3,oT 12 11]) (.seq (.region [oF 13 3 1,oL 14 13,oC 15 48 [.t 14],oF 16 3 3,oT 16 15]) (.seq (.region [oN 17 4 3,oS 4 2 17]) .ret))))))
theorem qgy : zr Try.prog 16 = some ⟨18, Vz, [.Qj 2 4]⟩ := by kernel_rfl
theorem qk4 (H : List AO) (X : AV) (ts : List (Int × List Nat × Int)) (p c n : Int) (h : qd6 H X ts) (hl : ts.length ≤ 1100000) :
    Am.Fn Try.prog 16 [.agg [.int .i64 p, .int .i64 c, .int .i64 n, X]] H (fun v H' => v = elemV p c n H.length ts.length ∧ H' = H ++ [.vec 18 (zk ts)]) := by
  refine Am.Fn.ofB qqr mixed qgy (by simp) (Zp h) ?_
  have hX := qf6 h
  have hH : H = [] ∨ ∃ o, H = [o] ∧ ((∃ l, o = .ro l ∧ AV.zb l = true) ∨ o = .dead) := by
    rcases h.2 with ⟨_, rfl, _⟩ | ⟨_, rfl, _⟩ | ⟨all, _, _, _, rfl, _⟩
    · exact .inl rfl
    · exact .inr ⟨_, rfl, .inr rfl⟩
    · exact .inr ⟨_, rfl, .inl ⟨_, rfl, qd all⟩⟩
  rcases hH with rfl | ⟨o, rfl, ho⟩
  · simp only [List.nil_append] at hX
    simp (maxSteps := 3000000) only [qg, zH, Vz, X6, Wl, Vh, Vf, Ju, wm, ua, Jh, iE, iN, iB, iC, iL, iD, iA, iS, iM, hX, hl, qa, zZ, ↓qo, ↓reduceIte, reduceCtorEq, nA, nM, nS, nE, nL, nD]; try simp only [qa, zY]
    refine ⟨rfl, rfl, rfl, rfl, rfl, ?_⟩
    refine Ret.ve [3] ⟨⟨by simp, rfl, by decide⟩, ?_⟩ (rs := [.agg [.int .i64 p, .int .i64 c, .int .i64 n, .slc 3 0 ts.length false 0]]) rfl rfl (by simp [xw]) ?_ ⟨?_, ?_⟩
    · simp only [qk _ _ (qd _), zK, ↓reduceIte, reduceCtorEq, nE, nB, nA]
    · intro j l; match j with
      | 0 => simp [zi, AO.ren]
      | j + 1 => simp [zi]
    · simp only [xw, elemV]
      simp only [zL, ↓reduceIte, reduceCtorEq, nE, nA]
    · simp only [qc _ _ (qd _), zL, ↓reduceIte, reduceCtorEq, nE, nA]
  · simp only [List.cons_append, List.nil_append] at hX
    simp (maxSteps := 3000000) only [qg, zH, Vz, X6, Wl, Vh, Vf, Ju, wm, ua, Jh, iE, iN, iB, iC, iL, iD, iA, iS, iM, hX, hl, qa, zZ, ↓qo, ↓reduceIte, reduceCtorEq, nA, nM, nS, nE, nL, nD]; try simp only [qa, zY]
    refine ⟨rfl, rfl, rfl, rfl, rfl, ?_⟩
    have ho1 : o.within [0, 4] = true := by
      rcases ho with ⟨l, rfl, hs⟩ | rfl
      · exact qk _ _ hs
      · rfl
    have ho2 : ∀ ρ, o.ren ρ = o := by
      intro ρ
      rcases ho with ⟨l, rfl, hs⟩ | rfl
      · simp only [AO.ren, qc _ _ hs]
      · rfl
    refine Ret.ve [0, 4] ⟨⟨by simp, rfl, by decide⟩, ?_⟩ (rs := [.agg [.int .i64 p, .int .i64 c, .int .i64 n, .slc 4 0 ts.length false 0]]) rfl rfl (by simp [xw]) ?_ ⟨?_, ?_⟩
    · simp only [qk _ _ (qd _), ho1, zK, ↓reduceIte, reduceCtorEq, nE, nB, nA]
    · intro j l; match j with
      | 0 =>
        simp only [zi, List.map_cons, List.getElem?_cons_zero, ho2]
        exact fun h => ⟨l, h⟩
      | 1 => simp [zi, AO.ren]
      | j + 2 => simp [zi]
    · simp only [xw, elemV]
      simp only [zL, ↓reduceIte, reduceCtorEq, nE, nA]
    · simp only [qc _ _ (qd _), ho2, zL, ↓reduceIte, reduceCtorEq, nE, nA]
def uu : BE := fun hp xs => match xs with
  | [.agg [.int .i64 p, .int .i64 c, .int .i64 n, X]] => match Bh hp X with
    | some ts => chk (ts.length ≤ 1100000) (some (elemV p c n hp.length ts.length, hp ++ [.vec 18 (zk ts)]))
    | none => none
  | _ => none
theorem qnm : Am.Callee Try.prog 16 uu := Callee.fp fun hp xs v hp' he => by
  unfold uu at he
  split at he
  · rename_i p c n X
    split at he
    · rename_i ts hts
      obtain ⟨h1, he⟩ := ql he
      simp only [Option.some.injEq, Prod.mk.injEq] at he
      obtain ⟨rfl, rfl⟩ := he
      obtain ⟨bs, H, X', hX, e1, e2, e3, e4, e5, e6, e7, e8⟩ := Yo hts
      refine ⟨bs, [.agg [.int .i64 p, .int .i64 c, .int .i64 n, X']], H, _, _, qk4 H X' ts p c n hX h1, by simp only [AV.zh, AV.ren, e1], rfl, e3, e4, e5, ⟨⟨trivial, trivial, trivial, e6, trivial⟩, trivial⟩, ?_, ?_⟩
      · simp [elemV, AV.ren, AV.zh, Ren.ext]
      · rw [e8]; simp only [List.map_cons, List.map_nil, U5, qc _ _ (qd _)]
    · cases he
  · cases he
def B31 : za := (qsa.put 16 (uu))
theorem q22 : qn Try.prog B31 := (qqr.put (qnm))
end Go.Proofs.Ytfhckbbgmblhbaa

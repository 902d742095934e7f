/- Contracts of functions of the program, and plain laws, part 6: each text of this part is proved without further condition. -/
import Derived.Test.YtfhckbbgmblhbaaZ5
import Derived.Test.YtfhckbbgmblhbaaZ3
import Derived.Test.YtfhckbbgmblhbaaZ4
import Derived.Test.YtfhckbbgmblhbaaAmC
import Derived.OpenShut
namespace Go.Proofs.Ytfhckbbgmblhbaa
open Go.Am Go.Dia
open Nat renaming reduceAdd → nA, reduceMul → nM, reduceSub → nS, reduceEqDiff → nE, reduceLT → nL, reduceLeDiff → nD, reduceBEq → nB
open Int renaming reduceEq → iE, reduceNe → iN, reduceBEq → iB, reduceBNe → iC, reduceLT → iL, reduceLE → iD, reduceAdd → iA, reduceSub → iS, reduceMul → iM
set_option linter.unusedSimpArgs false
set_option linter.unusedVariables false
set_option maxRecDepth 4000
set_option maxHeartbeats 1000000
def clS (N : Nat) (m : List Nat) : Nat → List Bool → Nat → List Bool
  | 0, l, _ => l
  | f + 1, l, x => if l.getD x false = true then l else clS N m f ((l.set x true).set (m.getD x 0) true) ((m.getD x 0 + N) % (2 * N))
def clO (N : Nat) (m : List Nat) : Nat → List Bool × Nat
  | 0 => (List.replicate 16 false, 0)
  | i + 1 => if (clO N m i).1.getD i false = true then clO N m i else (clS N m 17 (clO N m i).1 i, (clO N m i).2 + 1)
def clN (N : Nat) (m : List Nat) : Nat := (clO N m (2 * N)).2
theorem qp7 (N : Nat) (m : List Nat) : ∀ (f : Nat) (l : List Bool) (x : Nat), (clS N m f l x).length = l.length
  | 0, l, x => rfl
  | f + 1, l, x => by
    rw [clS]; split
    · rfl
    · rw [qp7 N m f, List.length_set, List.length_set]
theorem qdt (N : Nat) (m : List Nat) : ∀ i, (clO N m i).1.length = 16
  | 0 => by simp [clO]
  | i + 1 => by
    rw [clO]; split
    · exact qdt N m i
    · rw [qp7, qdt N m i]
theorem qiw (N : Nat) (m : List Nat) : ∀ i, (clO N m i).2 ≤ i
  | 0 => by simp [clO]
  | i + 1 => by
    have := qiw N m i
    rw [clO]; split
    · omega
    · show (clO N m i).2 + 1 ≤ i + 1; omega
theorem qd8 {N : Nat} {m : List Nat} {i : Nat} (h : (clO N m i).1.getD i false = true) : clO N m (i + 1) = clO N m i := by rw [clO, if_pos h]
theorem qdz {N : Nat} {m : List Nat} {i : Nat} (h : ¬ (clO N m i).1.getD i false = true) : clO N m (i + 1) = (clS N m 17 (clO N m i).1 i, (clO N m i).2 + 1) := by rw [clO, if_neg h]
theorem qf1 (l : List Bool) : u4 (bls l) ≤ l.length := by
  have := List.countP_le_length (p := fun v : AV => match v with | .bool false => true | _ => false) (l := bls l)
  rw [zs] at this
  exact this
def ClA (N : Nat) (m : List Nat) (T : List Bool) (f : Nat) (l : List Bool) (x : Nat) : Prop := clS N m f l x = T ∧ u4 (bls l) < f ∧ x < 2 * N ∧ l.length = 16
theorem qmo {N : Nat} {m : List Nat} {T l : List Bool} {f x : Nat} (h : ClA N m T f l x) (hx : l.getD x false = true) : l = T := by
  obtain ⟨h1, h2, _⟩ := h
  match f with
  | 0 => omega
  | f + 1 => rw [clS, if_pos hx] at h1; exact h1
theorem qj9 {N : Nat} {m : List Nat} {T l : List Bool} {f x : Nat} (hN : 1 ≤ N ∧ N ≤ 8) (h : ClA N m T f l x) (hx : l.getD x false = false) : ∃ f', f = f' + 1 ∧ ClA N m T f' ((l.set x true).set (m.getD x 0) true) ((m.getD x 0 + N) % (2 * N)) := by
  obtain ⟨h1, h2, h3, h4⟩ := h
  match f with
  | 0 => omega
  | f + 1 =>
    rw [clS, if_neg (by rw [hx]; simp)] at h1
    have e1 := Qa (met := l) (k := x) (by omega) hx
    have e2 := Wz (met := l.set x true) (k := m.getD x 0)
    exact ⟨f, rfl, h1, by omega, Nat.mod_lt _ (by omega), by simp [h4]⟩
def Qx : AC := .seq (.seq (.region [oM 23 7,o0 24 (.z6 16 1 (.t 4) (.t 23)),oL 25 24,o0 26 (.un .not (.t 25))]) (.cond 26 .skip (.exit 2))) (.block 3 (.seq (.region [oM 27 7,o0 28 (.z6 16 1 (.t 4) (.t 27)),⟨none,none,.op (.uw (.t 28) (.c (.bool true)))⟩]) (.seq (.region [oM 29 7,oF 30 1 1,o0 31 (.z6 16 1 (.t 30) (.t 29)),oL 32 31,o0 33 (.conv .i64 (.t 32)),oM 7 33]) (.seq (.region [oM 34 7,o0 35 (.z6 16 1 (.t 4) (.t 34)),⟨none,none,.op (.uw (.t 35) (.c (.bool true)))⟩]) (.region [oM 36 7,oM 37 3,oP 38 .add 36 37,oM 39 3,o0 40 (.bin .mul (.c (.int .i64 2)) (.t 39)),oP 41 .rem 38 40,oM 7 41])))))
def Q8 : AC := .region [oM 15 6,oK 16 .add 15 1,oM 6 16]
def bc : AC := .seq (.seq (.region [oM 11 6,oM 12 3,o0 13 (.bin .mul (.c (.int .i64 2)) (.t 12)),oP 14 .lss 11 13]) (.cond 14 .skip (.exit 0))) (.seq (.block 1 (.seq (.seq (.region [oM 17 6,o0 18 (.z6 16 1 (.t 4) (.t 17)),oL 19 18]) (.cond 19 (.exit 1) .skip)) (.seq (.region [oM 20 5,oK 21 .add 20 1,oM 5 21]) (.seq (.region [oM 22 6,oM 7 22]) (.block 2 (.loop Qx)))))) Q8)
def Vi : AC := .seq (.region [oM 42 5,oM 2 42]) .ret
def Uz : AC := .seq (.region [o0 1 (.box (.t 0)),oI 2 0]) (.seq (.region [oF 8 0 1,oL 9 8,o0 10 (.build [(.bool false),(.bool false),(.bool false),(.bool false),(.bool false),(.bool false),(.bool false),(.bool false),(.bool false),(.bool false),(.bool false),(.bool false),(.bool false),(.bool false),(.bool false),(.bool false)] []),o0 4 (.alloc [(.bool false),(.bool false),(.bool false),(.bool false),(.bool false),(.bool false),(.bool false),(.bool false),(.bool false),(.bool false),(.bool false),(.bool false),(.bool false),(.bool false),(.bool false),(.bool false)]),oM 3 9,oS 16 4 10,oI 5 0]) (.seq (.seq (.region [oI 6 0]) (.block 0 (.loop bc))) Vi))
theorem qeb : zl Try.prog 80 = some ⟨43, Uz, [.slot 2]⟩ := by kernel_rfl
theorem qee (N : Nat) (m : List Nat) (hm : okD m) (hs : isS N m = true) : Am.Fn Try.prog 80 [.agg (dia N m)] [] (fun v H' => v = .int .i64 (clN N m : Nat) ∧ H' = []) := by
  refine Am.Fn.xy (R := fun v => v = _) qds mixed qeb (by simp [AV.qm, AV.under, qi _ _ (qe _ _)]) (by simp) ?_
  obtain ⟨hN, hp, _⟩ := z7 hs
  have hml := hm.1
  have w2 : qo .i64 (2 * (N : Int)) = ((2 * N : Nat) : Int) := by rw [wrap64 (by omega) (by omega)]; omega
  simp (maxSteps := 3000000) only [qf, zH, Uz, qa, qh, hml, bg, iE, iN, iB, iC, iL, iD, iA, iS, iM, qa, zZ, ↓qt, ↓reduceIte, reduceCtorEq, nA, nM, nS, nE, nL, nD]; try simp only [qa, zY]
  refine ⟨rfl, ?_⟩
  refine WA.jl qds (fun s => ∃ i : Nat, i ≤ 2 * N ∧ s = ⟨[(1, .ptr 0 0), (3, .int .i64 N), (4, .ptr 1 0), (5, .int .i64 ((clO N m i).2 : Nat)), (6, .int .i64 i)], [.cells (dia N m), .cells (bls (clO N m i).1)]⟩)
    (fun s => match get s.env 6 with | .int _ x => 2 * N - x.toNat | _ => 0) ⟨_, qv.qy [1, 3, 4, 5, 6], 0, by omega, rfl⟩ ?_
  rintro s ⟨i, hi, rfl⟩
  have hw : qo .i64 ((i : Int) + 1) = ((i + 1 : Nat) : Int) := by rw [wrap64 (by omega) (by omega)]; rfl
  have hle := qiw N m i
  have hw2 : qo .i64 ((((clO N m i).2 : Nat) : Int) + 1) = (((clO N m i).2 + 1 : Nat) : Int) := by rw [wrap64 (by omega) (by omega)]; rfl
  have hlen := qdt N m i
  by_cases hlt : i < 2 * N
  · have hli : (i : Int) < ((2 * N : Nat) : Int) := by omega
    obtain ⟨g1, _⟩ := vo (show i < 16 by omega)
    have g2 : i < 16 := by omega
    have g3 := Gp (l := (clO N m i).1) (i := i) (by omega)
    by_cases hx : (clO N m i).1.getD i false = true
    · have e := qd8 hx
      simp (maxSteps := 3000000) only [qf, zH, bc, Q8, qa, w2, hw, hli, g1, g2, g3, hx, zs, hlen, iE, iN, iB, iC, iL, iD, iA, iS, iM, qa, zZ, ↓qt, ↓reduceIte, reduceCtorEq, nA, nM, nS, nE, nL, nD]; try simp only [qa, zY]
      refine ⟨_, qv.qy [1, 3, 4, 5, 6], ⟨i + 1, by omega, ?_⟩, ?_⟩
      · simp only [zL, ↓reduceIte, reduceCtorEq, nE, nA]; rw [e]
      · simp only [zL, ↓reduceIte, reduceCtorEq, nE, nA]; omega
    · have hx' : (clO N m i).1.getD i false = false := by simpa using hx
      have e := qdz hx
      simp (maxSteps := 3000000) only [qf, zH, bc, qa, w2, hw, hw2, hli, g1, g2, g3, hx', zs, hlen, iE, iN, iB, iC, iL, iD, iA, iS, iM, qa, zZ, ↓qt, ↓reduceIte, reduceCtorEq, nA, nM, nS, nE, nL, nD]; try simp only [qa, zY]
      refine WA.jl qds (fun s => ∃ (f x : Nat) (l : List Bool), ClA N m (clS N m 17 (clO N m i).1 i) f l x ∧ s = ⟨[(1, .ptr 0 0), (3, .int .i64 N), (4, .ptr 1 0), (5, .int .i64 ((clO N m i).2 + 1 : Nat)), (6, .int .i64 i), (7, .int .i64 x)], [.cells (dia N m), .cells (bls l)]⟩)
        (fun s : St => match s.hp[1]? with | some (AO.cells l) => u4 l | _ => 0) ⟨_, qv.qy [1, 3, 4, 5, 6, 7], 17, i, (clO N m i).1, ⟨rfl, by have := qf1 (clO N m i).1; omega, hlt, hlen⟩, rfl⟩ ?_
      rintro s ⟨f, x, l, hA, rfl⟩
      have hxn := hA.2.2.1
      have hll := hA.2.2.2
      obtain ⟨g4, _⟩ := vo (show x < 16 by omega)
      have g5 : x < 16 := by omega
      have g6 := Gp (l := l) (i := x) (by omega)
      by_cases hlx : l.getD x false = true
      · have e2 := qmo hA hlx
        simp (maxSteps := 3000000) only [qf, zH, Qx, Q8, qa, hw, g4, g5, g6, hlx, zs, hll, Bool.not_true, iE, iN, iB, iC, iL, iD, iA, iS, iM, qa, zZ, ↓qt, ↓reduceIte, reduceCtorEq, nA, nM, nS, nE, nL, nD]; try simp only [qa, zY]
        refine ⟨_, qv.qy [1, 3, 4, 5, 6], ⟨i + 1, by omega, ?_⟩, ?_⟩
        · simp only [zL, ↓reduceIte, reduceCtorEq, nE, nA]; rw [e, ← e2]
        · simp only [zL, ↓reduceIte, reduceCtorEq, nE, nA]; omega
      · have hlx' : l.getD x false = false := by simpa using hlx
        obtain ⟨f', rfl, hA'⟩ := qj9 hN hA hlx'
        have hy := (hp x hxn).1
        obtain ⟨g7, _⟩ := vo (show m.getD x 0 < 16 by omega)
        have g8 : m.getD x 0 < 16 := by omega
        have d1 := X7 (n := (N : Int)) (m := m) (i := x) (by omega)
        have v1 : qo .i64 ((m.getD x 0 : Nat) : Int) = ((m.getD x 0 : Nat) : Int) := gh (by omega)
        have v2 : qo .i64 (((m.getD x 0 : Nat) : Int) + (N : Int)) = ((m.getD x 0 + N : Nat) : Int) := by rw [wrap64 (by omega) (by omega)]; rfl
        have v3 : ¬ ((2 * N : Nat) : Int) = 0 := by omega
        have f1 := Qa (met := l) (k := x) (by omega) hlx'
        have f2 := Wz (met := l.set x true) (k := m.getD x 0)
        simp (maxSteps := 3000000) only [qf, zH, Qx, qa, w2, g4, g5, g6, g7, g8, hlx', zs, Gh, hll, List.length_set, d1, v1, v2, v3, qyp, qh, hml, AV.one, Bool.not_false, and_self, iE, iN, iB, iC, iL, iD, iA, iS, iM, qa, zZ, ↓qt, ↓reduceIte, reduceCtorEq, nA, nM, nS, nE, nL, nD]; try simp only [qa, zY]
        refine ⟨_, qv.qy [1, 3, 4, 5, 6, 7], ⟨f', _, _, hA', ?_⟩, ?_⟩
        · simp only [zL, ↓reduceIte, reduceCtorEq, nE, nA]
        · simp only [zL, ↓reduceIte, reduceCtorEq, nE, nA]; omega
  · have hli : ¬ (i : Int) < ((2 * N : Nat) : Int) := by omega
    obtain rfl : i = 2 * N := by omega
    simp (maxSteps := 3000000) only [qf, zH, bc, Vi, qa, w2, hli, Int.lt_irrefl, iE, iN, iB, iC, iL, iD, iA, iS, iM, qa, zZ, ↓qt, ↓reduceIte, reduceCtorEq, nA, nM, nS, nE, nL, nD]; try simp only [qa, zY]
    rfl
def Ui : List AV → Option AV
  | [.agg l] => match yh l with
    | some (n, m) => chk (0 ≤ n ∧ isS n.toNat m = true) (some (.int .i64 (clN n.toNat m : Nat)))
    | none => none
  | _ => none
theorem qlt {f : FuncId} (h : ∀ (N : Nat) m, okD m → isS N m = true → Am.Fn Try.prog f [.agg (dia N m)] [] (fun v H' => v = .int .i64 (clN N m : Nat) ∧ H' = [])) : Am.Callee Try.prog f (ql Ui) := Am.Callee.plain fun xs v he => by
  unfold Ui at he
  split at he
  · rename_i l
    split at he
    · rename_i n m hd1
      obtain ⟨⟨a1, a2⟩, he2⟩ := qk he
      cases he2
      obtain ⟨rfl, hm⟩ := xd hd1
      obtain ⟨N, rfl⟩ : ∃ N : Nat, n = N := ⟨n.toNat, by omega⟩
      simp only [Int.toNat_natCast] at a2 ⊢
      exact ⟨by simp only [AV.zq, AV.zj, qe, Bool.and_self], rfl, h N m hm a2⟩
    · cases he
  · cases he
noncomputable def qzh : zh := (q1i.put 80 (ql Ui))
theorem qjf : qq Try.prog qzh := (qds.put (qlt qee))
theorem Xx : qzh 168 = some (Vz 1 g_n) := rfl
def qc4 : AC := .skip
theorem qml : zl Try.prog 163 = some ⟨2, qc4, []⟩ := by kernel_rfl
theorem qmn (i : Int) : Am.Fn Try.prog 163 [.int .i64 i] [] (fun v H' => v = .tup [] ∧ H' = []) := by
  refine Am.Fn.xy (R := fun v => v = _) qjf mixed qml (by simp) (by simp) ?_
  simp (maxSteps := 3000000) only [qf, zH, qc4, Xx, g_n, iE, iN, iB, iC, iL, iD, iA, iS, iM, qa, zZ, ↓qt, ↓reduceIte, reduceCtorEq, nA, nM, nS, nE, nL, nD]; try simp only [qa, zY]
def kn : List AV → Option AV
  | [.int .i64 _] => some (.tup [])
  | _ => none
theorem qwv : Am.Callee Try.prog 163 (ql kn) := Am.Callee.plain fun xs v he => by
  unfold kn at he
  split at he
  · cases he; exact ⟨rfl, rfl, qmn _⟩
  · cases he
def qcs : AC := .region [oL 1 0,oK 2 .add 1 1,oT 0 2]
theorem ql8 : zl Try.prog 164 = some ⟨3, qcs, []⟩ := by kernel_rfl
theorem qmi (k : Nat) (hk : k ≤ 1000) : Am.Fn Try.prog 164 [.ptr 0 0] [.cells [.int .i64 k]] (fun r H' => r = .tup [] ∧ H' = [.cells [.int .i64 (k + 1 : Nat)]]) := by
  refine Am.Fn.ofB qjf mixed ql8 (by simp [AV.qm, AV.under]) (fun j o hj => by
    match j, hj with
    | 0, hj => cases hj; exact ⟨trivial, trivial⟩
    | j + 1, hj => simp at hj) ?_
  have hw : qo .i64 ((k : Int) + 1) = ((k + 1 : Nat) : Int) := by rw [wrap64 (by omega) (by omega)]; rfl
  simp (maxSteps := 3000000) only [qf, zH, qcs, Xx, g_n, hw, AV.one, iE, iN, iB, iC, iL, iD, iA, iS, iM, qa, zZ, ↓qt, ↓reduceIte, reduceCtorEq, nA, nM, nS, nE, nL, nD]; try simp only [qa, zY]
  refine Ret.xj [0] ⟨⟨Nat.le_refl 1, rfl, by decide⟩, ?_⟩ (rs := []) rfl rfl (by simp [zx]) ?_ ⟨rfl, ?_⟩
  · simp only [qd _ _ (qe _ _), zK, ↓reduceIte, reduceCtorEq, nE, nB, nA]
  · intro j l; cases j <;> simp [q6, AO.ren]
  · simp only [qb _ _ (qe _ _), zL, ↓reduceIte, reduceCtorEq, nE, nA]
theorem qrd : Am.Callee Try.prog 164 xe := Callee.fp fun hp xs v hp' he => by
  unfold xe at he
  split at he
  · rename_i b
    split at he
    · rename_i k hb
      obtain ⟨⟨a1, a2⟩, he2⟩ := qk he
      simp only [Option.some.injEq, Prod.mk.injEq] at he2
      obtain ⟨rfl, rfl⟩ := he2
      obtain ⟨k', rfl⟩ : ∃ k' : Nat, k = k' := ⟨k.toNat, by omega⟩
      refine ⟨[(b, 0)], [.ptr 0 0], _, _, _, qmi k' (by omega), by simp [AV.ren, AV.ze, ofL], by simp [x8], ⟨⟨rfl, by simp only [AO.ren, AV.ze, AV.ren]; exact hb⟩, trivial⟩, rfl, ⟨⟨trivial, trivial⟩, trivial⟩, ⟨by simp [AV.under], trivial⟩, by simp [AV.ren, AV.ze], ?_⟩
      simp [after, upd, AO.wr, AO.ren, AV.ze, AV.ren]
    · cases he
  · cases he
noncomputable def qt7 : zh := ((qzh.put 163 (ql kn)).put 164 (xe))
theorem qdl : qq Try.prog qt7 := ((qjf.put (qwv)).put (qrd))
theorem jk : qt7 168 = some (Vz 1 g_n) := rfl
theorem j5 : qt7 163 = some (ql kn) := rfl
theorem va : qt7 164 = some (xe) := rfl
def H2 (N : Nat) (m : List Nat) (k : Nat) : List AO := [.ro (dia N m), .cells [.int .i64 k]]
theorem qts {N : Nat} {m : List Nat} {k n : Nat} : ∀ (j : Nat) (o : AO), (H2 N m k)[j]? = some o → o.under n := fun j o hj => by
  match j, hj with
  | 0, hj => cases hj; exact qi _ _ (qe _ _)
  | 1, hj => cases hj; exact ⟨trivial, trivial⟩
  | j + 2, hj => simp [H2] at hj
def ui : AC := .seq (.seq (.region [oM 23 9,o0 24 (.z6 16 1 (.t 7) (.t 23)),oL 25 24,o0 26 (.un .not (.t 25))]) (.cond 26 .skip (.exit 2))) (.block 3 (.seq (.region [oM 27 0,oM 28 9,o0 29 (.jf (.t 27)),oF 30 1 29,o0 31 (.z6 16 1 (.t 30) (.t 28)),oL 32 31,o0 33 (.conv .i64 (.t 32)),oM 10 33]) (.seq (.region [oM 34 9,oM 35 10,o0 36 (.z6 16 1 (.t 7) (.t 34)),⟨none,none,.op (.uw (.t 36) (.c (.bool true)))⟩,o0 37 (.z6 16 1 (.t 7) (.t 35)),⟨none,none,.op (.uw (.t 37) (.c (.bool true)))⟩]) (.seq (.region [oM 38 1,oM 39 9,⟨some 40,none,.call (.t 38) [.t 39]⟩]) (.region [oM 41 10,oM 42 6,oP 43 .add 41 42,oM 44 6,o0 45 (.bin .mul (.c (.int .i64 2)) (.t 44)),oP 46 .rem 43 45,oM 9 46])))))
def Q1 : AC := .region [oM 47 2,⟨some 48,none,.call (.t 47) []⟩]
def ud : AC := .region [oK 49 .add 16 1,oM 16 49]
def vm : AC := .seq (.region [oP 17 .lss 16 15]) (.seq (.cond 17 .skip (.exit 0)) (.seq (.block 1 (.seq (.region [oM 18 16,oM 8 18]) (.seq (.seq (.region [oM 19 8,o0 20 (.z6 16 1 (.t 7) (.t 19)),oL 21 20]) (.cond 21 (.exit 1) .skip)) (.seq (.seq (.region [oM 22 8,oM 9 22]) (.block 2 (.loop ui))) Q1)))) ud))
def X1 : AC := .seq (.region [oM 11 0,oC 12 168 [.t 11],o0 13 (.build [(.bool false),(.bool false),(.bool false),(.bool false),(.bool false),(.bool false),(.bool false),(.bool false),(.bool false),(.bool false),(.bool false),(.bool false),(.bool false),(.bool false),(.bool false),(.bool false)] []),o0 7 (.alloc [(.bool false),(.bool false),(.bool false),(.bool false),(.bool false),(.bool false),(.bool false),(.bool false),(.bool false),(.bool false),(.bool false),(.bool false),(.bool false),(.bool false),(.bool false),(.bool false)]),oM 6 12,oS 16 7 13]) (.seq (.region [oM 14 6,o0 15 (.bin .mul (.c (.int .i64 2)) (.t 14)),oI 16 0]) (.block 0 (.loop vm)))
theorem Gr : zl Try.prog 162 = some ⟨50, X1, []⟩ := by kernel_rfl
theorem qk8 (N : Nat) (m : List Nat) (hm : okD m) (hs : isS N m = true) :
    Am.Fn Try.prog 162 [.ptr 0 0, .fn 163 [] [], .fn 164 [] [.ptr 1 0]] (H2 N m 0) (fun v H' => v = .tup [] ∧ H' = H2 N m (clN N m)) := by
  refine Am.Fn.ofB qdl mixed Gr (by simp [AV.qm, AV.under, H2]) qts ?_
  obtain ⟨hN, hp, _⟩ := z7 hs
  have hml := hm.1
  have w2 : qo .i64 (2 * (N : Int)) = ((2 * N : Nat) : Int) := by rw [wrap64 (by omega) (by omega)]; omega
  unfold H2
  simp (maxSteps := 3000000) only [qf, zH, X1, jk, j5, va, xe, g_n, kn, w2, qh, hml, bg, Yu, iE, iN, iB, iC, iL, iD, iA, iS, iM, qa, zZ, ↓qt, ↓reduceIte, reduceCtorEq, nA, nM, nS, nE, nL, nD]; try simp only [qa, zY]
  refine ⟨rfl, ?_⟩
  refine WA.jl qdl (fun s => ∃ i : Nat, i ≤ 2 * N ∧ s = ⟨[(0, .ptr 0 0), (1, .fn 163 [] []), (2, .fn 164 [] [.ptr 1 0]), (6, .int .i64 N), (7, .ptr 2 0), (15, .int .i64 (2 * N : Nat)), (16, .int .i64 i)], [.ro (dia N m), .cells [.int .i64 ((clO N m i).2 : Nat)], .cells (bls (clO N m i).1)]⟩)
    (fun s => match get s.env 16 with | .int _ x => 2 * N - x.toNat | _ => 0) ⟨_, qv.qy [0, 1, 2, 6, 7, 15, 16], 0, by omega, rfl⟩ ?_
  rintro s ⟨i, hi, rfl⟩
  have hw : qo .i64 ((i : Int) + 1) = ((i + 1 : Nat) : Int) := by rw [wrap64 (by omega) (by omega)]; rfl
  have hle := qiw N m i
  have hlen := qdt N m i
  by_cases hlt : i < 2 * N
  · have hli : (i : Int) < ((2 * N : Nat) : Int) := by omega
    obtain ⟨g1, _⟩ := vo (show i < 16 by omega)
    have g2 : i < 16 := by omega
    have g3 := Gp (l := (clO N m i).1) (i := i) (by omega)
    by_cases hx : (clO N m i).1.getD i false = true
    · have e := qd8 hx
      simp (maxSteps := 3000000) only [qf, zH, vm, ud, jk, j5, va, xe, g_n, kn, w2, hw, hli, g1, g2, g3, hx, zs, hlen, iE, iN, iB, iC, iL, iD, iA, iS, iM, qa, zZ, ↓qt, ↓reduceIte, reduceCtorEq, nA, nM, nS, nE, nL, nD]; try simp only [qa, zY]
      refine ⟨_, qv.qy [0, 1, 2, 6, 7, 15, 16], ⟨i + 1, by omega, ?_⟩, ?_⟩
      · simp only [zL, ↓reduceIte, reduceCtorEq, nE, nA]; rw [e]
      · simp only [zL, ↓reduceIte, reduceCtorEq, nE, nA]; omega
    · have hx' : (clO N m i).1.getD i false = false := by simpa using hx
      have e := qdz hx
      simp (maxSteps := 3000000) only [qf, zH, vm, jk, j5, va, xe, g_n, kn, w2, hw, hli, g1, g2, g3, hx', zs, hlen, iE, iN, iB, iC, iL, iD, iA, iS, iM, qa, zZ, ↓qt, ↓reduceIte, reduceCtorEq, nA, nM, nS, nE, nL, nD]; try simp only [qa, zY]
      refine WA.jl qdl (fun s => ∃ (f x : Nat) (l : List Bool), ClA N m (clS N m 17 (clO N m i).1 i) f l x ∧ s = ⟨[(0, .ptr 0 0), (1, .fn 163 [] []), (2, .fn 164 [] [.ptr 1 0]), (6, .int .i64 N), (7, .ptr 2 0), (15, .int .i64 (2 * N : Nat)), (16, .int .i64 i), (9, .int .i64 x)], [.ro (dia N m), .cells [.int .i64 ((clO N m i).2 : Nat)], .cells (bls l)]⟩)
        (fun s : St => match s.hp[2]? with | some (AO.cells l) => u4 l | _ => 0) ⟨_, qv.qy [0, 1, 2, 6, 7, 15, 16, 9], 17, i, (clO N m i).1, ⟨rfl, by have := qf1 (clO N m i).1; omega, hlt, hlen⟩, rfl⟩ ?_
      rintro s ⟨f, x, l, hA, rfl⟩
      have hxn := hA.2.2.1
      have hll := hA.2.2.2
      obtain ⟨g4, _⟩ := vo (show x < 16 by omega)
      have g5 : x < 16 := by omega
      have g6 := Gp (l := l) (i := x) (by omega)
      by_cases hlx : l.getD x false = true
      · have e2 := qmo hA hlx
        have h1000 : (0 : Int) ≤ (((clO N m i).2 : Nat) : Int) ∧ (((clO N m i).2 : Nat) : Int) ≤ 1000 := by omega
        have hs1 : (((clO N m i).2 : Nat) : Int) + 1 = (((clO N m i).2 + 1 : Nat) : Int) := rfl
        simp (maxSteps := 3000000) only [qf, zH, ui, Q1, ud, jk, j5, va, xe, g_n, kn, hw, g4, g5, g6, hlx, h1000, hs1, zs, hll, Bool.not_true, iE, iN, iB, iC, iL, iD, iA, iS, iM, qa, zZ, ↓qt, ↓reduceIte, reduceCtorEq, nA, nM, nS, nE, nL, nD]; try simp only [qa, zY]
        refine ⟨_, qv.qy [0, 1, 2, 6, 7, 15, 16], ⟨i + 1, by omega, ?_⟩, ?_⟩
        · simp only [zL, ↓reduceIte, reduceCtorEq, nE, nA]; rw [e, ← e2]
        · simp only [zL, ↓reduceIte, reduceCtorEq, nE, nA]; omega
      · have hlx' : l.getD x false = false := by simpa using hlx
        obtain ⟨f', rfl, hA'⟩ := qj9 hN hA hlx'
        have hy := (hp x hxn).1
        obtain ⟨g7, _⟩ := vo (show m.getD x 0 < 16 by omega)
        have g8 : m.getD x 0 < 16 := by omega
        have d1 := X7 (n := (N : Int)) (m := m) (i := x) (by omega)
        have v1 : qo .i64 ((m.getD x 0 : Nat) : Int) = ((m.getD x 0 : Nat) : Int) := gh (by omega)
        have v2 : qo .i64 (((m.getD x 0 : Nat) : Int) + (N : Int)) = ((m.getD x 0 + N : Nat) : Int) := by rw [wrap64 (by omega) (by omega)]; rfl
        have v3 : ¬ ((2 * N : Nat) : Int) = 0 := by omega
        have f1 := Qa (met := l) (k := x) (by omega) hlx'
        have f2 := Wz (met := l.set x true) (k := m.getD x 0)
        simp (maxSteps := 3000000) only [qf, zH, ui, jk, j5, va, xe, g_n, kn, w2, g4, g5, g6, g7, g8, hlx', zs, Gh, hll, List.length_set, d1, v1, v2, v3, qyp, qh, hml, AV.one, Bool.not_false, and_self, iE, iN, iB, iC, iL, iD, iA, iS, iM, qa, zZ, ↓qt, ↓reduceIte, reduceCtorEq, nA, nM, nS, nE, nL, nD]; try simp only [qa, zY]
        refine ⟨_, qv.qy [0, 1, 2, 6, 7, 15, 16, 9], ⟨f', _, _, hA', ?_⟩, ?_⟩
        · simp only [zL, ↓reduceIte, reduceCtorEq, nE, nA]
        · simp only [zL, ↓reduceIte, reduceCtorEq, nE, nA]; omega
  · have hli : ¬ (i : Int) < ((2 * N : Nat) : Int) := by omega
    obtain rfl : i = 2 * N := by omega
    simp (maxSteps := 3000000) only [qf, zH, vm, jk, j5, va, xe, g_n, kn, w2, hli, Int.lt_irrefl, iE, iN, iB, iC, iL, iD, iA, iS, iM, qa, zZ, ↓qt, ↓reduceIte, reduceCtorEq, nA, nM, nS, nE, nL, nD]; try simp only [qa, zY]
    refine Ret.xj [0, 1] ⟨⟨by simp, rfl, by decide⟩, ?_⟩ (rs := []) rfl rfl (by simp [zx]) ?_ ⟨rfl, ?_⟩
    · simp only [qd _ _ (qe _ _), zK, ↓reduceIte, reduceCtorEq, nE, nB, nA]
    · intro j l h
      match j, h with
      | 0, _ => exact ⟨_, rfl⟩
      | 1, h => simp [q6, AO.ren] at h
      | j + 2, h => simp [q6] at h
    · simp only [qb _ _ (qe _ _), zL, ↓reduceIte, reduceCtorEq, nE, nA]
      rfl
def Wy : BE := fun hp xs => match xs with
  | [.ptr b1 0, .fn 163 [] [], .fn 164 [] [.ptr b4 0]] => match rdD hp b1, hp[b4]? with
    | some (n, m), some (.cells [.int .i64 k]) => chk ((0 ≤ n ∧ k = 0) ∧ isS n.toNat m = true ∧ b4 ≠ b1) (some (.tup [], hp.set b4 (.cells [.int .i64 (clN n.toNat m : Nat)])))
    | _, _ => none
  | _ => none
theorem qsf : Am.Callee Try.prog 162 Wy := Callee.fp fun hp xs v hp' he => by
  unfold Wy at he
  split at he
  · rename_i b1 b4
    split at he
    · rename_i n m k hd1 h4
      obtain ⟨⟨⟨a1, a2⟩, a3, a4⟩, he2⟩ := qk he
      simp only [Option.some.injEq, Prod.mk.injEq] at he2
      obtain ⟨rfl, rfl⟩ := he2
      subst a2
      obtain ⟨N, rfl⟩ : ∃ N : Nat, n = N := ⟨n.toNat, by omega⟩
      simp only [Int.toNat_natCast] at a3 ⊢
      obtain ⟨hd, f1⟩ := qf9 hd1
      refine ⟨[(b1, 0), (b4, 0)], [.ptr 0 0, .fn 163 [] [], .fn 164 [] [.ptr 1 0]], H2 N m 0, _, _, qk8 N m hd a3, by simp [AV.ren, AV.ze, ofL], by simp [x8],
        ⟨f1 _, ⟨rfl, by rw [h4]; simp [AO.ren, AV.ze, AV.ren]⟩, trivial⟩, by simp [Xm, H2, AO.wr, a4], ⟨qi _ _ (qe _ _), ⟨trivial, trivial⟩, trivial⟩, by simp [AV.qm, AV.under, H2], by simp [AV.ren, AV.ze], ?_⟩
      simp [after, upd, AO.wr, AO.ren, H2, AV.ze, AV.ren, qb _ _ (qe _ _)]
    · cases he
  · cases he
noncomputable def qs1 : zh := (qt7.put 162 (Wy))
theorem qqm : qq Try.prog qs1 := (qdl.put (qsf))
theorem qas : qs1 163 = some (ql kn) := rfl
theorem Ky : qs1 164 = some (xe) := rfl
theorem Vc : qs1 162 = some (Wy) := rfl
def qhz : AC := .seq (.region [o0 1 (.box (.t 0)),oI 2 0]) (.seq (.region [o0 3 (.alloc [.int .i64 0]),⟨none,none,.op (.uw (.t 3) (.c (.int .i64 0)))⟩]) (.seq (.region [o0 4 (.qdf 164 [] [.t 3]),⟨some 5,none,.call (.c (.fn 162 [] [])) [.t 1,(.c (.fn 163 [] [])),.t 4]⟩]) (.seq (.region [oL 6 3,oM 2 6]) .ret)))
theorem qrr : zl Try.prog 126 = some ⟨7, qhz, [.slot 2]⟩ := by kernel_rfl
theorem qr5 (N : Nat) (m : List Nat) (hm : okD m) (hs : isS N m = true) :
    Am.Fn Try.prog 126 [.agg (dia N m)] [] (fun v H' => v = .int .i64 (clN N m : Nat) ∧ H' = []) := by
  refine Am.Fn.xy (R := fun v => v = _) qqm mixed qrr (by simp) (by simp) ?_
  have hml := hm.1
  have hdo := q9 (n := (N : Int)) hm
  have hN0 : (0 : Int) ≤ (N : Int) := by omega
  simp (maxSteps := 3000000) only [qf, zH, qhz, qas, Ky, Vc, Wy, xe, kn, rdD, qh, hml, za hml, jq, hdo, hs, hN0, Int.toNat_natCast, AV.one, and_self, true_and, and_true, Ne, iE, iN, iB, iC, iL, iD, iA, iS, iM, qa, zZ, ↓qt, ↓reduceIte, reduceCtorEq, nA, nM, nS, nE, nL, nD]; try simp only [qa, zY]
  exact ⟨rfl, rfl⟩
noncomputable def qoe : zh := (qs1.put 126 (ql Ui))
theorem qar : qq Try.prog qoe := (qqm.put (qlt qr5))
end Go.Proofs.Ytfhckbbgmblhbaa
namespace Go.Proofs.Ytfhckbbgmblhbaa
open Go.Am Go.Dia
open Nat renaming reduceAdd → nA, reduceMul → nM, reduceSub → nS, reduceEqDiff → nE, reduceLT → nL, reduceLeDiff → nD, reduceBEq → nB
open Int renaming reduceEq → iE, reduceNe → iN, reduceBEq → iB, reduceBNe → iC, reduceLT → iL, reduceLE → iD, reduceAdd → iA, reduceSub → iS, reduceMul → iM
set_option linter.unusedSimpArgs false
set_option linter.unusedVariables false
set_option maxRecDepth 4000
set_option maxHeartbeats 2000000
theorem qk7 (N : Nat) (m : List Nat) : ∀ i, 1 ≤ (clO N m (i + 1)).2
  | 0 => by rw [qdz (by simp [clO])]; simp [clO]
  | i + 1 => by
    have := qk7 N m i
    by_cases h : (clO N m (i + 1)).1.getD (i + 1) false = true
    · rw [qd8 h]; exact this
    · rw [qdz h]; show 1 ≤ (clO N m (i + 1)).2 + 1; omega
theorem qum {N : Nat} {m : List Nat} (hN : 1 ≤ N ∧ N ≤ 8) : 1 ≤ clN N m ∧ clN N m ≤ 16 := by
  have h1 := qk7 N m (2 * N - 1)
  have h2 := qiw N m (2 * N)
  rw [show 2 * N - 1 + 1 = 2 * N by omega] at h1
  unfold clN; omega
def trK (p c : Int) (j : Nat) (t : Int × List Nat × Int) : Int := t.2.2 * vu p c (clN t.1.toNat t.2.1 - j)
def trU (p c : Int) (j : Nat) (ts : List (Int × List Nat × Int)) : Int := ts.foldl (fun acc t => acc + trK p c j t) 0
theorem qfp {p c : Int} {j : Nat} {ts : List (Int × List Nat × Int)} {k : Nat} (h : k < ts.length) : trU p c j (ts.take (k + 1)) = trU p c j (ts.take k) + trK p c j ts[k] := by
  rw [List.take_succ_eq_append_getElem h, trU, List.foldl_append]; rfl
theorem qnq {p c n : Int} {j : Nat} {ts : List (Int × List Nat × Int)} (hp : 2 ≤ p ∧ p ≤ 97) (hg : xa p n ts) {k : Nat} (h : k < ts.length) : 0 ≤ trK p c j ts[k] ∧ trK p c j ts[k] ≤ 9216 := by
  have h1 := hg.fac _ (List.getElem_mem h)
  have h2 := qd0 (c := c) hp.1 (clN ts[k].1.toNat ts[k].2.1 - j)
  have h3 : trK p c j ts[k] ≤ 96 * 96 := Int.mul_le_mul (by omega) (by omega) h2.1 (by omega)
  exact ⟨Int.mul_nonneg (by omega) h2.1, by omega⟩
theorem qje {p c n : Int} {j : Nat} {ts : List (Int × List Nat × Int)} (hp : 2 ≤ p ∧ p ≤ 97) (hg : xa p n ts) : ∀ k, k ≤ ts.length → 0 ≤ trU p c j (ts.take k) ∧ trU p c j (ts.take k) ≤ 9216 * k
  | 0, _ => by simp [trU]
  | k + 1, hk => by
    have h1 := qje (c := c) (j := j) hp hg k (by omega)
    have h2 := qnq (c := c) (j := j) hp hg (k := k) (by omega)
    rw [qfp (by omega)]
    omega
noncomputable def qmj (p a n : Int) (w : List Int) : Int := (trU p (yp p a) 1 (ku p a n w)).emod p
theorem bo : qoe 80 = some (ql Ui) := rfl
theorem k9 : qoe 69 = some (ql Xw) := rfl
theorem ga : qoe 55 = some (Wx) := rfl
def Qz : AC := .seq (.seq (.region [oM 17 11,oF 18 3 9,oL 19 18,o0 20 (.len .slc (.t 19)),oP 21 .lss 17 20]) (.cond 21 .skip (.exit 0))) (.seq (.block 1 (.draw true [oM 24 10,oF 25 3 9,oL 26 25,oM 27 11,oX 28 18 26 27,oF 29 17 28,oL 30 29,oM 31 0,oF 32 1 9,oL 33 32,oF 34 3 9,oL 35 34,oM 36 11,oX 37 18 35 36,oF 38 0 37,oN 39 17 38,oM 45 0,oC 40 80 [.t 39],oK 41 .sub 40 1,oC 42 69 [.t 31,.t 33,.t 41],oP 43 .mul 30 42,oP 44 .add 24 43,oP 46 .rem 44 45,oM 10 46])) (.region [oM 22 11,oK 23 .add 22 1,oM 11 23]))
def Vu : AC := .seq (.region [oM 47 10,oM 8 47]) .ret
def Bf : AC := .seq (.region [oI 8 0]) (.seq (.region [oM 12 0,oM 13 1,oM 14 2,oM 15 3,oC 16 55 [.t 12,.t 13,.t 14,.t 15],oZ 9,oS 4 9 16,oI 10 0]) (.seq (.seq (.region [oI 11 0]) (.block 0 (.loop Qz))) Vu))
theorem qfn : zl Try.prog 60 = some ⟨48, Bf, [.slot 8]⟩ := by kernel_rfl
theorem qd6 (p a n : Int) (w : List Int) (h : okI p a) (hn : 2 ≤ n ∧ n ≤ 6) (hl : w.length ≤ 24) (hbw : w.any (we n) = false) :
    Am.Fn Try.prog 60 [.int .i64 p, .int .i64 a, .int .i64 n, .slc 0 0 w.length false 0] [.ro (xm w)] (fun v H' => v = .int .i64 (qmj p a n w) ∧ H' = [.ro (xm w)]) := by
  refine Am.Fn.xy (R := fun v => v = _) qar mixed qfn (by simp [AV.qm, AV.under]) (vg (qn _)) ?_
  have hws := ur w
  have hla := xg w
  have hb := vi h.1
  have ha := h.2
  have hlb := Wr h
  have hbr := Qo h hn hbw w.length (Nat.le_refl _)
  rw [List.take_length] at hbr
  have hg := hbr.1
  have hbl := hbr.2
  unfold qmj
  simp (maxSteps := 3000000) only [qf, zH, Bf, bo, k9, ga, Wx, Ui, Xw, ue, elemV, vd, qb _ _ (qc _), qb _ _ (qe _ _), hws, hla, hl, h, hn, hbw, and_self, iE, iN, iB, iC, iL, iD, iA, iS, iM, qa, zZ, ↓qt, ↓reduceIte, reduceCtorEq, nA, nM, nS, nE, nL, nD]; try simp only [qa, zY]
  generalize ku p a n w = ts at *
  generalize yp p a = c at *
  have hal := zb hg.ok
  refine ⟨rfl, ?_⟩
  refine WA.jl qar (fun s => ∃ k : Nat, k ≤ ts.length ∧ s = ⟨[(0, .int .i64 p), (9, .ptr 1 0), (10, .int .i64 ((trU p c 1 (ts.take k)).emod p)), (11, .int .i64 k)], [.ro (xm w), .cells [.int .i64 p, .int .i64 c, .int .i64 n, .slc 2 0 ts.length false 0], .vec 18 (qx ts)]⟩)
    (fun s => match get s.env 11 with | .int _ x => ts.length - x.toNat | _ => 0) ⟨_, qv.can [0, 9, 10, 11] (by simp only [Ys, zC, nB, nD, nA, nE, ↓reduceIte, reduceCtorEq]; rfl), 0, by omega, ?_⟩ ?_
  · simp only [qb _ _ (qc _), qb _ _ (qn _), zL, ↓reduceIte, reduceCtorEq, nE, nA]
    rfl
  rintro s ⟨k, hk, rfl⟩
  by_cases hlt : k < ts.length
  · have hw : qo .i64 ((k : Int) + 1) = ((k + 1 : Nat) : Int) := by rw [wrap64 (by omega) (by omega)]; rfl
    have hli : (k : Int) < (ts.length : Int) := by omega
    have hk0 : (0 : Int) ≤ k := by omega
    have hd := kx hg.ok hlt
    have hf := Ww hg.ok hlt
    have hok := hg.ok _ (List.getElem_mem hlt)
    have hsz := hg.dia _ (List.getElem_mem hlt)
    have hfc := hg.fac _ (List.getElem_mem hlt)
    have hsu := qfp (p := p) (c := c) (j := 1) hlt
    have hkb := qnq (c := c) (j := 1) hb hg hlt
    have hub := qje (c := c) (j := 1) hb hg k hk
    have hem : 0 ≤ (trU p c 1 (ts.take k)).emod p ∧ (trU p c 1 (ts.take k)).emod p ≤ p - 1 := ⟨Int.emod_nonneg _ (by omega), Int.le_sub_one_of_lt (Int.emod_lt_of_pos _ (by omega))⟩
    have hkd : trK p c 1 ts[k] = ts[k].2.2 * vu p c (clN n.toNat ts[k].2.1 - 1) := by unfold trK; rw [hsz.1]
    rw [hsz.1] at hd
    have hsm := hsz.2
    have hcb := qum (m := ts[k].2.1) (z7 hsm).1
    have hb1 : k * 18 < ts.length * 18 := by omega
    have hb2 : k * 18 + 17 ≤ ts.length * 18 := by omega
    have hb3 : k * 18 + 17 < ts.length * 18 := by omega
    have hn0 : 0 ≤ n := by omega
    have hwc : qo .i64 (((clN n.toNat ts[k].2.1 : Nat) : Int) - 1) = ((clN n.toNat ts[k].2.1 - 1 : Nat) : Int) := by rw [wrap64 (by omega) (by omega)]; omega
    have hcb2 : (0 : Int) ≤ ((clN n.toNat ts[k].2.1 - 1 : Nat) : Int) ∧ ((clN n.toNat ts[k].2.1 - 1 : Nat) : Int) ≤ 1000000 := by omega
    have hwm : qo .i64 (ts[k].2.2 * vu p c (clN n.toNat ts[k].2.1 - 1)) = trK p c 1 ts[k] := by rw [← hkd]; exact wrap64 (by omega) (by omega)
    have hwa : qo .i64 ((trU p c 1 (ts.take k)).emod p + trK p c 1 ts[k]) = (trU p c 1 (ts.take k)).emod p + trK p c 1 ts[k] := wrap64 (by omega) (by omega)
    have hp0 : ¬ p = 0 := by omega
    have htm : ((trU p c 1 (ts.take k)).emod p + trK p c 1 ts[k]).tmod p = (trU p c 1 (ts.take (k + 1))).emod p := by
      rw [Int.tmod_eq_emod_of_nonneg (by omega), hsu]; exact Int.emod_add_emod _ _ _
    simp (maxSteps := 3000000) only [qf, zH, Qz, bo, k9, ga, Wx, Ui, Xw, ue, elemV, vd, qb _ _ (qc _), qb _ _ (qe _ _), hli, hk0, hal, hb1, hb2, hb3, hd, hf, hw, q9 hok, hsm, hn0, hwc, hcb2, hb, hlb, hwm, hwa, hp0, htm, Int.toNat_natCast, qh, and_self, iE, iN, iB, iC, iL, iD, iA, iS, iM, qa, zZ, ↓qt, ↓reduceIte, reduceCtorEq, nA, nM, nS, nE, nL, nD]; try simp only [qa, zY]
    repeat' refine And.intro (by first | rfl | exact ⟨_, rfl⟩) ?_
    refine ⟨_, qv.can [0, 9, 10, 11] (by simp only [Ys, zC, nB, nD, nA, nE, ↓reduceIte, reduceCtorEq]; rfl), ⟨k + 1, by omega, ?_⟩, ?_⟩
    · simp only [qb _ _ (qc _), qb _ _ (qn _), zL, ↓reduceIte, reduceCtorEq, nE, nA]
    · simp only [zL, ↓reduceIte, reduceCtorEq, nE, nA]; omega
  · have hli : ¬ (k : Int) < (ts.length : Int) := by omega
    obtain rfl : k = ts.length := by omega
    simp (maxSteps := 3000000) only [qf, zH, Qz, Vu, bo, k9, ga, Wx, Ui, Xw, ue, elemV, vd, qb _ _ (qc _), qb _ _ (qe _ _), hli, Int.lt_irrefl, iE, iN, iB, iC, iL, iD, iA, iS, iM, qa, zZ, ↓qt, ↓reduceIte, reduceCtorEq, nA, nM, nS, nE, nL, nD]; try simp only [qa, zY]
    rw [List.take_length]
    exact ⟨⟨_, rfl⟩, rfl⟩
theorem Z9 : qoe 126 = some (ql Ui) := rfl
theorem Xq : qoe 75 = some (ql uz) := rfl
def b9 : AC := .seq (.region [oP 14 .lss 13 12]) (.seq (.cond 14 .skip (.exit 0)) (.seq (.block 1 (.seq (.region [oX 15 18 11 13,oN 16 18 15,o0 7 (.alloc [.int .i64 0,.int .u8 0,.int .u8 0,.int .u8 0,.int .u8 0,.int .u8 0,.int .u8 0,.int .u8 0,.int .u8 0,.int .u8 0,.int .u8 0,.int .u8 0,.int .u8 0,.int .u8 0,.int .u8 0,.int .u8 0,.int .u8 0,.int .i64 0]),oS 18 7 16]) (.draw true [oM 17 5,oF 18 17 7,oL 19 18,oM 20 0,o0 21 (.jf (.t 20)),oF 22 1 21,oL 23 22,oF 24 0 7,oN 25 17 24,oM 27 1,oM 29 0,o0 30 (.jf (.t 29)),oF 31 0 30,oL 32 31,oC 26 126 [.t 25],oP 28 .sub 26 27,oC 33 75 [.t 23,.t 28,.t 32],oP 34 .mul 19 33,oP 35 .add 17 34,oM 5 35]))) (.region [oK 36 .add 13 1,oM 13 36])))
def Z1 : AC := .seq (.region [oM 37 5,oM 38 0,o0 39 (.jf (.t 38)),oF 40 0 39,oL 41 40,oP 42 .rem 37 41,oM 4 42]) .ret
def V7 : AC := .seq (.region [oI 4 0]) (.seq (.region [oI 5 0]) (.seq (.seq (.region [oM 8 0,o0 9 (.jf (.t 8)),oF 10 3 9,oL 11 10,o0 12 (.len .slc (.t 11)),oI 13 0]) (.block 0 (.loop b9))) Z1))
theorem qa0 : zl Try.prog 61 = some ⟨43, V7, [.slot 4]⟩ := by kernel_rfl
theorem qr3 (p c n : Int) (j : Nat) (ts : List (Int × List Nat × Int)) (hj : j ≤ 1) (hb : 2 ≤ p ∧ p ≤ 97) (hlb : 0 ≤ c ∧ c ≤ p - 1) (hn : 1 ≤ n ∧ n ≤ 8) (hg : xa p n ts) (hl : ts.length ≤ 300) :
    Am.Fn Try.prog 61 [.ptr 1 0, .int .i64 j] [.ro (qx ts), .ro (elC p c n ts.length)] (fun v H' => v = .int .i64 ((trU p c j ts).emod p) ∧ H' = [.ro (qx ts), .ro (elC p c n ts.length)]) := by
  refine Am.Fn.xy (R := fun v => v = _) qar mixed qa0 (by simp [AV.qm, AV.under]) ?_ ?_
  · intro j o hj
    match j, hj with
    | 0, hj => cases hj; exact qi _ _ (qc _)
    | 1, hj => cases hj; exact ⟨trivial, trivial, trivial, by simp [AV.under], trivial⟩
    | j + 2, hj => simp at hj
  have hal := zb hg.ok
  have hp0 : ¬ p = 0 := by omega
  simp (maxSteps := 3000000) only [qf, zH, V7, Z9, Xq, Ui, uz, elC, hal, iE, iN, iB, iC, iL, iD, iA, iS, iM, qa, zZ, ↓qt, ↓reduceIte, reduceCtorEq, nA, nM, nS, nE, nL, nD]; try simp only [qa, zY]
  refine WA.jl qar (fun s => ∃ k : Nat, k ≤ ts.length ∧ s = ⟨[(0, .ptr 1 0), (1, .int .i64 j), (5, .int .i64 (trU p c j (ts.take k))), (11, .slc 0 0 ts.length false 0), (12, .int .i64 ts.length), (13, .int .i64 k)], [.ro (qx ts), .ro [.int .i64 p, .int .i64 c, .int .i64 n, .slc 0 0 ts.length false 0]]⟩)
    (fun s => match get s.env 13 with | .int _ x => ts.length - x.toNat | _ => 0) ⟨_, qv.qy [0, 1, 5, 11, 12, 13], 0, by omega, rfl⟩ ?_
  rintro s ⟨k, hk, rfl⟩
  by_cases hlt : k < ts.length
  · have hw : qo .i64 ((k : Int) + 1) = ((k + 1 : Nat) : Int) := by rw [wrap64 (by omega) (by omega)]; rfl
    have hli : (k : Int) < (ts.length : Int) := by omega
    have hk0 : (0 : Int) ≤ k := by omega
    have hg0 := Z8 hg.ok hlt
    have hok := hg.ok _ (List.getElem_mem hlt)
    have hsz := hg.dia _ (List.getElem_mem hlt)
    have hfc := hg.fac _ (List.getElem_mem hlt)
    have hsu := qfp (p := p) (c := c) (j := j) hlt
    have hkb := qnq (c := c) (j := j) hb hg hlt
    have hub := qje (c := c) (j := j) hb hg k hk
    have hkd : trK p c j ts[k] = ts[k].2.2 * vu p c (clN n.toNat ts[k].2.1 - j) := by unfold trK; rw [hsz.1]
    have hov := gb (t := (0, List.replicate 16 0, 0)) (u := ts[k]) (by simp) hok.1
    have htl := xi hok
    have htd := U3 hok
    have htf := Zl hok
    rw [hsz.1] at htd
    have hsm := hsz.2
    have hcb := qum (m := ts[k].2.1) (z7 hsm).1
    have hb1 : k * 18 < ts.length * 18 := by omega
    have hb2 : k * 18 + 18 ≤ ts.length * 18 := by omega
    have hn0 : 0 ≤ n := by omega
    have hwc : qo .i64 (((clN n.toNat ts[k].2.1 : Nat) : Int) - (j : Int)) = ((clN n.toNat ts[k].2.1 - j : Nat) : Int) := by rw [wrap64 (by omega) (by omega)]; omega
    have hcb2 : (0 : Int) ≤ ((clN n.toNat ts[k].2.1 - j : Nat) : Int) ∧ ((clN n.toNat ts[k].2.1 - j : Nat) : Int) ≤ 1000000 := by omega
    have hwm : qo .i64 (ts[k].2.2 * vu p c (clN n.toNat ts[k].2.1 - j)) = trK p c j ts[k] := by rw [← hkd]; exact wrap64 (by omega) (by omega)
    have hwa : qo .i64 (trU p c j (ts.take k) + trK p c j ts[k]) = trU p c j (ts.take (k + 1)) := by rw [hsu]; exact wrap64 (by omega) (by omega)
    simp (maxSteps := 3000000) only [qf, zH, b9, Z9, Xq, Ui, uz, hli, hk0, hal, hb1, hb2, hg0, ji, htl, htd, htf, ve, w8, hov, hw, q9 hok, hsm, hn0, hwc, hcb2, hb, hlb, hwm, hwa, Int.toNat_natCast, qh, List.length_replicate, Nat.le_refl, and_self, iE, iN, iB, iC, iL, iD, iA, iS, iM, qa, zZ, ↓qt, ↓reduceIte, reduceCtorEq, nA, nM, nS, nE, nL, nD]; try simp only [qa, zY]
    repeat' refine And.intro (by first | rfl | exact ⟨_, rfl⟩) ?_
    refine ⟨_, qv.can [0, 1, 5, 11, 12, 13] (by simp only [Ys, zC, nB, nD, nA, nE, ↓reduceIte, reduceCtorEq]; rfl), ⟨k + 1, by omega, ?_⟩, ?_⟩
    · simp only [qb _ _ (qc _), zL, ↓reduceIte, reduceCtorEq, nE, nA]
    · simp only [zL, ↓reduceIte, reduceCtorEq, nE, nA]; omega
  · have hli : ¬ (k : Int) < (ts.length : Int) := by omega
    obtain rfl : k = ts.length := by omega
    have hub := qje (c := c) (j := j) hb hg ts.length (Nat.le_refl _)
    rw [List.take_length] at hub
    simp (maxSteps := 3000000) only [qf, zH, b9, Z1, Z9, Xq, Ui, uz, hli, hp0, Int.lt_irrefl, List.take_length, iE, iN, iB, iC, iL, iD, iA, iS, iM, qa, zZ, ↓qt, ↓reduceIte, reduceCtorEq, nA, nM, nS, nE, nL, nD]; try simp only [qa, zY]
    rw [Int.tmod_eq_emod_of_nonneg hub.1]
    exact ⟨⟨_, rfl⟩, rfl⟩
def Vv : BE := fun hp xs => match xs with
  | [.ptr b 0, .int .i64 j] => match rd hp b with
    | some (.int .i64 p :: .int .i64 c :: .int .i64 n :: .slc ba 0 la false 0 :: _) => match rd hp ba with
      | some L => match Va la L with
        | some a => chk ((0 ≤ j ∧ j ≤ 1) ∧ ((2 ≤ p ∧ p ≤ 97) ∧ (0 ≤ c ∧ c ≤ p - 1) ∧ (1 ≤ n ∧ n ≤ 8)) ∧ Gt p n a ∧ la ≤ 300) (some (.int .i64 ((trU p c j.toNat a).emod p), hp))
        | none => none
      | none => none
    | _ => none
  | _ => none
theorem qxn : Am.Callee Try.prog 61 Vv := Callee.fp fun hp xs v hp' he => by
  unfold Vv at he
  split at he
  · rename_i b j
    split at he
    · rename_i p c n ba la L0 hL0
      split at he
      · rename_i L hL
        split at he
        · rename_i a h1
          obtain ⟨⟨⟨a1, a2⟩, ⟨a3, a4, a7⟩, a5, a6⟩, he2⟩ := qk he
          simp only [Option.some.injEq, Prod.mk.injEq] at he2
          obtain ⟨rfl, rfl⟩ := he2
          obtain ⟨e1, e2, e3, e4⟩ := Qf h1
          have g1 := zb e2
          have hgg := a5.qjg e2
          obtain ⟨k, rfl⟩ : ∃ k : Nat, j = k := ⟨j.toNat, by omega⟩
          rw [Int.toNat_natCast]
          have hfn := qr3 p c n k a (by omega) a3 a4 a7 hgg (by omega)
          refine ⟨[(ba, 0), (b, 0)], [.ptr 1 0, .int .i64 k], _, _, _, hfn, by simp [AV.ren, AV.ze, ofL], rfl,
            ⟨⟨L, hL, by omega, by rw [List.drop_zero, qb _ _ (qc _), g1, e1]; exact e3⟩, ⟨_, hL0, by simp, by simp [AV.ze, AV.ren, ofL, e1]⟩, trivial⟩, rfl,
            ⟨qi _ _ (qc _), ⟨trivial, trivial, trivial, by simp [AV.under], trivial⟩, trivial⟩, ⟨by simp [AV.under], trivial, trivial⟩, by simp [AV.ren], ?_⟩
          simp [after, upd, AO.wr]
        · cases he
      · cases he
    · cases he
  · cases he
noncomputable def qc5 : BE := fun hp xs => match xs with
  | [.int .i64 p, .int .i64 a, .int .i64 n, .slc b 0 k false 0] => match rd hp b with
    | some L => match Gs L with
      | some w => chk ((k = w.length ∧ k ≤ 24) ∧ okI p a ∧ (2 ≤ n ∧ n ≤ 6) ∧ w.any (we n) = false) (some (.int .i64 (qmj p a n w), hp))
      | none => none
    | none => none
  | _ => none
theorem q1f : Am.Callee Try.prog 60 qc5 := Callee.fp fun hp xs v hp' he => by
  unfold qc5 at he
  split at he
  · rename_i p a n b k
    split at he
    · rename_i L hL
      split at he
      · rename_i w hw
        have h9 := qk he
        clear he
        obtain ⟨⟨⟨k1, k2⟩, h1, h2, h3⟩, h8⟩ := h9
        simp only [Option.some.injEq, Prod.mk.injEq] at h8
        obtain ⟨rfl, rfl⟩ := h8
        subst k1
        have e1 := wj hw
        subst e1
        refine ⟨[(b, 0)], [.int .i64 p, .int .i64 a, .int .i64 n, .slc 0 0 w.length false 0], _, _, _, qd6 p a n w h1 h2 k2 h3, by simp [AV.ren, AV.ze, ofL], rfl, ⟨⟨_, hL, by simp, by simp [qb _ _ (qn _)]⟩, trivial⟩, rfl, ⟨qi _ _ (qn _), trivial⟩, ?_, by simp [AV.ren], ?_⟩
        · simp [AV.under, AV.qm]
        · simp [after, upd, AO.wr]
      · cases he
    · cases he
  · cases he
noncomputable def qsa : zh := ((qoe.put 61 (Vv)).put 60 (qc5))
theorem qim : qq Try.prog qsa := ((qar.put (qxn)).put (q1f))
noncomputable def Ya (p a n : Int) (w : List Int) : Int × Int := if Ve p a = true ∧ wt n w = true then (qmj p a n w, 0) else (0, 2)
theorem vl : qsa 28 = some (Ga) := rfl
theorem j7 : qsa 61 = some (Vv) := rfl
theorem w9 : qsa 60 = some (qc5) := rfl
theorem uh : qsa 52 = some (kj) := rfl
def We : AC := .seq (.region [oI 8 0,oI 9 0]) (.seq (.seq (.region [oM 10 0,oM 11 1,oM 12 2,oM 13 3,oC 14 52 [.t 10,.t 11,.t 12,.t 13],o0 15 (.un .not (.t 14))]) (.cond 15 (.seq (.region [oI 8 0,oI 9 2]) .ret) .skip)) (.seq (.region [oM 16 0,oM 17 1,oM 18 2,oM 19 3,oC 20 60 [.t 16,.t 17,.t 18,.t 19],oM 8 20,oI 9 0]) .ret))
theorem qgo : zl Try.prog 23 = some ⟨21, We, [.slot 8, .slot 9]⟩ := by kernel_rfl
theorem qgk (p a n : Int) (w : List Int) (hl : w.length ≤ 2000000) :
    Am.Fn Try.prog 23 [.int .i64 p, .int .i64 a, .int .i64 n, .slc 0 0 w.length false 0] [.ro (xm w)] (fun v H' => v = .tup [.int .i64 (Ya p a n w).1, .int .i64 (Ya p a n w).2] ∧ H' = [.ro (xm w)]) := by
  refine Am.Fn.xy (R := fun v => v = _) qim mixed qgo (by simp [AV.qm, AV.under]) (vg (qn _)) ?_
  have hws := ur w
  have hla := xg w
  by_cases hc : Ve p a = true ∧ wt n w = true
  · have e : Ya p a n w = (qmj p a n w, 0) := if_pos hc
    have e1 : Jq p a n w = (p, yp p a, n, ku p a n w, 0) := if_pos hc
    obtain ⟨hb, hw⟩ := hc
    have ho := qis hb
    obtain ⟨h1, h2, h3⟩ := qey hw
    have hpb := vi ho.1
    have hlb := Wr ho
    have hbr := Qo ho h1 h3 w.length (Nat.le_refl _)
    rw [List.take_length] at hbr
    have hg1 := hbr.1.dec
    have htp := jb hbr.1.ok
    have hbl : (ku p a n w).length ≤ 300 := by omega
    have c1 : 1 ≤ n ∧ n ≤ 8 := by omega
    have hem : qmj p a n w = (trU p (yp p a) 1 (ku p a n w)).emod p := rfl
    simp (maxSteps := 3000000) only [qf, zH, We, vl, j7, w9, uh, Ga, qc5, kj, Vv, ue, elemV, vd, qb _ _ (qc _), qb _ _ (qe _ _), e1, hws, hla, hl, hb, hw, Bool.and_true, ho, h1, h2, h3, hpb, hlb, hg1, htp, hbl, c1, Int.toNat_one, and_self, iE, iN, iB, iC, iL, iD, iA, iS, iM, qa, zZ, ↓qt, ↓reduceIte, reduceCtorEq, nA, nM, nS, nE, nL, nD]; try simp only [qa, zY]
    rw [e]
    exact ⟨⟨_, rfl⟩, rfl⟩
  · have e : Ya p a n w = (0, 2) := if_neg hc
    have e1 : Jq p a n w = (0, 0, 0, [], 2) := if_neg hc
    have hf : (Ve p a && wt n w) = false := by
      cases h1 : Ve p a <;> cases h2 : wt n w <;> simp_all
    simp (maxSteps := 3000000) only [qf, zH, We, vl, j7, w9, uh, Ga, qc5, kj, Vv, ue, elemV, vd, qb _ _ (qc _), qb _ _ (qe _ _), e1, hws, hla, hl, hf, and_self, iE, iN, iB, iC, iL, iD, iA, iS, iM, qa, zZ, ↓qt, ↓reduceIte, reduceCtorEq, nA, nM, nS, nE, nL, nD]; try simp only [qa, zY]
    rw [e]
    exact ⟨⟨_, rfl⟩, rfl⟩
def Wc : AC := .seq (.region [oI 8 0,oI 9 0]) (.seq (.region [oM 13 0,oM 14 1,oM 15 2,oM 16 3,oC 17 28 [.t 13,.t 14,.t 15,.t 16],oM 12 17,oE 18 0 12,oE 19 1 12,oZ 10,oS 4 10 18,oM 11 19]) (.seq (.seq (.region [oM 20 11,oK 21 .neq 20 0]) (.cond 21 (.seq (.region [oM 22 11,oI 8 0,oM 9 22]) .ret) .skip)) (.seq (.region [oC 23 61 [.t 10,(.c (.int .i64 1))],oM 8 23,oI 9 0]) .ret)))
theorem qgw : zl Try.prog 24 = some ⟨24, Wc, [.slot 8, .slot 9]⟩ := by kernel_rfl
theorem qge (p a n : Int) (w : List Int) (hl : w.length ≤ 2000000) :
    Am.Fn Try.prog 24 [.int .i64 p, .int .i64 a, .int .i64 n, .slc 0 0 w.length false 0] [.ro (xm w)] (fun v H' => v = .tup [.int .i64 (Ya p a n w).1, .int .i64 (Ya p a n w).2] ∧ H' = [.ro (xm w)]) := by
  refine Am.Fn.xy (R := fun v => v = _) qim mixed qgw (by simp [AV.qm, AV.under]) (vg (qn _)) ?_
  have hws := ur w
  have hla := xg w
  by_cases hc : Ve p a = true ∧ wt n w = true
  · have e : Ya p a n w = (qmj p a n w, 0) := if_pos hc
    have e1 : Jq p a n w = (p, yp p a, n, ku p a n w, 0) := if_pos hc
    obtain ⟨hb, hw⟩ := hc
    have ho := qis hb
    obtain ⟨h1, h2, h3⟩ := qey hw
    have hpb := vi ho.1
    have hlb := Wr ho
    have hbr := Qo ho h1 h3 w.length (Nat.le_refl _)
    rw [List.take_length] at hbr
    have hg1 := hbr.1.dec
    have htp := jb hbr.1.ok
    have hbl : (ku p a n w).length ≤ 300 := by omega
    have c1 : 1 ≤ n ∧ n ≤ 8 := by omega
    have hem : qmj p a n w = (trU p (yp p a) 1 (ku p a n w)).emod p := rfl
    simp (maxSteps := 3000000) only [qf, zH, Wc, vl, j7, w9, uh, Ga, qc5, kj, Vv, ue, elemV, vd, qb _ _ (qc _), qb _ _ (qe _ _), e1, hws, hla, hl, hb, hw, Bool.and_true, ho, h1, h2, h3, hpb, hlb, hg1, htp, hbl, c1, Int.toNat_one, and_self, iE, iN, iB, iC, iL, iD, iA, iS, iM, qa, zZ, ↓qt, ↓reduceIte, reduceCtorEq, nA, nM, nS, nE, nL, nD]; try simp only [qa, zY]
    rw [e]
    exact ⟨rfl, ⟨_, rfl⟩, rfl⟩
  · have e : Ya p a n w = (0, 2) := if_neg hc
    have e1 : Jq p a n w = (0, 0, 0, [], 2) := if_neg hc
    have hf : (Ve p a && wt n w) = false := by
      cases h1 : Ve p a <;> cases h2 : wt n w <;> simp_all
    simp (maxSteps := 3000000) only [qf, zH, Wc, vl, j7, w9, uh, Ga, qc5, kj, Vv, ue, elemV, vd, qb _ _ (qc _), qb _ _ (qe _ _), e1, hws, hla, hl, hf, and_self, iE, iN, iB, iC, iL, iD, iA, iS, iM, qa, zZ, ↓qt, ↓reduceIte, reduceCtorEq, nA, nM, nS, nE, nL, nD]; try simp only [qa, zY]
    rw [e]
    exact ⟨rfl, ⟨_, rfl⟩, rfl⟩
def qc8 (F : Int → Int → Int → List Int → Int × Int) : BE := fun hp xs => match xs with
  | [.int .i64 p, .int .i64 a, .int .i64 n, .slc b 0 k false 0] => match rd hp b with
    | some L => match Gs L with
      | some w => chk (k = w.length ∧ k ≤ 2000000) (some (.tup [.int .i64 (F p a n w).1, .int .i64 (F p a n w).2], hp))
      | none => none
    | none => none
  | _ => none
theorem qm6 {f : FuncId} {F : Int → Int → Int → List Int → Int × Int} (hf : ∀ (p a n : Int) (w : List Int), w.length ≤ 2000000 → Am.Fn Try.prog f [.int .i64 p, .int .i64 a, .int .i64 n, .slc 0 0 w.length false 0] [.ro (xm w)] (fun v H' => v = .tup [.int .i64 (F p a n w).1, .int .i64 (F p a n w).2] ∧ H' = [.ro (xm w)])) : Am.Callee Try.prog f (qc8 F) := Callee.fp fun hp xs v hp' he => by
  unfold qc8 at he
  split at he
  · rename_i p a n b k
    split at he
    · rename_i L hL
      split at he
      · rename_i w hw
        have h9 := qk he
        clear he
        obtain ⟨⟨k1, k2⟩, h8⟩ := h9
        simp only [Option.some.injEq, Prod.mk.injEq] at h8
        obtain ⟨rfl, rfl⟩ := h8
        subst k1
        have e1 := wj hw
        subst e1
        refine ⟨[(b, 0)], [.int .i64 p, .int .i64 a, .int .i64 n, .slc 0 0 w.length false 0], _, _, _, hf p a n w k2, by simp [AV.ren, AV.ze, ofL], rfl, ⟨⟨_, hL, by simp, by simp [qb _ _ (qn _)]⟩, trivial⟩, rfl, ⟨qi _ _ (qn _), trivial⟩, ?_, by simp [AV.ren, AV.ze], ?_⟩
        · simp [AV.under, AV.qm]
        · simp [after, upd, AO.wr]
      · cases he
    · cases he
  · cases he
noncomputable def qs3 : zh := ((qsa.put 23 (qc8 Ya)).put 24 (qc8 Ya))
theorem qwr : qq Try.prog qs3 := ((qim.put (qm6 qgk)).put (qm6 qge))
theorem Xs : qs3 24 = some (qc8 Ya) := rfl
theorem Xu : qs3 23 = some (qc8 Ya) := rfl
theorem Jr : qs3 22 = some (qg6) := rfl
theorem J5 : qs3 20 = some (qgz) := rfl
def bh : AC := .seq (.region [oB 8 false]) (.seq (.seq (.region [oM 14 3,o0 15 (.len .slc (.t 14)),oK 16 .gtr 15 1048576]) (.cond 16 (.seq (.region [oB 8 true]) .ret) .skip)) (.seq (.region [oM 18 0,oM 19 1,oM 20 2,oM 21 3,oC 22 20 [.t 21],oC 23 23 [.t 18,.t 19,.t 20,.t 22],oM 17 23,oE 24 0 17,oE 25 1 17,oM 9 24,oM 10 25]) (.seq (.region [oM 26 3,oC 27 20 [.t 26],oM 11 27]) (.seq (.region [oM 29 0,oM 30 1,oM 31 2,oM 32 11,oC 33 24 [.t 29,.t 30,.t 31,.t 32],oM 28 33,oE 34 0 28,oE 35 1 28,oM 12 34,oM 13 35]) (.seq (.seq (.region [oM 36 12,oM 37 9,oP 38 .neq 36 37,oM 39 38,oG 40 39 false (.mov (.t 13)),oG 41 39 false (.mov (.t 10)),oG 42 39 false (.bin .neq (.t 40) (.t 41)),o0 43 (.pick (.t 39) (.c (.bool true)) (.t 42))]) (.cond 43 (.seq (.region [oB 8 false]) .ret) .skip)) (.seq (.seq (.region [oM 44 11,oM 45 3,oC 46 20 [.t 45],oC 47 22 [.t 44,.t 46],o0 48 (.un .not (.t 47))]) (.cond 48 (.seq (.region [oB 8 false]) .ret) .skip)) (.seq (.region [oB 8 true]) .ret)))))))
theorem Gd : zl Try.prog 5 = some ⟨49, bh, [.slot 8]⟩ := by kernel_rfl
theorem qgj (H : List AO) (X : AV) (p a n : Int) (w : List Int) (h : qmy H X w) (hl : w.length ≤ 9223372036854775807) : Am.Fn Try.prog 5 [.int .i64 p, .int .i64 a, .int .i64 n, X] H (fun v H' => v = .bool true ∧ H' = H) := by
  refine Am.Fn.xy (R := fun v => v = _) qwr mixed Gd (by simp) (Ko h) ?_
  have hX := qtd h
  by_cases hlt : (1048576 : Int) < w.length
  · rcases h with ⟨rfl, rfl, h0⟩ | ⟨rfl, rfl, h0⟩ | ⟨cap, rfl, hc, rfl⟩
    · simp [h0] at hlt
    · simp [h0] at hlt
    · simp (maxSteps := 3000000) only [qf, zH, bh, Xs, Xu, Jr, J5, qg6, qgz, qc8, iE, iN, iB, iC, iL, iD, iA, iS, iM, hlt, qa, zZ, ↓qt, ↓reduceIte, reduceCtorEq, nA, nM, nS, nE, nL, nD]; try simp only [qa, zY]
      exact ⟨_, rfl⟩
  · generalize he : Ya p a n w = r
    obtain ⟨B, E⟩ := r
    have b0 := ur w
    have b1 := xg w
    have h8 : w.length ≤ 2000000 := by omega
    have hz : ¬ (1048576 : Int) < ((0 : Nat) : Int) := by omega
    rcases h with ⟨rfl, rfl, h0⟩ | ⟨rfl, rfl, h0⟩ | ⟨cap, rfl, hc, rfl⟩
    all_goals simp only [List.cons_append, List.nil_append] at hX
    all_goals (simp (maxSteps := 3000000) only [qf, zH, bh, Xs, Xu, Jr, J5, qg6, qgz, qc8, iE, iN, iB, iC, iL, iD, iA, iS, iM, ue, elemV, vd, qb _ _ (qc _), qb _ _ (qe _ _), hX, hlt, hz, he, b0, b1, h8, bne_self_eq_false, qa, zZ, ↓qt, ↓reduceIte, reduceCtorEq, nA, nM, nS, nE, nL, nD]; try simp only [qa, zY])
    all_goals exact ⟨_, rfl⟩
end Go.Proofs.Ytfhckbbgmblhbaa
namespace Go.Proofs.Ytfhckbbgmblhbaa
open Go.Am Go.Dia Go.ChangeShapes
open Nat renaming reduceAdd → nA, reduceMul → nM, reduceSub → nS, reduceEqDiff → nE, reduceLT → nL, reduceLeDiff → nD, reduceBEq → nB
open Int renaming reduceEq → iE, reduceNe → iN, reduceBEq → iB, reduceBNe → iC, reduceLT → iL, reduceLE → iD, reduceAdd → iA, reduceSub → iS, reduceMul → iM
set_option linter.unusedSimpArgs false
set_option linter.unusedVariables false
set_option maxRecDepth 4000
set_option maxHeartbeats 1000000
section
variable {H : Type} {enc : TypeId × Value → H} {P : Program} {w : World} {base : Nat} {spare : Nat → Bool} {held : Bool}
theorem qq9 (ι : Nat → Am.Loc) {l : List AV} (h : AV.zj l = true) : qu (fun _ => Am.Loc.nil) l = qu ι l := by
  rw [jv (ι' := ι) (n := 0) (fun j hj => by omega) l (qi _ _ h)]
theorem qht {ι : Nat → Am.Loc} : ∀ (ts : List Int) (L : List Value) (off : Nat), (∀ i (hi : i < ts.length), L[off + i]? = some (.int .i64 ts[i])) →
    (L.drop off).take ts.length = qu ι (xm ts)
  | [], L, off, h => by simp [xm, qu]
  | t :: ts, L, off, h => by
    have h0 := h 0 (by simp)
    rw [Nat.add_zero, List.getElem_cons_zero] at h0
    obtain ⟨hlt, h1⟩ := List.getElem?_eq_some_iff.1 h0
    have ih := qht (ι := ι) ts L (off + 1) fun i hi => by
      have := h (i + 1) (by simpa using hi)
      rw [show off + 1 + i = off + (i + 1) by omega]
      simpa using this
    rw [List.drop_eq_getElem_cons hlt, List.length_cons, List.take_succ_cons, h1, ih]
    rfl
theorem qr7 {tX tI : TypeId} (hts : P.underlying tX = some (.slice tI)) (hti : P.underlying tI = some (.int .i64)) (hci : P.cellsOf tI = 1) {a0 : Option Addr} {len0 cap0 : Nat} {d : DataW H} {ps : List MemPlace} (hs : ∀ b, spare b = true) (h : DataW.Trod enc P w base spare held tX (.slice a0 len0 cap0) d ps) :
    ∃ (X : AV) (Hp : List AO) (ts : List Int) (l : Am.Loc), qmy Hp X ts ∧ Value.slice a0 len0 cap0 = gam (fun _ => l) X ∧ (∀ o ∈ Hp, Xk (fun _ => l) w.heap l o ∧ o.wr = false) ∧ ts.length ≤ 9223372036854775807 := by
  obtain ⟨fuel, hf⟩ := h
  have hf' : DataW.trod enc P w base spare held fuel tX [.slice a0 len0 cap0] = some (d, ps) := hf
  rcases DataW.trod_slice hts hf' with ⟨e, _⟩ | ⟨a, len, cap, elems, rest, n, e, e2, e3, hb, hlc, hcm, hel, hei, hrs, _⟩
  · rw [List.cons.injEq] at e
    rw [e.1]
    exact ⟨.v (.slice none 0 0), [], [], Am.Loc.nil, .inl ⟨rfl, rfl, rfl⟩, rfl, (fun o h => by cases h), by simp⟩
  rw [List.cons.injEq] at e2
  rw [e2.1]
  rw [hci] at hei hrs
  have hmax : len ≤ 9223372036854775807 := Nat.le_trans (Nat.le_trans hlc hcm) (by decide)
  have hget : ∀ i, i < len → ∃ t : Int, w.cells? base (a.add (i * 1)) 1 = some [.int .i64 t] := fun i hi => by
    have h1 := hei i hi
    rw [List.getElem?_eq_getElem (by omega)] at h1
    simp only [Option.bind_eq_some_iff] at h1
    obtain ⟨cs', h2, h3⟩ := h1
    obtain ⟨t, rfl, _, _⟩ := DataW.trod_int hti h3
    exact ⟨t, h2⟩
  let f : Nat → Int := fun i => if hi : i < len then Classical.choose (hget i hi) else 0
  have hf : ∀ i, i < len → w.cells? base (a.add (i * 1)) 1 = some [.int .i64 (f i)] := fun i hi => by
    have := Classical.choose_spec (hget i hi)
    simp only [f, dif_pos hi]; exact this
  have hlen : ((List.range len).map f).length = len := by simp
  have hcell : ∀ i, i < len → w.cell? (a.add i) = some (.int .i64 (f i)) := fun i hi => by
    have := (World.cells?_some (hf i hi)).2.2 0 (by omega)
    rw [Addr.add_add, Nat.mul_one, Nat.add_zero] at this
    simpa using this
  by_cases hc0 : cap = 0
  · obtain rfl : len = 0 := by omega
    subst hc0
    refine ⟨.slc 0 0 0 true 0, [.dead], [], ⟨a, false, 0⟩, .inr (.inl ⟨rfl, rfl, rfl⟩), rfl, fun o h => ?_, by simp⟩
    rw [List.mem_singleton] at h; subst h; exact ⟨trivial, rfl⟩
  have h0 : ∃ v, w.cell? (a.add 0) = some v := by
    by_cases hl0 : len = 0
    · subst hl0
      obtain ⟨h1, h2⟩ := hrs (hs _)
      have h3 := h2 0 (by omega)
      rw [List.getElem?_eq_getElem (by omega)] at h3
      simp only [Option.bind_eq_some_iff] at h3
      obtain ⟨cs', h4, _⟩ := h3
      have h5 := World.cells?_some h4
      have h6 := h5.2.2 0 (by omega)
      have h7 : cs'.length = 1 := h5.2.1
      rw [List.getElem?_eq_getElem (by omega)] at h6
      simp only [Nat.zero_add, Nat.zero_mul, Addr.add_add] at h6
      exact ⟨_, h6⟩
    · exact ⟨_, hcell 0 (by omega)⟩
  obtain ⟨v0, h0⟩ := h0
  obtain ⟨blk, off, spot⟩ := a
  have hspot : spot = none := by simpa [Addr.add] using World.cell?_spot h0
  subst hspot
  have hheap : ∃ c ty fz, w.heap[blk]? = some (.cells c ty fz) := by
    simp only [World.cell?, Addr.add_plain] at h0
    split at h0
    · rename_i c ty fz hh; exact ⟨c, ty, fz, hh⟩
    · cases h0
  obtain ⟨c, ty, fz, hh⟩ := hheap
  have hc : ∀ i, w.cell? ⟨blk, i, none⟩ = c.toList[i]? := fun i => by simp [World.cell?, hh]
  have hoff : off ≤ c.toList.length := by
    rw [Addr.add_plain, Nat.add_zero, hc] at h0
    have := (List.getElem?_eq_some_iff.1 h0).1
    omega
  have hscan := qht (ι := fun _ => Am.Loc.nil) ((List.range len).map f) c.toList off fun i hi => by
    rw [hlen] at hi
    have := hcell i hi
    rw [Addr.add_plain, hc] at this
    rw [this]
    simp
  rw [hlen] at hscan
  refine ⟨.slc 0 0 ((List.range len).map f).length true cap, [.ro (xm ((List.range len).map f))], (List.range len).map f, ⟨⟨blk, off, none⟩, false, 0⟩, .inr (.inr ⟨cap, rfl, by rw [hlen]; exact hlc, rfl⟩), ?_, fun o h => ?_, by rw [hlen]; exact hmax⟩
  · rw [hlen]; simp [gam, Addr.add_plain]
  · rw [List.mem_singleton] at h; subst h
    refine ⟨.inr ⟨rfl, blk, off, c, ty, fz, c.toList.take off, (c.toList.drop off).drop len, rfl, hh, by rw [List.length_take]; omega, ?_⟩, rfl⟩
    rw [← qq9 _ (qn _), ← hscan, List.append_assoc, List.take_append_drop, List.take_append_drop]
theorem qmb {Hp : List AO} {X : AV} {ts : List Int} (h : qmy Hp X ts) : X.under Hp.length := by
  rcases h with ⟨rfl, rfl, _⟩ | ⟨rfl, rfl, _⟩ | ⟨cap, rfl, _, rfl⟩ <;> simp [AV.under]
theorem qu5 {l : Am.Loc} {H : List AO} {X : AV} {ts : List Int} {heap : Array Obj} (hX : qmy H X ts) (h : ∀ o ∈ H, Xk (fun _ => l) heap l o ∧ o.wr = false) : HOk (fun _ => l) H heap := by
  refine ⟨fun j o hj => ⟨Ko hX j o hj, (h o (List.mem_of_getElem? hj)).1⟩, fun i j b hi hj => ?_⟩
  obtain ⟨o, ho, hw, _⟩ := hi
  have := (h o (List.mem_of_getElem? ho)).2
  rw [this] at hw; cases hw
end
end Go.Proofs.Ytfhckbbgmblhbaa

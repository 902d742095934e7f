/- Contracts of functions of the program, and plain laws, part 2: each text of this part is proved without further condition. -/
import Derived.Test.YtfhckbbgmblhbaaZ1
import Derived.Test.YtfhckbbgmblhbaaAmC
import Derived.Shelf.Small.Strs
namespace Go.Proofs.Ytfhckbbgmblhbaa
open Go.Am Go.Dia
open Nat renaming reduceAdd → nA, reduceMul → nM, reduceSub → nS, reduceEqDiff → nE, reduceLT → nL, reduceLeDiff → nD, reduceBEq → nB
open Int renaming reduceEq → iE, reduceNe → iN, reduceBEq → iB, reduceBNe → iC, reduceLT → iL, reduceLE → iD, reduceAdd → iA, reduceSub → iS, reduceMul → iM
set_option linter.unusedSimpArgs false
set_option linter.unusedVariables false
set_option maxRecDepth 4000
set_option maxHeartbeats 1000000
def one (b : Nat) : Ren := fun j => if j = 0 then some (b, 0) else none
theorem Callee.wr1 {f : FuncId} {g : BE} (h : ∀ hp xs v hp', g hp xs = some (v, hp') → ∃ (sz : Nat) (l l' : List AV) (b : Nat) (ys : List AV), hp[b]? = some (.vec sz l) ∧ hp' = hp.set b (.vec sz l') ∧
    AV.ze l = true ∧ AV.ze l' = true ∧ xs = AV.zk (one b) ys ∧ xs.all jc = true ∧ AV.qu 1 ys ∧ v.zo = true ∧ Am.Fn Try.prog f ys [.vec sz l] fun v' H' => v' = v ∧ H' = [.vec sz l']) : Am.Callee Try.prog f g := by
  intro hp xs v hp' he
  obtain ⟨sz, l, l', b, ys, hb, rfl, h3, h3', h4, h5, h6, h7, h8⟩ := h hp xs v hp' he
  refine ⟨[.vec sz l], ys, _, one b, [(b, 0)], h8, h4, h5, ⟨fun j hj => ?_, rfl, fun j o c hj hc => ?_, fun j k bj bk oj ok hj hk hoj hok hw hl hjk => ?_⟩, ?_, h6, ?_⟩
  · match j, hj with
    | 0, _ => rfl
  · match j, hj, hc with
    | 0, hj, hc =>
      cases hj; cases hc
      exact ⟨rfl, by simp only [AO.ren, qb _ _ h3]; exact hb⟩
    | j + 1, hj, hc => simp at hj
  · match j, k, hoj, hok with
    | 0, 0, _, _ => rfl
    | 0, k + 1, _, hok => simp at hok
    | j + 1, _, hoj, _ => simp at hoj
  · intro j o hj
    match j, hj with
    | 0, hj => cases hj; exact qj _ _ h3
    | j + 1, hj => simp at hj
  · rintro v' H' ⟨rfl, rfl⟩
    refine ⟨Xn _ _ h7, ?_⟩
    simp only [after, upd, AO.wr, if_true, AO.ren, qb _ _ h3', List.length_cons, List.length_nil, List.drop_succ_cons, List.drop_nil, List.map_nil, List.append_nil]
theorem Callee.ro1 {f : FuncId} {g : BE} (h : ∀ hp xs v hp', g hp xs = some (v, hp') → ∃ (l : List AV) (b : Nat) (ys : List AV), hp' = hp ∧ (∃ L, rd hp b = some L ∧ l.length ≤ L.length ∧ L.take l.length = l) ∧
    AV.ze l = true ∧ xs = AV.zk (one b) ys ∧ xs.all jc = true ∧ AV.qu 1 ys ∧ v.zo = true ∧ Am.Fn Try.prog f ys [.ro l] fun v' H' => v' = v ∧ H' = [.ro l]) : Am.Callee Try.prog f g := by
  intro hp xs v hp' he
  obtain ⟨l, b, ys, rfl, ⟨L, hL, h1, h2⟩, h3, h4, h5, h6, h7, h8⟩ := h hp xs v hp' he
  refine ⟨[.ro l], ys, _, one b, [(b, 0)], h8, h4, h5, ⟨fun j hj => ?_, rfl, fun j o c hj hb => ?_, fun j k bj bk oj ok hj hk hoj hok hw => ?_⟩, ?_, h6, ?_⟩
  · match j, hj with
    | 0, _ => rfl
  · match j, hj, hb with
    | 0, hj, hb =>
      cases hj; cases hb
      exact ⟨L, hL, by omega, by rw [List.drop_zero, qb _ _ h3]; exact h2⟩
    | j + 1, hj, hb => simp at hj
  · match j, hoj with
    | 0, hoj => cases hoj; cases hw
    | j + 1, hoj => simp at hoj
  · intro j o hj
    match j, hj with
    | 0, hj => cases hj; exact qj _ _ h3
    | j + 1, hj => simp at hj
  · rintro v' H' ⟨rfl, rfl⟩
    exact ⟨Xn _ _ h7, by simp [after, upd, AO.wr]⟩
def Qi : BE := fun hp xs => match xs with
  | [.slc b 0 n false 0, .int .i64 k] => match hp[b]? with
    | some (.vec 18 l) => match Ji n l with
      | some ts => chk (l.length = n * 18 ∧ 0 ≤ k ∧ k ≤ 100000000 ∧ n ≤ 2000000) (some (.int .i64 ((k.toNat + 18 * n : Nat) : Int), hp.set b (.vec 18 (zc (marks n k.toNat)))))
      | none => none
    | _ => none
  | _ => none
theorem qjt : Am.Callee Try.prog 64 Qi := Callee.wr1 fun hp xs v hp' he => by
  unfold Qi at he
  split at he
  · rename_i b n k
    split at he
    · rename_i l hb
      split at he
      · rename_i ts hts
        obtain ⟨h0, he⟩ := ql he
        simp only [Option.some.injEq, Prod.mk.injEq] at he
        obtain ⟨rfl, rfl⟩ := he
        obtain ⟨e1, e2, e3, e4⟩ := jn hts
        have hl : l = zc ts := by rw [← e3, List.take_of_length_le (by omega)]
        subst hl
        obtain ⟨k, rfl⟩ : ∃ j : Nat, k = j := ⟨k.toNat, by omega⟩
        rw [Int.toNat_natCast]
        refine ⟨18, zc ts, _, b, [.slc 0 0 ts.length false 0, .int .i64 k], hb, rfl, qc _, qc _, ?_, rfl, ⟨by simp [AV.under], trivial, trivial⟩, rfl, ?_⟩
        · simp only [AV.zk, AV.ren, one, if_true, e1, Nat.zero_add]
        · have := qjy ts k e2 (by omega) (by omega)
          rw [e1] at this ⊢
          exact this
      · cases he
    · cases he
  · cases he
def Qk : BE := fun hp xs => match xs with
  | [.slc b 0 n false 0, .int .i64 k] => match rd hp b with
    | some L => match Ji n L with
      | some ts => chk (ts = marks n k.toNat ∧ 0 ≤ k ∧ k ≤ 100000000 ∧ n ≤ 2000000) (some (.int .i64 ((k.toNat + 18 * n : Nat) : Int), hp))
      | none => none
    | _ => none
  | _ => none
theorem qj5 : Am.Callee Try.prog 65 Qk := Callee.ro1 fun hp xs v hp' he => by
  unfold Qk at he
  split at he
  · rename_i b n k
    split at he
    · rename_i L hL
      split at he
      · rename_i ts hts
        obtain ⟨h0, he⟩ := ql he
        simp only [Option.some.injEq, Prod.mk.injEq] at he
        obtain ⟨rfl, rfl⟩ := he
        obtain ⟨e1, e2, e3, e4⟩ := jn hts
        obtain ⟨k, rfl⟩ : ∃ j : Nat, k = j := ⟨k.toNat, by omega⟩
        rw [Int.toNat_natCast] at h0 ⊢
        obtain ⟨rfl, h0⟩ := h0
        have g1 := zf e2
        refine ⟨zc (marks n k), b, [.slc 0 0 n false 0, .int .i64 k], rfl, ⟨L, hL, by rw [g1, z7]; omega, by rw [g1, z7]; exact e3⟩, qc _, ?_, rfl, ⟨by simp [AV.under], trivial, trivial⟩, rfl, qkn n k (by omega) (by omega)⟩
        simp only [AV.zk, AV.ren, one, if_true, Nat.zero_add]
      · cases he
    · cases he
  · cases he
def B16 : za := ((B15.put 64 (Qi)).put 65 (Qk))
theorem qtb : qo Try.prog B16 := ((qbz.put (qjt)).put (qj5))
theorem J9 : B16 64 = some (Qi) := rfl
theorem Vn : B16 65 = some (Qk) := rfl
theorem qgh (p c n : Int) (ts : List (Int × List Nat × Int)) (k : Nat) (ht : okT ts) (hk : k ≤ 100000000) (hl : ts.length ≤ 2000000) :
    Am.Fn Try.prog 30 [elemV p c n 0 ts.length, .int .i64 k] [.vec 18 (zc ts)] (fun v H' => v = .int .i64 ((k + 18 * ts.length : Nat) : Int) ∧ H' = [.vec 18 (zc (marks ts.length k))]) := by
  refine Am.Fn.ofB qtb mixed qgi (by simp) (qlf (qc _)) ?_
  have h1 := zf ht
  simp (maxSteps := 3000000) only [Bw, elemV, J9, Vn, Qk, Qi, jx ht, h1, rd, List.getElem?_cons_zero, List.getElem?_cons_succ, qa, zZ, ↓qp, ↓reduceIte, reduceCtorEq, nA, nM, nS, nE, nL, nD]; try simp only [qa, zY]
  refine ⟨⟨by omega, by omega, hl⟩, ?_⟩
  refine Ret.xv [0] ⟨⟨Nat.le_refl 1, rfl, by decide⟩, ?_⟩ (rs := [.int .i64 ((k + 18 * ts.length : Nat) : Int)]) rfl rfl (by simp [xl]) ?_ ⟨?_, ?_⟩
  · simp only [qd _ _ (qc _), zK, ↓reduceIte, reduceCtorEq, nE, nB, nA]
  · intro j l; cases j <;> simp [zn, AO.ren]
  · simp only [xl]
    simp only [zL, ↓reduceIte, reduceCtorEq, nE, nA]
  · simp only [qb _ _ (qc _), zL, ↓reduceIte, reduceCtorEq, nE, nA]
theorem qf9 (p c m : Int) (n k : Nat) (hk : k ≤ 100000000) (hl : n ≤ 2000000) :
    Am.Fn Try.prog 31 [elemV p c m 0 n, .int .i64 k] [.ro (zc (marks n k))] (fun v H' => v = .int .i64 ((k + 18 * n : Nat) : Int) ∧ H' = [.ro (zc (marks n k))]) := by
  refine Am.Fn.xm (R := fun v => v = _) qtb mixed qf7 (by simp) (Yf (qc _)) ?_
  have h1 : Ji n (zc (marks n k)) = some (marks n k) := by have := jx (Yz n k); rwa [z7] at this
  simp (maxSteps := 3000000) only [B0, elemV, J9, Vn, Qk, Qi, h1, rd, List.getElem?_cons_zero, List.getElem?_cons_succ, qa, zZ, ↓qp, ↓reduceIte, reduceCtorEq, nA, nM, nS, nE, nL, nD]; try simp only [qa, zY]
  exact ⟨⟨by omega, by omega, hl⟩, fun h => absurd h (by omega), fun _ => ⟨_, rfl⟩⟩
def kb : BE := fun hp xs => match xs with
  | [.agg [.int .i64 p, .int .i64 c, .int .i64 m, .slc b 0 n false 0], .int .i64 k] => match hp[b]? with
    | some (.vec 18 l) => match Ji n l with
      | some ts => chk (l.length = n * 18 ∧ 0 ≤ k ∧ k ≤ 100000000 ∧ n ≤ 2000000) (some (.int .i64 ((k.toNat + 18 * n : Nat) : Int), hp.set b (.vec 18 (zc (marks n k.toNat)))))
      | none => none
    | _ => none
  | _ => none
theorem qgd : Am.Callee Try.prog 30 kb := Callee.wr1 fun hp xs v hp' he => by
  unfold kb at he
  split at he
  · rename_i p c m b n k
    split at he
    · rename_i l hb
      split at he
      · rename_i ts hts
        obtain ⟨h0, he⟩ := ql he
        simp only [Option.some.injEq, Prod.mk.injEq] at he
        obtain ⟨rfl, rfl⟩ := he
        obtain ⟨e1, e2, e3, e4⟩ := jn hts
        have hl : l = zc ts := by rw [← e3, List.take_of_length_le (by omega)]
        subst hl
        obtain ⟨k, rfl⟩ : ∃ j : Nat, k = j := ⟨k.toNat, by omega⟩
        rw [Int.toNat_natCast]
        refine ⟨18, zc ts, _, b, [elemV p c m 0 ts.length, .int .i64 k], hb, rfl, qc _, qc _, ?_, rfl, ⟨⟨trivial, trivial, trivial, by simp [AV.under], trivial⟩, trivial, trivial⟩, rfl, ?_⟩
        · simp only [elemV, AV.zk, AV.ren, one, if_true, e1, Nat.zero_add]
        · have := qgh p c m ts k e2 (by omega) (by omega)
          rw [e1] at this ⊢
          exact this
      · cases he
    · cases he
  · cases he
def kc : BE := fun hp xs => match xs with
  | [.agg [.int .i64 p, .int .i64 c, .int .i64 m, .slc b 0 n false 0], .int .i64 k] => match rd hp b with
    | some L => match Ji n L with
      | some ts => chk (ts = marks n k.toNat ∧ 0 ≤ k ∧ k ≤ 100000000 ∧ n ≤ 2000000) (some (.int .i64 ((k.toNat + 18 * n : Nat) : Int), hp))
      | none => none
    | _ => none
  | _ => none
theorem qf8 : Am.Callee Try.prog 31 kc := Callee.ro1 fun hp xs v hp' he => by
  unfold kc at he
  split at he
  · rename_i p c m b n k
    split at he
    · rename_i L hL
      split at he
      · rename_i ts hts
        obtain ⟨h0, he⟩ := ql he
        simp only [Option.some.injEq, Prod.mk.injEq] at he
        obtain ⟨rfl, rfl⟩ := he
        obtain ⟨e1, e2, e3, e4⟩ := jn hts
        obtain ⟨k, rfl⟩ : ∃ j : Nat, k = j := ⟨k.toNat, by omega⟩
        rw [Int.toNat_natCast] at h0 ⊢
        obtain ⟨rfl, h0⟩ := h0
        have g1 := zf e2
        refine ⟨zc (marks n k), b, [elemV p c m 0 n, .int .i64 k], rfl, ⟨L, hL, by rw [g1, z7]; omega, by rw [g1, z7]; exact e3⟩, qc _, ?_, rfl, ⟨⟨trivial, trivial, trivial, by simp [AV.under], trivial⟩, trivial, trivial⟩, rfl, qf9 p c m n k (by omega) (by omega)⟩
        simp only [elemV, AV.zk, AV.ren, one, if_true, Nat.zero_add]
      · cases he
    · cases he
  · cases he
def B17 : za := ((B16.put 30 (kb)).put 31 (kc))
theorem q6b : qo Try.prog B17 := ((qtb.put (qgd)).put (qf8))
def B18 : za := B17
theorem q6q : qo Try.prog B18 := q6b
def B19 : za := B18
theorem q7o : qo Try.prog B19 := q6q
def B20 : za := B19
theorem q6z : qo Try.prog B20 := q7o
def B21 : za := B20
theorem q7v : qo Try.prog B21 := q6z
def B22 : za := B21
theorem q6o : qo Try.prog B22 := q7v
theorem Zd : [AV.int .i64 0, .int .u8 0, .int .u8 0, .int .u8 0, .int .u8 0, .int .u8 0, .int .u8 0, .int .u8 0, .int .u8 0, .int .u8 0, .int .u8 0, .int .u8 0, .int .u8 0, .int .u8 0, .int .u8 0, .int .u8 0, .int .u8 0, .int .i64 0] = trm (0, List.replicate 16 0, 0) := rfl
theorem Bg (t : Int × List Nat × Int) : (trm t).length = t.2.1.length + 2 := by simp [trm, qe]
theorem qdc {t : Int × List Nat × Int} {n : Int} {m : List Nat} (h : t.2.1.length = 16) (h' : m.length = 16) : over (trm t) 0 (dia n m) = trm (n, m, t.2.2) := by
  simp only [over, trm, List.take_zero, List.nil_append, Nat.zero_add, qe, h']
  rw [List.drop_append, List.drop_of_length_le (by rw [qe, h]; exact Nat.le_refl _), qe, h]; rfl
theorem qb4 {t : Int × List Nat × Int} {f : Int} (h : t.2.1.length = 16) : over (trm t) 17 [.int .i64 f] = trm (t.1, t.2.1, f) := by
  simp only [over, trm]
  rw [List.take_append_of_le_length (by rw [qe, h]; exact Nat.le_refl _), List.take_of_length_le (by rw [qe, h]; exact Nat.le_refl _), List.drop_of_length_le (by simp [qe, h]), List.append_nil]
theorem Xp {t u : Int × List Nat × Int} (h : t.2.1.length = 16) (h' : u.2.1.length = 16) : over (trm t) 0 (trm u) = trm u := qci (by rw [Bg, Bg, h, h'])
theorem qb0 {t : Int × List Nat × Int} (h : t.2.1.length = 16) : List.take 18 (trm t) = trm t := by rw [List.take_of_length_le]; rw [Bg, h]; exact Nat.le_refl _
theorem Zp (t : Int × List Nat × Int) : (trm t).all AV.one = true := by simp [trm, zx, AV.one]
theorem q5w : ((0 : Nat) : Int) = 0 := rfl
theorem q5t : ((1 : Nat) : Int) = 1 := rfl
def B23 : za := B22
theorem q6m : qo Try.prog B23 := q6o
def qld (r : Int × Int × Int × List (Int × List Nat × Int) × Int) (v : AV) (H' : List AO) : Prop :=
  v = .tup [elemV r.1 r.2.1 r.2.2.1 0 r.2.2.2.1.length, .int .i64 r.2.2.2.2] ∧ H' = [.vec 18 (zc r.2.2.2.1)]
theorem qnb {a b c d x : AV} : over [a, b, c, d] 0 [x] = [x, b, c, d] := rfl
theorem qmq {a b c d x : AV} : over [a, b, c, d] 1 [x] = [a, x, c, d] := rfl
theorem qmh {a b c d x : AV} : over [a, b, c, d] 2 [x] = [a, b, x, d] := rfl
theorem qml {a b c d x : AV} : over [a, b, c, d] 3 [x] = [a, b, c, x] := rfl
theorem qmd {a b c d x y z w : AV} : over [a, b, c, d] 0 [x, y, z, w] = [x, y, z, w] := rfl
theorem qh : type_of% (And.intro @qnb (And.intro @qmq (And.intro @qmh (And.intro @qml @qmd)))) := (And.intro @qnb (And.intro @qmq (And.intro @qmh (And.intro @qml @qmd))))
def B24 : za := B23
theorem q6a : qo Try.prog B24 := q6m
def q1r : Go.Shelf.Ren := ⟨fun | 106 => 156 | 213 => 183 | 265 => 200 | n => n, fun | 9 => 9 | 3 => 3 | n => n, fun | n => n⟩
theorem q9z : Go.Proofs.Lays.n106 Try.prog q1r where
  mixed := by kernel_rfl
  f106 := Try.func156.trans (congrArg some (by kernel_rfl))
  f213 := Try.func183.trans (congrArg some (by kernel_rfl))
  f265 := Try.func200.trans (congrArg some (by kernel_rfl))
  t3 := Try.underlying3
  a3 := Try.isAgg3
  z3 := Try.sizeOf3
  v3 := Try.zeroValue3
  t9 := Try.underlying9
  a9 := Try.isAgg9
  z9 := Try.sizeOf9
  v9 := Try.zeroValue9
def q0e : Go.Shelf.Ren := ⟨fun | 6 => 154 | 15 => 182 | 14 => 181 | 28 => 198 | 29 => 199 | 20 => 190 | 21 => 191 | 22 => 192 | 23 => 193 | 24 => 194 | 25 => 195 | 26 => 196 | 27 => 197 | 46 => 201 | 47 => 202 | 48 => 203 | 49 => 204 | 50 => 205 | 57 => 206 | n => n, fun | 22 => 28 | 24 => 73 | 25 => 150 | 3 => 3 | 39 => 177 | 0 => 0 | 53 => 195 | 55 => 110 | 4 => 4 | 46 => 188 | 45 => 187 | 50 => 192 | 5 => 5 | 9 => 9 | 66 => 197 | 70 => 201 | 76 => 203 | 77 => 204 | n => n, fun | n => n⟩
theorem q94 : Go.Proofs.SlLaysF0.n6 Try.prog q0e where
  mixed := by kernel_rfl
  f6 := ⟨Try.f154.name, by kernel_rfl, Try.func154.trans (congrArg some (by kernel_rfl))⟩
  f14 := ⟨Try.f181.name, by kernel_rfl, Try.func181.trans (congrArg some (by kernel_rfl))⟩
  f15 := Try.func182.trans (congrArg some (by kernel_rfl))
  f20 := ⟨Try.f190.name, by kernel_rfl, Try.func190.trans (congrArg some (by kernel_rfl))⟩
  f21 := ⟨Try.f191.name, by kernel_rfl, Try.func191.trans (congrArg some (by kernel_rfl))⟩
  f22 := ⟨Try.f192.name, by kernel_rfl, Try.func192.trans (congrArg some (by kernel_rfl))⟩
  f23 := ⟨Try.f193.name, by kernel_rfl, Try.func193.trans (congrArg some (by kernel_rfl))⟩
  f24 := ⟨Try.f194.name, by kernel_rfl, Try.func194.trans (congrArg some (by kernel_rfl))⟩
  f25 := ⟨Try.f195.name, by kernel_rfl, Try.func195.trans (congrArg some (by kernel_rfl))⟩
  f26 := ⟨Try.f196.name, by kernel_rfl, Try.func196.trans (congrArg some (by kernel_rfl))⟩
  f27 := ⟨Try.f197.name, by kernel_rfl, Try.func197.trans (congrArg some (by kernel_rfl))⟩
  f28 := Try.func198.trans (congrArg some (by kernel_rfl))
  f29 := Try.func199.trans (congrArg some (by kernel_rfl))
  f46 := ⟨Try.f201.name, by kernel_rfl, Try.func201.trans (congrArg some (by kernel_rfl))⟩
  f47 := Try.func202.trans (congrArg some (by kernel_rfl))
  f48 := Try.func203.trans (congrArg some (by kernel_rfl))
  f49 := ⟨Try.f204.name, by kernel_rfl, Try.func204.trans (congrArg some (by kernel_rfl))⟩
  f50 := ⟨Try.f205.name, by kernel_rfl, Try.func205.trans (congrArg some (by kernel_rfl))⟩
  f57 := ⟨Try.f206.name, by kernel_rfl, Try.func206.trans (congrArg some (by kernel_rfl))⟩
  t0 := Try.underlying0
  a0 := Try.isAgg0
  z0 := Try.sizeOf0
  v0 := Try.zeroValue0
  t3 := Try.underlying3
  a3 := Try.isAgg3
  z3 := Try.sizeOf3
  v3 := Try.zeroValue3
  t4 := Try.underlying4
  a4 := Try.isAgg4
  z4 := Try.sizeOf4
  v4 := Try.zeroValue4
  t5 := Try.underlying5
  a5 := Try.isAgg5
  z5 := Try.sizeOf5
  v5 := Try.zeroValue5
  t9 := Try.underlying9
  a9 := Try.isAgg9
  z9 := Try.sizeOf9
  v9 := Try.zeroValue9
  t22 := Try.underlying28
  a22 := Try.isAgg28
  z22 := Try.sizeOf28
  v22 := Try.zeroValue28
  t25 := Try.underlying150
  a25 := Try.isAgg150
  z25 := Try.sizeOf150
  v25 := Try.zeroValue150
  t39 := Try.underlying177
  a39 := Try.isAgg177
  z39 := Try.sizeOf177
  v39 := Try.zeroValue177
  t45 := Try.underlying187
  a45 := Try.isAgg187
  z45 := Try.sizeOf187
  v45 := Try.zeroValue187
  t46 := Try.underlying188
  a46 := Try.isAgg188
  z46 := Try.sizeOf188
  v46 := Try.zeroValue188
  t50 := Try.underlying192
  a50 := Try.isAgg192
  z50 := Try.sizeOf192
  v50 := Try.zeroValue192
  t53 := Try.underlying195
  a53 := Try.isAgg195
  z53 := Try.sizeOf195
  v53 := Try.zeroValue195
  t55 := Try.underlying110
  a55 := Try.isAgg110
  z55 := Try.sizeOf110
  v55 := Try.zeroValue110
  t66 := Try.underlying197
  a66 := Try.isAgg197
  z66 := Try.sizeOf197
  v66 := Try.zeroValue197
  t70 := Try.underlying201
  a70 := Try.isAgg201
  z70 := Try.sizeOf201
  v70 := Try.zeroValue201
  t76 := Try.underlying203
  a76 := Try.isAgg203
  z76 := Try.sizeOf203
  v76 := Try.zeroValue203
  t77 := Try.underlying204
  a77 := Try.isAgg204
  z77 := Try.sizeOf204
  v77 := Try.zeroValue204
def Uf : List AV → Option AV
  | [.str a, .str b] => some (.int .i64 (Go.Lib.compareBytes a b))
  | _ => none
theorem qwh (a b : List UInt8) : Am.Fn Try.prog 156 [.str a, .str b] [] (fun v H' => v = .int .i64 (Go.Lib.compareBytes a b) ∧ H' = []) :=
  qos ⟨Try.f156, Try.func156, by kernel_rfl, by kernel_rfl⟩ rfl rfl fun w => Go.Proofs.Any.strings_Compare q9z ⟨a.toArray⟩ ⟨b.toArray⟩ w
theorem qxm : Am.Callee Try.prog 156 (qk Uf) := Am.Callee.plain fun xs v he => by
  unfold Uf at he
  split at he
  · cases he; exact ⟨rfl, rfl, qwh _ _⟩
  · cases he
def B26 : za := (B24.put 156 (qk Uf))
theorem q1l : qo Try.prog B26 := (q6a.put (qxm))
theorem Gf : B26 142 = some (Wp 17 qh2) := rfl
theorem qcn : B26 156 = some (qk Uf) := rfl
def Vp : AC := .seq (.region [o0 2 (.box (.t 0)),o0 3 (.box (.t 1)),oI 4 0]) (.seq (.region [oF 5 0 2,oC 6 142 [.t 5],oF 7 0 3,oC 8 142 [.t 7],oC 9 156 [.t 6,.t 8],oM 4 9]) .ret)
theorem qbf : zj Try.prog 155 = some ⟨10, Vp, [.slot 4]⟩ := by kernel_rfl
def txt (t : Int × List Nat × Int) : List UInt8 := j5 t.1.toNat t.2.1
def q02 (t u : Int × List Nat × Int) : Int := Go.Lib.compareBytes (txt t) (txt u)
theorem q5d (t u : Int × List Nat × Int) (ht : okD t.2.1) (hu : okD u.2.1) (h1 : 0 ≤ t.1 ∧ t.1 ≤ 8) (h2 : 0 ≤ u.1 ∧ u.1 ≤ 8) :
    Am.Fn Try.prog 155 [.agg (trm t), .agg (trm u)] [] (fun v H' => v = .int .i64 (q02 t u) ∧ H' = []) := by
  refine Am.Fn.xm (R := fun v => v = _) q1l mixed qbf (by simp) (by simp) ?_
  simp (maxSteps := 3000000) only [Vp, Gf, qcn, Uf, qh2, Ul ht, Ul hu, xk ht, xk hu, qy ht, qy hu, h1, h2, rd, List.getElem?_cons_zero, List.getElem?_cons_succ, qa, zZ, ↓qp, ↓reduceIte, reduceCtorEq, nA, nM, nS, nE, nL, nD]; try simp only [qa, zY]
  rfl
theorem qu5 : ∀ (a b : List UInt8), (Go.Lib.compareBytes a b < 0) ↔ Op.bytesLess a b = true
  | [], [] => by simp [Go.Lib.compareBytes, Op.bytesLess]
  | [], b :: y => by simp [Go.Lib.compareBytes, Op.bytesLess]
  | a :: x, [] => by simp [Go.Lib.compareBytes, Op.bytesLess]
  | a :: x, b :: y => by
    simp only [Go.Lib.compareBytes, Op.bytesLess, Bool.or_eq_true, Bool.and_eq_true, decide_eq_true_eq, beq_iff_eq]
    by_cases h : a < b
    · simp [h]
    · by_cases h2 : b < a
      · have : a ≠ b := fun e => by subst e; exact UInt8.lt_irrefl _ h2
        simp [h, h2, this]
      · have : a = b := UInt8.le_antisymm (UInt8.not_lt.1 h2) (UInt8.not_lt.1 h)
        subst this
        simp only [h, if_false, false_or, true_and]
        exact qu5 x y
theorem y0 : ∀ (a : List UInt8), Op.bytesLess a a = false
  | [] => rfl
  | a :: x => by simp [Op.bytesLess, y0 x]
theorem Qd : ∀ (a b c : List UInt8), Op.bytesLess a b = true → Op.bytesLess b c = true → Op.bytesLess a c = true
  | _, _, [], _, h => by cases ‹List UInt8› <;> simp [Op.bytesLess] at h
  | [], _, c :: z, h, _ => by simp [Op.bytesLess]
  | a :: x, [], c :: z, h, _ => by simp [Op.bytesLess] at h
  | a :: x, b :: y, c :: z, h, h' => by
    simp only [Op.bytesLess, Bool.or_eq_true, Bool.and_eq_true, decide_eq_true_eq, beq_iff_eq] at h h' ⊢
    rcases h with h | ⟨rfl, h⟩
    · rcases h' with h' | ⟨rfl, h'⟩
      · exact .inl (UInt8.lt_trans h h')
      · exact .inl h
    · rcases h' with h' | ⟨rfl, h'⟩
      · exact .inl h'
      · exact .inr ⟨rfl, Qd x y z h h'⟩
theorem Xu : ∀ (a b : List UInt8), Op.bytesLess a b = false → Op.bytesLess b a = false → a = b
  | [], [], _, _ => rfl
  | [], b :: y, h, _ => by simp [Op.bytesLess] at h
  | a :: x, [], _, h => by simp [Op.bytesLess] at h
  | a :: x, b :: y, h, h' => by
    simp only [Op.bytesLess, Bool.or_eq_false_iff, Bool.and_eq_false_iff, decide_eq_false_iff_not, beq_eq_false_iff_ne] at h h'
    have e : a = b := UInt8.le_antisymm (UInt8.not_lt.1 h'.1) (UInt8.not_lt.1 h.1)
    subst e
    rw [Xu x y (by simpa using h.2) (by simpa using h'.2)]
theorem K1 (a b : List UInt8) (h : Op.bytesLess a b = true) : Op.bytesLess b a = false := by
  cases hb : Op.bytesLess b a with
  | false => rfl
  | true => have := Qd a b a h hb; rw [y0] at this; cases this
def ltT (t u : Int × List Nat × Int) : Bool := Op.bytesLess (txt t) (txt u)
abbrev qbn := {t : Int × List Nat × Int // okD t.2.1 ∧ 0 ≤ t.1 ∧ t.1 ≤ 8}
instance : Inhabited qbn := ⟨⟨(0, List.replicate 16 0, 0), ⟨by simp, by intro x hx; simp at hx; omega⟩, by decide, by decide⟩⟩
theorem qnp (x y : qbn) : Go.Proofs.ltOf (fun x y : qbn => q02 x.1 y.1) x y = ltT x.1 y.1 := by
  unfold Go.Proofs.ltOf q02 ltT
  have := qu5 (txt x.1) (txt y.1)
  cases h : Op.bytesLess (txt x.1) (txt y.1) with
  | true => exact decide_eq_true (this.2 h)
  | false => exact decide_eq_false (fun h2 => by rw [this.1 h2] at h; cases h)
theorem swo : Go.Sort.SWO (Go.Proofs.ltOf (fun x y : qbn => q02 x.1 y.1)) where
  irrefl x := by rw [qnp]; exact y0 _
  trans x y z h h' := by rw [qnp] at *; exact Qd _ _ _ h h'
  ntrans x y z h h' := by
    rw [qnp] at *
    cases hc : ltT x.1 z.1 with
    | false => rfl
    | true =>
      exfalso
      by_cases e : txt x.1 = txt y.1
      · unfold ltT at *; rw [e] at hc; rw [hc] at h'; cases h'
      · have h1 : ltT y.1 x.1 = true := by
          cases hb : ltT y.1 x.1 with
          | true => rfl
          | false => exact absurd (Xu _ _ h hb) e
        have := Qd _ _ _ h1 hc
        unfold ltT at h'; rw [this] at h'; cases h'
def qsm (t : Int × List Nat × Int) : List (Int × List Nat × Int) → List (Int × List Nat × Int)
  | [] => [t]
  | u :: l => if ltT t u then t :: u :: l else u :: qsm t l
def Qh : List (Int × List Nat × Int) → List (Int × List Nat × Int)
  | [] => []
  | t :: l => qsm t (Qh l)
theorem qd4 (t : Int × List Nat × Int) : ∀ l, (qsm t l).Perm (t :: l)
  | [] => .refl _
  | u :: l => by
    unfold qsm; split
    · exact .refl _
    · exact ((qd4 t l).cons u).trans (.swap t u l)
theorem yx : ∀ l, (Qh l).Perm l
  | [] => .refl _
  | t :: l => (qd4 t _).trans ((yx l).cons t)
def Kj (l : List (Int × List Nat × Int)) : Prop := (l.map txt).Nodup
def upT (l : List (Int × List Nat × Int)) : Prop := l.Pairwise fun a b => ltT a b = true
theorem qu9 {t : Int × List Nat × Int} : ∀ {l}, upT l → (∀ u ∈ l, txt t ≠ txt u) → upT (qsm t l)
  | [], _, _ => by simp [qsm, upT]
  | u :: l, h, hn => by
    unfold qsm
    have h' := List.pairwise_cons.1 h
    split
    · rename_i hlt
      exact List.pairwise_cons.2 ⟨fun a ha => by
        rcases List.mem_cons.1 ha with rfl | ha
        · exact hlt
        · exact Qd _ _ _ hlt (h'.1 a ha), h⟩
    · rename_i hlt
      refine List.pairwise_cons.2 ⟨fun a ha => ?_, qu9 h'.2 fun v hv => hn v (List.mem_cons_of_mem _ hv)⟩
      have hm := (qd4 t l).mem_iff.1 ha
      rcases List.mem_cons.1 hm with rfl | hm
      · cases hb : ltT u a with
        | true => rfl
        | false => exact absurd (Xu _ _ (Bool.eq_false_iff.2 hlt) hb) (hn u (List.mem_cons_self ..))
      · exact h'.1 a hm
theorem qcm : ∀ {l}, Kj l → upT (Qh l)
  | [], _ => .nil
  | t :: l, h => by
    have h' := List.nodup_cons.1 h
    refine qu9 (qcm h'.2) fun u hu e => h'.1 ?_
    rw [e]
    exact List.mem_map.2 ⟨u, (yx l).mem_iff.1 hu, rfl⟩
theorem K5 : ∀ {a b : List (Int × List Nat × Int)}, upT a → upT b → a.Perm b → a = b
  | [], b, _, _, hp => by rw [List.nil_perm.1 hp]
  | x :: a, [], _, _, hp => by have := hp.length_eq; simp at this
  | x :: a, y :: b, ha, hb, hp => by
    have ha' := List.pairwise_cons.1 ha
    have hb' := List.pairwise_cons.1 hb
    have e : x = y := by
      have h1 : x ∈ y :: b := hp.mem_iff.1 (List.mem_cons_self ..)
      have h2 : y ∈ x :: a := hp.mem_iff.2 (List.mem_cons_self ..)
      rcases List.mem_cons.1 h1 with h | h
      · exact h
      · rcases List.mem_cons.1 h2 with h' | h'
        · exact h'.symm
        · have c1 := hb'.1 x h
          have c2 := ha'.1 y h'
          have := K1 _ _ c1
          unfold ltT at c2; rw [this] at c2; cases c2
    subst e
    rw [K5 ha'.2 hb'.2 ((List.perm_cons x).1 hp)]
theorem qrp {a l : List (Int × List Nat × Int)} (hp : a.Perm l) (hs : a.Pairwise fun x y => ltT y x = false) (hl : Kj l) : a = Qh l := by
  have hn : (a.map txt).Nodup := (hp.map txt).nodup_iff.2 hl
  refine K5 ?_ (qcm hl) (hp.trans (yx l).symm)
  unfold upT
  rw [List.pairwise_iff_getElem] at hs ⊢
  intro i j hi hj hij
  cases hb : ltT a[i] a[j] with
  | true => rfl
  | false =>
    have e := Xu _ _ hb (hs i j hi hj hij)
    have := (List.pairwise_iff_getElem.1 hn) i j (by simpa using hi) (by simpa using hj) hij
    simp only [List.getElem_map] at this
    exact absurd e this
theorem q58 (ts : List (Int × List Nat × Int)) (hl : ts.length ≤ 1000000000) (hok : ∀ t ∈ ts, okD t.2.1 ∧ 0 ≤ t.1 ∧ t.1 ≤ 8) (hap : Kj ts) :
    Am.Fn Try.prog 154 [.slc 0 0 ts.length false 0, .fn 155 [] []] [.vec 18 (zc ts)] (fun v H' => v = .tup [] ∧ H' = [.vec 18 (zc (Qh ts))]) := by
  obtain ⟨d, rfl⟩ : ∃ d : List qbn, ts = d.map Subtype.val := ⟨ts.attach.map fun x => ⟨x.1, hok x.1 x.2⟩, by rw [List.map_map]; exact (List.attach_map_subtype_val ts).symm⟩
  have e : ∀ d : List qbn, zc (d.map Subtype.val) = d.flatMap fun x => trm x.1 := fun d => by simp [zc, List.flatMap_map]
  have := q2x q94 18 (by decide) Try.isAgg73 Try.sizeOf73 (fun x : qbn => trm x.1) (fun x => xk x.2.1) (fun x a ha => ?_) (fun x => gb _) (fun x y => q02 x.1 y.1) swo
    ⟨Try.f154, Try.func154, by kernel_rfl, by kernel_rfl⟩ 155 ⟨Try.f155, Try.func155, by kernel_rfl, by kernel_rfl⟩
    (fun x y => q5d x.1 y.1 x.2.1 y.2.1 x.2.2 y.2.2) d (by simp at hl; omega)
  · rw [List.length_map, e]
    refine this.mono ?_
    rintro v H' ⟨rfl, d', hp, hs, rfl⟩
    refine ⟨rfl, ?_⟩
    rw [← e d', qrp (hp.map _) ?_ hap]
    exact List.pairwise_map.2 (hs.imp fun {a b} h => by rw [qnp] at h; exact h)
  · simp only [trm, dia, List.cons_append, List.mem_cons, List.mem_append, List.not_mem_nil, or_false] at ha
    rcases ha with rfl | ha | rfl
    · rfl
    · unfold u8s at ha
      obtain ⟨y, _, rfl⟩ := List.mem_map.1 ha
      rfl
    · rfl
def Kd : BE := fun hp xs => match xs with
  | [.slc b 0 n false 0, .fn 155 [] []] => match hp[b]? with
    | some (.vec 18 l) => match Ji n l with
      | some ts => chk (l.length = n * 18 ∧ n ≤ 1000000 ∧ (∀ t ∈ ts, 0 ≤ t.1 ∧ t.1 ≤ 8) ∧ (ts.map txt).Nodup) (some (.tup [], hp.set b (.vec 18 (zc (Qh ts)))))
      | none => none
    | _ => none
  | _ => none
theorem q51 : Am.Callee Try.prog 154 Kd := Callee.wr1 fun hp xs v hp' he => by
  unfold Kd at he
  split at he
  · rename_i b n
    split at he
    · rename_i l hb
      split at he
      · rename_i ts hts
        obtain ⟨h0, he⟩ := ql he
        simp only [Option.some.injEq, Prod.mk.injEq] at he
        obtain ⟨rfl, rfl⟩ := he
        obtain ⟨e1, e2, e3, e4⟩ := jn hts
        have hl : l = zc ts := by rw [← e3, List.take_of_length_le (by omega)]
        subst hl
        refine ⟨18, zc ts, _, b, [.slc 0 0 ts.length false 0, .fn 155 [] []], hb, rfl, qc _, qc _, ?_, rfl, ⟨by simp [AV.under], ⟨trivial, trivial⟩, trivial⟩, rfl, ?_⟩
        · simp only [AV.zk, AV.ren, one, if_true, e1, Nat.zero_add]
        · exact q58 ts (by omega) (fun t ht => ⟨e2 t ht, h0.2.2.1 t ht⟩) h0.2.2.2
      · cases he
    · cases he
  · cases he
def B27 : za := (B26.put 154 (Kd))
theorem qsg : qo Try.prog B27 := (q1l.put (q51))
theorem Xk : B27 76 = some (qk X7) := rfl
theorem x8 : B27 154 = some (Kd) := rfl
def esT : Nat → List (Int × List Nat × Int) → List AE
  | _, [] => []
  | k, t :: l => ⟨.agg (dia t.1 t.2.1), .int .i64 t.2.2, k⟩ :: esT (k + 1) l
def ju (ts : List (Int × List Nat × Int)) : AO := .map (esT 0 ts) ts.length
def zt (p : Int) (ts : List (Int × List Nat × Int)) : List (Int × List Nat × Int) := ts.filterMap fun t => if t.2.2.emod p = 0 then none else some (t.1, t.2.1, t.2.2.emod p)
def yj (ts : List (Int × List Nat × Int)) (seen : List Nat) : List (Int × List Nat × Int) := seen.map fun i => ts.getD i (0, [], 0)
theorem K4 : ∀ {ts : List (Int × List Nat × Int)} {k : Nat} {e : AE}, e ∈ esT k ts → ∃ i, i < ts.length ∧ e = ⟨.agg (dia (ts.getD i (0, [], 0)).1 (ts.getD i (0, [], 0)).2.1), .int .i64 (ts.getD i (0, [], 0)).2.2, k + i⟩
  | [], k, e, h => by cases h
  | t :: l, k, e, h => by
    rcases List.mem_cons.1 h with rfl | h
    · exact ⟨0, by simp, by simp⟩
    · obtain ⟨i, h1, rfl⟩ := K4 h
      refine ⟨i + 1, by simpa using h1, ?_⟩
      simp only [List.getD_cons_succ, AE.mk.injEq, true_and]; omega
theorem quz : ∀ {ts : List (Int × List Nat × Int)} {k i : Nat}, i < ts.length → (⟨.agg (dia (ts.getD i (0, [], 0)).1 (ts.getD i (0, [], 0)).2.1), .int .i64 (ts.getD i (0, [], 0)).2.2, k + i⟩ : AE) ∈ esT k ts
  | t :: l, k, 0, h => by simp [esT]
  | t :: l, k, i + 1, h => by
    have := quz (ts := l) (k := k + 1) (i := i) (by simpa using h)
    simp only [esT, List.mem_cons]
    right
    rw [show k + (i + 1) = k + 1 + i by omega]
    simpa using this
theorem qre : ∀ {ts : List (Int × List Nat × Int)} {k i : Nat}, i < ts.length → (esT k ts).find? (fun x => x.born == k + i) = some ⟨.agg (dia (ts.getD i (0, [], 0)).1 (ts.getD i (0, [], 0)).2.1), .int .i64 (ts.getD i (0, [], 0)).2.2, k + i⟩
  | t :: l, k, 0, h => by simp [esT]
  | t :: l, k, i + 1, h => by
    have := qre (ts := l) (k := k + 1) (i := i) (by simpa using h)
    rw [show k + 1 + i = k + (i + 1) by omega] at this
    simp only [esT, List.find?_cons]
    rw [show (k == k + (i + 1)) = false by simp]
    simpa using this
theorem qew (n : Nat) (ts : List (Int × List Nat × Int)) (k : Nat) : ∀ e ∈ esT k ts, e.key.under n ∧ e.val.under n := fun e he => by
  obtain ⟨i, _, rfl⟩ := K4 he
  exact ⟨qj _ _ (qg _ _), trivial⟩
theorem Zn (ρ : Ren) (ts : List (Int × List Nat × Int)) : (ju ts).ren ρ = ju ts := by
  simp only [ju, AO.ren]
  congr 1
  conv => rhs; rw [← List.map_id (esT 0 ts)]
  refine List.map_congr_left fun e he => ?_
  obtain ⟨i, _, rfl⟩ := K4 he
  simp only [AE.ren, AV.ren, qb _ _ (qg _ _), id]
theorem Ww (ids : List Nat) (ts : List (Int × List Nat × Int)) : (ju ts).within ids = true := by
  simp only [ju, AO.within, List.all_eq_true]
  intro e he
  obtain ⟨i, _, rfl⟩ := K4 he
  simp only [AV.within, qd _ _ (qg _ _), Bool.and_self]
theorem q9 (ids : List Nat) (ts : List (Int × List Nat × Int)) (k : Nat) : (AO.map (esT 0 ts) k).within ids = true := Ww ids ts
theorem vd (ρ : Ren) (ts : List (Int × List Nat × Int)) (k : Nat) : (AO.map (esT 0 ts) k).ren ρ = AO.map (esT 0 ts) k := by
  have := Zn ρ ts
  simp only [ju, AO.ren, AO.map.injEq] at this ⊢
  exact ⟨this.1, trivial⟩
theorem qx9 {r m : Nat} {ts : List (Int × List Nat × Int)} {seen : List Nat} {hp : List AO} {K : AV → List AO → Prop} (h1 : hp[r]? = some (.xp (some m) ts.length seen ts.length)) (h2 : hp[m]? = some (ju ts))
    (hend : (∀ i, i < ts.length → i ∈ seen) → K (.tup [.bool false]) hp)
    (hgo : ∀ i, i < ts.length → i ∉ seen → K (.tup [.bool true, .agg (dia (ts.getD i (0, [], 0)).1 (ts.getD i (0, [], 0)).2.1), .int .i64 (ts.getD i (0, [], 0)).2.2]) (hp.set r (.xp (some m) ts.length (seen ++ [i]) ts.length))) :
    wbN (.ptr r 0) hp K := by
  simp only [wbN, qt8, h1, h2, ju]
  refine ⟨_, qd6 ⟨trivial, trivial, fun e he => ?_⟩, fun h => ?_, fun e he hs => ?_⟩
  · obtain ⟨i, h3, rfl⟩ := K4 he; show 0 + i < _; omega
  · refine hend fun i hi => ?_
    have := h _ (quz (k := 0) hi)
    simpa using this
  · obtain ⟨i, h3, rfl⟩ := K4 he
    simp only [Nat.zero_add] at hs ⊢
    exact hgo i h3 hs
theorem q1d {B : za} {n0 nt : Nat} {dst : Option Nat} {it : Opd} {l : List AI} {b : AC} {Q : AX → St → Prop} {s : St}
    (h : wbN (ev s.env it) s.hp (fun v hp' => wbC Try.prog B n0 nt (.seq (.region l) b) Q ⟨xh dst v s.env, hp'⟩)) : wbC Try.prog B n0 nt (.seq (.region (⟨dst, none, .next it⟩ :: l)) b) Q s := h
theorem qx5 {ts : List (Int × List Nat × Int)} {seen : List Nat} (hn : seen.Nodup) (hlt : ∀ i ∈ seen, i < ts.length) (h : ∀ i, i < ts.length → i ∈ seen) : (yj ts seen).Perm ts := by
  have hp : seen.Perm (List.range ts.length) := (List.perm_ext_iff_of_nodup hn List.nodup_range).2 fun i => ⟨fun hi => List.mem_range.2 (hlt i hi), fun hi => h i (List.mem_range.1 hi)⟩
  have e : (List.range ts.length).map (fun i => ts.getD i (0, [], 0)) = ts := by
    apply List.ext_getElem (by simp)
    intro i h1 h2
    simp at h1
    simp [h1]
  unfold yj
  refine (hp.map _).trans ?_
  rw [e]
theorem qwz {p : Int} {a b : List (Int × List Nat × Int)} (h : a.Perm b) : (zt p a).Perm (zt p b) := h.filterMap _
theorem qi3 {p : Int} : ∀ {l : List (Int × List Nat × Int)}, Kj l → Kj (zt p l) := fun {l} h => by
  unfold Kj zt at *
  refine List.Nodup.sublist ?_ h
  induction l with
  | nil => exact List.nil_sublist _
  | cons t l ih =>
    simp only [List.filterMap_cons]
    split
    · exact (ih (List.nodup_cons.1 h).2).trans (List.sublist_cons_self _ _)
    · rename_i u hu
      split at hu
      · cases hu
      · cases hu
        exact (ih (List.nodup_cons.1 h).2).cons_cons _
theorem qg8 {p : Int} {l : List (Int × List Nat × Int)} {t : Int × List Nat × Int} (h : t ∈ zt p l) : ∃ u ∈ l, t = (u.1, u.2.1, u.2.2.emod p) ∧ u.2.2.emod p ≠ 0 := by
  obtain ⟨u, hu, he⟩ := List.mem_filterMap.1 h
  split at he
  · cases he
  · rename_i hne; cases he; exact ⟨u, hu, rfl, hne⟩
theorem qun {p : Int} {l : List (Int × List Nat × Int)} (h : okT l) : okT (zt p l) := fun t ht => by
  obtain ⟨u, hu, rfl, _⟩ := qg8 ht; exact h u hu
theorem qo9 {ts : List (Int × List Nat × Int)} {seen : List Nat} (h : okT ts) (hlt : ∀ i ∈ seen, i < ts.length) : okT (yj ts seen) := fun t ht => by
  obtain ⟨i, hi, rfl⟩ := List.mem_map.1 ht
  have := hlt i hi
  simp only [List.getD_eq_getElem?_getD, List.getElem?_eq_getElem this, Option.getD_some]
  exact h _ (List.getElem_mem _)
theorem qlb (l : List (Int × List Nat × Int)) (t : Int × List Nat × Int) : zc l ++ trm t = zc (l ++ [t]) := by simp [zc]
theorem x7 : [AV.int .i64 0, .int .u8 0, .int .u8 0, .int .u8 0, .int .u8 0, .int .u8 0, .int .u8 0, .int .u8 0, .int .u8 0, .int .u8 0, .int .u8 0, .int .u8 0, .int .u8 0, .int .u8 0, .int .u8 0, .int .u8 0, .int .u8 0] = dia 0 (List.replicate 16 0) := rfl
theorem Qe {n : Int} {m : List Nat} (h : m.length = 16) : over (dia 0 (List.replicate 16 0)) 0 (dia n m) = dia n m := qci (by rw [qe, qe, h, List.length_replicate])
theorem ql5 {n : Int} {m : List Nat} (h : m.length = 16) : over (trm (0, List.replicate 16 0, 0)) 0 (dia n m) = trm (n, m, 0) := qdc (by simp) h
theorem wh : (trm (0, List.replicate 16 0, 0)).length = 18 := rfl
theorem zq : (dia 0 (List.replicate 16 0)).length = 17 := rfl
def Jp : AC := .seq (.region [⟨some 23,none,.next (.t 22)⟩,oE 24 0 23]) (.seq (.cond 24 .skip (.exit 0)) (.block 1 (.seq (.region [o0 25 (.entry (.t 22)),oE 26 0 25,oE 27 1 25,oD 6,oS 17 6 26,oM 7 27]) (.seq (.region [oM 28 7,oM 29 0,o0 30 (.jy (.t 29)),oF 31 0 30,oL 32 31,oC 33 76 [.t 28,.t 32],oM 7 33]) (.seq (.region [oM 34 7,oK 35 .neq 34 0]) (.cond 35 (.seq (.region [oF 36 0 6,oL 37 36,oF 38 2 5,oT 38 37]) (.region [oF 39 3 5,oL 40 39,oN 41 17 6,oM 42 7,o0 43 (.build [.int .i64 0,.int .u8 0,.int .u8 0,.int .u8 0,.int .u8 0,.int .u8 0,.int .u8 0,.int .u8 0,.int .u8 0,.int .u8 0,.int .u8 0,.int .u8 0,.int .u8 0,.int .u8 0,.int .u8 0,.int .u8 0,.int .u8 0,.int .i64 0] [(0,17,.t 41),(17,1,.t 42)]),o0 44 (.u6 1 [.int .i64 0,.int .u8 0,.int .u8 0,.int .u8 0,.int .u8 0,.int .u8 0,.int .u8 0,.int .u8 0,.int .u8 0,.int .u8 0,.int .u8 0,.int .u8 0,.int .u8 0,.int .u8 0,.int .u8 0,.int .u8 0,.int .u8 0,.int .i64 0] [(0,18,.t 43)]),o0 45 (.append 18 32 (.t 40) (.t 44)),oF 46 3 5,oT 46 45])) .skip))))))
def Jl : AC := .seq (.region [oF 47 3 5,oL 48 47,⟨some 49,none,.call (.c (.fn 154 [] [])) [.t 48,(.c (.fn 155 [] []))]⟩]) (.seq (.region [oN 50 4 5,oS 4 4 50]) .ret)
def Ys : AC := .seq (.region [oZ 4]) (.seq (.draw false [oM 8 0,o0 9 (.jy (.t 8)),oF 10 0 9,oL 11 10,oM 12 0,o0 13 (.jy (.t 12)),oF 14 1 13,oL 15 14,oM 16 0,o0 17 (.jy (.t 16)),oF 18 2 17,oL 19 18,o0 20 (.build [.int .i64 0,.int .i64 0,.int .i64 0,(.v (.slice none 0 0))] [(0,1,.t 11),(1,1,.t 15),(2,1,.t 19)]),oZ 5,oS 4 5 20]) (.seq (.seq (.region [oM 21 1,o0 22 (.Gw (.t 21))]) (.block 0 (.loop Jp))) Jl))
theorem qdx : zj Try.prog 105 = some ⟨51, Ys, [.wu 4 4]⟩ := by kernel_rfl
def qle (p c n sz : Int) (ts : List (Int × List Nat × Int)) (seen : List Nat) : St :=
  ⟨[(22, .ptr 4 0), (5, .ptr 3 0), (4, .ptr 2 0), (0, .ptr 0 0)], [.ro [.int .i64 p, .int .i64 c, .int .i64 n], ju ts, .cells [.int .i64 0, .int .i64 0, .int .i64 0, .v (.slice none 0 0)],
    .cells [.int .i64 p, .int .i64 c, .int .i64 (if zt p (yj ts seen) = [] then n else sz), .slc 5 0 (zt p (yj ts seen)).length false 0], .xp (some 1) ts.length seen ts.length, .vec 18 (zc (zt p (yj ts seen)))]⟩
def q9g (p c n sz : Int) (ts : List (Int × List Nat × Int)) (s : St) : Prop := ∃ seen : List Nat, seen.Nodup ∧ (∀ i ∈ seen, i < ts.length) ∧ s = qle p c n sz ts seen
def q1u (ts : List (Int × List Nat × Int)) (s : St) : Nat := match s.hp[4]? with | some (AO.xp _ _ seen _) => ts.length - seen.length | _ => 0
theorem q7e (p c n sz : Int) (ts : List (Int × List Nat × Int)) (hp : 0 < p ∧ p ≤ 1000000) (hs : 0 ≤ sz ∧ sz ≤ 8) (ht : okT ts) (hz : ∀ t ∈ ts, t.1 = sz) (ha : Kj ts) (hl : ts.length ≤ 1000000) :
    Am.Fn Try.prog 105 [.ptr 0 0, .map 1] [.ro [.int .i64 p, .int .i64 c, .int .i64 n], ju ts] (fun v H' => v = elemV p c (if zt p ts = [] then n else sz) 2 (zt p ts).length ∧
      H' = [.ro [.int .i64 p, .int .i64 c, .int .i64 n], ju ts, .vec 18 (zc (Qh (zt p ts)))]) := by
  refine Am.Fn.ofB qsg mixed qdx (by simp) ?_ ?_
  · intro j o hj
    match j, hj with
    | 0, hj => cases hj; exact ⟨trivial, trivial, trivial, trivial⟩
    | 1, hj => cases hj; exact qew _ _ _
    | j + 2, hj => simp at hj
  have hm : ju ts = .map (esT 0 ts) ts.length := rfl
  simp (maxSteps := 3000000) only [Ys, hm, qnb, qmq, qmh, qml, qmd, Xk, x8, X7, Kd, gi, rd, wrt, wrl, AO.Ya, List.getElem?_cons_zero, List.getElem?_cons_succ, List.set_cons_zero, List.set_cons_succ, qa, zZ, ↓qp, ↓reduceIte, reduceCtorEq, nA, nM, nS, nE, nL, nD]; try simp only [qa, zY]
  refine ⟨rfl, WA.xo qsg (q9g p c n sz ts) (q1u ts) ⟨qle p c n sz ts [], ?_, [], .nil, by simp, rfl⟩ ?_⟩
  · refine qt.trans (qt.qv [22, 5, 4, 0]) ?_
    refine Eq.subst (motive := fun s' => qt 2 _ s') ?_ (qt.q9r 3 3 18 rfl rfl (by simp) ?_ ?_)
    · simp only [qv, zp]
      rfl
    · simp [qv, zp, AV.under]
    · simp only [List.mem_cons, List.not_mem_nil, or_false, forall_eq_or_imp, forall_eq]
      exact ⟨⟨trivial, trivial, trivial, trivial⟩, qew _ _ _, ⟨trivial, trivial, trivial, trivial, trivial⟩, ⟨trivial, trivial, trivial, trivial, trivial⟩, fun b h => by cases h; simp⟩
  rintro s ⟨seen, hnd, hlt, rfl⟩
  unfold Jp
  refine q1d (qx9 (r := 4) (m := 1) (ts := ts) (seen := seen) rfl rfl (fun hall => ?_) (fun i hi hsn => ?_))
  · have hpm := qx5 hnd hlt hall
    have hr := qwz (p := p) hpm
    have hrt := qun (p := p) (qo9 ht hlt)
    have hap : (List.map txt (zt p (yj ts seen))).Nodup := (hr.map txt).nodup_iff.2 (qi3 ha)
    have hsz : ∀ t ∈ zt p (yj ts seen), 0 ≤ t.1 ∧ t.1 ≤ 8 := fun t h => by
      obtain ⟨u, hu, rfl, _⟩ := qg8 (hr.mem_iff.1 h)
      simp only [hz u hu]; exact hs
    have hlen : (zt p (yj ts seen)).length = (zt p ts).length := hr.length_eq
    have hle : (zt p ts).length ≤ 1000000 := Nat.le_trans (List.length_filterMap_le _ _) hl
    have hle' : (zt p (yj ts seen)).length ≤ 1000000 := by omega
    have hso : Qh (zt p (yj ts seen)) = Qh (zt p ts) := qrp ((yx _).trans hr) ((qcm hap).imp fun {a b} h => K1 _ _ h) (qi3 ha)
    have hnil : (zt p (yj ts seen) = []) = (zt p ts = []) := propext ⟨fun h => by rw [h] at hr; exact List.nil_perm.1 hr, fun h => by rw [h] at hr; exact List.perm_nil.1 hr⟩
    have htl := zf hrt
    have hto := jx hrt
    rw [hlen] at htl hto
    unfold qle
    simp (maxSteps := 3000000) only [qh, zH, Jl, Xk, x8, X7, Kd, htl, hto, hle, hap, hsz, hso, hnil, hlen, qa, zZ, ↓qp, ↓reduceIte, reduceCtorEq, nA, nM, nS, nE, nL, nD]; try simp only [qa, zY]
    refine ⟨hsz, rfl, ?_⟩
    refine Ret.xv [0, 1, 5] ⟨⟨by simp, rfl, by decide⟩, ?_⟩ (rs := [.agg [.int .i64 p, .int .i64 c, .int .i64 (if zt p ts = [] then n else sz), .slc 5 0 (zt p ts).length false 0]]) rfl rfl (by simp [xl]) ?_ ⟨?_, ?_⟩
    · simp only [Ww, ↓q9, qd _ _ (qc _), zK, ↓reduceIte, reduceCtorEq, nE, nB, nA]
    · intro j l; match j with
      | 0 => exact fun _ => ⟨_, rfl⟩
      | 1 => simp [zn, Zn]; simp [ju]
      | 2 => simp [zn, AO.ren]
      | j + 3 => simp [zn]
    · simp only [elemV, xl]
      simp only [zL, ↓reduceIte, reduceCtorEq, nE, nA]
    · simp only [Zn, ↓vd, qb _ _ (qc _), zL, ↓reduceIte, reduceCtorEq, nE, nA]
      rfl
  · unfold qle
    have htm : ts.getD i (0, [], 0) ∈ ts := by rw [List.getD_eq_getElem?_getD, List.getElem?_eq_getElem hi]; exact List.getElem_mem _
    have hk : okD (ts.getD i (0, [], 0)).2.1 := ht _ htm
    have h1 : (ts.getD i (0, [], 0)).1 = sz := hz _ htm
    have hfind := qre (ts := ts) (k := 0) hi
    have hlast : (seen ++ [i]).getLast? = some i := List.getLast?_concat ..
    have hpk : yj ts (seen ++ [i]) = yj ts seen ++ [ts.getD i (0, [], 0)] := by simp [yj]
    have hnd' : (seen ++ [i]).Nodup := by
      rw [List.nodup_append]
      exact ⟨hnd, by simp, fun a ha b hb => by simp at hb; subst hb; rintro rfl; exact hsn ha⟩
    have hlt' : ∀ j ∈ seen ++ [i], j < ts.length := fun j hj => by
      rcases List.mem_append.1 hj with h | h
      · exact hlt j h
      · simp at h; omega
    have hsl : seen.length < ts.length := by
      have := qis ts.length (seen ++ [i]) hnd' hlt'
      simp at this; omega
    rw [Nat.zero_add] at hfind
    generalize htt : ts.getD i (0, [], 0) = t at hk h1 hfind hpk ⊢
    obtain ⟨n1, m1, k1⟩ := t
    simp only at hk h1 hfind
    subst h1
    have hone : (dia n1 m1).all AV.one = true := zx _ _
    have hrt := qun (p := p) (qo9 ht hlt)
    have htl := zf hrt
    have htk : List.take ((zt p (yj ts seen)).length * 18) (zc (zt p (yj ts seen))) = zc (zt p (yj ts seen)) := List.take_of_length_le (by rw [htl]; exact Nat.le_refl _)
    have hbd : (zt p (yj ts seen)).length ≤ 1000000 := by
      have := List.length_filterMap_le (fun t : Int × List Nat × Int => if t.2.2.emod p = 0 then none else some (t.1, t.2.1, t.2.2.emod p)) (yj ts seen)
      have h2 : (yj ts seen).length = seen.length := by simp [yj]
      unfold zt; omega
    by_cases hkz : k1.emod p = 0
    · have hre : zt p (yj ts (seen ++ [i])) = zt p (yj ts seen) := by rw [hpk]; simp [zt, hkz]
      simp (maxSteps := 3000000) only [qh, zH, Xk, x8, X7, Kd, hkz, hp, hm, qe, hk.1, hlast, hfind, hone, x7, Qe hk.1, ql5 hk.1, qb4 (t := (n1, m1, 0)) hk.1, Zd, Bg, wh, zq, qw hk.1, Zp, src, q5w, q5t, Int.toNat_zero, Option.map_some, Option.map_none, List.length_replicate, Xp (t := (0, List.replicate 16 0, 0)) (u := (n1, m1, k1.emod p)) (by simp) hk.1, qb0 (t := (n1, m1, k1.emod p)) hk.1, htk, htl, qa, zZ, ↓qp, ↓reduceIte, reduceCtorEq, nA, nM, nS, nE, nL, nD]; try simp only [qa, zY]
      refine ⟨_, qt.xv [0, 1, 2, 3, 4, 5] [22, 5, 4, 0] ⟨by decide, ?_⟩ ?_, ⟨seen ++ [i], hnd', hlt', ?_⟩, ?_⟩
      · simp only [Ww, ↓q9, qd _ _ (qc _), zK, ↓reduceIte, reduceCtorEq, nE, nB, nA]
      · simp only [zK, ↓reduceIte, reduceCtorEq, nE, nB, nA]
      · unfold qle
        simp only [Zn, ↓vd, qb _ _ (qc _), hre, zL, ↓reduceIte, reduceCtorEq, nE, nA]
        rfl
      · simp only [q1u]
        simp only [Zn, ↓vd, zL, ↓reduceIte, reduceCtorEq, nE, nA]
        simp; omega
    · have hre : zt p (yj ts (seen ++ [i])) = zt p (yj ts seen) ++ [(n1, m1, k1.emod p)] := by rw [hpk]; simp [zt, hkz]
      simp (maxSteps := 3000000) only [qh, zH, Xk, x8, X7, Kd, hkz, hp, hm, qe, hk.1, hlast, hfind, hone, x7, Qe hk.1, ql5 hk.1, qb4 (t := (n1, m1, 0)) hk.1, Zd, Bg, wh, zq, qw hk.1, Zp, src, q5w, q5t, Int.toNat_zero, Option.map_some, Option.map_none, List.length_replicate, Xp (t := (0, List.replicate 16 0, 0)) (u := (n1, m1, k1.emod p)) (by simp) hk.1, qb0 (t := (n1, m1, k1.emod p)) hk.1, htk, htl, qa, zZ, ↓qp, ↓reduceIte, reduceCtorEq, nA, nM, nS, nE, nL, nD]; try simp only [qa, zY]
      refine ⟨rfl, ⟨Nat.le_refl _, by omega⟩, rfl, _, qt.xv [0, 1, 2, 3, 4, 8] [22, 5, 4, 0] ⟨by decide, ?_⟩ ?_, ⟨seen ++ [i], hnd', hlt', ?_⟩, ?_⟩
      · simp only [Ww, ↓q9, qlb, qd _ _ (qc _), zK, ↓reduceIte, reduceCtorEq, nE, nB, nA]
      · simp only [zK, ↓reduceIte, reduceCtorEq, nE, nB, nA]
      · unfold qle
        have hne : (zt p (yj ts seen) ++ [(n1, m1, k1.emod p)] = []) = False := by simp
        simp only [Zn, ↓vd, qlb, qb _ _ (qc _), hre, hne, List.length_append, List.length_nil, List.length_cons, zL, ↓reduceIte, reduceCtorEq, nE, nA]
        rfl
      · simp only [q1u]
        simp only [Zn, ↓vd, zL, ↓reduceIte, reduceCtorEq, nE, nA]
        simp; omega
def tsE : Nat → List AE → Option (List (Int × List Nat × Int))
  | _, [] => some []
  | k, ⟨.agg l, .int .i64 v, b⟩ :: es => match vn l, tsE (k + 1) es with
    | some (n, m), some ts => if b = k then some ((n, m, v) :: ts) else none
    | _, _ => none
  | _, _ => none
theorem qgv : ∀ {ts : List (Int × List Nat × Int)} {k : Nat}, okT ts → tsE k (esT k ts) = some ts
  | [], _, _ => rfl
  | t :: l, k, h => by
    simp only [esT, tsE, qy (h t (List.mem_cons_self ..)), qgv (ts := l) (k := k + 1) fun u hu => h u (List.mem_cons_of_mem _ hu), if_true]
theorem qqc : ∀ {es : List AE} {k : Nat} {ts : List (Int × List Nat × Int)}, tsE k es = some ts → es = esT k ts ∧ okT ts
  | [], k, ts, h => by simp only [tsE, Option.some.injEq] at h; subst h; exact ⟨rfl, fun t ht => by cases ht⟩
  | ⟨key, val, b⟩ :: es, k, ts, h => by
    unfold tsE at h
    split at h
    · rename_i e; cases e
    · rename_i e; cases e
      split at h
      · rename_i n m ts' hd hts
        split at h
        · rename_i hb
          cases h; subst hb
          obtain ⟨rfl, hm⟩ := zm hd
          obtain ⟨e1, e2⟩ := qqc hts
          refine ⟨by rw [e1]; rfl, fun t ht => ?_⟩
          rcases List.mem_cons.1 ht with rfl | ht
          · exact hm
          · exact e2 t ht
        · cases h
      · cases h
    · cases h
theorem qp9 {α : Type} : ∀ {l : List α} {i : Nat} {a : α}, l[i]? = some a → l.set i a = l
  | [], i, a, h => by simp at h
  | x :: l, 0, a, h => by simp only [List.getElem?_cons_zero, Option.some.injEq] at h; simp [h]
  | x :: l, i + 1, a, h => by simp only [List.getElem?_cons_succ] at h; simp [qp9 h]
def qgf (ts : List (Int × List Nat × Int)) : Int := match ts with | t :: _ => t.1 | [] => 0
def jv : BE := fun hp xs => match xs with
  | [.ptr b 0, .map m] => match rd hp b, hp[m]? with
    | some (.int .i64 p :: .int .i64 c :: .int .i64 n :: _), some (.map es ck) => match tsE 0 es with
      | some ts => chk (ck = ts.length ∧ (0 < p ∧ p ≤ 1000000) ∧ ts.length ≤ 1000000 ∧ (0 ≤ qgf ts ∧ qgf ts ≤ 8) ∧ (∀ t ∈ ts, t.1 = qgf ts) ∧ (ts.map txt).Nodup)
          (some (elemV p c (if zt p ts = [] then n else qgf ts) hp.length (zt p ts).length, hp ++ [.vec 18 (zc (Qh (zt p ts)))]))
      | none => none
    | _, _ => none
  | _ => none
theorem q62 : Am.Callee Try.prog 105 jv := Callee.fp fun hp xs v hp' he => by
  unfold jv at he
  split at he
  · rename_i b m
    split at he
    · rename_i p c n L es ck hrd hm
      split at he
      · rename_i ts hts
        obtain ⟨⟨h1, h2, h3, h4, h5, h6⟩, he⟩ := ql he
        simp only [Option.some.injEq, Prod.mk.injEq] at he
        obtain ⟨rfl, rfl⟩ := he
        obtain ⟨rfl, hok⟩ := qqc hts
        subst h1
        have hne : m ≠ b := by
          rintro rfl
          simp [rd, hm] at hrd
        refine ⟨[(b, 0), (m, 0)], [.ptr 0 0, .map 1], _, _, _, q7e p c n (qgf ts) ts h2 h4 hok h5 h6 h3, ?_, rfl, ⟨⟨_, hrd, by simp, by simp [AV.zk, AV.ren]⟩, ⟨rfl, ?_⟩, trivial⟩, ?_, ?_, ?_, ?_, ?_⟩
        · simp [ofL, AV.zk, AV.ren]
        · rw [Zn]; exact hm
        · simp [W3, AO.wr, hne]
        · exact ⟨⟨trivial, trivial, trivial, trivial⟩, qew _ _ _, trivial⟩
        · exact ⟨by simp [AV.under], by simp [AV.under], trivial⟩
        · simp [elemV, AV.ren, AV.zk, Ren.ext]
        · simp only [after, upd, q89, show (ju ts).wr = true from rfl, Zn, q5l, ku, if_true, Bool.false_eq_true, if_false, qp9 (show hp[m]? = some (ju ts) from hm), qb _ _ (qc _), List.length_cons, List.length_nil, List.drop_succ_cons, List.drop_zero, List.map_cons, List.map_nil]
      · cases he
    · cases he
  · cases he
def B28 : za := (B27.put 105 (jv))
theorem q19 : qo Try.prog B28 := (qsg.put (q62))
theorem Gc : B28 105 = some (jv) := rfl
abbrev KD : List LT := [LT.int, LT.int, LT.int, LT.int, LT.int, LT.int, LT.int, LT.int, LT.int, LT.int, LT.int, LT.int, LT.int, LT.int, LT.int, LT.int, LT.int]
theorem qqv : ∀ (m m' : List Nat), m.length = m'.length → jw (List.replicate m.length .int) (u8s m) (u8s m') = some (decide (m = m'))
  | [], [], _ => rfl
  | [], _ :: _, h => by simp at h
  | _ :: _, [], h => by simp at h
  | a :: m, b :: m', h => by
    have ih := qqv m m' (by simpa using h)
    simp only [u8s] at ih
    simp only [List.length_cons, List.replicate_succ, u8s, List.map_cons, jw, leq, if_true, ih]
    by_cases e : a = b
    · subst e; simp
    · have : ¬ ((a : Int) = (b : Int)) := by omega
      simp [e, this]
theorem qht {n n' : Int} {m m' : List Nat} (h : m.length = 16) (h' : m'.length = 16) : jw KD (dia n m) (dia n' m') = some (decide (n = n' ∧ m = m')) := by
  have h1 := qqv m m' (by rw [h, h'])
  rw [h] at h1
  have h2 : KD = .int :: List.replicate 16 .int := rfl
  rw [h2]
  simp only [dia, jw, leq, if_true, h1]
  by_cases e : n = n'
  · subst e; simp
  · simp [e]
theorem qcz {n : Int} {m : List Nat} (h : m.length = 16) : kok KD true (.agg (dia n m)) = true := by
  simp only [kok, keq, qht h h]
def qhc : AC := .seq (.region [o0 6 (.box (.t 2)),oZ 8]) (.seq (.region [oM 10 0,oM 11 1,oF 12 0 6,oL 13 12,o0 14 (.build [.int .i64 0,.int .i64 0,.int .i64 0,(.v (.slice none 0 0))] [(0,1,.t 10),(1,1,.t 11),(2,1,.t 13)]),oZ 9,oS 4 9 14]) (.seq (.region [o0 15 (.Km),oN 16 17 6,oM 17 3,⟨none,none,.op (.Ki [.int,.int,.int,.int,.int,.int,.int,.int,.int,.int,.int,.int,.int,.int,.int,.int,.int] true (.t 15) (.t 16) (.t 17))⟩,oM 18 15,oC 19 105 [.t 9,.t 18],oS 4 8 19]) .ret))
theorem qts : zj Try.prog 103 = some ⟨20, qhc, [.wu 8 4]⟩ := by kernel_rfl
theorem qyj (p c n : Int) (m : List Nat) (k : Int) (hp : 0 < p ∧ p ≤ 1000000) (hn : 0 ≤ n ∧ n ≤ 8) (hm : okD m) :
    Am.Fn Try.prog 103 [.int .i64 p, .int .i64 c, .agg (dia n m), .int .i64 k] [] (fun v H' => v = elemV p c n 0 (if k.emod p = 0 then ([] : List (Int × List Nat × Int)) else [(n, m, k.emod p)]).length ∧ H' = [.vec 18 (zc (if k.emod p = 0 then [] else [(n, m, k.emod p)]))]) := by
  refine Am.Fn.ofB q19 mixed qts (by simp) (by simp) ?_
  have hr : zt p [(n, m, k)] = if k.emod p = 0 then [] else [(n, m, k.emod p)] := by
    unfold zt; by_cases h : k.emod p = 0 <;> simp [h]
  have hle : (if k.emod p = 0 then [] else [(n, m, k.emod p)]).length ≤ 1 := by split <;> simp
  generalize (if k.emod p = 0 then [] else [(n, m, k.emod p)]) = L at hr hle ⊢
  have hs : Qh L = L := by
    match L, hle with
    | [], _ => rfl
    | [t], _ => rfl
  have hsz : qgf [(n, m, k)] = n := rfl
  have hall : ∀ t ∈ [(n, m, k)], t.1 = n := by simp
  have hnd : [txt (n, m, k)].Nodup := by simp
  simp (maxSteps := 3000000) only [qh, zH, qhc, Gc, jv, qe, hm.1, qy hm, qcz hm.1, qw hm.1, jc, wb, tsE, hp, hn, hsz, hall, hnd, hr, hs, elemV, ite_self, qa, zZ, ↓qp, ↓reduceIte, reduceCtorEq, nA, nM, nS, nE, nL, nD]; try simp only [qa, zY]
  refine ⟨rfl, hall, rfl, ?_⟩
  refine Ret.xv [4] ⟨⟨by simp, rfl, by decide⟩, ?_⟩ (rs := [.agg [.int .i64 p, .int .i64 c, .int .i64 n, .slc 4 0 L.length false 0]]) rfl rfl (by simp [xl]) ?_ ⟨?_, ?_⟩
  · simp only [qd _ _ (qc _), zK, ↓reduceIte, reduceCtorEq, nE, nB, nA]
  · intro j l; match j with
    | 0 => simp [zn, AO.ren]
    | j + 1 => simp [zn]
  · simp only [xl]
    simp only [zL, ↓reduceIte, reduceCtorEq, nE, nA]
  · simp only [qb _ _ (qc _), zL, ↓reduceIte, reduceCtorEq, nE, nA]
def wm : List AV → Option (AV × List AO)
  | [.int .i64 p, .int .i64 c, .agg l, .int .i64 k] => match vn l with
    | some (n, m) => chk ((0 < p ∧ p ≤ 1000000) ∧ (0 ≤ n ∧ n ≤ 8)) (some (elemV p c n 0 (if k.emod p = 0 then ([] : List (Int × List Nat × Int)) else [(n, m, k.emod p)]).length, [.vec 18 (zc (if k.emod p = 0 then [] else [(n, m, k.emod p)]))]))
    | none => none
  | _ => none
theorem qyy : Am.Callee Try.prog 103 (bu wm) :=
  Am.Callee.new fun xs v H he => by
    unfold wm at he
    split at he
    · rename_i p c l k
      split at he
      · rename_i n m hd
        obtain ⟨⟨h1, h2⟩, he⟩ := ql he
        obtain ⟨rfl, hm⟩ := zm hd
        have e1 := congrArg Prod.fst (Option.some.inj he)
        have e2 := congrArg Prod.snd (Option.some.inj he)
        simp only at e1 e2
        subst e1; subst e2
        exact ⟨by simp only [AV.ze, AV.zo, qg, Bool.and_self], qyj p c n m k h1 h2 hm⟩
      · cases he
    · cases he
def B29 : za := (B28.put 103 (bu wm))
theorem q52 : qo Try.prog B29 := (q19.put (qyy))
theorem G4 (p c n : Int) (b k m : Nat) : AV.ren (Wy m) (.agg [.int .i64 p, .int .i64 c, .int .i64 n, .slc b 0 k false 0]) = .agg [.int .i64 p, .int .i64 c, .int .i64 n, .slc (m + b) 0 k false 0] := rfl
def B30 : za := B29
theorem q1p : qo Try.prog B30 := q52
theorem q4y (p c n e : Int) (b k m : Nat) : AV.ren (Wy m) (.tup [.agg [.int .i64 p, .int .i64 c, .int .i64 n, .slc b 0 k false 0], .int .i64 e]) = .tup [.agg [.int .i64 p, .int .i64 c, .int .i64 n, .slc (m + b) 0 k false 0], .int .i64 e] := rfl
def q8n : za := B30
theorem q45 : qo Try.prog q8n := q1p
def q5p (hp : List AO) (X : AV) : Option (List (Int × List Nat × Int)) := match X with
  | .v (.slice none 0 0) => some []
  | .slc b 0 n true cap => match hp[b]? with
    | some .dead => if n = 0 ∧ cap = 0 then some [] else none
    | some (.ro l) => match Ji (l.length / 18) l with
      | some all => if l.length = all.length * 18 ∧ n ≤ cap ∧ n ≤ all.length then some (all.take n) else none
      | none => none
    | _ => none
  | _ => none
def q9t : za := q8n
theorem q34 : qo Try.prog q9t := q45
def q9m : za := q9t
theorem q2v : qo Try.prog q9m := q34
def q85 : za := q9m
theorem q4w : qo Try.prog q85 := q2v
def B31 : za := q85
theorem q66 : qo Try.prog B31 := q4w
theorem qjj {α : Type} (l : List α) (a b k : Nat) (h : a ≤ b) : List.take a (List.drop k l) = List.take a (List.take b (List.drop k l)) := by
  rw [List.take_take, Nat.min_eq_left h]
theorem qiv {ts : List (Int × List Nat × Int)} {i : Nat} (h : okT ts) (hi : i < ts.length) : List.take 17 (List.drop (i * 18) (zc ts)) = dia ts[i].1 ts[i].2.1 := by
  rw [qjj _ 17 18 _ (by decide), bd h hi]
  have := Ul (h _ (List.getElem_mem hi))
  rwa [List.drop_zero] at this
theorem qrm {ts : List (Int × List Nat × Int)} {i : Nat} (h : okT ts) (hi : i < ts.length) : (zc ts)[i * 18 + 17]? = some (.int .i64 ts[i].2.2) := by
  have h1 := yz (h _ (List.getElem_mem hi))
  rw [← bd h hi, List.getElem?_take, if_pos (by decide), List.getElem?_drop] at h1
  exact h1
def G1 : List AV → Option AV
  | [.agg l, .agg l'] => match vn l, vn l' with
    | some (n, m), some (n', m') => chk ((0 ≤ n ∧ n ≤ 8) ∧ 0 ≤ n' ∧ n' ≤ 8) (some (.bool (Op.bytesLess (j5 n.toNat m) (j5 n'.toNat m'))))
    | _, _ => none
  | _ => none
theorem qhb : B30 66 = some (qk uc) := rfl
theorem qg7 : B30 91 = some (qk Gz) := rfl
theorem qb9 : B30 137 = some (qk wi) := rfl
theorem qdn : B30 150 = some (qk qcq) := rfl
def qfz : AC := .seq (.region [o0 2 (.box (.t 0)),o0 3 (.box (.t 1)),oB 4 false]) (.seq (.draw true [oN 5 17 2,oN 7 17 3,oC 6 150 [.t 5],oC 8 150 [.t 7],oP 9 .lss 6 8,oM 4 9]) .ret)
theorem qqm : zj Try.prog 138 = some ⟨10, qfz, [.slot 4]⟩ := by kernel_rfl
theorem q6j (n n' : Int) (m m' : List Nat) (hm : okD m) (hm' : okD m') (hn : 0 ≤ n ∧ n ≤ 8) (hn' : 0 ≤ n' ∧ n' ≤ 8) :
    Am.Fn Try.prog 138 [.agg (dia n m), .agg (dia n' m')] [] (fun v H' => v = .bool (Op.bytesLess (j5 n.toNat m) (j5 n'.toNat m')) ∧ H' = []) := by
  refine Am.Fn.xm (R := fun v => v = _) q1p mixed qqm (by simp) (by simp) ?_
  simp (maxSteps := 3000000) only [qh, zH, qfz, qhb, qg7, qb9, qdn, uc, Gz, wi, qcq, qe, hm.1, hm'.1, qy hm, qy hm', qw hm.1, qw hm'.1, hn, hn', iE, iN, iB, iC, iL, iD, iA, iS, iM, qa, zZ, ↓qp, ↓reduceIte, reduceCtorEq, nA, nM, nS, nE, nL, nD]; try simp only [qa, zY]
  exact ⟨⟨_, rfl⟩, _, rfl⟩
theorem q7w : Am.Callee Try.prog 138 (qk G1) := Am.Callee.plain fun xs v he => by
  unfold G1 at he
  split at he
  · split at he
    · rename_i l l' n m n' m' hd hd'
      obtain ⟨⟨h1, h2⟩, he⟩ := ql he
      cases he
      obtain ⟨rfl, hm⟩ := zm hd
      obtain ⟨rfl, hm'⟩ := zm hd'
      exact ⟨by simp only [AV.ze, AV.zo, qg, Bool.and_self], rfl, q6j _ _ _ _ hm hm' h1 h2⟩
    · cases he
  · cases he
def B32 : za := (B31.put 138 (qk G1))
theorem q7t : qo Try.prog B32 := (q66.put (q7w))
def zT : Int × List Nat × Int := (0, [], 0)
theorem qaa {ts : List (Int × List Nat × Int)} {i : Nat} (h : i < ts.length) : ts.getD i zT = ts[i] := by
  rw [List.getD_eq_getElem?_getD, List.getElem?_eq_getElem h]; rfl
def B33 : za := B32
theorem q7h : qo Try.prog B33 := q7t
theorem G2 {t : Int × List Nat × Int} (h : okD t.2.1) : List.take 17 (trm t) = dia t.1 t.2.1 := by
  have := Ul h
  rwa [List.drop_zero] at this
def B34 : za := B33
theorem q7i : qo Try.prog B34 := q7h
def qd9 (ts : List (Int × List Nat × Int)) (n : Int) (m : List Nat) : Nat := (ts.takeWhile fun t => ltT t (n, m, 0)).length
def qi5 (p : Int) (ts : List (Int × List Nat × Int)) (n : Int) (m : List Nat) (k : Int) : List (Int × List Nat × Int) :=
  if k.emod p = 0 then ts else
  if qd9 ts n m < ts.length ∧ (ts.getD (qd9 ts n m) zT).1 = n ∧ (ts.getD (qd9 ts n m) zT).2.1 = m then
    ts.take (qd9 ts n m) ++ (if ((ts.getD (qd9 ts n m) zT).2.2 + k.emod p).emod p = 0 then [] else [(n, m, ((ts.getD (qd9 ts n m) zT).2.2 + k.emod p).emod p)]) ++ ts.drop (qd9 ts n m + 1)
  else ts.take (qd9 ts n m) ++ (n, m, k.emod p) :: ts.drop (qd9 ts n m)
theorem qq0 (a b : List (Int × List Nat × Int)) : zc (a ++ b) = zc a ++ zc b := by simp [zc]
def q80 (n : Int) (ts : List (Int × List Nat × Int)) : Prop := ts.length ≤ 1000000 ∧ (∀ t ∈ ts, t.1 = n) ∧ (∀ t ∈ ts, -1000000000000 ≤ t.2.2 ∧ t.2.2 ≤ 1000000000000) ∧ (ts.Pairwise fun a b => ltT a b = true)
instance {n : Int} {ts : List (Int × List Nat × Int)} : Decidable (q80 n ts) := by unfold q80; infer_instance
def B35 : za := B34
theorem qs2 : qo Try.prog B35 := q7i
def Bb : AC := .seq (.region [o0 1 (.box (.t 0)),oZ 2]) (.seq (.region [oF 3 0 1,oL 4 3,oF 5 1 1,oL 6 5,oF 7 2 1,oL 8 7,o0 9 (.u6 0 [] []),o0 10 (.build [.int .i64 0,.int .i64 0,.int .i64 0,(.v (.slice none 0 0))] [(0,1,.t 4),(1,1,.t 6),(2,1,.t 8),(3,1,.t 9)]),oS 4 2 10]) .ret)
theorem qdl : zj Try.prog 97 = some ⟨11, Bb, [.wu 2 4]⟩ := by kernel_rfl
theorem qms (p c n : Int) (k : Nat) :
    Am.Fn Try.prog 97 [elemV p c n 0 k] [.ro []] (fun v H' => v = elemV p c n 1 0 ∧ H' = [.ro [], .vec 18 []]) := by
  refine Am.Fn.ofW qs2 mixed qdl (by simp [elemV, AV.qu, AV.under]) (Yf rfl) ?_
  simp (maxSteps := 3000000) only [qh, zH, Bb, qa, elemV, iE, iN, iB, iC, iL, iD, iA, iS, iM, rep, qa, zZ, ↓qp, ↓reduceIte, reduceCtorEq, nA, nM, nS, nE, nL, nD]; try simp only [qa, zY]
  refine ⟨rfl, _, qt.trans (qt.qv [2]) (qt.vec 3 0 18 (by decide) rfl rfl rfl rfl), ?_⟩
  refine Ret.xv [0, 3] ⟨⟨by simp, rfl, by decide⟩, ?_⟩ (rs := [.agg [.int .i64 p, .int .i64 c, .int .i64 n, .slc 3 0 0 false 0]]) ?_ rfl (by simp [xl]) ?_ ⟨?_, ?_⟩
  · simp only [qv, zp, zV, ↓reduceIte, nE, reduceCtorEq, nB]
    simp only [zK, ↓reduceIte, reduceCtorEq, nE, nB, nA]
  · simp only [qv, zp, zV, ↓reduceIte, nE, reduceCtorEq, nB]
    rfl
  · intro j l; match j with
    | 0 => simp [zn, qam, AO.xe, AO.ren]
    | 1 => simp [zn, qam, AO.xe, AO.ren]
    | j + 2 => simp [zn]
  · simp only [xl]
    simp only [zL, ↓reduceIte, reduceCtorEq, nE, nA]
  · rfl
def Xh : BE := fun hp xs => match xs with
  | [.agg [.int .i64 p, .int .i64 c, .int .i64 n, .slc b 0 k false 0]] => match rd hp b with
    | some _ => some (elemV p c n hp.length 0, hp ++ [.vec 18 []])
    | none => none
  | _ => none
theorem q48 : Am.Callee Try.prog 97 Xh := Callee.fp fun hp xs v hp' he => by
  unfold Xh at he
  split at he
  · rename_i p c n b k
    split at he
    · rename_i L hL
      simp only [Option.some.injEq, Prod.mk.injEq] at he
      obtain ⟨rfl, rfl⟩ := he
      refine ⟨[(b, 0)], [elemV p c n 0 k], _, _, _, qms p c n k, by simp [elemV, AV.ren, AV.zk, ofL], rfl, ⟨⟨L, hL, by simp, by simp [AV.zk]⟩, trivial⟩, rfl, ⟨trivial, trivial⟩, ⟨⟨trivial, trivial, trivial, by simp [AV.under], trivial⟩, trivial⟩, by simp [elemV, AV.ren, AV.zk, Ren.ext], ?_⟩
      simp [after, upd, AO.wr, AO.ren, AV.zk]
    · cases he
  · cases he
def B36 : za := (B35.put 97 (Xh))
theorem q55 : qo Try.prog B36 := (qs2.put (q48))
theorem qie {n n' : Nat} {m m' : List Nat} (h : isS n m = true) (h' : isS n' m' = true) (hm : m.length = 16) (hm' : m'.length = 16) (e : j5 n m = j5 n' m') : n = n' ∧ m = m' := by
  rw [Vx n m hm] at h
  rw [Vx n' m' hm'] at h'
  simp only [isI, Bool.and_eq_true, beq_iff_eq] at h h'
  have h1 := h.2.2
  rw [e, h'.2.2] at h1
  simp only [Option.some.injEq, Prod.mk.injEq] at h1
  exact ⟨h1.1.symm, h1.2.symm⟩
structure xb (p n : Int) (ts : List (Int × List Nat × Int)) : Prop where
  ok : okT ts
  dia : ∀ t ∈ ts, t.1 = n ∧ isS n.toNat t.2.1 = true
  fac : ∀ t ∈ ts, 1 ≤ t.2.2 ∧ t.2.2 ≤ p - 1
  up : upT ts
def qbg (p n : Int) (m : List Nat) (kk : Int) : List (Int × List Nat × Int) → List (Int × List Nat × Int)
  | [] => [(n, m, kk)]
  | t :: l => if ltT t (n, m, 0) then t :: qbg p n m kk l else
    if t.1 = n ∧ t.2.1 = m then (if (t.2.2 + kk).emod p = 0 then [] else [(n, m, (t.2.2 + kk).emod p)]) ++ l else (n, m, kk) :: t :: l
theorem qwb (t : Int × List Nat × Int) (l : List (Int × List Nat × Int)) (n : Int) (m : List Nat) : qd9 (t :: l) n m = if ltT t (n, m, 0) = true then qd9 l n m + 1 else 0 := by
  unfold qd9
  rw [List.takeWhile_cons]
  split <;> rfl
theorem qgw (p n : Int) (m : List Nat) (k : Int) (ts : List (Int × List Nat × Int)) : qi5 p ts n m k = if k.emod p = 0 then ts else qbg p n m (k.emod p) ts := by
  unfold qi5
  split
  · rfl
  · rename_i hk
    induction ts with
    | nil => simp [qd9, qbg]
    | cons t l ih =>
      rw [qwb]
      unfold qbg
      by_cases h : ltT t (n, m, 0) = true
      · simp only [if_pos h, List.length_cons, Nat.add_lt_add_iff_right, List.getD_cons_succ, List.take_succ_cons, List.drop_succ_cons]
        rw [← ih]
        split <;> simp
      · simp only [if_neg h, List.length_cons, List.getD_cons_zero, List.take_zero, List.drop_zero, List.nil_append, List.drop_succ_cons]
        by_cases h2 : t.1 = n ∧ t.2.1 = m
        · rw [if_pos ⟨by omega, h2⟩, if_pos h2]
        · rw [if_neg (fun h3 => h2 h3.2), if_neg h2]
theorem qqy {p n : Int} {m : List Nat} {kk : Int} : ∀ {ts : List (Int × List Nat × Int)}, (qbg p n m kk ts).length ≤ ts.length + 1
  | [] => Nat.le_refl _
  | t :: l => by
    unfold qbg
    split
    · have := qqy (p := p) (n := n) (m := m) (kk := kk) (ts := l)
      simp only [List.length_cons]; omega
    · split
      · split <;> simp <;> omega
      · simp
theorem Y7 {p n : Int} {m : List Nat} {kk : Int} {u : Int × List Nat × Int} : ∀ {ts : List (Int × List Nat × Int)}, u ∈ qbg p n m kk ts → u ∈ ts ∨ (u.1 = n ∧ u.2.1 = m ∧ (u.2.2 = kk ∨ ∃ f : Int, u.2.2 = (f + kk).emod p ∧ (f + kk).emod p ≠ 0))
  | [], h => by
    rw [qbg, List.mem_singleton] at h
    subst h; exact .inr ⟨rfl, rfl, .inl rfl⟩
  | t :: l, h => by
    unfold qbg at h
    split at h
    · rcases List.mem_cons.1 h with rfl | h
      · exact .inl (List.mem_cons_self ..)
      · rcases Y7 h with h | h
        · exact .inl (List.mem_cons_of_mem _ h)
        · exact .inr h
    · split at h
      · split at h
        · exact .inl (List.mem_cons_of_mem _ h)
        · rename_i hne
          rcases List.mem_cons.1 h with rfl | h
          · exact .inr ⟨rfl, rfl, .inr ⟨t.2.2, rfl, hne⟩⟩
          · exact .inl (List.mem_cons_of_mem _ h)
      · rcases List.mem_cons.1 h with rfl | h
        · exact .inr ⟨rfl, rfl, .inl rfl⟩
        · exact .inl h
theorem q6g {t u u' : Int × List Nat × Int} (h1 : u.1 = u'.1) (h2 : u.2.1 = u'.2.1) : ltT t u = ltT t u' := by unfold ltT txt; rw [h1, h2]
theorem q4j {t t' u : Int × List Nat × Int} (h1 : t.1 = t'.1) (h2 : t.2.1 = t'.2.1) : ltT t u = ltT t' u := by unfold ltT txt; rw [h1, h2]
theorem qt9 {p n : Int} {m : List Nat} {kk : Int} (hm : okD m) (hs : isS n.toNat m = true) : ∀ {ts : List (Int × List Nat × Int)}, okT ts → (∀ t ∈ ts, t.1 = n ∧ isS n.toNat t.2.1 = true) → upT ts → upT (qbg p n m kk ts)
  | [], _, _, _ => by unfold qbg upT; exact List.pairwise_singleton _ _
  | t :: l, ho, hd, hu => by
    have hu' := List.pairwise_cons.1 hu
    have ih := qt9 (p := p) (kk := kk) hm hs (ts := l) (fun u h => ho u (List.mem_cons_of_mem _ h)) (fun u h => hd u (List.mem_cons_of_mem _ h)) hu'.2
    unfold qbg
    split
    · rename_i hlt
      refine List.pairwise_cons.2 ⟨fun u hu2 => ?_, ih⟩
      rcases Y7 hu2 with h | ⟨h1, h2, _⟩
      · exact hu'.1 u h
      · rw [q6g (u' := (n, m, 0)) h1 h2]; exact hlt
    · rename_i hlt
      split
      · rename_i he
        split
        · exact hu'.2
        · refine List.pairwise_cons.2 ⟨fun u hu2 => ?_, hu'.2⟩
          rw [q4j (t' := t) he.1.symm he.2.symm]
          exact hu'.1 u hu2
      · rename_i he
        have hx : ltT (n, m, kk) t = true := by
          cases hb : ltT (n, m, kk) t with
          | true => rfl
          | false =>
            exfalso
            have hdt := hd t (List.mem_cons_self ..)
            have e := Xu _ _ (Bool.eq_false_iff.2 hlt) hb
            unfold txt at e
            simp only [hdt.1] at e
            exact he ⟨hdt.1, (qie hdt.2 hs (ho t (List.mem_cons_self ..)).1 hm.1 e).2⟩
        refine List.pairwise_cons.2 ⟨fun u hu2 => ?_, hu⟩
        rcases List.mem_cons.1 hu2 with rfl | h
        · exact hx
        · exact Qd _ _ _ hx (hu'.1 u h)
theorem qlw {p n : Int} {m : List Nat} {k : Int} {ts : List (Int × List Nat × Int)} (hp : 0 < p) (hm : okD m) (hs : isS n.toNat m = true) (h : xb p n ts) : xb p n (qi5 p ts n m k) := by
  rw [qgw]
  split
  · exact h
  · rename_i hk
    have b1 : 0 ≤ k.emod p := Int.emod_nonneg k (by omega)
    have b2 : k.emod p < p := Int.emod_lt_of_pos k hp
    refine ⟨fun u hu => ?_, fun u hu => ?_, fun u hu => ?_, qt9 hm hs h.ok h.dia h.up⟩
    · rcases Y7 hu with h1 | ⟨_, h2, _⟩
      · exact h.ok u h1
      · rw [h2]; exact hm
    · rcases Y7 hu with h1 | ⟨h1, h2, _⟩
      · exact h.dia u h1
      · rw [h2]; exact ⟨h1, hs⟩
    · rcases Y7 hu with h1 | ⟨_, _, h3 | ⟨f, h3, h4⟩⟩
      · exact h.fac u h1
      · omega
      · have c1 : 0 ≤ (f + k.emod p).emod p := Int.emod_nonneg _ (by omega)
        have c2 : (f + k.emod p).emod p < p := Int.emod_lt_of_pos _ hp
        omega
theorem qor {p n : Int} {m : List Nat} {k : Int} {ts : List (Int × List Nat × Int)} : (qi5 p ts n m k).length ≤ ts.length + 1 := by
  rw [qgw]; split
  · omega
  · exact qqy
def qbm (p n k : Int) (acc b : List (Int × List Nat × Int)) : List (Int × List Nat × Int) := b.foldl (fun acc t => qi5 p acc n t.2.1 (k * t.2.2)) acc
theorem qdq {p n k : Int} {a : List (Int × List Nat × Int)} (hp : 0 < p) (ha : xb p n a) : ∀ {b : List (Int × List Nat × Int)}, xb p n b → xb p n (qbm p n k a b) ∧ (qbm p n k a b).length ≤ a.length + b.length := by
  intro b
  unfold qbm
  induction b generalizing a with
  | nil => exact fun _ => ⟨ha, by simp⟩
  | cons t b ih =>
    intro hb
    have h1 := qlw (k := k * t.2.2) hp (hb.ok t (List.mem_cons_self ..)) (hb.dia t (List.mem_cons_self ..)).2 ha
    have h2 := qor (p := p) (n := n) (m := t.2.1) (k := k * t.2.2) (ts := a)
    have h3 := ih h1 ⟨fun u h => hb.ok u (List.mem_cons_of_mem _ h), fun u h => hb.dia u (List.mem_cons_of_mem _ h), fun u h => hb.fac u (List.mem_cons_of_mem _ h), (List.pairwise_cons.1 hb.up).2⟩
    rw [List.foldl_cons]
    refine ⟨h3.1, ?_⟩
    have := h3.2
    simp only [List.length_cons]; omega
def Bl (p n : Int) (ts : List (Int × List Nat × Int)) : Prop := (∀ t ∈ ts, t.1 = n ∧ isS n.toNat t.2.1 = true) ∧ (∀ t ∈ ts, 1 ≤ t.2.2 ∧ t.2.2 ≤ p - 1) ∧ (ts.Pairwise fun a b => ltT a b = true)
instance {p n : Int} {ts : List (Int × List Nat × Int)} : Decidable (Bl p n ts) := by unfold Bl; infer_instance
theorem Bl.qi2 {p n : Int} {ts : List (Int × List Nat × Int)} (h : Bl p n ts) (ho : okT ts) : xb p n ts := ⟨ho, h.1, h.2.1, h.2.2⟩
theorem xb.dec {p n : Int} {ts : List (Int × List Nat × Int)} (h : xb p n ts) : Bl p n ts := ⟨h.dia, h.fac, h.up⟩
def B37 : za := B36
theorem qd0 : qo Try.prog B37 := q55
def Q6 (n : Int) (m : List Nat) : List (Int × List Nat × Int) → Option Nat
  | [] => none
  | t :: l => if n = t.1 ∧ m = t.2.1 then some 0 else (Q6 n m l).map (· + 1)
theorem Y6 {n : Int} {m : List Nat} (hm : m.length = 16) : ∀ {ts : List (Int × List Nat × Int)} {k i : Nat}, okT ts →
    wb KD true (.agg (dia n m)) (esT k ts) i = some ((Q6 n m ts).map fun j => (i + j, ⟨.agg (dia n m), .int .i64 (ts.getD j zT).2.2, k + j⟩))
  | [], k, i, _ => rfl
  | t :: l, k, i, h => by
    have h1 := (h t (List.mem_cons_self ..)).1
    have ih := Y6 (n := n) hm (ts := l) (k := k + 1) (i := i + 1) fun u hu => h u (List.mem_cons_of_mem _ hu)
    unfold esT wb
    simp only [keq, qht hm h1, Q6]
    by_cases e : n = t.1 ∧ m = t.2.1
    · simp only [decide_eq_true e, if_pos e, Option.map_some, Nat.add_zero, List.getD_cons_zero]
      obtain ⟨rfl, rfl⟩ := e
      rfl
    · simp only [decide_eq_false e, if_neg e, ih, Option.map_map]
      congr 1
      congr 1
      funext j
      simp only [Function.comp, List.getD_cons_succ]
      rw [show i + 1 + j = i + (j + 1) by omega, show k + 1 + j = k + (j + 1) by omega]
def b9 (n : Int) (m : List Nat) (f : Int) : List (Int × List Nat × Int) → List (Int × List Nat × Int)
  | [] => [(n, m, f)]
  | t :: l => if n = t.1 ∧ m = t.2.1 then (t.1, t.2.1, t.2.2 + f) :: l else t :: b9 n m f l
theorem qns : ∀ {a b : List (Int × List Nat × Int)} {k : Nat}, esT k (a ++ b) = esT k a ++ esT (k + a.length) b
  | [], b, k => rfl
  | t :: a, b, k => by
    simp only [List.cons_append, esT, qns, List.length_cons]
    rw [show k + 1 + a.length = k + (a.length + 1) by omega]
theorem qm8 {n v : Int} {m : List Nat} : ∀ {ts : List (Int × List Nat × Int)} {k j : Nat}, (esT k ts).set j ⟨.agg (dia n m), .int .i64 v, k + j⟩ = esT k (ts.set j (n, m, v))
  | [], k, j => rfl
  | t :: ts, k, 0 => rfl
  | t :: ts, k, j + 1 => by
    simp only [esT, List.set_cons_succ]
    rw [show k + (j + 1) = k + 1 + j by omega, qm8]
theorem qnx {v : Int} : ∀ {ts : List (Int × List Nat × Int)} {k j : Nat}, (esT k ts).modify j (fun x => ⟨x.key, .int .i64 v, x.born⟩) = esT k (ts.modify j fun t => (t.1, t.2.1, v))
  | [], k, j => by cases j <;> rfl
  | t :: ts, k, 0 => rfl
  | t :: ts, k, j + 1 => by
    simp only [esT, List.modify_succ_cons, qnx]
theorem qha : ∀ {ts : List (Int × List Nat × Int)} {k j : Nat}, j < ts.length → (esT k ts).findIdx? (fun x => (x.born : Int) == ((k + j : Nat) : Int)) = some j
  | t :: ts, k, 0, _ => by simp [esT, List.findIdx?_cons]
  | t :: ts, k, j + 1, h => by
    have := qha (ts := ts) (k := k + 1) (j := j) (by simpa using h)
    rw [show k + 1 + j = k + (j + 1) by omega] at this
    have hne : ((k : Int) == ((k + (j + 1) : Nat) : Int)) = false := by rw [beq_eq_false_iff_ne]; omega
    simp only [esT, List.findIdx?_cons, hne, this, Bool.false_eq_true, if_false, Option.map_some]
theorem Uo {n : Int} {m : List Nat} : ∀ {ts : List (Int × List Nat × Int)} {j : Nat}, Q6 n m ts = some j → j < ts.length ∧ (ts.getD j zT).1 = n ∧ (ts.getD j zT).2.1 = m ∧ ∀ f, b9 n m f ts = ts.set j (n, m, (ts.getD j zT).2.2 + f)
  | t :: l, j, h => by
    unfold Q6 at h
    split at h
    · rename_i e
      cases h
      obtain ⟨rfl, rfl⟩ := e
      exact ⟨by simp, rfl, rfl, fun f => by simp [b9]⟩
    · rename_i e
      cases hi : Q6 n m l with
      | none => rw [hi] at h; cases h
      | some i =>
        rw [hi] at h; cases h
        obtain ⟨h1, h2, h3, h4⟩ := Uo hi
        exact ⟨by simp; omega, by simpa using h2, by simpa using h3, fun f => by simp [b9, if_neg e, h4]⟩
theorem qeg {n : Int} {m : List Nat} : ∀ {ts : List (Int × List Nat × Int)}, Q6 n m ts = none → (∀ f, b9 n m f ts = ts ++ [(n, m, f)]) ∧ ∀ t ∈ ts, ¬ (n = t.1 ∧ m = t.2.1)
  | [], _ => ⟨fun _ => rfl, by simp⟩
  | t :: l, h => by
    unfold Q6 at h
    split at h
    · cases h
    · rename_i e
      have hi : Q6 n m l = none := by
        cases hi : Q6 n m l with
        | none => rfl
        | some i => rw [hi] at h; cases h
      obtain ⟨h1, h2⟩ := qeg hi
      refine ⟨fun f => by simp [b9, if_neg e, h1], fun u hu => ?_⟩
      rcases List.mem_cons.1 hu with rfl | hu
      · exact e
      · exact h2 u hu
structure qal (n M : Int) (ts : List (Int × List Nat × Int)) : Prop where
  ok : okT ts
  dia : ∀ t ∈ ts, t.1 = n ∧ isS n.toNat t.2.1 = true
  fac : ∀ t ∈ ts, -M ≤ t.2.2 ∧ t.2.2 ≤ M
  one : ts.Pairwise fun a b => a.2.1 ≠ b.2.1
theorem Ve {n f : Int} {m : List Nat} {u : Int × List Nat × Int} : ∀ {ts : List (Int × List Nat × Int)}, u ∈ b9 n m f ts → (∃ t ∈ ts, u.1 = t.1 ∧ u.2.1 = t.2.1 ∧ (u.2.2 = t.2.2 ∨ u.2.2 = t.2.2 + f)) ∨ (u = (n, m, f) ∧ ∀ t ∈ ts, ¬ (n = t.1 ∧ m = t.2.1))
  | [], h => by
    rw [b9, List.mem_singleton] at h
    exact .inr ⟨h, by simp⟩
  | t :: l, h => by
    unfold b9 at h
    split at h
    · rcases List.mem_cons.1 h with rfl | h
      · exact .inl ⟨t, List.mem_cons_self .., rfl, rfl, .inr rfl⟩
      · exact .inl ⟨u, List.mem_cons_of_mem _ h, rfl, rfl, .inl rfl⟩
    · rename_i e
      rcases List.mem_cons.1 h with rfl | h
      · exact .inl ⟨u, List.mem_cons_self .., rfl, rfl, .inl rfl⟩
      · rcases Ve h with ⟨v, hv, h1⟩ | ⟨h1, h2⟩
        · exact .inl ⟨v, List.mem_cons_of_mem _ hv, h1⟩
        · refine .inr ⟨h1, fun v hv => ?_⟩
          rcases List.mem_cons.1 hv with rfl | hv
          · exact e
          · exact h2 v hv
theorem qh5 {n f : Int} {m : List Nat} : ∀ {ts : List (Int × List Nat × Int)}, (∀ t ∈ ts, t.1 = n) → (ts.Pairwise fun a b => a.2.1 ≠ b.2.1) → (b9 n m f ts).Pairwise fun a b => a.2.1 ≠ b.2.1
  | [], _, _ => List.pairwise_singleton _ _
  | t :: l, hs, h => by
    have h' := List.pairwise_cons.1 h
    unfold b9
    split
    · exact List.pairwise_cons.2 ⟨fun u hu => h'.1 u hu, h'.2⟩
    · rename_i e
      refine List.pairwise_cons.2 ⟨fun u hu => ?_, qh5 (fun u hu => hs u (List.mem_cons_of_mem _ hu)) h'.2⟩
      rcases Ve hu with ⟨v, hv, _, h2, _⟩ | ⟨rfl, _⟩
      · rw [h2]; exact h'.1 v hv
      · intro e2; exact e ⟨(hs t (List.mem_cons_self ..)).symm, e2.symm⟩
theorem qoo {n f M F : Int} {m : List Nat} {ts : List (Int × List Nat × Int)} (hm : okD m) (hs : isS n.toNat m = true) (hf : -F ≤ f ∧ f ≤ F) (hM : 0 ≤ M) (h : qal n M ts) : qal n (M + F) (b9 n m f ts) := by
  refine ⟨fun u hu => ?_, fun u hu => ?_, fun u hu => ?_, qh5 (fun t ht => (h.dia t ht).1) h.one⟩
  · rcases Ve hu with ⟨v, hv, _, h2, _⟩ | ⟨rfl, _⟩
    · rw [h2]; exact h.ok v hv
    · exact hm
  · rcases Ve hu with ⟨v, hv, h1, h2, _⟩ | ⟨rfl, _⟩
    · rw [h1, h2]; exact h.dia v hv
    · exact ⟨rfl, hs⟩
  · rcases Ve hu with ⟨v, hv, _, _, h3⟩ | ⟨rfl, _⟩
    · have := h.fac v hv
      rcases h3 with h3 | h3 <;> omega
    · simp only; omega
def xi (k : Int) (acc b : List (Int × List Nat × Int)) : List (Int × List Nat × Int) := b.foldl (fun acc t => b9 t.1 t.2.1 (k * t.2.2) acc) acc
theorem qip {k : Int} {a b : List (Int × List Nat × Int)} {i : Nat} (h : i < b.length) : xi k a (b.take (i + 1)) = b9 b[i].1 b[i].2.1 (k * b[i].2.2) (xi k a (b.take i)) := by
  rw [List.take_succ_eq_append_getElem h, xi, List.foldl_append]; rfl
theorem qhg {n f : Int} {m : List Nat} : ∀ {ts : List (Int × List Nat × Int)}, (b9 n m f ts).length ≤ ts.length + 1
  | [] => Nat.le_refl _
  | t :: l => by
    unfold b9
    split
    · simp
    · have := qhg (n := n) (m := m) (f := f) (ts := l)
      simp only [List.length_cons]; omega
def cf (m : List Nat) : List (Int × List Nat × Int) → Int
  | [] => 0
  | t :: l => (if t.2.1 = m then t.2.2 else 0) + cf m l
theorem qya {m : List Nat} : ∀ {a b : List (Int × List Nat × Int)}, cf m (a ++ b) = cf m a + cf m b
  | [], b => by simp [cf]
  | t :: a, b => by simp only [List.cons_append, cf, qya (a := a)]; omega
theorem q2t {m : List Nat} {a b : List (Int × List Nat × Int)} (h : a.Perm b) : cf m a = cf m b := by
  induction h with
  | nil => rfl
  | cons x _ ih => simp only [cf, ih]
  | swap x y l => simp only [cf]; omega
  | trans _ _ h1 h2 => rw [h1, h2]
theorem kh (p a : Int) : p ∣ a.emod p - a := ⟨-(a / p), by
  have : a.emod p = a - p * (a / p) := Int.emod_def a p
  rw [this, Int.mul_neg]; omega⟩
theorem uu {p x y z : Int} (h1 : p ∣ x) (h2 : p ∣ y) (e : z = x + y) : p ∣ z := e ▸ Int.dvd_add h1 h2
theorem W1 {p x y z : Int} (h1 : p ∣ x) (h2 : p ∣ y) (e : z = x - y) : p ∣ z := e ▸ Int.dvd_sub h1 h2
theorem qn0 {p a : Int} (h : a.emod p = 0) : p ∣ a := Int.dvd_of_emod_eq_zero h
theorem qg0 {n f : Int} {m m' : List Nat} : ∀ {ts : List (Int × List Nat × Int)}, (∀ t ∈ ts, t.1 = n) → cf m (b9 n m' f ts) = cf m ts + if m' = m then f else 0
  | [], _ => by simp [b9, cf]
  | t :: l, h => by
    have h0 := h t (List.mem_cons_self ..)
    unfold b9
    split
    · rename_i e
      simp only [cf, e.2]
      split <;> omega
    · simp only [cf, qg0 (ts := l) fun u hu => h u (List.mem_cons_of_mem _ hu)]
      omega
theorem qvd {p : Int} {m : List Nat} : ∀ {ts : List (Int × List Nat × Int)}, p ∣ cf m (zt p ts) - cf m ts
  | [] => by simp [zt, cf]
  | t :: l => by
    have ih := qvd (p := p) (m := m) (ts := l)
    unfold zt at ih ⊢
    rw [List.filterMap_cons]
    split
    · rename_i e
      split at e
      · rename_i e2
        simp only [cf]
        split
        · exact W1 ih (qn0 e2) (by omega)
        · exact uu ih (Int.dvd_zero p) (by omega)
      · cases e
    · rename_i u e
      split at e
      · cases e
      · cases e
        simp only [cf]
        split
        · exact uu ih (kh p t.2.2) (by omega)
        · exact uu ih (Int.dvd_zero p) (by omega)
theorem quh {p n kk : Int} {m m' : List Nat} : ∀ {ts : List (Int × List Nat × Int)}, (∀ t ∈ ts, t.1 = n) → p ∣ cf m (qbg p n m' kk ts) - (cf m ts + if m' = m then kk else 0)
  | [], _ => by simp [qbg, cf]
  | t :: l, h => by
    have ih := quh (p := p) (kk := kk) (m := m) (m' := m') (ts := l) fun u hu => h u (List.mem_cons_of_mem _ hu)
    unfold qbg
    split
    · simp only [cf]
      exact uu ih (Int.dvd_zero p) (by omega)
    · split
      · rename_i e
        rw [qya]
        split
        · rename_i e0
          simp only [cf, e.2]
          split
          · exact W1 (Int.dvd_zero p) (qn0 e0) (by omega)
          · exact uu (Int.dvd_zero p) (Int.dvd_zero p) (by omega)
        · simp only [cf, e.2]
          split
          · exact uu (kh p (t.2.2 + kk)) (Int.dvd_zero p) (by omega)
          · exact uu (Int.dvd_zero p) (Int.dvd_zero p) (by omega)
      · simp only [cf]
        exact uu (Int.dvd_zero p) (Int.dvd_zero p) (by omega)
theorem qvb {p n k : Int} {m m' : List Nat} {ts : List (Int × List Nat × Int)} (h : ∀ t ∈ ts, t.1 = n) : p ∣ cf m (qi5 p ts n m' k) - (cf m ts + if m' = m then k else 0) := by
  rw [qgw]
  split
  · rename_i e
    split
    · exact W1 (Int.dvd_zero p) (qn0 e) (by omega)
    · exact uu (Int.dvd_zero p) (Int.dvd_zero p) (by omega)
  · have h1 := quh (p := p) (kk := k.emod p) (m := m) (m' := m') h
    split at h1
    · rename_i e
      rw [if_pos e]
      exact uu h1 (kh p k) (by omega)
    · rename_i e
      rw [if_neg e]; exact h1
theorem qmx {m : List Nat} : ∀ {ts : List (Int × List Nat × Int)}, (∀ t ∈ ts, t.2.1 ≠ m) → cf m ts = 0
  | [], _ => rfl
  | t :: l, h => by
    simp only [cf, if_neg (h t (List.mem_cons_self ..)), qmx (ts := l) fun u hu => h u (List.mem_cons_of_mem _ hu)]; rfl
theorem qs0 : ∀ {ts : List (Int × List Nat × Int)}, (ts.Pairwise fun a b => a.2.1 ≠ b.2.1) → ∀ t ∈ ts, cf t.2.1 ts = t.2.2
  | u :: l, h, t, ht => by
    have h' := List.pairwise_cons.1 h
    rcases List.mem_cons.1 ht with rfl | ht
    · simp only [cf, if_true, qmx fun v hv e => h'.1 v hv e.symm]; omega
    · simp only [cf, if_neg (h'.1 t ht), qs0 h'.2 t ht]; omega
theorem qzq {ts : List (Int × List Nat × Int)} {n : Int} (hs : ∀ t ∈ ts, t.1 = n) (h : upT ts) : ts.Pairwise fun a b => a.2.1 ≠ b.2.1 := by
  refine List.Pairwise.imp_of_mem ?_ h
  intro a b ha hb hlt e
  have : txt a = txt b := by unfold txt; rw [hs a ha, hs b hb, e]
  unfold ltT at hlt
  rw [this, y0] at hlt; cases hlt
theorem b7 {p n : Int} {ts : List (Int × List Nat × Int)} (h : xb p n ts) (hp : 0 < p) (m : List Nat) : (0 ≤ cf m ts ∧ cf m ts ≤ p - 1) ∧ ∀ t : Int × List Nat × Int, t.2.1 = m → (t ∈ ts ↔ t.1 = n ∧ t.2.2 = cf m ts ∧ cf m ts ≠ 0) := by
  have ha := qzq (fun t ht => (h.dia t ht).1) h.up
  by_cases hx : ∃ t ∈ ts, t.2.1 = m
  · obtain ⟨t, ht, rfl⟩ := hx
    have e := qs0 ha t ht
    have hf := h.fac t ht
    rw [e]
    refine ⟨by omega, fun u hu => ⟨fun hm => ?_, fun ⟨h1, h2, _⟩ => ?_⟩⟩
    · have e2 := qs0 ha u hm
      rw [hu, e] at e2
      exact ⟨(h.dia u hm).1, e2.symm, by omega⟩
    · have : u = t := by
        obtain ⟨a, b, c⟩ := u
        obtain ⟨a', b', c'⟩ := t
        simp only at h1 h2 hu
        rw [h1, h2, hu, ← (h.dia _ ht).1]
      rw [this]; exact ht
  · have e := qmx (m := m) (ts := ts) fun t ht e => hx ⟨t, ht, e⟩
    rw [e]
    exact ⟨by omega, fun u hu => ⟨fun hm => absurd ⟨u, hm, hu⟩ hx, fun h3 => absurd rfl h3.2.2⟩⟩
theorem qca {ts : List (Int × List Nat × Int)} (h : upT ts) : ts.Nodup := h.imp fun {a b} hlt e => by
  subst e; unfold ltT at hlt; rw [y0] at hlt; cases hlt
theorem Kz {p n : Int} {a b : List (Int × List Nat × Int)} (hp : 0 < p) (ha : xb p n a) (hb : xb p n b) (h : ∀ m, p ∣ cf m a - cf m b) : a = b := by
  have he : ∀ m, cf m a = cf m b := fun m => by
    obtain ⟨q, hq⟩ := h m
    have h1 := (b7 ha hp m).1
    have h2 := (b7 hb hp m).1
    have : q = 0 := by
      rcases Int.lt_trichotomy q 0 with hl | hl | hl
      · exfalso
        have : p * q ≤ p * (-1) := Int.mul_le_mul_of_nonneg_left (by omega) (by omega)
        omega
      · exact hl
      · exfalso
        have : p * 1 ≤ p * q := Int.mul_le_mul_of_nonneg_left (by omega) (by omega)
        omega
    subst this
    omega
  refine K5 ha.up hb.up ((List.perm_ext_iff_of_nodup (qca ha.up) (qca hb.up)).2 fun t => ?_)
  rw [(b7 ha hp t.2.1).2 t rfl, (b7 hb hp t.2.1).2 t rfl, he]
theorem qiy {p n M : Int} {S : List (Int × List Nat × Int)} (hp : 0 < p) (h : qal n M S) : xb p n (Qh (zt p S)) := by
  have hmem : ∀ t ∈ Qh (zt p S), ∃ u ∈ S, t = (u.1, u.2.1, u.2.2.emod p) ∧ u.2.2.emod p ≠ 0 := fun t ht => qg8 ((yx _).mem_iff.1 ht)
  refine ⟨fun t ht => ?_, fun t ht => ?_, fun t ht => ?_, qcm (qi3 ?_)⟩
  · obtain ⟨u, hu, rfl, _⟩ := hmem t ht; exact h.ok u hu
  · obtain ⟨u, hu, rfl, _⟩ := hmem t ht; exact h.dia u hu
  · obtain ⟨u, hu, rfl, hne⟩ := hmem t ht
    have b1 : 0 ≤ u.2.2.emod p := Int.emod_nonneg _ (by omega)
    have b2 : u.2.2.emod p < p := Int.emod_lt_of_pos _ hp
    simp only; omega
  · unfold Kj List.Nodup
    rw [List.pairwise_map]
    refine List.Pairwise.imp_of_mem ?_ h.one
    intro a b ha hb hne e
    unfold txt at e
    have h1 := h.dia a ha
    have h2 := h.dia b hb
    rw [h1.1, h2.1] at e
    exact hne (qie h1.2 h2.2 (h.ok a ha).1 (h.ok b hb).1 e).2
theorem qm1 {p : Int} {m : List Nat} {S : List (Int × List Nat × Int)} : p ∣ cf m (Qh (zt p S)) - cf m S := by
  rw [q2t (yx _)]; exact qvd
end Go.Proofs.Ytfhckbbgmblhbaa

/- Contracts: copies and comparisons of diagrams and terms. -/
import Derived.Test.YtkgoadglalpbfaaE5
namespace Go.Proofs.Ytkgoadglalpbfaa
open Go.Am Go.Dia
open Nat renaming reduceAdd → nA, reduceMul → nM, reduceSub → nS, reduceEqDiff → nE, reduceLT → nL, reduceLeDiff → nD, reduceBEq → nB
open Int renaming reduceEq → iE, reduceNe → iN, reduceBEq → iB, reduceBNe → iC, reduceLT → iL, reduceLE → iD, reduceAdd → iA, reduceSub → iS, reduceMul → iM
set_option linter.unusedSimpArgs false
set_option linter.unusedVariables false
set_option maxRecDepth 4000
set_option maxHeartbeats 1000000
def Vb : AC := .seq (.seq (.region [oM 5 4,oK 6 .lss 5 16]) (.cond 6 .skip (.exit 0))) (.seq (.block 1 (.region [oM 9 4,oM 10 4,o0 11 (.ja 16 1 (.t 1) (.t 10)),oL 12 11,o0 13 (.ja 16 1 (.t 3) (.t 9)),oT 13 12])) (.region [oM 7 4,oK 8 .add 7 1,oM 4 8]))
def V1 : AC := .seq (.region [oN 14 16 3,oS 16 2 14]) .ret
def Bp : AC := .seq (.region [o0 1 (.box (.t 0)),o0 2 (.alloc [.int .u8 0,.int .u8 0,.int .u8 0,.int .u8 0,.int .u8 0,.int .u8 0,.int .u8 0,.int .u8 0,.int .u8 0,.int .u8 0,.int .u8 0,.int .u8 0,.int .u8 0,.int .u8 0,.int .u8 0,.int .u8 0])]) (.seq (.region [o0 3 (.alloc [.int .u8 0,.int .u8 0,.int .u8 0,.int .u8 0,.int .u8 0,.int .u8 0,.int .u8 0,.int .u8 0,.int .u8 0,.int .u8 0,.int .u8 0,.int .u8 0,.int .u8 0,.int .u8 0,.int .u8 0,.int .u8 0])]) (.seq (.seq (.region [oI 4 0]) (.block 0 (.loop Vb))) V1))
theorem qer : zy Try.prog 62 = some ⟨15, Bp, [.kd 2 16]⟩ := by kernel_rfl
def Bf : AC := .seq (.region [o0 1 (.box (.t 0)),o0 2 (.alloc [.int .i64 0,.int .u8 0,.int .u8 0,.int .u8 0,.int .u8 0,.int .u8 0,.int .u8 0,.int .u8 0,.int .u8 0,.int .u8 0,.int .u8 0,.int .u8 0,.int .u8 0,.int .u8 0,.int .u8 0,.int .u8 0,.int .u8 0])]) (.seq (.region [o0 3 (.alloc [.int .i64 0,.int .u8 0,.int .u8 0,.int .u8 0,.int .u8 0,.int .u8 0,.int .u8 0,.int .u8 0,.int .u8 0,.int .u8 0,.int .u8 0,.int .u8 0,.int .u8 0,.int .u8 0,.int .u8 0,.int .u8 0,.int .u8 0])]) (.seq (.region [oF 4 0 1,oL 5 4,oF 6 0 3,oT 6 5]) (.seq (.region [oF 7 1 1,oN 8 16 7,oC 9 62 [.t 8],oF 10 1 3,oS 16 10 9]) (.seq (.region [oN 11 17 3,oS 17 2 11]) .ret))))
theorem qec : zy Try.prog 24 = some ⟨12, Bf, [.kd 2 17]⟩ := by kernel_rfl
def Vp : AC := .seq (.seq (.region [oM 6 5,oK 7 .lss 6 16]) (.cond 7 .skip (.exit 0))) (.seq (.block 1 (.seq (.draw false [oM 10 5,o0 11 (.ja 16 1 (.t 2) (.t 10)),oL 12 11,oM 13 5,o0 14 (.ja 16 1 (.t 3) (.t 13)),oL 15 14,oP 16 .neq 12 15]) (.cond 16 (.seq (.region [oB 4 false]) .ret) .skip))) (.region [oM 8 5,oK 9 .add 8 1,oM 5 9]))
def Ve : AC := .seq (.region [oB 4 true]) .ret
def Bg : AC := .seq (.region [o0 2 (.box (.t 0)),o0 3 (.box (.t 1)),oB 4 false]) (.seq (.seq (.region [oI 5 0]) (.block 0 (.loop Vp))) Ve)
theorem qfd : zy Try.prog 151 = some ⟨17, Bg, [.slot 4]⟩ := by kernel_rfl
def Bq : AC := .seq (.region [o0 2 (.box (.t 0)),o0 3 (.box (.t 1)),oB 4 false]) (.seq (.seq (.region [oF 5 0 2,oL 6 5,oF 7 0 3,oL 8 7,oP 9 .neq 6 8]) (.cond 9 (.seq (.region [oB 4 false]) .ret) .skip)) (.seq (.seq (.region [oF 10 1 2,oN 11 16 10,oF 12 1 3,oN 13 16 12,oC 14 151 [.t 11,.t 13],o0 15 (.un .not (.t 14))]) (.cond 15 (.seq (.region [oB 4 false]) .ret) .skip)) (.seq (.region [oB 4 true]) .ret)))
theorem qe9 : zy Try.prog 134 = some ⟨16, Bq, [.slot 4]⟩ := by kernel_rfl
def qcs : AC := .seq (.region [o0 2 (.box (.t 0)),o0 3 (.box (.t 1)),oB 4 false]) (.seq (.seq (.region [oF 5 0 2,oN 6 17 5,oF 7 0 3,oN 8 17 7,oC 9 134 [.t 6,.t 8],o0 10 (.un .not (.t 9))]) (.cond 10 (.seq (.region [oB 4 false]) .ret) .skip)) (.seq (.seq (.region [oF 11 17 2,oL 12 11,oF 13 17 3,oL 14 13,oP 15 .neq 12 14]) (.cond 15 (.seq (.region [oB 4 false]) .ret) .skip)) (.seq (.region [oB 4 true]) .ret)))
theorem ql4 : zy Try.prog 106 = some ⟨16, qcs, [.slot 4]⟩ := by kernel_rfl
theorem qvv : [AV.int .u8 0, .int .u8 0, .int .u8 0, .int .u8 0, .int .u8 0, .int .u8 0, .int .u8 0, .int .u8 0, .int .u8 0, .int .u8 0, .int .u8 0, .int .u8 0, .int .u8 0, .int .u8 0, .int .u8 0, .int .u8 0] = u8s (List.replicate 16 0) := rfl
theorem qrw {m m' : List Nat} (h : m.length = 16) (h' : m'.length = 16) : over (u8s m) 0 (u8s m') = u8s m' := Ko (by rw [xv, xv, h, h'])
theorem quj {m : List Nat} (h : m.length = 16) : List.take 16 (List.drop 0 (u8s m)) = u8s m := by
  rw [List.drop_zero, List.take_of_length_le]; rw [xv, h]; exact Nat.le_refl _
theorem qru {n n' : Int} {m : List Nat} : (dia n m).set 0 (.int .i64 n') = dia n' m := rfl
theorem qp4 {n : Int} {m m' : List Nat} (h : m.length = 16) (h' : m'.length = 16) : over (dia n m) 1 (u8s m') = dia n m' := by
  simp only [over, dia, List.take_succ_cons, List.take_zero, List.cons_append, List.nil_append, List.drop_succ_cons]
  rw [xv, h', show 1 + 16 = 16 + 1 from rfl, List.drop_succ_cons, List.drop_of_length_le (by rw [xv, h]; exact Nat.le_refl _), List.append_nil]
theorem take_set {m : List Nat} {k : Nat} (hm : m.length = 16) (hk : k < 16) : (m.take k ++ List.replicate (16 - k) 0).set k (m.getD k 0) = m.take (k + 1) ++ List.replicate (16 - (k + 1)) 0 := by
  rw [List.set_append_right _ _ (by simp; omega)]
  have h1 : k - (m.take k).length = 0 := by simp; omega
  have h2 : 16 - k = (16 - (k + 1)) + 1 := by omega
  rw [h1, h2, List.replicate_succ, List.set_cons_zero, List.take_add_one, List.append_assoc]
  congr 1
  have h3 : m[k]? = some (m.getD k 0) := by rw [List.getD_eq_getElem?_getD, List.getElem?_eq_getElem (by omega)]; rfl
  rw [h3]; rfl
theorem qeg (m : List Nat) (hm : okD m) : Am.Fn Try.prog 62 [.agg (u8s m)] [] (fun v H' => v = .agg (u8s m) ∧ H' = []) := by
  refine Am.Fn.jw (R := fun v => v = _) qis mixed qer (by simp) (by simp) ?_
  have hml := hm.1
  simp (maxSteps := 3000000) only [Bp, qvv, qb, zZ, ↓qp, ↓reduceIte, reduceCtorEq, nA, nM, nS, nE, nL, nD]; try simp only [qb, zY]
  refine WA.j8 qis (fun s => ∃ k : Nat, s = ⟨[(4, .int .i64 k), (3, .ptr 2 0), (2, .ptr 1 0), (1, .ptr 0 0)], [.cells (u8s m), .cells (u8s (List.replicate 16 0)), .cells (u8s (m.take k ++ List.replicate (16 - k) 0))]⟩ ∧ k ≤ 16)
    (fun s => match get s.env 4 with | .int _ k => (100 - k).toNat | _ => 0) ⟨_, qz.zc [4, 3, 2, 1], 0, rfl, by omega⟩ ?_
  rintro s ⟨k, rfl, hk⟩
  have hw : q8 .i64 ((k : Int) + 1) = ((k + 1 : Nat) : Int) := by rw [wrap64 (by omega) (by omega)]; rfl
  have hl : (m.take k ++ List.replicate (16 - k) 0).length = 16 := by simp; omega
  simp (maxSteps := 3000000) only [Vb, V1, hw, hml, hl, rd, wrt, wrl, AO.y6, List.getElem?_cons_zero, List.getElem?_cons_succ, List.set_cons_zero, List.set_cons_succ, qu4, xv, quj hl, qrw zg hl, List.length_replicate, qj7, bd, qb, zZ, ↓qp, ↓reduceIte, reduceCtorEq, nA, nM, nS, nE, nL, nD]; try simp only [qb, zY]
  refine ⟨fun h => ⟨⟨by omega, by omega⟩, by omega, ⟨by omega, by omega⟩, ⟨by omega, rfl⟩, _, qz.zc [4, 3, 2, 1], ⟨k + 1, ?_, by omega⟩, ?_⟩, fun h => ?_⟩
  · simp only [take_set hml (show k < 16 from by omega), zL, ↓reduceIte, reduceCtorEq, nE, nA]
  · simp only [zL, ↓reduceIte, reduceCtorEq, nE, nA]; omega
  · have hk16 : k = 16 := by omega
    subst hk16
    have e : List.take 16 m ++ List.replicate (16 - 16) 0 = m := by rw [List.take_of_length_le (by omega)]; simp
    rw [e]
def Xk : List AV → Option AV
  | [.agg l] => match bytesOf l with
    | some m => chk (m.length = 16) (some (.agg l))
    | none => none
  | _ => none
theorem qeq : Am.Callee Try.prog 62 (qu Xk) :=
  Am.Callee.plain fun xs v he => by
    unfold Xk at he
    split at he
    · split at he
      · rename_i l m hd
        obtain ⟨h1, he⟩ := qm he
        cases he
        obtain ⟨rfl, h2⟩ := Qg hd
        exact ⟨by simp only [AV.zs, AV.xb, bd, Bool.and_self], by simp only [AV.xb, bd], qeg m ⟨h1, h2⟩⟩
      · cases he
    · cases he
def B10 : z7 := (B9.put 62 (qu Xk))
theorem qg9 : ze Try.prog B10 := (qis.put (qeq))
theorem Bu : B10 62 = some (qu Xk) := rfl
theorem qe5 (n : Int) (m : List Nat) (hm : okD m) : Am.Fn Try.prog 24 [.agg (dia n m)] [] (fun v H' => v = .agg (dia n m) ∧ H' = []) := by
  refine Am.Fn.jw (R := fun v => v = _) qg9 mixed qec (by simp) (by simp) ?_
  have hml := hm.1
  simp (maxSteps := 3000000) only [Bf, Bu, Xk, xq, hml, Us hml, Zo hm.2, qru, qp4 zg hml, vh zg hml, vz hml, rd, wrt, wrl, AO.y6, List.getElem?_cons_zero, List.getElem?_cons_succ, List.set_cons_zero, List.set_cons_succ, qe, xv, List.length_replicate, qj7, xd, qh, AV.one, qb, zZ, ↓qp, ↓reduceIte, reduceCtorEq, nA, nM, nS, nE, nL, nD]; try simp only [qb, zY]
theorem qev (m m' : List Nat) (hm : okD m) (hm' : okD m') : Am.Fn Try.prog 151 [.agg (u8s m), .agg (u8s m')] [] (fun v H' => v = .bool (decide (m = m')) ∧ H' = []) := by
  refine Am.Fn.jw (R := fun v => v = _) qg9 mixed qfd (by simp) (by simp) ?_
  have hml := hm.1
  have hml' := hm'.1
  simp (maxSteps := 3000000) only [Bg, qb, zZ, ↓qp, ↓reduceIte, reduceCtorEq, nA, nM, nS, nE, nL, nD]; try simp only [qb, zY]
  refine WA.j8 qg9 (fun s => ∃ k : Nat, s = ⟨[(5, .int .i64 k), (3, .ptr 1 0), (2, .ptr 0 0)], [.cells (u8s m), .cells (u8s m')]⟩ ∧ k ≤ 16 ∧ ∀ i, i < k → m.getD i 0 = m'.getD i 0)
    (fun s => match get s.env 5 with | .int _ k => (100 - k).toNat | _ => 0) ⟨_, qz.zc [5, 3, 2], 0, rfl, by omega, by intros; omega⟩ ?_
  rintro s ⟨k, rfl, hk, hc⟩
  have hw : q8 .i64 ((k : Int) + 1) = ((k + 1 : Nat) : Int) := by rw [wrap64 (by omega) (by omega)]; rfl
  simp (maxSteps := 3000000) only [Vp, Ve, hw, hml, hml', rd, List.getElem?_cons_zero, List.getElem?_cons_succ, qb, zZ, ↓qp, ↓reduceIte, reduceCtorEq, nA, nM, nS, nE, nL, nD]; try simp only [qb, zY]
  refine ⟨fun h => ⟨⟨by omega, by omega⟩, by omega, ⟨by omega, by omega⟩, by omega, fun h2 => ?_, fun h2 => ⟨_, qz.zc [5, 3, 2], ⟨k + 1, rfl, by omega, fun i hi => ?_⟩, ?_⟩⟩, fun h => ?_⟩
  · symm; rw [decide_eq_false_iff_not]; rintro rfl; exact h2 rfl
  · by_cases e : i = k
    · subst e; omega
    · exact hc i (by omega)
  · simp only [zL, ↓reduceIte, reduceCtorEq, nE, nA]; omega
  · symm; rw [decide_eq_true_eq]
    exact qgm hml hml' fun i hi => hc i (by omega)
def Ze : List AV → Option AV
  | [.agg l, .agg l'] => match bytesOf l, bytesOf l' with
    | some m, some m' => chk (m.length = 16 ∧ m'.length = 16) (some (.bool (decide (m = m'))))
    | _, _ => none
  | _ => none
theorem qe0 : Am.Callee Try.prog 151 (qu Ze) :=
  Am.Callee.plain fun xs v he => by
    unfold Ze at he
    split at he
    · split at he
      · rename_i m m' hd hd'
        obtain ⟨h1, he⟩ := qm he
        cases he
        obtain ⟨rfl, h2⟩ := Qg hd
        obtain ⟨rfl, h2'⟩ := Qg hd'
        exact ⟨by simp only [AV.zs, AV.xb, bd, Bool.and_self], rfl, qev m m' ⟨h1.1, h2⟩ ⟨h1.2, h2'⟩⟩
      · cases he
    · cases he
def Ja : List AV → Option AV
  | [.agg l] => match bg l with
    | some _ => some (.agg l)
    | none => none
  | _ => none
theorem qeu : Am.Callee Try.prog 24 (qu Ja) :=
  Am.Callee.plain fun xs v he => by
    unfold Ja at he
    split at he
    · split at he
      · rename_i l r hd
        obtain ⟨n, m⟩ := r
        cases he
        obtain ⟨rfl, h2⟩ := xa hd
        exact ⟨by simp only [AV.zs, AV.xb, qh, Bool.and_self], by simp only [AV.xb, qh], qe5 n m h2⟩
      · cases he
    · cases he
def B11 : z7 := ((B10.put 24 (qu Ja)).put 151 (qu Ze))
theorem qt7 : ze Try.prog B11 := ((qg9.put (qeu)).put (qe0))
theorem Ga : B11 62 = some (qu Xk) := rfl
theorem Bv : B11 151 = some (qu Ze) := rfl
theorem qe8 (n n' : Int) (m m' : List Nat) (hm : okD m) (hm' : okD m') : Am.Fn Try.prog 134 [.agg (dia n m), .agg (dia n' m')] [] (fun v H' => v = .bool (decide (n = n' ∧ m = m')) ∧ H' = []) := by
  refine Am.Fn.jw (R := fun v => v = _) qt7 mixed qe9 (by simp) (by simp) ?_
  have hml := hm.1
  have hml' := hm'.1
  simp (maxSteps := 3000000) only [Bq, Ga, Bv, Xk, Ze, Us hml, Us hml', Zo hm.2, Zo hm'.2, hml, hml', qe, rd, List.getElem?_cons_zero, List.getElem?_cons_succ, qb, zZ, ↓qp, ↓reduceIte, reduceCtorEq, nA, nM, nS, nE, nL, nD]; try simp only [qb, zY]
  refine ⟨fun h => ?_, fun h => ⟨fun h2 => ?_, fun h2 => ?_⟩⟩
  · symm; rw [decide_eq_false_iff_not]; exact fun e => h e.1
  · symm; rw [decide_eq_false_iff_not]; exact fun e => h2 e.2
  · symm; rw [decide_eq_true_eq]; exact ⟨h, h2⟩
def trm (t : Int × List Nat × Int) : List AV := dia t.1 t.2.1 ++ [.int .i64 t.2.2]
def qq (ts : List (Int × List Nat × Int)) : List AV := ts.flatMap trm
def okT (ts : List (Int × List Nat × Int)) : Prop := ∀ t, t ∈ ts → okD t.2.1
theorem qaj : ∀ (a b : List AV), AV.zs a = true → AV.zs b = true → AV.zs (a ++ b) = true
  | [], b, _, h => h
  | x :: a, b, h, h' => by
    simp only [AV.zs, Bool.and_eq_true, List.cons_append] at h ⊢
    exact ⟨h.1, qaj a b h.2 h'⟩
theorem v7 (t : Int × List Nat × Int) : AV.zs (trm t) = true := qaj _ _ (qh _ _) rfl
theorem qa : ∀ (ts : List (Int × List Nat × Int)), AV.zs (qq ts) = true
  | [] => rfl
  | t :: ts => by simp only [qq, List.flatMap_cons]; exact qaj _ _ (v7 t) (qa ts)
theorem zx {t : Int × List Nat × Int} (h : okD t.2.1) : (trm t).length = 18 := by simp [trm, qe, h.1]
theorem qt : ∀ {ts : List (Int × List Nat × Int)}, okT ts → (qq ts).length = ts.length * 18
  | [], _ => rfl
  | t :: ts, h => by
    simp only [qq, List.flatMap_cons, List.length_append, zx (h t (by simp)), List.length_cons]
    have := qt (ts := ts) fun u hu => h u (List.mem_cons_of_mem _ hu)
    unfold qq at this
    rw [this]; omega
theorem gw : ∀ {ts : List (Int × List Nat × Int)} {i : Nat}, okT ts → (h : i < ts.length) → List.take 18 (List.drop (i * 18) (qq ts)) = trm ts[i]
  | t :: ts, 0, h, hi => by
    simp only [qq, List.flatMap_cons, Nat.zero_mul, List.drop_zero, List.getElem_cons_zero]
    rw [List.take_append_of_le_length (by rw [zx (h t (by simp))]; exact Nat.le_refl _), List.take_of_length_le (by rw [zx (h t (by simp))]; exact Nat.le_refl _)]
  | t :: ts, i + 1, h, hi => by
    have h1 := gw (ts := ts) (i := i) (fun u hu => h u (List.mem_cons_of_mem _ hu)) (by simpa using hi)
    simp only [qq, List.flatMap_cons, List.getElem_cons_succ] at h1 ⊢
    rw [List.drop_append, List.drop_of_length_le (by rw [zx (h t (by simp))]; omega), List.nil_append, zx (h t (by simp)), ← h1]
    congr 2; omega
theorem Jw {t : Int × List Nat × Int} (h : okD t.2.1) : List.take 17 (List.drop 0 (trm t)) = dia t.1 t.2.1 := by
  rw [List.drop_zero, trm, List.take_append_of_le_length (by rw [qe, h.1]; exact Nat.le_refl _), q9 h.1]
theorem bz {t : Int × List Nat × Int} (h : okD t.2.1) : (trm t)[17]? = some (.int .i64 t.2.2) := by
  rw [trm, List.getElem?_append_right (by rw [qe, h.1]; exact Nat.le_refl _), qe, h.1]; rfl
def Zj : List AV → Option AV
  | [.agg l, .agg l'] => match bg l, bg l' with
    | some (n, m), some (n', m') => some (.bool (decide (n = n' ∧ m = m')))
    | _, _ => none
  | _ => none
theorem qe1 : Am.Callee Try.prog 134 (qu Zj) :=
  Am.Callee.plain fun xs v he => by
    unfold Zj at he
    split at he
    · split at he
      · rename_i n m n' m' hd hd'
        cases he
        obtain ⟨rfl, h2⟩ := xa hd
        obtain ⟨rfl, h2'⟩ := xa hd'
        exact ⟨by simp only [AV.zs, AV.xb, qh, Bool.and_self], rfl, qe8 n n' m m' h2 h2'⟩
      · cases he
    · cases he
def B12 : z7 := (B11.put 134 (qu Zj))
theorem qri : ze Try.prog B12 := (qt7.put (qe1))
theorem Gi : B12 62 = some (qu Xk) := rfl
theorem Bt : B12 151 = some (qu Ze) := rfl
theorem Gk : B12 134 = some (qu Zj) := rfl
theorem qlh (t u : Int × List Nat × Int) (ht : okD t.2.1) (hu : okD u.2.1) : Am.Fn Try.prog 106 [.agg (trm t), .agg (trm u)] [] (fun v H' => v = .bool (decide (t = u)) ∧ H' = []) := by
  refine Am.Fn.jw (R := fun v => v = _) qri mixed ql4 (by simp) (by simp) ?_
  have h1 := zx ht
  have h2 := zx hu
  simp (maxSteps := 3000000) only [qcs, Gi, Bt, Gk, Xk, Ze, Zj, Jw ht, Jw hu, bz ht, bz hu, h1, h2, zd ht, zd hu, rd, List.getElem?_cons_zero, List.getElem?_cons_succ, qb, zZ, ↓qp, ↓reduceIte, reduceCtorEq, nA, nM, nS, nE, nL, nD]; try simp only [qb, zY]
  have he : t = u ↔ (t.1 = u.1 ∧ t.2.1 = u.2.1) ∧ t.2.2 = u.2.2 := by
    obtain ⟨a, b, c⟩ := t
    obtain ⟨a', b', c'⟩ := u
    simp only [Prod.mk.injEq, and_assoc]
  refine ⟨fun h => ?_, fun h => ⟨fun h2 => ?_, fun h2 => ?_⟩⟩
  · symm; rw [decide_eq_false_iff_not, he]; exact fun e => h e.1
  · symm; rw [decide_eq_false_iff_not, he]; exact fun e => h2 e.2
  · symm; rw [decide_eq_true_eq, he]; exact ⟨h, h2⟩
def qa1 (l : List AV) : Option (Int × List Nat × Int) := match bg (l.take 17), l.drop 17 with
  | some (n, m), [.int .i64 f] => some (n, m, f)
  | _, _ => none
theorem Uy {t : Int × List Nat × Int} (h : okD t.2.1) : qa1 (trm t) = some t := by
  have h1 := Jw h
  rw [List.drop_zero] at h1
  have h2 : (trm t).drop 17 = [.int .i64 t.2.2] := by
    rw [trm, List.drop_append, List.drop_of_length_le (by rw [qe, h.1]; exact Nat.le_refl _), qe, h.1]; rfl
  unfold qa1
  rw [h1, h2, zd h]
theorem Wl {l : List AV} {t : Int × List Nat × Int} (h : qa1 l = some t) : l = trm t ∧ okD t.2.1 := by
  unfold qa1 at h
  split at h
  · rename_i n m f h1 h2
    cases h
    obtain ⟨h3, h4⟩ := xa h1
    refine ⟨?_, h4⟩
    rw [← List.take_append_drop 17 l, h3, h2]; rfl
  · cases h
def Ji : List AV → Option AV
  | [.agg l, .agg l'] => match qa1 l, qa1 l' with
    | some t, some u => some (.bool (decide (t = u)))
    | _, _ => none
  | _ => none
theorem ql8 : Am.Callee Try.prog 106 (qu Ji) :=
  Am.Callee.plain fun xs v he => by
    unfold Ji at he
    split at he
    · split at he
      · rename_i t u hd hd'
        cases he
        obtain ⟨rfl, h2⟩ := Wl hd
        obtain ⟨rfl, h2'⟩ := Wl hd'
        exact ⟨by simp only [AV.zs, AV.xb, v7, Bool.and_self], rfl, qlh t u h2 h2'⟩
      · cases he
    · cases he
def B13 : z7 := (B12.put 106 (qu Ji))
theorem qm4 : ze Try.prog B13 := (qri.put (ql8))
end Go.Proofs.Ytkgoadglalpbfaa

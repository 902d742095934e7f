/- Contracts of functions of the program, and plain laws, part 2: each text of this part is proved without further condition. -/
import Derived.Test.YtfhckbbgmblhbaaZ1
import Derived.Test.YtfhckbbgmblhbaaAmC
import Derived.Shelf.Small.Strs
namespace Go.Proofs.Ytfhckbbgmblhbaa
open Go.Am Go.Dia
open Nat renaming reduceAdd → nA, reduceMul → nM, reduceSub → nS, reduceEqDiff → nE, reduceLT → nL, reduceLeDiff → nD, reduceBEq → nB
open Int renaming reduceEq → iE, reduceNe → iN, reduceBEq → iB, reduceBNe → iC, reduceLT → iL, reduceLE → iD, reduceAdd → iA, reduceSub → iS, reduceMul → iM
set_option linter.unusedSimpArgs false
set_option linter.unusedVariables false
set_option maxRecDepth 4000
set_option maxHeartbeats 1000000
def qbi : AC := .seq (.region [o0 1 (.box (.t 0)),oB 2 false]) (.seq (.region [oN 3 17 1,oC 4 141 [.t 3],o0 5 (.un .not (.t 4)),oM 2 5]) .ret)
theorem qks : zl Try.prog 147 = some ⟨6, qbi, [.slot 2]⟩ := by kernel_rfl
def jj : AC := .seq (.region [oP 9 .lss 8 7]) (.seq (.cond 9 .skip (.exit 0)) (.seq (.block 1 (.seq (.region [oM 10 8,oM 5 10]) (.seq (.region [oM 11 1,oM 12 0,oM 13 5,oX 14 17 12 13,oN 15 17 14,⟨some 16,none,.call (.t 11) [.t 15]⟩]) (.cond 16 (.seq (.region [oM 17 5,oM 4 17]) .ret) .skip)))) (.region [oK 18 .add 8 1,oM 8 18])))
def wy : AC := .seq (.region [oI 4 (-1)]) .ret
def y8 : AC := .seq (.region [oI 4 0]) (.seq (.seq (.region [oM 6 0,o0 7 (.len .slc (.t 6)),oI 8 0]) (.block 0 (.loop jj))) wy)
theorem X9 : zl Try.prog 174 = some ⟨19, y8, [.slot 4]⟩ := by kernel_rfl
def wv : AC := .seq (.region [oB 4 false]) (.seq (.region [oM 5 0,oM 6 1,oC 7 174 [.t 5,.t 6],oK 8 .geq 7 0,oM 4 8]) .ret)
theorem Zj : zl Try.prog 146 = some ⟨9, wv, [.slot 4]⟩ := by kernel_rfl
def qgj : AC := .seq (.region [oI 2 0]) (.seq (.seq (.region [oM 3 0,⟨some 4,none,.call (.c (.fn 146 [] [])) [.t 3,(.c (.fn 147 [] []))]⟩]) (.cond 4 (.seq (.region [oI 2 1]) .ret) .skip)) (.seq (.region [oI 2 0]) .ret))
theorem qr4 : zl Try.prog 93 = some ⟨5, qgj, [.slot 2]⟩ := by kernel_rfl
theorem qh8 (n : Int) (m : List Nat) (hm : okD m) : Am.Fn Try.prog 141 [.agg (dia n m)] [] (fun v H' => v = .bool (isS n.toNat m) ∧ H' = []) := by
  rw [Xu _ _ hm.1]; exact qke n m hm
theorem qkw : Am.Callee Try.prog 141 (qj yd) :=
  Am.Callee.plain fun xs v he => by
    unfold yd at he
    split at he
    · split at he
      · rename_i n m hd
        cases he
        obtain ⟨rfl, hm⟩ := zi hd
        exact ⟨by simp only [AV.zg, AV.zq, qd, Bool.and_self], rfl, qh8 n m hm⟩
      · cases he
    · cases he
def B18 : zc := (B17.put 141 (qj yd))
theorem q13 : qp Try.prog B18 := (q8h.put (qkw))
theorem qce : B18 141 = some (qj yd) := rfl
theorem qkr (n : Int) (m : List Nat) (hm : okD m) : Am.Fn Try.prog 147 [.agg (dia n m)] [] (fun v H' => v = .bool (!isS n.toNat m) ∧ H' = []) := by
  refine Am.Fn.xf (R := fun v => v = _) q13 mixed qks (by simp) (by simp) ?_
  have hml := hm.1
  simp (maxSteps := 3000000) only [qbi, qce, yd, vq hml, hml, qc, qy hm, rd, List.getElem?_cons_zero, List.getElem?_cons_succ, qa, zZ, ↓qq, ↓reduceIte, reduceCtorEq, nA, nM, nS, nE, nL, nD]; try simp only [qa, zY]
def qee : List AV → Option AV
  | [.agg l] => match vi l with
    | some (n, m) => some (.bool (!isS n.toNat m))
    | none => none
  | _ => none
theorem qkh : Am.Callee Try.prog 147 (qj qee) :=
  Am.Callee.plain fun xs v he => by
    unfold qee at he
    split at he
    · split at he
      · rename_i n m hd
        cases he
        obtain ⟨rfl, hm⟩ := zi hd
        exact ⟨by simp only [AV.zg, AV.zq, qd, Bool.and_self], rfl, qkr n m hm⟩
      · cases he
    · cases he
def B19 : zc := (B18.put 147 (qj qee))
theorem qt0 : qp Try.prog B19 := (q13.put (qkh))
theorem qb3 : B19 141 = some (qj yd) := rfl
theorem qcr : B19 147 = some (qj qee) := rfl
def dis (ds : List (Int × List Nat)) : List AV := ds.flatMap fun d => dia d.1 d.2
def qqr (ds : List (Int × List Nat)) : Prop := ∀ d, d ∈ ds → okD d.2
def bad (d : Int × List Nat) : Bool := !isS d.1.toNat d.2
theorem Xv : ∀ (ds : List (Int × List Nat)), AV.zg (dis ds) = true
  | [] => rfl
  | d :: ds => by simp only [dis, List.flatMap_cons]; exact Ua _ _ (qd _ _) (Xv ds)
theorem Bp : ∀ {ds : List (Int × List Nat)}, qqr ds → (dis ds).length = ds.length * 17
  | [], _ => rfl
  | d :: ds, h => by
    have h0 := h d (by simp)
    have := Bp (ds := ds) fun u hu => h u (List.mem_cons_of_mem _ hu)
    unfold dis at this
    simp only [dis, List.flatMap_cons, List.length_append, qc, h0.1, List.length_cons, this]; omega
theorem qvh : ∀ {ds : List (Int × List Nat)} {i : Nat}, qqr ds → (h : i < ds.length) → List.take 17 (List.drop (i * 17) (dis ds)) = dia ds[i].1 ds[i].2
  | d :: ds, 0, h, hi => by
    have h0 := h d (by simp)
    simp only [dis, List.flatMap_cons, Nat.zero_mul, List.drop_zero, List.getElem_cons_zero]
    rw [List.take_append_of_le_length (by rw [qc, h0.1]; exact Nat.le_refl _), qn h0.1]
  | d :: ds, i + 1, h, hi => by
    have h0 := h d (by simp)
    have h1 := qvh (ds := ds) (i := i) (fun u hu => h u (List.mem_cons_of_mem _ hu)) (by simpa using hi)
    simp only [dis, List.flatMap_cons, List.getElem_cons_succ] at h1 ⊢
    rw [List.drop_append, List.drop_of_length_le (by rw [qc, h0.1]; omega), List.nil_append, qc, h0.1, ← h1]
    congr 2; omega
theorem qrd (ds : List (Int × List Nat)) (ex : Bool) (c : Nat) (hd : qqr ds) (hl : ds.length ≤ 1000000) :
    Am.Fn Try.prog 174 [.slc 0 0 ds.length ex c, .fn 147 [] []] [.ro (dis ds)] (fun v H' => v = .int .i64 (if ds.any bad then (ds.findIdx bad : Nat) else -1) ∧ H' = [.ro (dis ds)]) := by
  refine Am.Fn.xf (R := fun v => v = _) qt0 mixed X9 (by simp) (Jm (Xv _)) ?_
  simp (maxSteps := 3000000) only [y8, qa, zZ, ↓qq, ↓reduceIte, reduceCtorEq, nA, nM, nS, nE, nL, nD]; try simp only [qa, zY]
  refine WA.xr qt0 (fun s => ∃ k : Nat, s = ⟨[(8, .int .i64 k), (7, .int .i64 ds.length), (0, .slc 0 0 ds.length ex c), (1, .fn 147 [] [])], [.ro (dis ds)]⟩ ∧ k ≤ ds.length ∧ ∀ i, (h : i < k) → ∀ h2, bad (ds[i]'h2) = false)
    (fun s => match get s.env 8 with | .int _ x => ds.length - x.toNat | _ => 0) ⟨_, qw.qx [8, 7, 0, 1], 0, rfl, by omega, by intros; omega⟩ ?_
  rintro s ⟨k, rfl, hk, hc⟩
  have hw : qo .i64 ((k : Int) + 1) = ((k + 1 : Nat) : Int) := by rw [wrap64 (by omega) (by omega)]; rfl
  have hdl := Bp hd
  by_cases hlt : k < ds.length
  · have hg := qvh hd hlt
    have ho := hd ds[k] (List.getElem_mem hlt)
    simp (maxSteps := 3000000) only [jj, qb3, qcr, qee, yd, hw, hdl, hg, qy ho, rd, List.getElem?_cons_zero, qa, zZ, ↓qq, ↓reduceIte, reduceCtorEq, nA, nM, nS, nE, nL, nD]; try simp only [qa, zY]
    refine ⟨fun _ => ⟨⟨⟨by omega, by omega⟩, by omega⟩, by omega, fun h2 => ⟨⟨_, rfl⟩, ?_⟩, fun h2 => ⟨_, qw.qx [8, 7, 0, 1], ⟨k + 1, rfl, by omega, fun i hi h3 => ?_⟩, ?_⟩⟩, fun h => absurd (by omega) h⟩
    · have hb : bad ds[k] = true := by unfold bad; rw [h2]; rfl
      have h1 : ds.any bad = true := List.any_eq_true.2 ⟨ds[k], List.getElem_mem hlt, hb⟩
      have h3 : ds.findIdx bad = k := (List.findIdx_eq hlt).2 ⟨hb, fun j hj => hc j hj (by omega)⟩
      rw [h1, h3, if_pos rfl]
    · by_cases e : i = k
      · subst e; unfold bad; rw [h2]; rfl
      · exact hc i (by omega) h3
    · simp only [Int.toNat_natCast, zL, ↓reduceIte, reduceCtorEq, nE, nA]; omega
  · simp (maxSteps := 3000000) only [jj, wy, hw, hdl, rd, List.getElem?_cons_zero, qa, zZ, ↓qq, ↓reduceIte, reduceCtorEq, nA, nM, nS, nE, nL, nD]; try simp only [qa, zY]
    refine ⟨fun h => absurd h (by omega), fun _ => ⟨⟨_, rfl⟩, ?_⟩⟩
    have h1 : ds.any bad = false := List.any_eq_false.2 fun d hd' => by
      obtain ⟨i, hi, rfl⟩ := List.getElem_of_mem hd'
      rw [hc i (by omega) hi]; simp
    rw [h1]; rfl
def qdl : Nat → List AV → Option (List (Int × List Nat))
  | 0, _ => some []
  | k + 1, l => match vi (l.take 17), qdl k (l.drop 17) with
    | some t, some ts => some (t :: ts)
    | _, _ => none
theorem Be : ∀ {k : Nat} {l : List AV} {ds : List (Int × List Nat)}, l.length = k * 17 → qdl k l = some ds → ds.length = k ∧ qqr ds ∧ l = dis ds
  | 0, l, ts, hl, h => by
    cases h
    have : l = [] := List.length_eq_zero_iff.1 (by omega)
    subst this
    exact ⟨rfl, by simp [qqr], rfl⟩
  | k + 1, l, ts, hl, h => by
    simp only [qdl] at h
    split at h
    · rename_i t us ht hus
      cases h
      obtain ⟨n, m⟩ := t
      obtain ⟨h1, h2, h3⟩ := Be (by rw [List.length_drop]; omega) hus
      obtain ⟨h5, h6⟩ := zi ht
      refine ⟨by simp [h1], fun u hu => ?_, ?_⟩
      · rcases List.mem_cons.1 hu with rfl | hu
        · exact h6
        · exact h2 u hu
      · rw [← List.take_append_drop 17 l, h5, h3]; rfl
    · cases h
def Bu : List AV → List AV → Option AV := fun l xs => match xs with
  | [.slc 0 0 k ex c, .fn 147 [] []] => match qdl k l with
    | some ds => chk (k ≤ 1000000) (some (.int .i64 (if ds.any bad then (ds.findIdx bad : Nat) else -1)))
    | none => none
  | _ => none
theorem q4l : Am.Callee Try.prog 174 (g9 0 17 Bu) :=
  Am.Callee.g9 fun l pre post len ex c v hp hl he => by
    have : pre = [] := List.length_eq_zero_iff.1 hp
    subst this
    rw [List.nil_append] at he ⊢
    unfold Bu at he
    split at he
    · rename_i k ex' c' hx
      cases hx
      split at he
      · rename_i ds hds
        obtain ⟨h0, he⟩ := ql he
        cases he
        obtain ⟨rfl, h2, rfl⟩ := Be hl hds
        exact ⟨Xv _, rfl, rfl, rfl, qrd ds ex c h2 h0⟩
      · cases he
    · cases he
def B20 : zc := (B19.put 174 (g9 0 17 Bu))
theorem qzl : qp Try.prog B20 := (qt0.put (q4l))
theorem qcf : B20 141 = some (qj yd) := rfl
theorem qcc : B20 147 = some (qj qee) := rfl
theorem Qo : B20 174 = some (g9 0 17 Bu) := rfl
theorem qay : ∀ {ds : List (Int × List Nat)}, qqr ds → qdl ds.length (dis ds) = some ds
  | [], _ => rfl
  | d :: ds, h => by
    have h1 := qay (ds := ds) fun u hu => h u (List.mem_cons_of_mem _ hu)
    have h2 := (h d (by simp)).1
    simp only [dis, List.flatMap_cons, List.length_cons, qdl] at h1 ⊢
    rw [List.take_append_of_le_length (by rw [qc, h2]; exact Nat.le_refl _), qn h2, qy (h d (by simp)), List.drop_append, List.drop_of_length_le (by rw [qc, h2]; exact Nat.le_refl _), qc, h2, List.nil_append]
    simp only [Nat.sub_self, List.drop_zero, h1]
theorem qju (ds : List (Int × List Nat)) (ex : Bool) (c : Nat) (hd : qqr ds) (hl : ds.length ≤ 1000000) :
    Am.Fn Try.prog 146 [.slc 0 0 ds.length ex c, .fn 147 [] []] [.ro (dis ds)] (fun v H' => v = .bool (ds.any bad) ∧ H' = [.ro (dis ds)]) := by
  refine Am.Fn.xf (R := fun v => v = _) qzl mixed Zj (by simp) (Jm (Xv _)) ?_
  have hdl := Bp hd
  have htk : List.take (ds.length * 17) (dis ds) = dis ds := by rw [List.take_of_length_le]; rw [hdl]; exact Nat.le_refl _
  simp (maxSteps := 3000000) only [wv, qcf, qcc, Qo, qee, Bu, yd, hdl, htk, qay hd, rd, List.getElem?_cons_zero, List.take_zero, List.drop_succ_cons, List.drop_zero, qa, zZ, ↓qq, ↓reduceIte, reduceCtorEq, nA, nM, nS, nE, nL, nD]; try simp only [qa, zY]
  refine ⟨Nat.le_refl _, hl, ⟨_, rfl⟩, ?_⟩
  cases ds.any bad
  · rfl
  · rw [if_pos rfl, decide_eq_true_eq]; omega
def Ww : List AV → List AV → Option AV := fun l xs => match xs with
  | [.slc 0 0 k ex c, .fn 147 [] []] => match qdl k l with
    | some ds => chk (k ≤ 1000000) (some (.bool (ds.any bad)))
    | none => none
  | _ => none
theorem qsi : Am.Callee Try.prog 146 (g9 0 17 Ww) :=
  Am.Callee.g9 fun l pre post len ex c v hp hl he => by
    have : pre = [] := List.length_eq_zero_iff.1 hp
    subst this
    rw [List.nil_append] at he ⊢
    unfold Ww at he
    split at he
    · rename_i k ex' c' hx
      cases hx
      split at he
      · rename_i ds hds
        obtain ⟨h0, he⟩ := ql he
        cases he
        obtain ⟨rfl, h2, rfl⟩ := Be hl hds
        exact ⟨Xv _, rfl, rfl, rfl, qju ds ex c h2 h0⟩
      · cases he
    · cases he
def B21 : zc := (B20.put 146 (g9 0 17 Ww))
theorem q2k : qp Try.prog B21 := (qzl.put (qsi))
theorem qb4 : B21 141 = some (qj yd) := rfl
theorem qb9 : B21 147 = some (qj qee) := rfl
theorem Qp : B21 174 = some (g9 0 17 Bu) := rfl
theorem gr : B21 146 = some (g9 0 17 Ww) := rfl
theorem qrp (ds : List (Int × List Nat)) (ex : Bool) (c : Nat) (hd : qqr ds) (hl : ds.length ≤ 1000000) :
    Am.Fn Try.prog 93 [.slc 0 0 ds.length ex c] [.ro (dis ds)] (fun v H' => v = .int .i64 (if ds.any bad then 1 else 0) ∧ H' = [.ro (dis ds)]) := by
  refine Am.Fn.xf (R := fun v => v = _) q2k mixed qr4 (by simp) (Jm (Xv _)) ?_
  have hdl := Bp hd
  have htk : List.take (ds.length * 17) (dis ds) = dis ds := by rw [List.take_of_length_le]; rw [hdl]; exact Nat.le_refl _
  simp (maxSteps := 3000000) only [qgj, qb4, qb9, Qp, gr, qee, Ww, Bu, yd, hdl, htk, qay hd, rd, List.getElem?_cons_zero, List.take_zero, List.drop_succ_cons, List.drop_zero, qa, zZ, ↓qq, ↓reduceIte, reduceCtorEq, nA, nM, nS, nE, nL, nD]; try simp only [qa, zY]
  refine ⟨Nat.le_refl _, hl, fun h => ⟨⟨_, rfl⟩, by rw [h]; rfl⟩, fun h => ⟨⟨_, rfl⟩, by rw [h]; rfl⟩⟩
def bm : List AV → List AV → Option AV := fun l xs => match xs with
  | [.slc 0 0 k ex c] => match qdl k l with
    | some ds => chk (k ≤ 1000000) (some (.int .i64 (if ds.any bad then 1 else 0)))
    | none => none
  | _ => none
theorem qyc : Am.Callee Try.prog 93 (g9 0 17 bm) :=
  Am.Callee.g9 fun l pre post len ex c v hp hl he => by
    have : pre = [] := List.length_eq_zero_iff.1 hp
    subst this
    rw [List.nil_append] at he ⊢
    unfold bm at he
    split at he
    · rename_i k ex' c' hx
      cases hx
      split at he
      · rename_i ds hds
        obtain ⟨h0, he⟩ := ql he
        cases he
        obtain ⟨rfl, h2, rfl⟩ := Be hl hds
        exact ⟨Xv _, rfl, rfl, rfl, qrp ds ex c h2 h0⟩
      · cases he
    · cases he
def B22 : zc := (B21.put 93 (g9 0 17 bm))
theorem q69 : qp Try.prog B22 := (q2k.put (qyc))
theorem Qh : [AV.int .i64 0, .int .u8 0, .int .u8 0, .int .u8 0, .int .u8 0, .int .u8 0, .int .u8 0, .int .u8 0, .int .u8 0, .int .u8 0, .int .u8 0, .int .u8 0, .int .u8 0, .int .u8 0, .int .u8 0, .int .u8 0, .int .u8 0, .int .i64 0] = trm (0, List.replicate 16 0, 0) := rfl
theorem qds (t : Int × List Nat × Int) : (trm t).length = t.2.1.length + 2 := by simp [trm, qc]
theorem qmx {t : Int × List Nat × Int} {n : Int} {m : List Nat} (h : t.2.1.length = 16) (h' : m.length = 16) : over (trm t) 0 (dia n m) = trm (n, m, t.2.2) := by
  simp only [over, trm, List.take_zero, List.nil_append, Nat.zero_add, qc, h']
  rw [List.drop_append, List.drop_of_length_le (by rw [qc, h]; exact Nat.le_refl _), qc, h]; rfl
theorem qh4 {t : Int × List Nat × Int} {f : Int} (h : t.2.1.length = 16) : over (trm t) 17 [.int .i64 f] = trm (t.1, t.2.1, f) := by
  simp only [over, trm]
  rw [List.take_append_of_le_length (by rw [qc, h]; exact Nat.le_refl _), List.take_of_length_le (by rw [qc, h]; exact Nat.le_refl _), List.drop_of_length_le (by simp [qc, h]), List.append_nil]
theorem Jt {t u : Int × List Nat × Int} (h : t.2.1.length = 16) (h' : u.2.1.length = 16) : over (trm t) 0 (trm u) = trm u := qc8 (by rw [qds, qds, h, h'])
theorem qj3 {t : Int × List Nat × Int} (h : t.2.1.length = 16) : List.take 18 (trm t) = trm t := by rw [List.take_of_length_le]; rw [qds, h]; exact Nat.le_refl _
theorem Qm (t : Int × List Nat × Int) : (trm t).all AV.one = true := by simp [trm, za, AV.one]
theorem q6d : ((0 : Nat) : Int) = 0 := rfl
theorem q6n : ((1 : Nat) : Int) = 1 := rfl
def B23 : zc := B22
theorem q7i : qp Try.prog B23 := q69
def q0x (r : Int × Int × Int × List (Int × List Nat × Int) × Int) (v : AV) (H' : List AO) : Prop :=
  v = .tup [elemV r.1 r.2.1 r.2.2.1 0 r.2.2.2.1.length, .int .i64 r.2.2.2.2] ∧ H' = [.vec 18 (xc r.2.2.2.1)]
theorem qm6 {a b c d x : AV} : over [a, b, c, d] 0 [x] = [x, b, c, d] := rfl
theorem qm4 {a b c d x : AV} : over [a, b, c, d] 1 [x] = [a, x, c, d] := rfl
theorem qne {a b c d x : AV} : over [a, b, c, d] 2 [x] = [a, b, x, d] := rfl
theorem qnf {a b c d x : AV} : over [a, b, c, d] 3 [x] = [a, b, c, x] := rfl
theorem qnx {a b c d x y z w : AV} : over [a, b, c, d] 0 [x, y, z, w] = [x, y, z, w] := rfl
theorem qh : type_of% (And.intro @qm6 (And.intro @qm4 (And.intro @qne (And.intro @qnf @qnx)))) := (And.intro @qm6 (And.intro @qm4 (And.intro @qne (And.intro @qnf @qnx))))
def B24 : zc := B23
theorem q8u : qp Try.prog B24 := q7i
def q0f : Go.Shelf.Ren := ⟨fun | 106 => 156 | 213 => 183 | 265 => 200 | n => n, fun | 9 => 9 | 3 => 3 | n => n, fun | n => n⟩
theorem za1 : Go.Proofs.Lays.n106 Try.prog q0f where
  mixed := by kernel_rfl
  f106 := Try.func156.trans (congrArg some (by kernel_rfl))
  f213 := Try.func183.trans (congrArg some (by kernel_rfl))
  f265 := Try.func200.trans (congrArg some (by kernel_rfl))
  t3 := Try.underlying3
  a3 := Try.isAgg3
  z3 := Try.sizeOf3
  v3 := Try.zeroValue3
  t9 := Try.underlying9
  a9 := Try.isAgg9
  z9 := Try.sizeOf9
  v9 := Try.zeroValue9
def q1a : Go.Shelf.Ren := ⟨fun | 6 => 154 | 15 => 182 | 14 => 181 | 28 => 198 | 29 => 199 | 20 => 190 | 21 => 191 | 22 => 192 | 23 => 193 | 24 => 194 | 25 => 195 | 26 => 196 | 27 => 197 | 46 => 201 | 47 => 202 | 48 => 203 | 49 => 204 | 50 => 205 | 57 => 206 | n => n, fun | 22 => 28 | 24 => 73 | 25 => 150 | 3 => 3 | 39 => 177 | 0 => 0 | 53 => 195 | 55 => 110 | 4 => 4 | 46 => 188 | 45 => 187 | 50 => 192 | 5 => 5 | 9 => 9 | 66 => 197 | 70 => 201 | 76 => 203 | 77 => 204 | n => n, fun | n => n⟩
theorem za3 : Go.Proofs.SlLaysF0.n6 Try.prog q1a where
  mixed := by kernel_rfl
  f6 := ⟨Try.f154.name, by kernel_rfl, Try.func154.trans (congrArg some (by kernel_rfl))⟩
  f14 := ⟨Try.f181.name, by kernel_rfl, Try.func181.trans (congrArg some (by kernel_rfl))⟩
  f15 := Try.func182.trans (congrArg some (by kernel_rfl))
  f20 := ⟨Try.f190.name, by kernel_rfl, Try.func190.trans (congrArg some (by kernel_rfl))⟩
  f21 := ⟨Try.f191.name, by kernel_rfl, Try.func191.trans (congrArg some (by kernel_rfl))⟩
  f22 := ⟨Try.f192.name, by kernel_rfl, Try.func192.trans (congrArg some (by kernel_rfl))⟩
  f23 := ⟨Try.f193.name, by kernel_rfl, Try.func193.trans (congrArg some (by kernel_rfl))⟩
  f24 := ⟨Try.f194.name, by kernel_rfl, Try.func194.trans (congrArg some (by kernel_rfl))⟩
  f25 := ⟨Try.f195.name, by kernel_rfl, Try.func195.trans (congrArg some (by kernel_rfl))⟩
  f26 := ⟨Try.f196.name, by kernel_rfl, Try.func196.trans (congrArg some (by kernel_rfl))⟩
  f27 := ⟨Try.f197.name, by kernel_rfl, Try.func197.trans (congrArg some (by kernel_rfl))⟩
  f28 := Try.func198.trans (congrArg some (by kernel_rfl))
  f29 := Try.func199.trans (congrArg some (by kernel_rfl))
  f46 := ⟨Try.f201.name, by kernel_rfl, Try.func201.trans (congrArg some (by kernel_rfl))⟩
  f47 := Try.func202.trans (congrArg some (by kernel_rfl))
  f48 := Try.func203.trans (congrArg some (by kernel_rfl))
  f49 := ⟨Try.f204.name, by kernel_rfl, Try.func204.trans (congrArg some (by kernel_rfl))⟩
  f50 := ⟨Try.f205.name, by kernel_rfl, Try.func205.trans (congrArg some (by kernel_rfl))⟩
  f57 := ⟨Try.f206.name, by kernel_rfl, Try.func206.trans (congrArg some (by kernel_rfl))⟩
  t0 := Try.underlying0
  a0 := Try.isAgg0
  z0 := Try.sizeOf0
  v0 := Try.zeroValue0
  t3 := Try.underlying3
  a3 := Try.isAgg3
  z3 := Try.sizeOf3
  v3 := Try.zeroValue3
  t4 := Try.underlying4
  a4 := Try.isAgg4
  z4 := Try.sizeOf4
  v4 := Try.zeroValue4
  t5 := Try.underlying5
  a5 := Try.isAgg5
  z5 := Try.sizeOf5
  v5 := Try.zeroValue5
  t9 := Try.underlying9
  a9 := Try.isAgg9
  z9 := Try.sizeOf9
  v9 := Try.zeroValue9
  t22 := Try.underlying28
  a22 := Try.isAgg28
  z22 := Try.sizeOf28
  v22 := Try.zeroValue28
  t25 := Try.underlying150
  a25 := Try.isAgg150
  z25 := Try.sizeOf150
  v25 := Try.zeroValue150
  t39 := Try.underlying177
  a39 := Try.isAgg177
  z39 := Try.sizeOf177
  v39 := Try.zeroValue177
  t45 := Try.underlying187
  a45 := Try.isAgg187
  z45 := Try.sizeOf187
  v45 := Try.zeroValue187
  t46 := Try.underlying188
  a46 := Try.isAgg188
  z46 := Try.sizeOf188
  v46 := Try.zeroValue188
  t50 := Try.underlying192
  a50 := Try.isAgg192
  z50 := Try.sizeOf192
  v50 := Try.zeroValue192
  t53 := Try.underlying195
  a53 := Try.isAgg195
  z53 := Try.sizeOf195
  v53 := Try.zeroValue195
  t55 := Try.underlying110
  a55 := Try.isAgg110
  z55 := Try.sizeOf110
  v55 := Try.zeroValue110
  t66 := Try.underlying197
  a66 := Try.isAgg197
  z66 := Try.sizeOf197
  v66 := Try.zeroValue197
  t70 := Try.underlying201
  a70 := Try.isAgg201
  z70 := Try.sizeOf201
  v70 := Try.zeroValue201
  t76 := Try.underlying203
  a76 := Try.isAgg203
  z76 := Try.sizeOf203
  v76 := Try.zeroValue203
  t77 := Try.underlying204
  a77 := Try.isAgg204
  z77 := Try.sizeOf204
  v77 := Try.zeroValue204
def Ue : List AV → Option AV
  | [.str a, .str b] => some (.int .i64 (Go.Lib.compareBytes a b))
  | _ => none
theorem qwr (a b : List UInt8) : Am.Fn Try.prog 156 [.str a, .str b] [] (fun v H' => v = .int .i64 (Go.Lib.compareBytes a b) ∧ H' = []) :=
  qpb ⟨Try.f156, Try.func156, by kernel_rfl, by kernel_rfl⟩ rfl rfl fun w => Go.Proofs.Any.strings_Compare za1 ⟨a.toArray⟩ ⟨b.toArray⟩ w
theorem qxi : Am.Callee Try.prog 156 (qj Ue) := Am.Callee.plain fun xs v he => by
  unfold Ue at he
  split at he
  · cases he; exact ⟨rfl, rfl, qwr _ _⟩
  · cases he
def B26 : zc := (B24.put 156 (qj Ue))
theorem qzz : qp Try.prog B26 := (q8u.put (qxi))
theorem G0 : B26 142 = some (Xp 17 Q5) := rfl
theorem qdj : B26 156 = some (qj Ue) := rfl
def Wa : AC := .seq (.region [o0 2 (.box (.t 0)),o0 3 (.box (.t 1)),oI 4 0]) (.seq (.region [oF 5 0 2,oC 6 142 [.t 5],oF 7 0 3,oC 8 142 [.t 7],oC 9 156 [.t 6,.t 8],oM 4 9]) .ret)
theorem qcj : zl Try.prog 155 = some ⟨10, Wa, [.slot 4]⟩ := by kernel_rfl
def txt (t : Int × List Nat × Int) : List UInt8 := ja t.1.toNat t.2.1
def qz6 (t u : Int × List Nat × Int) : Int := Go.Lib.compareBytes (txt t) (txt u)
theorem q5d (t u : Int × List Nat × Int) (ht : okD t.2.1) (hu : okD u.2.1) (h1 : 0 ≤ t.1 ∧ t.1 ≤ 8) (h2 : 0 ≤ u.1 ∧ u.1 ≤ 8) :
    Am.Fn Try.prog 155 [.agg (trm t), .agg (trm u)] [] (fun v H' => v = .int .i64 (qz6 t u) ∧ H' = []) := by
  refine Am.Fn.xf (R := fun v => v = _) qzz mixed qcj (by simp) (by simp) ?_
  simp (maxSteps := 3000000) only [Wa, G0, qdj, Ue, Q5, qec ht, qec hu, x6 ht, x6 hu, qy ht, qy hu, h1, h2, rd, List.getElem?_cons_zero, List.getElem?_cons_succ, qa, zZ, ↓qq, ↓reduceIte, reduceCtorEq, nA, nM, nS, nE, nL, nD]; try simp only [qa, zY]
  rfl
theorem qv7 : ∀ (a b : List UInt8), (Go.Lib.compareBytes a b < 0) ↔ Op.bytesLess a b = true
  | [], [] => by simp [Go.Lib.compareBytes, Op.bytesLess]
  | [], b :: y => by simp [Go.Lib.compareBytes, Op.bytesLess]
  | a :: x, [] => by simp [Go.Lib.compareBytes, Op.bytesLess]
  | a :: x, b :: y => by
    simp only [Go.Lib.compareBytes, Op.bytesLess, Bool.or_eq_true, Bool.and_eq_true, decide_eq_true_eq, beq_iff_eq]
    by_cases h : a < b
    · simp [h]
    · by_cases h2 : b < a
      · have : a ≠ b := fun e => by subst e; exact UInt8.lt_irrefl _ h2
        simp [h, h2, this]
      · have : a = b := UInt8.le_antisymm (UInt8.not_lt.1 h2) (UInt8.not_lt.1 h)
        subst this
        simp only [h, if_false, false_or, true_and]
        exact qv7 x y
theorem uz : ∀ (a : List UInt8), Op.bytesLess a a = false
  | [] => rfl
  | a :: x => by simp [Op.bytesLess, uz x]
theorem Zc : ∀ (a b c : List UInt8), Op.bytesLess a b = true → Op.bytesLess b c = true → Op.bytesLess a c = true
  | _, _, [], _, h => by cases ‹List UInt8› <;> simp [Op.bytesLess] at h
  | [], _, c :: z, h, _ => by simp [Op.bytesLess]
  | a :: x, [], c :: z, h, _ => by simp [Op.bytesLess] at h
  | a :: x, b :: y, c :: z, h, h' => by
    simp only [Op.bytesLess, Bool.or_eq_true, Bool.and_eq_true, decide_eq_true_eq, beq_iff_eq] at h h' ⊢
    rcases h with h | ⟨rfl, h⟩
    · rcases h' with h' | ⟨rfl, h'⟩
      · exact .inl (UInt8.lt_trans h h')
      · exact .inl h
    · rcases h' with h' | ⟨rfl, h'⟩
      · exact .inl h'
      · exact .inr ⟨rfl, Zc x y z h h'⟩
theorem Jp : ∀ (a b : List UInt8), Op.bytesLess a b = false → Op.bytesLess b a = false → a = b
  | [], [], _, _ => rfl
  | [], b :: y, h, _ => by simp [Op.bytesLess] at h
  | a :: x, [], _, h => by simp [Op.bytesLess] at h
  | a :: x, b :: y, h, h' => by
    simp only [Op.bytesLess, Bool.or_eq_false_iff, Bool.and_eq_false_iff, decide_eq_false_iff_not, beq_eq_false_iff_ne] at h h'
    have e : a = b := UInt8.le_antisymm (UInt8.not_lt.1 h'.1) (UInt8.not_lt.1 h.1)
    subst e
    rw [Jp x y (by simpa using h.2) (by simpa using h'.2)]
theorem qag (a b : List UInt8) (h : Op.bytesLess a b = true) : Op.bytesLess b a = false := by
  cases hb : Op.bytesLess b a with
  | false => rfl
  | true => have := Zc a b a h hb; rw [uz] at this; cases this
def ltT (t u : Int × List Nat × Int) : Bool := Op.bytesLess (txt t) (txt u)
abbrev qct := {t : Int × List Nat × Int // okD t.2.1 ∧ 0 ≤ t.1 ∧ t.1 ≤ 8}
instance : Inhabited qct := ⟨⟨(0, List.replicate 16 0, 0), ⟨by simp, by intro x hx; simp at hx; omega⟩, by decide, by decide⟩⟩
theorem qmy (x y : qct) : Go.Proofs.ltOf (fun x y : qct => qz6 x.1 y.1) x y = ltT x.1 y.1 := by
  unfold Go.Proofs.ltOf qz6 ltT
  have := qv7 (txt x.1) (txt y.1)
  cases h : Op.bytesLess (txt x.1) (txt y.1) with
  | true => exact decide_eq_true (this.2 h)
  | false => exact decide_eq_false (fun h2 => by rw [this.1 h2] at h; cases h)
theorem swo : Go.Sort.SWO (Go.Proofs.ltOf (fun x y : qct => qz6 x.1 y.1)) where
  irrefl x := by rw [qmy]; exact uz _
  trans x y z h h' := by rw [qmy] at *; exact Zc _ _ _ h h'
  ntrans x y z h h' := by
    rw [qmy] at *
    cases hc : ltT x.1 z.1 with
    | false => rfl
    | true =>
      exfalso
      by_cases e : txt x.1 = txt y.1
      · unfold ltT at *; rw [e] at hc; rw [hc] at h'; cases h'
      · have h1 : ltT y.1 x.1 = true := by
          cases hb : ltT y.1 x.1 with
          | true => rfl
          | false => exact absurd (Jp _ _ h hb) e
        have := Zc _ _ _ h1 hc
        unfold ltT at h'; rw [this] at h'; cases h'
def qs4 (t : Int × List Nat × Int) : List (Int × List Nat × Int) → List (Int × List Nat × Int)
  | [] => [t]
  | u :: l => if ltT t u then t :: u :: l else u :: qs4 t l
def Q7 : List (Int × List Nat × Int) → List (Int × List Nat × Int)
  | [] => []
  | t :: l => qs4 t (Q7 l)
theorem qeo (t : Int × List Nat × Int) : ∀ l, (qs4 t l).Perm (t :: l)
  | [] => .refl _
  | u :: l => by
    unfold qs4; split
    · exact .refl _
    · exact ((qeo t l).cons u).trans (.swap t u l)
theorem uy : ∀ l, (Q7 l).Perm l
  | [] => .refl _
  | t :: l => (qeo t _).trans ((uy l).cons t)
def G4 (l : List (Int × List Nat × Int)) : Prop := (l.map txt).Nodup
def upT (l : List (Int × List Nat × Int)) : Prop := l.Pairwise fun a b => ltT a b = true
theorem qu1 {t : Int × List Nat × Int} : ∀ {l}, upT l → (∀ u ∈ l, txt t ≠ txt u) → upT (qs4 t l)
  | [], _, _ => by simp [qs4, upT]
  | u :: l, h, hn => by
    unfold qs4
    have h' := List.pairwise_cons.1 h
    split
    · rename_i hlt
      exact List.pairwise_cons.2 ⟨fun a ha => by
        rcases List.mem_cons.1 ha with rfl | ha
        · exact hlt
        · exact Zc _ _ _ hlt (h'.1 a ha), h⟩
    · rename_i hlt
      refine List.pairwise_cons.2 ⟨fun a ha => ?_, qu1 h'.2 fun v hv => hn v (List.mem_cons_of_mem _ hv)⟩
      have hm := (qeo t l).mem_iff.1 ha
      rcases List.mem_cons.1 hm with rfl | hm
      · cases hb : ltT u a with
        | true => rfl
        | false => exact absurd (Jp _ _ (Bool.eq_false_iff.2 hlt) hb) (hn u (List.mem_cons_self ..))
      · exact h'.1 a hm
theorem qcw : ∀ {l}, G4 l → upT (Q7 l)
  | [], _ => .nil
  | t :: l, h => by
    have h' := List.nodup_cons.1 h
    refine qu1 (qcw h'.2) fun u hu e => h'.1 ?_
    rw [e]
    exact List.mem_map.2 ⟨u, (uy l).mem_iff.1 hu, rfl⟩
theorem qeq : ∀ {a b : List (Int × List Nat × Int)}, upT a → upT b → a.Perm b → a = b
  | [], b, _, _, hp => by rw [List.nil_perm.1 hp]
  | x :: a, [], _, _, hp => by have := hp.length_eq; simp at this
  | x :: a, y :: b, ha, hb, hp => by
    have ha' := List.pairwise_cons.1 ha
    have hb' := List.pairwise_cons.1 hb
    have e : x = y := by
      have h1 : x ∈ y :: b := hp.mem_iff.1 (List.mem_cons_self ..)
      have h2 : y ∈ x :: a := hp.mem_iff.2 (List.mem_cons_self ..)
      rcases List.mem_cons.1 h1 with h | h
      · exact h
      · rcases List.mem_cons.1 h2 with h' | h'
        · exact h'.symm
        · have c1 := hb'.1 x h
          have c2 := ha'.1 y h'
          have := qag _ _ c1
          unfold ltT at c2; rw [this] at c2; cases c2
    subst e
    rw [qeq ha'.2 hb'.2 ((List.perm_cons x).1 hp)]
theorem qoz {a l : List (Int × List Nat × Int)} (hp : a.Perm l) (hs : a.Pairwise fun x y => ltT y x = false) (hl : G4 l) : a = Q7 l := by
  have hn : (a.map txt).Nodup := (hp.map txt).nodup_iff.2 hl
  refine qeq ?_ (qcw hl) (hp.trans (uy l).symm)
  unfold upT
  rw [List.pairwise_iff_getElem] at hs ⊢
  intro i j hi hj hij
  cases hb : ltT a[i] a[j] with
  | true => rfl
  | false =>
    have e := Jp _ _ hb (hs i j hi hj hij)
    have := (List.pairwise_iff_getElem.1 hn) i j (by simpa using hi) (by simpa using hj) hij
    simp only [List.getElem_map] at this
    exact absurd e this
theorem q8d (ts : List (Int × List Nat × Int)) (hl : ts.length ≤ 1000000000) (hok : ∀ t ∈ ts, okD t.2.1 ∧ 0 ≤ t.1 ∧ t.1 ≤ 8) (hap : G4 ts) :
    Am.Fn Try.prog 154 [.slc 0 0 ts.length false 0, .fn 155 [] []] [.vec 18 (xc ts)] (fun v H' => v = .tup [] ∧ H' = [.vec 18 (xc (Q7 ts))]) := by
  obtain ⟨d, rfl⟩ : ∃ d : List qct, ts = d.map Subtype.val := ⟨ts.attach.map fun x => ⟨x.1, hok x.1 x.2⟩, by rw [List.map_map]; exact (List.attach_map_subtype_val ts).symm⟩
  have e : ∀ d : List qct, xc (d.map Subtype.val) = d.flatMap fun x => trm x.1 := fun d => by simp [xc, List.flatMap_map]
  have := q3z za3 18 (by decide) Try.isAgg73 Try.sizeOf73 (fun x : qct => trm x.1) (fun x => x6 x.2.1) (fun x a ha => ?_) (fun x => Q9 _) (fun x y => qz6 x.1 y.1) swo
    ⟨Try.f154, Try.func154, by kernel_rfl, by kernel_rfl⟩ 155 ⟨Try.f155, Try.func155, by kernel_rfl, by kernel_rfl⟩
    (fun x y => q5d x.1 y.1 x.2.1 y.2.1 x.2.2 y.2.2) d (by simp at hl; omega)
  · rw [List.length_map, e]
    refine this.mono ?_
    rintro v H' ⟨rfl, d', hp, hs, rfl⟩
    refine ⟨rfl, ?_⟩
    rw [← e d', qoz (hp.map _) ?_ hap]
    exact List.pairwise_map.2 (hs.imp fun {a b} h => by rw [qmy] at h; exact h)
  · simp only [trm, dia, List.cons_append, List.mem_cons, List.mem_append, List.not_mem_nil, or_false] at ha
    rcases ha with rfl | ha | rfl
    · rfl
    · unfold u8s at ha
      obtain ⟨y, _, rfl⟩ := List.mem_map.1 ha
      rfl
    · rfl
def G8 : BE := fun hp xs => match xs with
  | [.slc b 0 n false 0, .fn 155 [] []] => match hp[b]? with
    | some (.vec 18 l) => match qa3 n l with
      | some ts => chk (l.length = n * 18 ∧ n ≤ 1000000 ∧ (∀ t ∈ ts, 0 ≤ t.1 ∧ t.1 ≤ 8) ∧ (ts.map txt).Nodup) (some (.tup [], hp.set b (.vec 18 (xc (Q7 ts)))))
      | none => none
    | _ => none
  | _ => none
theorem q62 : Am.Callee Try.prog 154 G8 := Callee.wr1 fun hp xs v hp' he => by
  unfold G8 at he
  split at he
  · rename_i b n
    split at he
    · rename_i l hb
      split at he
      · rename_i ts hts
        obtain ⟨h0, he⟩ := ql he
        simp only [Option.some.injEq, Prod.mk.injEq] at he
        obtain ⟨rfl, rfl⟩ := he
        obtain ⟨e1, e2, e3, e4⟩ := kz hts
        have hl : l = xc ts := by rw [← e3, List.take_of_length_le (by omega)]
        subst hl
        refine ⟨18, xc ts, _, b, [.slc 0 0 ts.length false 0, .fn 155 [] []], hb, rfl, qe _, qe _, ?_, rfl, ⟨by simp [AV.under], ⟨trivial, trivial⟩, trivial⟩, rfl, ?_⟩
        · simp only [AV.zp, AV.ren, one, if_true, e1, Nat.zero_add]
        · exact q8d ts (by omega) (fun t ht => ⟨e2 t ht, h0.2.2.1 t ht⟩) h0.2.2.2
      · cases he
    · cases he
  · cases he
def B27 : zc := (B26.put 154 (G8))
theorem qsh : qp Try.prog B27 := (qzz.put (q62))
theorem Jb : B27 76 = some (qj J3) := rfl
theorem jb : B27 154 = some (G8) := rfl
def esT : Nat → List (Int × List Nat × Int) → List AE
  | _, [] => []
  | k, t :: l => ⟨.agg (dia t.1 t.2.1), .int .i64 t.2.2, k⟩ :: esT (k + 1) l
def j7 (ts : List (Int × List Nat × Int)) : AO := .map (esT 0 ts) ts.length
def zw (p : Int) (ts : List (Int × List Nat × Int)) : List (Int × List Nat × Int) := ts.filterMap fun t => if t.2.2.emod p = 0 then none else some (t.1, t.2.1, t.2.2.emod p)
def ue (ts : List (Int × List Nat × Int)) (seen : List Nat) : List (Int × List Nat × Int) := seen.map fun i => ts.getD i (0, [], 0)
theorem qat : ∀ {ts : List (Int × List Nat × Int)} {k : Nat} {e : AE}, e ∈ esT k ts → ∃ i, i < ts.length ∧ e = ⟨.agg (dia (ts.getD i (0, [], 0)).1 (ts.getD i (0, [], 0)).2.1), .int .i64 (ts.getD i (0, [], 0)).2.2, k + i⟩
  | [], k, e, h => by cases h
  | t :: l, k, e, h => by
    rcases List.mem_cons.1 h with rfl | h
    · exact ⟨0, by simp, by simp⟩
    · obtain ⟨i, h1, rfl⟩ := qat h
      refine ⟨i + 1, by simpa using h1, ?_⟩
      simp only [List.getD_cons_succ, AE.mk.injEq, true_and]; omega
theorem qvt : ∀ {ts : List (Int × List Nat × Int)} {k i : Nat}, i < ts.length → (⟨.agg (dia (ts.getD i (0, [], 0)).1 (ts.getD i (0, [], 0)).2.1), .int .i64 (ts.getD i (0, [], 0)).2.2, k + i⟩ : AE) ∈ esT k ts
  | t :: l, k, 0, h => by simp [esT]
  | t :: l, k, i + 1, h => by
    have := qvt (ts := l) (k := k + 1) (i := i) (by simpa using h)
    simp only [esT, List.mem_cons]
    right
    rw [show k + (i + 1) = k + 1 + i by omega]
    simpa using this
theorem qri : ∀ {ts : List (Int × List Nat × Int)} {k i : Nat}, i < ts.length → (esT k ts).find? (fun x => x.born == k + i) = some ⟨.agg (dia (ts.getD i (0, [], 0)).1 (ts.getD i (0, [], 0)).2.1), .int .i64 (ts.getD i (0, [], 0)).2.2, k + i⟩
  | t :: l, k, 0, h => by simp [esT]
  | t :: l, k, i + 1, h => by
    have := qri (ts := l) (k := k + 1) (i := i) (by simpa using h)
    rw [show k + 1 + i = k + (i + 1) by omega] at this
    simp only [esT, List.find?_cons]
    rw [show (k == k + (i + 1)) = false by simp]
    simpa using this
theorem qej (n : Nat) (ts : List (Int × List Nat × Int)) (k : Nat) : ∀ e ∈ esT k ts, e.key.under n ∧ e.val.under n := fun e he => by
  obtain ⟨i, _, rfl⟩ := qat he
  exact ⟨qk _ _ (qd _ _), trivial⟩
theorem Xe (ρ : Ren) (ts : List (Int × List Nat × Int)) : (j7 ts).ren ρ = j7 ts := by
  simp only [j7, AO.ren]
  congr 1
  conv => rhs; rw [← List.map_id (esT 0 ts)]
  refine List.map_congr_left fun e he => ?_
  obtain ⟨i, _, rfl⟩ := qat he
  simp only [AE.ren, AV.ren, qb _ _ (qd _ _), id]
theorem W6 (ids : List Nat) (ts : List (Int × List Nat × Int)) : (j7 ts).within ids = true := by
  simp only [j7, AO.within, List.all_eq_true]
  intro e he
  obtain ⟨i, _, rfl⟩ := qat he
  simp only [AV.within, qg _ _ (qd _ _), Bool.and_self]
theorem zb (ids : List Nat) (ts : List (Int × List Nat × Int)) (k : Nat) : (AO.map (esT 0 ts) k).within ids = true := W6 ids ts
theorem vm (ρ : Ren) (ts : List (Int × List Nat × Int)) (k : Nat) : (AO.map (esT 0 ts) k).ren ρ = AO.map (esT 0 ts) k := by
  have := Xe ρ ts
  simp only [j7, AO.ren, AO.map.injEq] at this ⊢
  exact ⟨this.1, trivial⟩
theorem q2g {r m : Nat} {ts : List (Int × List Nat × Int)} {seen : List Nat} {hp : List AO} {K : AV → List AO → Prop} (h1 : hp[r]? = some (.xq (some m) ts.length seen ts.length)) (h2 : hp[m]? = some (j7 ts))
    (hend : (∀ i, i < ts.length → i ∈ seen) → K (.tup [.bool false]) hp)
    (hgo : ∀ i, i < ts.length → i ∉ seen → K (.tup [.bool true, .agg (dia (ts.getD i (0, [], 0)).1 (ts.getD i (0, [], 0)).2.1), .int .i64 (ts.getD i (0, [], 0)).2.2]) (hp.set r (.xq (some m) ts.length (seen ++ [i]) ts.length))) :
    wbN (.ptr r 0) hp K := by
  simp only [wbN, qv1, h1, h2, j7]
  refine ⟨_, qfd ⟨trivial, trivial, fun e he => ?_⟩, fun h => ?_, fun e he hs => ?_⟩
  · obtain ⟨i, h3, rfl⟩ := qat he; show 0 + i < _; omega
  · refine hend fun i hi => ?_
    have := h _ (qvt (k := 0) hi)
    simpa using this
  · obtain ⟨i, h3, rfl⟩ := qat he
    simp only [Nat.zero_add] at hs ⊢
    exact hgo i h3 hs
theorem q1e {B : zc} {n0 nt : Nat} {dst : Option Nat} {it : Opd} {l : List AI} {b : AC} {Q : AX → St → Prop} {s : St}
    (h : wbN (ev s.env it) s.hp (fun v hp' => wbC Try.prog B n0 nt (.seq (.region l) b) Q ⟨xm dst v s.env, hp'⟩)) : wbC Try.prog B n0 nt (.seq (.region (⟨dst, none, .next it⟩ :: l)) b) Q s := h
theorem q02 {ts : List (Int × List Nat × Int)} {seen : List Nat} (hn : seen.Nodup) (hlt : ∀ i ∈ seen, i < ts.length) (h : ∀ i, i < ts.length → i ∈ seen) : (ue ts seen).Perm ts := by
  have hp : seen.Perm (List.range ts.length) := (List.perm_ext_iff_of_nodup hn List.nodup_range).2 fun i => ⟨fun hi => List.mem_range.2 (hlt i hi), fun hi => h i (List.mem_range.1 hi)⟩
  have e : (List.range ts.length).map (fun i => ts.getD i (0, [], 0)) = ts := by
    apply List.ext_getElem (by simp)
    intro i h1 h2
    simp at h1
    simp [h1]
  unfold ue
  refine (hp.map _).trans ?_
  rw [e]
theorem qxm {p : Int} {a b : List (Int × List Nat × Int)} (h : a.Perm b) : (zw p a).Perm (zw p b) := h.filterMap _
theorem qib {p : Int} : ∀ {l : List (Int × List Nat × Int)}, G4 l → G4 (zw p l) := fun {l} h => by
  unfold G4 zw at *
  refine List.Nodup.sublist ?_ h
  induction l with
  | nil => exact List.nil_sublist _
  | cons t l ih =>
    simp only [List.filterMap_cons]
    split
    · exact (ih (List.nodup_cons.1 h).2).trans (List.sublist_cons_self _ _)
    · rename_i u hu
      split at hu
      · cases hu
      · cases hu
        exact (ih (List.nodup_cons.1 h).2).cons_cons _
theorem qj1 {p : Int} {l : List (Int × List Nat × Int)} {t : Int × List Nat × Int} (h : t ∈ zw p l) : ∃ u ∈ l, t = (u.1, u.2.1, u.2.2.emod p) ∧ u.2.2.emod p ≠ 0 := by
  obtain ⟨u, hu, he⟩ := List.mem_filterMap.1 h
  split at he
  · cases he
  · rename_i hne; cases he; exact ⟨u, hu, rfl, hne⟩
theorem qwb {p : Int} {l : List (Int × List Nat × Int)} (h : okT l) : okT (zw p l) := fun t ht => by
  obtain ⟨u, hu, rfl, _⟩ := qj1 ht; exact h u hu
theorem qrc {ts : List (Int × List Nat × Int)} {seen : List Nat} (h : okT ts) (hlt : ∀ i ∈ seen, i < ts.length) : okT (ue ts seen) := fun t ht => by
  obtain ⟨i, hi, rfl⟩ := List.mem_map.1 ht
  have := hlt i hi
  simp only [List.getD_eq_getElem?_getD, List.getElem?_eq_getElem this, Option.getD_some]
  exact h _ (List.getElem_mem _)
theorem qla (l : List (Int × List Nat × Int)) (t : Int × List Nat × Int) : xc l ++ trm t = xc (l ++ [t]) := by simp [xc]
theorem zk : [AV.int .i64 0, .int .u8 0, .int .u8 0, .int .u8 0, .int .u8 0, .int .u8 0, .int .u8 0, .int .u8 0, .int .u8 0, .int .u8 0, .int .u8 0, .int .u8 0, .int .u8 0, .int .u8 0, .int .u8 0, .int .u8 0, .int .u8 0] = dia 0 (List.replicate 16 0) := rfl
theorem j4 {n : Int} {m : List Nat} (h : m.length = 16) : over (dia 0 (List.replicate 16 0)) 0 (dia n m) = dia n m := qc8 (by rw [qc, qc, h, List.length_replicate])
theorem qlw {n : Int} {m : List Nat} (h : m.length = 16) : over (trm (0, List.replicate 16 0, 0)) 0 (dia n m) = trm (n, m, 0) := qmx (by simp) h
theorem vb : (trm (0, List.replicate 16 0, 0)).length = 18 := rfl
theorem zf : (dia 0 (List.replicate 16 0)).length = 17 := rfl
def Vk : AC := .seq (.region [⟨some 23,none,.next (.t 22)⟩,oE 24 0 23]) (.seq (.cond 24 .skip (.exit 0)) (.block 1 (.seq (.region [o0 25 (.entry (.t 22)),oE 26 0 25,oE 27 1 25,oD 6,oS 17 6 26,oM 7 27]) (.seq (.region [oM 28 7,oM 29 0,o0 30 (.jx (.t 29)),oF 31 0 30,oL 32 31,oC 33 76 [.t 28,.t 32],oM 7 33]) (.seq (.region [oM 34 7,oK 35 .neq 34 0]) (.cond 35 (.seq (.region [oF 36 0 6,oL 37 36,oF 38 2 5,oT 38 37]) (.region [oF 39 3 5,oL 40 39,oN 41 17 6,oM 42 7,o0 43 (.build [.int .i64 0,.int .u8 0,.int .u8 0,.int .u8 0,.int .u8 0,.int .u8 0,.int .u8 0,.int .u8 0,.int .u8 0,.int .u8 0,.int .u8 0,.int .u8 0,.int .u8 0,.int .u8 0,.int .u8 0,.int .u8 0,.int .u8 0,.int .i64 0] [(0,17,.t 41),(17,1,.t 42)]),o0 44 (.um 1 [.int .i64 0,.int .u8 0,.int .u8 0,.int .u8 0,.int .u8 0,.int .u8 0,.int .u8 0,.int .u8 0,.int .u8 0,.int .u8 0,.int .u8 0,.int .u8 0,.int .u8 0,.int .u8 0,.int .u8 0,.int .u8 0,.int .u8 0,.int .i64 0] [(0,18,.t 43)]),o0 45 (.append 18 32 (.t 40) (.t 44)),oF 46 3 5,oT 46 45])) .skip))))))
def Vg : AC := .seq (.region [oF 47 3 5,oL 48 47,⟨some 49,none,.call (.c (.fn 154 [] [])) [.t 48,(.c (.fn 155 [] []))]⟩]) (.seq (.region [oN 50 4 5,oS 4 4 50]) .ret)
def Y7 : AC := .seq (.region [oZ 4]) (.seq (.draw false [oM 8 0,o0 9 (.jx (.t 8)),oF 10 0 9,oL 11 10,oM 12 0,o0 13 (.jx (.t 12)),oF 14 1 13,oL 15 14,oM 16 0,o0 17 (.jx (.t 16)),oF 18 2 17,oL 19 18,o0 20 (.build [.int .i64 0,.int .i64 0,.int .i64 0,(.v (.slice none 0 0))] [(0,1,.t 11),(1,1,.t 15),(2,1,.t 19)]),oZ 5,oS 4 5 20]) (.seq (.seq (.region [oM 21 1,o0 22 (.Km (.t 21))]) (.block 0 (.loop Vk))) Vg))
theorem qe5 : zl Try.prog 105 = some ⟨51, Y7, [.yn 4 4]⟩ := by kernel_rfl
def qmb (p c n sz : Int) (ts : List (Int × List Nat × Int)) (seen : List Nat) : St :=
  ⟨[(22, .ptr 4 0), (5, .ptr 3 0), (4, .ptr 2 0), (0, .ptr 0 0)], [.ro [.int .i64 p, .int .i64 c, .int .i64 n], j7 ts, .cells [.int .i64 0, .int .i64 0, .int .i64 0, .v (.slice none 0 0)],
    .cells [.int .i64 p, .int .i64 c, .int .i64 (if zw p (ue ts seen) = [] then n else sz), .slc 5 0 (zw p (ue ts seen)).length false 0], .xq (some 1) ts.length seen ts.length, .vec 18 (xc (zw p (ue ts seen)))]⟩
def zaa (p c n sz : Int) (ts : List (Int × List Nat × Int)) (s : St) : Prop := ∃ seen : List Nat, seen.Nodup ∧ (∀ i ∈ seen, i < ts.length) ∧ s = qmb p c n sz ts seen
def q05 (ts : List (Int × List Nat × Int)) (s : St) : Nat := match s.hp[4]? with | some (AO.xq _ _ seen _) => ts.length - seen.length | _ => 0
theorem q6z (p c n sz : Int) (ts : List (Int × List Nat × Int)) (hp : 0 < p ∧ p ≤ 1000000) (hs : 0 ≤ sz ∧ sz ≤ 8) (ht : okT ts) (hz : ∀ t ∈ ts, t.1 = sz) (ha : G4 ts) (hl : ts.length ≤ 1000000) :
    Am.Fn Try.prog 105 [.ptr 0 0, .map 1] [.ro [.int .i64 p, .int .i64 c, .int .i64 n], j7 ts] (fun v H' => v = elemV p c (if zw p ts = [] then n else sz) 2 (zw p ts).length ∧
      H' = [.ro [.int .i64 p, .int .i64 c, .int .i64 n], j7 ts, .vec 18 (xc (Q7 (zw p ts)))]) := by
  refine Am.Fn.ofB qsh mixed qe5 (by simp) ?_ ?_
  · intro j o hj
    match j, hj with
    | 0, hj => cases hj; exact ⟨trivial, trivial, trivial, trivial⟩
    | 1, hj => cases hj; exact qej _ _ _
    | j + 2, hj => simp at hj
  have hm : j7 ts = .map (esT 0 ts) ts.length := rfl
  simp (maxSteps := 3000000) only [Y7, hm, qm6, qm4, qne, qnf, qnx, Jb, jb, J3, G8, vx, rd, wrt, wrl, AO.gp, List.getElem?_cons_zero, List.getElem?_cons_succ, List.set_cons_zero, List.set_cons_succ, qa, zZ, ↓qq, ↓reduceIte, reduceCtorEq, nA, nM, nS, nE, nL, nD]; try simp only [qa, zY]
  refine ⟨rfl, WA.xr qsh (zaa p c n sz ts) (q05 ts) ⟨qmb p c n sz ts [], ?_, [], .nil, by simp, rfl⟩ ?_⟩
  · refine qw.trans (qw.qx [22, 5, 4, 0]) ?_
    refine Eq.subst (motive := fun s' => qw 2 _ s') ?_ (qw.za5 3 3 18 rfl rfl (by simp) ?_ ?_)
    · simp only [qx, zs]
      rfl
    · simp [qx, zs, AV.under]
    · simp only [List.mem_cons, List.not_mem_nil, or_false, forall_eq_or_imp, forall_eq]
      exact ⟨⟨trivial, trivial, trivial, trivial⟩, qej _ _ _, ⟨trivial, trivial, trivial, trivial, trivial⟩, ⟨trivial, trivial, trivial, trivial, trivial⟩, fun b h => by cases h; simp⟩
  rintro s ⟨seen, hnd, hlt, rfl⟩
  unfold Vk
  refine q1e (q2g (r := 4) (m := 1) (ts := ts) (seen := seen) rfl rfl (fun hall => ?_) (fun i hi hsn => ?_))
  · have hpm := q02 hnd hlt hall
    have hr := qxm (p := p) hpm
    have hrt := qwb (p := p) (qrc ht hlt)
    have hap : (List.map txt (zw p (ue ts seen))).Nodup := (hr.map txt).nodup_iff.2 (qib ha)
    have hsz : ∀ t ∈ zw p (ue ts seen), 0 ≤ t.1 ∧ t.1 ≤ 8 := fun t h => by
      obtain ⟨u, hu, rfl, _⟩ := qj1 (hr.mem_iff.1 h)
      simp only [hz u hu]; exact hs
    have hlen : (zw p (ue ts seen)).length = (zw p ts).length := hr.length_eq
    have hle : (zw p ts).length ≤ 1000000 := Nat.le_trans (List.length_filterMap_le _ _) hl
    have hle' : (zw p (ue ts seen)).length ≤ 1000000 := by omega
    have hso : Q7 (zw p (ue ts seen)) = Q7 (zw p ts) := qoz ((uy _).trans hr) ((qcw hap).imp fun {a b} h => qag _ _ h) (qib ha)
    have hnil : (zw p (ue ts seen) = []) = (zw p ts = []) := propext ⟨fun h => by rw [h] at hr; exact List.nil_perm.1 hr, fun h => by rw [h] at hr; exact List.perm_nil.1 hr⟩
    have htl := xe hrt
    have hto := kr hrt
    rw [hlen] at htl hto
    unfold qmb
    simp (maxSteps := 3000000) only [qh, zH, Vg, Jb, jb, J3, G8, htl, hto, hle, hap, hsz, hso, hnil, hlen, qa, zZ, ↓qq, ↓reduceIte, reduceCtorEq, nA, nM, nS, nE, nL, nD]; try simp only [qa, zY]
    refine ⟨hsz, rfl, ?_⟩
    refine Ret.x7 [0, 1, 5] ⟨⟨by simp, rfl, by decide⟩, ?_⟩ (rs := [.agg [.int .i64 p, .int .i64 c, .int .i64 (if zw p ts = [] then n else sz), .slc 5 0 (zw p ts).length false 0]]) rfl rfl (by simp [xl]) ?_ ⟨?_, ?_⟩
    · simp only [W6, ↓zb, qg _ _ (qe _), zK, ↓reduceIte, reduceCtorEq, nE, nB, nA]
    · intro j l; match j with
      | 0 => exact fun _ => ⟨_, rfl⟩
      | 1 => simp [zo, Xe]; simp [j7]
      | 2 => simp [zo, AO.ren]
      | j + 3 => simp [zo]
    · simp only [elemV, xl]
      simp only [zL, ↓reduceIte, reduceCtorEq, nE, nA]
    · simp only [Xe, ↓vm, qb _ _ (qe _), zL, ↓reduceIte, reduceCtorEq, nE, nA]
      rfl
  · unfold qmb
    have htm : ts.getD i (0, [], 0) ∈ ts := by rw [List.getD_eq_getElem?_getD, List.getElem?_eq_getElem hi]; exact List.getElem_mem _
    have hk : okD (ts.getD i (0, [], 0)).2.1 := ht _ htm
    have h1 : (ts.getD i (0, [], 0)).1 = sz := hz _ htm
    have hfind := qri (ts := ts) (k := 0) hi
    have hlast : (seen ++ [i]).getLast? = some i := List.getLast?_concat ..
    have hpk : ue ts (seen ++ [i]) = ue ts seen ++ [ts.getD i (0, [], 0)] := by simp [ue]
    have hnd' : (seen ++ [i]).Nodup := by
      rw [List.nodup_append]
      exact ⟨hnd, by simp, fun a ha b hb => by simp at hb; subst hb; rintro rfl; exact hsn ha⟩
    have hlt' : ∀ j ∈ seen ++ [i], j < ts.length := fun j hj => by
      rcases List.mem_append.1 hj with h | h
      · exact hlt j h
      · simp at h; omega
    have hsl : seen.length < ts.length := by
      have := Kb ts.length (seen ++ [i]) hnd' hlt'
      simp at this; omega
    rw [Nat.zero_add] at hfind
    generalize htt : ts.getD i (0, [], 0) = t at hk h1 hfind hpk ⊢
    obtain ⟨n1, m1, k1⟩ := t
    simp only at hk h1 hfind
    subst h1
    have hone : (dia n1 m1).all AV.one = true := za _ _
    have hrt := qwb (p := p) (qrc ht hlt)
    have htl := xe hrt
    have htk : List.take ((zw p (ue ts seen)).length * 18) (xc (zw p (ue ts seen))) = xc (zw p (ue ts seen)) := List.take_of_length_le (by rw [htl]; exact Nat.le_refl _)
    have hbd : (zw p (ue ts seen)).length ≤ 1000000 := by
      have := List.length_filterMap_le (fun t : Int × List Nat × Int => if t.2.2.emod p = 0 then none else some (t.1, t.2.1, t.2.2.emod p)) (ue ts seen)
      have h2 : (ue ts seen).length = seen.length := by simp [ue]
      unfold zw; omega
    by_cases hkz : k1.emod p = 0
    · have hre : zw p (ue ts (seen ++ [i])) = zw p (ue ts seen) := by rw [hpk]; simp [zw, hkz]
      simp (maxSteps := 3000000) only [qh, zH, Jb, jb, J3, G8, hkz, hp, hm, qc, hk.1, hlast, hfind, hone, zk, j4 hk.1, qlw hk.1, qh4 (t := (n1, m1, 0)) hk.1, Qh, qds, vb, zf, qn hk.1, Qm, src, q6d, q6n, Int.toNat_zero, Option.map_some, Option.map_none, List.length_replicate, Jt (t := (0, List.replicate 16 0, 0)) (u := (n1, m1, k1.emod p)) (by simp) hk.1, qj3 (t := (n1, m1, k1.emod p)) hk.1, htk, htl, qa, zZ, ↓qq, ↓reduceIte, reduceCtorEq, nA, nM, nS, nE, nL, nD]; try simp only [qa, zY]
      refine ⟨_, qw.x7 [0, 1, 2, 3, 4, 5] [22, 5, 4, 0] ⟨by decide, ?_⟩ ?_, ⟨seen ++ [i], hnd', hlt', ?_⟩, ?_⟩
      · simp only [W6, ↓zb, qg _ _ (qe _), zK, ↓reduceIte, reduceCtorEq, nE, nB, nA]
      · simp only [zK, ↓reduceIte, reduceCtorEq, nE, nB, nA]
      · unfold qmb
        simp only [Xe, ↓vm, qb _ _ (qe _), hre, zL, ↓reduceIte, reduceCtorEq, nE, nA]
        rfl
      · simp only [q05]
        simp only [Xe, ↓vm, zL, ↓reduceIte, reduceCtorEq, nE, nA]
        simp; omega
    · have hre : zw p (ue ts (seen ++ [i])) = zw p (ue ts seen) ++ [(n1, m1, k1.emod p)] := by rw [hpk]; simp [zw, hkz]
      simp (maxSteps := 3000000) only [qh, zH, Jb, jb, J3, G8, hkz, hp, hm, qc, hk.1, hlast, hfind, hone, zk, j4 hk.1, qlw hk.1, qh4 (t := (n1, m1, 0)) hk.1, Qh, qds, vb, zf, qn hk.1, Qm, src, q6d, q6n, Int.toNat_zero, Option.map_some, Option.map_none, List.length_replicate, Jt (t := (0, List.replicate 16 0, 0)) (u := (n1, m1, k1.emod p)) (by simp) hk.1, qj3 (t := (n1, m1, k1.emod p)) hk.1, htk, htl, qa, zZ, ↓qq, ↓reduceIte, reduceCtorEq, nA, nM, nS, nE, nL, nD]; try simp only [qa, zY]
      refine ⟨rfl, ⟨Nat.le_refl _, by omega⟩, rfl, _, qw.x7 [0, 1, 2, 3, 4, 8] [22, 5, 4, 0] ⟨by decide, ?_⟩ ?_, ⟨seen ++ [i], hnd', hlt', ?_⟩, ?_⟩
      · simp only [W6, ↓zb, qla, qg _ _ (qe _), zK, ↓reduceIte, reduceCtorEq, nE, nB, nA]
      · simp only [zK, ↓reduceIte, reduceCtorEq, nE, nB, nA]
      · unfold qmb
        have hne : (zw p (ue ts seen) ++ [(n1, m1, k1.emod p)] = []) = False := by simp
        simp only [Xe, ↓vm, qla, qb _ _ (qe _), hre, hne, List.length_append, List.length_nil, List.length_cons, zL, ↓reduceIte, reduceCtorEq, nE, nA]
        rfl
      · simp only [q05]
        simp only [Xe, ↓vm, zL, ↓reduceIte, reduceCtorEq, nE, nA]
        simp; omega
def tsE : Nat → List AE → Option (List (Int × List Nat × Int))
  | _, [] => some []
  | k, ⟨.agg l, .int .i64 v, b⟩ :: es => match vi l, tsE (k + 1) es with
    | some (n, m), some ts => if b = k then some ((n, m, v) :: ts) else none
    | _, _ => none
  | _, _ => none
theorem qhr : ∀ {ts : List (Int × List Nat × Int)} {k : Nat}, okT ts → tsE k (esT k ts) = some ts
  | [], _, _ => rfl
  | t :: l, k, h => by
    simp only [esT, tsE, qy (h t (List.mem_cons_self ..)), qhr (ts := l) (k := k + 1) fun u hu => h u (List.mem_cons_of_mem _ hu), if_true]
theorem qqi : ∀ {es : List AE} {k : Nat} {ts : List (Int × List Nat × Int)}, tsE k es = some ts → es = esT k ts ∧ okT ts
  | [], k, ts, h => by simp only [tsE, Option.some.injEq] at h; subst h; exact ⟨rfl, fun t ht => by cases ht⟩
  | ⟨key, val, b⟩ :: es, k, ts, h => by
    unfold tsE at h
    split at h
    · rename_i e; cases e
    · rename_i e; cases e
      split at h
      · rename_i n m ts' hd hts
        split at h
        · rename_i hb
          cases h; subst hb
          obtain ⟨rfl, hm⟩ := zi hd
          obtain ⟨e1, e2⟩ := qqi hts
          refine ⟨by rw [e1]; rfl, fun t ht => ?_⟩
          rcases List.mem_cons.1 ht with rfl | ht
          · exact hm
          · exact e2 t ht
        · cases h
      · cases h
    · cases h
theorem qsd {α : Type} : ∀ {l : List α} {i : Nat} {a : α}, l[i]? = some a → l.set i a = l
  | [], i, a, h => by simp at h
  | x :: l, 0, a, h => by simp only [List.getElem?_cons_zero, Option.some.injEq] at h; simp [h]
  | x :: l, i + 1, a, h => by simp only [List.getElem?_cons_succ] at h; simp [qsd h]
def qg1 (ts : List (Int × List Nat × Int)) : Int := match ts with | t :: _ => t.1 | [] => 0
def j6 : BE := fun hp xs => match xs with
  | [.ptr b 0, .map m] => match rd hp b, hp[m]? with
    | some (.int .i64 p :: .int .i64 c :: .int .i64 n :: _), some (.map es ck) => match tsE 0 es with
      | some ts => chk (ck = ts.length ∧ (0 < p ∧ p ≤ 1000000) ∧ ts.length ≤ 1000000 ∧ (0 ≤ qg1 ts ∧ qg1 ts ≤ 8) ∧ (∀ t ∈ ts, t.1 = qg1 ts) ∧ (ts.map txt).Nodup)
          (some (elemV p c (if zw p ts = [] then n else qg1 ts) hp.length (zw p ts).length, hp ++ [.vec 18 (xc (Q7 (zw p ts)))]))
      | none => none
    | _, _ => none
  | _ => none
theorem q6w : Am.Callee Try.prog 105 j6 := Callee.fp fun hp xs v hp' he => by
  unfold j6 at he
  split at he
  · rename_i b m
    split at he
    · rename_i p c n L es ck hrd hm
      split at he
      · rename_i ts hts
        obtain ⟨⟨h1, h2, h3, h4, h5, h6⟩, he⟩ := ql he
        simp only [Option.some.injEq, Prod.mk.injEq] at he
        obtain ⟨rfl, rfl⟩ := he
        obtain ⟨rfl, hok⟩ := qqi hts
        subst h1
        have hne : m ≠ b := by
          rintro rfl
          simp [rd, hm] at hrd
        refine ⟨[(b, 0), (m, 0)], [.ptr 0 0, .map 1], _, _, _, q6z p c n (qg1 ts) ts h2 h4 hok h5 h6 h3, ?_, rfl, ⟨⟨_, hrd, by simp, by simp [AV.zp, AV.ren]⟩, ⟨rfl, ?_⟩, trivial⟩, ?_, ?_, ?_, ?_, ?_⟩
        · simp [ofL, AV.zp, AV.ren]
        · rw [Xe]; exact hm
        · simp [Y1, AO.wr, hne]
        · exact ⟨⟨trivial, trivial, trivial, trivial⟩, qej _ _ _, trivial⟩
        · exact ⟨by simp [AV.under], by simp [AV.under], trivial⟩
        · simp [elemV, AV.ren, AV.zp, Ren.ext]
        · simp only [after, upd, q87, show (j7 ts).wr = true from rfl, Xe, q6l, ki, if_true, Bool.false_eq_true, if_false, qsd (show hp[m]? = some (j7 ts) from hm), qb _ _ (qe _), List.length_cons, List.length_nil, List.drop_succ_cons, List.drop_zero, List.map_cons, List.map_nil]
      · cases he
    · cases he
  · cases he
def B28 : zc := (B27.put 105 (j6))
theorem q12 : qp Try.prog B28 := (qsh.put (q6w))
theorem Gy : B28 105 = some (j6) := rfl
abbrev KD : List LT := [LT.int, LT.int, LT.int, LT.int, LT.int, LT.int, LT.int, LT.int, LT.int, LT.int, LT.int, LT.int, LT.int, LT.int, LT.int, LT.int, LT.int]
theorem qrq : ∀ (m m' : List Nat), m.length = m'.length → jw (List.replicate m.length .int) (u8s m) (u8s m') = some (decide (m = m'))
  | [], [], _ => rfl
  | [], _ :: _, h => by simp at h
  | _ :: _, [], h => by simp at h
  | a :: m, b :: m', h => by
    have ih := qrq m m' (by simpa using h)
    simp only [u8s] at ih
    simp only [List.length_cons, List.replicate_succ, u8s, List.map_cons, jw, leq, if_true, ih]
    by_cases e : a = b
    · subst e; simp
    · have : ¬ ((a : Int) = (b : Int)) := by omega
      simp [e, this]
theorem Uz {n n' : Int} {m m' : List Nat} (h : m.length = 16) (h' : m'.length = 16) : jw KD (dia n m) (dia n' m') = some (decide (n = n' ∧ m = m')) := by
  have h1 := qrq m m' (by rw [h, h'])
  rw [h] at h1
  have h2 : KD = .int :: List.replicate 16 .int := rfl
  rw [h2]
  simp only [dia, jw, leq, if_true, h1]
  by_cases e : n = n'
  · subst e; simp
  · simp [e]
theorem qc0 {n : Int} {m : List Nat} (h : m.length = 16) : kok KD true (.agg (dia n m)) = true := by
  simp only [kok, keq, Uz h h]
def qjt : AC := .seq (.region [o0 6 (.box (.t 2)),oZ 8]) (.seq (.region [oM 10 0,oM 11 1,oF 12 0 6,oL 13 12,o0 14 (.build [.int .i64 0,.int .i64 0,.int .i64 0,(.v (.slice none 0 0))] [(0,1,.t 10),(1,1,.t 11),(2,1,.t 13)]),oZ 9,oS 4 9 14]) (.seq (.region [o0 15 (.K1),oN 16 17 6,oM 17 3,⟨none,none,.op (.K2 [.int,.int,.int,.int,.int,.int,.int,.int,.int,.int,.int,.int,.int,.int,.int,.int,.int] true (.t 15) (.t 16) (.t 17))⟩,oM 18 15,oC 19 105 [.t 9,.t 18],oS 4 8 19]) .ret))
theorem qsv : zl Try.prog 103 = some ⟨20, qjt, [.yn 8 4]⟩ := by kernel_rfl
theorem q2d (p c n : Int) (m : List Nat) (k : Int) (hp : 0 < p ∧ p ≤ 1000000) (hn : 0 ≤ n ∧ n ≤ 8) (hm : okD m) :
    Am.Fn Try.prog 103 [.int .i64 p, .int .i64 c, .agg (dia n m), .int .i64 k] [] (fun v H' => v = elemV p c n 0 (if k.emod p = 0 then ([] : List (Int × List Nat × Int)) else [(n, m, k.emod p)]).length ∧ H' = [.vec 18 (xc (if k.emod p = 0 then [] else [(n, m, k.emod p)]))]) := by
  refine Am.Fn.ofB q12 mixed qsv (by simp) (by simp) ?_
  have hr : zw p [(n, m, k)] = if k.emod p = 0 then [] else [(n, m, k.emod p)] := by
    unfold zw; by_cases h : k.emod p = 0 <;> simp [h]
  have hle : (if k.emod p = 0 then [] else [(n, m, k.emod p)]).length ≤ 1 := by split <;> simp
  generalize (if k.emod p = 0 then [] else [(n, m, k.emod p)]) = L at hr hle ⊢
  have hs : Q7 L = L := by
    match L, hle with
    | [], _ => rfl
    | [t], _ => rfl
  have hsz : qg1 [(n, m, k)] = n := rfl
  have hall : ∀ t ∈ [(n, m, k)], t.1 = n := by simp
  have hnd : [txt (n, m, k)].Nodup := by simp
  simp (maxSteps := 3000000) only [qh, zH, qjt, Gy, j6, qc, hm.1, qy hm, qc0 hm.1, qn hm.1, jo, wx, tsE, hp, hn, hsz, hall, hnd, hr, hs, elemV, ite_self, qa, zZ, ↓qq, ↓reduceIte, reduceCtorEq, nA, nM, nS, nE, nL, nD]; try simp only [qa, zY]
  refine ⟨rfl, hall, rfl, ?_⟩
  refine Ret.x7 [4] ⟨⟨by simp, rfl, by decide⟩, ?_⟩ (rs := [.agg [.int .i64 p, .int .i64 c, .int .i64 n, .slc 4 0 L.length false 0]]) rfl rfl (by simp [xl]) ?_ ⟨?_, ?_⟩
  · simp only [qg _ _ (qe _), zK, ↓reduceIte, reduceCtorEq, nE, nB, nA]
  · intro j l; match j with
    | 0 => simp [zo, AO.ren]
    | j + 1 => simp [zo]
  · simp only [xl]
    simp only [zL, ↓reduceIte, reduceCtorEq, nE, nA]
  · simp only [qb _ _ (qe _), zL, ↓reduceIte, reduceCtorEq, nE, nA]
def ye : List AV → Option (AV × List AO)
  | [.int .i64 p, .int .i64 c, .agg l, .int .i64 k] => match vi l with
    | some (n, m) => chk ((0 < p ∧ p ≤ 1000000) ∧ (0 ≤ n ∧ n ≤ 8)) (some (elemV p c n 0 (if k.emod p = 0 then ([] : List (Int × List Nat × Int)) else [(n, m, k.emod p)]).length, [.vec 18 (xc (if k.emod p = 0 then [] else [(n, m, k.emod p)]))]))
    | none => none
  | _ => none
theorem q3b : Am.Callee Try.prog 103 (gq ye) :=
  Am.Callee.new fun xs v H he => by
    unfold ye at he
    split at he
    · rename_i p c l k
      split at he
      · rename_i n m hd
        obtain ⟨⟨h1, h2⟩, he⟩ := ql he
        obtain ⟨rfl, hm⟩ := zi hd
        have e1 := congrArg Prod.fst (Option.some.inj he)
        have e2 := congrArg Prod.snd (Option.some.inj he)
        simp only at e1 e2
        subst e1; subst e2
        exact ⟨by simp only [AV.zg, AV.zq, qd, Bool.and_self], q2d p c n m k h1 h2 hm⟩
      · cases he
    · cases he
def B29 : zc := (B28.put 103 (gq ye))
theorem q8w : qp Try.prog B29 := (q12.put (q3b))
theorem Yv (p c n : Int) (b k m : Nat) : AV.ren (J4 m) (.agg [.int .i64 p, .int .i64 c, .int .i64 n, .slc b 0 k false 0]) = .agg [.int .i64 p, .int .i64 c, .int .i64 n, .slc (m + b) 0 k false 0] := rfl
def B30 : zc := B29
theorem q27 : qp Try.prog B30 := q8w
theorem qu7 (p c n e : Int) (b k m : Nat) : AV.ren (J4 m) (.tup [.agg [.int .i64 p, .int .i64 c, .int .i64 n, .slc b 0 k false 0], .int .i64 e]) = .tup [.agg [.int .i64 p, .int .i64 c, .int .i64 n, .slc (m + b) 0 k false 0], .int .i64 e] := rfl
def q9c : zc := B30
theorem q52 : qp Try.prog q9c := q27
def q6i (hp : List AO) (X : AV) : Option (List (Int × List Nat × Int)) := match X with
  | .v (.slice none 0 0) => some []
  | .slc b 0 n true cap => match hp[b]? with
    | some .dead => if n = 0 ∧ cap = 0 then some [] else none
    | some (.ro l) => match qa3 (l.length / 18) l with
      | some all => if l.length = all.length * 18 ∧ n ≤ cap ∧ n ≤ all.length then some (all.take n) else none
      | none => none
    | _ => none
  | _ => none
def q93 : zc := q9c
theorem q5n : qp Try.prog q93 := q52
def q9u : zc := q93
theorem q4f : qp Try.prog q9u := q5n
def zaf : zc := q9u
theorem q3g : qp Try.prog zaf := q4f
def B31 : zc := zaf
theorem q6t : qp Try.prog B31 := q3g
theorem qis {α : Type} (l : List α) (a b k : Nat) (h : a ≤ b) : List.take a (List.drop k l) = List.take a (List.take b (List.drop k l)) := by
  rw [List.take_take, Nat.min_eq_left h]
theorem qhx {ts : List (Int × List Nat × Int)} {i : Nat} (h : okT ts) (hi : i < ts.length) : List.take 17 (List.drop (i * 18) (xc ts)) = dia ts[i].1 ts[i].2.1 := by
  rw [qis _ 17 18 _ (by decide), Zr h hi]
  have := qec (h _ (List.getElem_mem hi))
  rwa [List.drop_zero] at this
theorem qpt {ts : List (Int × List Nat × Int)} {i : Nat} (h : okT ts) (hi : i < ts.length) : (xc ts)[i * 18 + 17]? = some (.int .i64 ts[i].2.2) := by
  have h1 := Qx (h _ (List.getElem_mem hi))
  rw [← Zr h hi, List.getElem?_take, if_pos (by decide), List.getElem?_drop] at h1
  exact h1
def qaa : List AV → Option AV
  | [.agg l, .agg l'] => match vi l, vi l' with
    | some (n, m), some (n', m') => chk ((0 ≤ n ∧ n ≤ 8) ∧ 0 ≤ n' ∧ n' ≤ 8) (some (.bool (Op.bytesLess (ja n.toNat m) (ja n'.toNat m'))))
    | _, _ => none
  | _ => none
theorem qjz : B30 66 = some (qj wc) := rfl
theorem qh9 : B30 91 = some (qj yd) := rfl
theorem qc3 : B30 137 = some (qj ya) := rfl
theorem qei : B30 150 = some (qj qc5) := rfl
def qga : AC := .seq (.region [o0 2 (.box (.t 0)),o0 3 (.box (.t 1)),oB 4 false]) (.seq (.draw true [oN 5 17 2,oN 7 17 3,oC 6 150 [.t 5],oC 8 150 [.t 7],oP 9 .lss 6 8,oM 4 9]) .ret)
theorem qqu : zl Try.prog 138 = some ⟨10, qga, [.slot 4]⟩ := by kernel_rfl
theorem q7o (n n' : Int) (m m' : List Nat) (hm : okD m) (hm' : okD m') (hn : 0 ≤ n ∧ n ≤ 8) (hn' : 0 ≤ n' ∧ n' ≤ 8) :
    Am.Fn Try.prog 138 [.agg (dia n m), .agg (dia n' m')] [] (fun v H' => v = .bool (Op.bytesLess (ja n.toNat m) (ja n'.toNat m')) ∧ H' = []) := by
  refine Am.Fn.xf (R := fun v => v = _) q27 mixed qqu (by simp) (by simp) ?_
  simp (maxSteps := 3000000) only [qh, zH, qga, qjz, qh9, qc3, qei, wc, yd, ya, qc5, qc, hm.1, hm'.1, qy hm, qy hm', qn hm.1, qn hm'.1, hn, hn', iE, iN, iB, iC, iL, iD, iA, iS, iM, qa, zZ, ↓qq, ↓reduceIte, reduceCtorEq, nA, nM, nS, nE, nL, nD]; try simp only [qa, zY]
  exact ⟨⟨_, rfl⟩, _, rfl⟩
theorem q7y : Am.Callee Try.prog 138 (qj qaa) := Am.Callee.plain fun xs v he => by
  unfold qaa at he
  split at he
  · split at he
    · rename_i l l' n m n' m' hd hd'
      obtain ⟨⟨h1, h2⟩, he⟩ := ql he
      cases he
      obtain ⟨rfl, hm⟩ := zi hd
      obtain ⟨rfl, hm'⟩ := zi hd'
      exact ⟨by simp only [AV.zg, AV.zq, qd, Bool.and_self], rfl, q7o _ _ _ _ hm hm' h1 h2⟩
    · cases he
  · cases he
def B32 : zc := (B31.put 138 (qj qaa))
theorem q6r : qp Try.prog B32 := (q6t.put (q7y))
def zT : Int × List Nat × Int := (0, [], 0)
theorem qaw {ts : List (Int × List Nat × Int)} {i : Nat} (h : i < ts.length) : ts.getD i zT = ts[i] := by
  rw [List.getD_eq_getElem?_getD, List.getElem?_eq_getElem h]; rfl
def B33 : zc := B32
theorem q8k : qp Try.prog B33 := q6r
theorem Uk {t : Int × List Nat × Int} (h : okD t.2.1) : List.take 17 (trm t) = dia t.1 t.2.1 := by
  have := qec h
  rwa [List.drop_zero] at this
def B34 : zc := B33
theorem q7a : qp Try.prog B34 := q8k
def qfk (ts : List (Int × List Nat × Int)) (n : Int) (m : List Nat) : Nat := (ts.takeWhile fun t => ltT t (n, m, 0)).length
def qjh (p : Int) (ts : List (Int × List Nat × Int)) (n : Int) (m : List Nat) (k : Int) : List (Int × List Nat × Int) :=
  if k.emod p = 0 then ts else
  if qfk ts n m < ts.length ∧ (ts.getD (qfk ts n m) zT).1 = n ∧ (ts.getD (qfk ts n m) zT).2.1 = m then
    ts.take (qfk ts n m) ++ (if ((ts.getD (qfk ts n m) zT).2.2 + k.emod p).emod p = 0 then [] else [(n, m, ((ts.getD (qfk ts n m) zT).2.2 + k.emod p).emod p)]) ++ ts.drop (qfk ts n m + 1)
  else ts.take (qfk ts n m) ++ (n, m, k.emod p) :: ts.drop (qfk ts n m)
def zaj (n : Int) (ts : List (Int × List Nat × Int)) : Prop := ts.length ≤ 1000000 ∧ (∀ t ∈ ts, t.1 = n) ∧ (∀ t ∈ ts, -1000000000000 ≤ t.2.2 ∧ t.2.2 ≤ 1000000000000) ∧ (ts.Pairwise fun a b => ltT a b = true)
instance {n : Int} {ts : List (Int × List Nat × Int)} : Decidable (zaj n ts) := by unfold zaj; infer_instance
def B35 : zc := B34
theorem qs3 : qp Try.prog B35 := q7a
def Bv : AC := .seq (.region [o0 1 (.box (.t 0)),oZ 2]) (.seq (.region [oF 3 0 1,oL 4 3,oF 5 1 1,oL 6 5,oF 7 2 1,oL 8 7,o0 9 (.um 0 [] []),o0 10 (.build [.int .i64 0,.int .i64 0,.int .i64 0,(.v (.slice none 0 0))] [(0,1,.t 4),(1,1,.t 6),(2,1,.t 8),(3,1,.t 9)]),oS 4 2 10]) .ret)
theorem qd3 : zl Try.prog 97 = some ⟨11, Bv, [.yn 2 4]⟩ := by kernel_rfl
theorem qmw (p c n : Int) (k : Nat) :
    Am.Fn Try.prog 97 [elemV p c n 0 k] [.ro []] (fun v H' => v = elemV p c n 1 0 ∧ H' = [.ro [], .vec 18 []]) := by
  refine Am.Fn.ofW qs3 mixed qd3 (by simp [elemV, AV.qv, AV.under]) (Jm rfl) ?_
  simp (maxSteps := 3000000) only [qh, zH, Bv, qa, elemV, iE, iN, iB, iC, iL, iD, iA, iS, iM, rep, qa, zZ, ↓qq, ↓reduceIte, reduceCtorEq, nA, nM, nS, nE, nL, nD]; try simp only [qa, zY]
  refine ⟨rfl, _, qw.trans (qw.qx [2]) (qw.vec 3 0 18 (by decide) rfl rfl rfl rfl), ?_⟩
  refine Ret.x7 [0, 3] ⟨⟨by simp, rfl, by decide⟩, ?_⟩ (rs := [.agg [.int .i64 p, .int .i64 c, .int .i64 n, .slc 3 0 0 false 0]]) ?_ rfl (by simp [xl]) ?_ ⟨?_, ?_⟩
  · simp only [qx, zs, zV, ↓reduceIte, nE, reduceCtorEq, nB]
    simp only [zK, ↓reduceIte, reduceCtorEq, nE, nB, nA]
  · simp only [qx, zs, zV, ↓reduceIte, nE, reduceCtorEq, nB]
    rfl
  · intro j l; match j with
    | 0 => simp [zo, qa4, AO.xj, AO.ren]
    | 1 => simp [zo, qa4, AO.xj, AO.ren]
    | j + 2 => simp [zo]
  · simp only [xl]
    simp only [zL, ↓reduceIte, reduceCtorEq, nE, nA]
  · rfl
def Jc : BE := fun hp xs => match xs with
  | [.agg [.int .i64 p, .int .i64 c, .int .i64 n, .slc b 0 k false 0]] => match rd hp b with
    | some _ => some (elemV p c n hp.length 0, hp ++ [.vec 18 []])
    | none => none
  | _ => none
theorem q32 : Am.Callee Try.prog 97 Jc := Callee.fp fun hp xs v hp' he => by
  unfold Jc at he
  split at he
  · rename_i p c n b k
    split at he
    · rename_i L hL
      simp only [Option.some.injEq, Prod.mk.injEq] at he
      obtain ⟨rfl, rfl⟩ := he
      refine ⟨[(b, 0)], [elemV p c n 0 k], _, _, _, qmw p c n k, by simp [elemV, AV.ren, AV.zp, ofL], rfl, ⟨⟨L, hL, by simp, by simp [AV.zp]⟩, trivial⟩, rfl, ⟨trivial, trivial⟩, ⟨⟨trivial, trivial, trivial, by simp [AV.under], trivial⟩, trivial⟩, by simp [elemV, AV.ren, AV.zp, Ren.ext], ?_⟩
      simp [after, upd, AO.wr, AO.ren, AV.zp]
    · cases he
  · cases he
def B36 : zc := (B35.put 97 (Jc))
theorem q8b : qp Try.prog B36 := (qs3.put (q32))
theorem qih {n n' : Nat} {m m' : List Nat} (h : isS n m = true) (h' : isS n' m' = true) (hm : m.length = 16) (hm' : m'.length = 16) (e : ja n m = ja n' m') : n = n' ∧ m = m' := by
  rw [Xu n m hm] at h
  rw [Xu n' m' hm'] at h'
  simp only [isI, Bool.and_eq_true, beq_iff_eq] at h h'
  have h1 := h.2.2
  rw [e, h'.2.2] at h1
  simp only [Option.some.injEq, Prod.mk.injEq] at h1
  exact ⟨h1.1.symm, h1.2.symm⟩
structure xd (p n : Int) (ts : List (Int × List Nat × Int)) : Prop where
  ok : okT ts
  dia : ∀ t ∈ ts, t.1 = n ∧ isS n.toNat t.2.1 = true
  fac : ∀ t ∈ ts, 1 ≤ t.2.2 ∧ t.2.2 ≤ p - 1
  up : upT ts
def qb5 (p n : Int) (m : List Nat) (kk : Int) : List (Int × List Nat × Int) → List (Int × List Nat × Int)
  | [] => [(n, m, kk)]
  | t :: l => if ltT t (n, m, 0) then t :: qb5 p n m kk l else
    if t.1 = n ∧ t.2.1 = m then (if (t.2.2 + kk).emod p = 0 then [] else [(n, m, (t.2.2 + kk).emod p)]) ++ l else (n, m, kk) :: t :: l
theorem qx9 (t : Int × List Nat × Int) (l : List (Int × List Nat × Int)) (n : Int) (m : List Nat) : qfk (t :: l) n m = if ltT t (n, m, 0) = true then qfk l n m + 1 else 0 := by
  unfold qfk
  rw [List.takeWhile_cons]
  split <;> rfl
theorem qhj (p n : Int) (m : List Nat) (k : Int) (ts : List (Int × List Nat × Int)) : qjh p ts n m k = if k.emod p = 0 then ts else qb5 p n m (k.emod p) ts := by
  unfold qjh
  split
  · rfl
  · rename_i hk
    induction ts with
    | nil => simp [qfk, qb5]
    | cons t l ih =>
      rw [qx9]
      unfold qb5
      by_cases h : ltT t (n, m, 0) = true
      · simp only [if_pos h, List.length_cons, Nat.add_lt_add_iff_right, List.getD_cons_succ, List.take_succ_cons, List.drop_succ_cons]
        rw [← ih]
        split <;> simp
      · simp only [if_neg h, List.length_cons, List.getD_cons_zero, List.take_zero, List.drop_zero, List.nil_append, List.drop_succ_cons]
        by_cases h2 : t.1 = n ∧ t.2.1 = m
        · rw [if_pos ⟨by omega, h2⟩, if_pos h2]
        · rw [if_neg (fun h3 => h2 h3.2), if_neg h2]
theorem qop {p n : Int} {m : List Nat} {kk : Int} : ∀ {ts : List (Int × List Nat × Int)}, (qb5 p n m kk ts).length ≤ ts.length + 1
  | [] => Nat.le_refl _
  | t :: l => by
    unfold qb5
    split
    · have := qop (p := p) (n := n) (m := m) (kk := kk) (ts := l)
      simp only [List.length_cons]; omega
    · split
      · split <;> simp <;> omega
      · simp
theorem Uq {p n : Int} {m : List Nat} {kk : Int} {u : Int × List Nat × Int} : ∀ {ts : List (Int × List Nat × Int)}, u ∈ qb5 p n m kk ts → u ∈ ts ∨ (u.1 = n ∧ u.2.1 = m ∧ (u.2.2 = kk ∨ ∃ f : Int, u.2.2 = (f + kk).emod p ∧ (f + kk).emod p ≠ 0))
  | [], h => by
    rw [qb5, List.mem_singleton] at h
    subst h; exact .inr ⟨rfl, rfl, .inl rfl⟩
  | t :: l, h => by
    unfold qb5 at h
    split at h
    · rcases List.mem_cons.1 h with rfl | h
      · exact .inl (List.mem_cons_self ..)
      · rcases Uq h with h | h
        · exact .inl (List.mem_cons_of_mem _ h)
        · exact .inr h
    · split at h
      · split at h
        · exact .inl (List.mem_cons_of_mem _ h)
        · rename_i hne
          rcases List.mem_cons.1 h with rfl | h
          · exact .inr ⟨rfl, rfl, .inr ⟨t.2.2, rfl, hne⟩⟩
          · exact .inl (List.mem_cons_of_mem _ h)
      · rcases List.mem_cons.1 h with rfl | h
        · exact .inr ⟨rfl, rfl, .inl rfl⟩
        · exact .inl h
theorem q7p {t u u' : Int × List Nat × Int} (h1 : u.1 = u'.1) (h2 : u.2.1 = u'.2.1) : ltT t u = ltT t u' := by unfold ltT txt; rw [h1, h2]
theorem q5o {t t' u : Int × List Nat × Int} (h1 : t.1 = t'.1) (h2 : t.2.1 = t'.2.1) : ltT t u = ltT t' u := by unfold ltT txt; rw [h1, h2]
theorem qvv {p n : Int} {m : List Nat} {kk : Int} (hm : okD m) (hs : isS n.toNat m = true) : ∀ {ts : List (Int × List Nat × Int)}, okT ts → (∀ t ∈ ts, t.1 = n ∧ isS n.toNat t.2.1 = true) → upT ts → upT (qb5 p n m kk ts)
  | [], _, _, _ => by unfold qb5 upT; exact List.pairwise_singleton _ _
  | t :: l, ho, hd, hu => by
    have hu' := List.pairwise_cons.1 hu
    have ih := qvv (p := p) (kk := kk) hm hs (ts := l) (fun u h => ho u (List.mem_cons_of_mem _ h)) (fun u h => hd u (List.mem_cons_of_mem _ h)) hu'.2
    unfold qb5
    split
    · rename_i hlt
      refine List.pairwise_cons.2 ⟨fun u hu2 => ?_, ih⟩
      rcases Uq hu2 with h | ⟨h1, h2, _⟩
      · exact hu'.1 u h
      · rw [q7p (u' := (n, m, 0)) h1 h2]; exact hlt
    · rename_i hlt
      split
      · rename_i he
        split
        · exact hu'.2
        · refine List.pairwise_cons.2 ⟨fun u hu2 => ?_, hu'.2⟩
          rw [q5o (t' := t) he.1.symm he.2.symm]
          exact hu'.1 u hu2
      · rename_i he
        have hx : ltT (n, m, kk) t = true := by
          cases hb : ltT (n, m, kk) t with
          | true => rfl
          | false =>
            exfalso
            have hdt := hd t (List.mem_cons_self ..)
            have e := Jp _ _ (Bool.eq_false_iff.2 hlt) hb
            unfold txt at e
            simp only [hdt.1] at e
            exact he ⟨hdt.1, (qih hdt.2 hs (ho t (List.mem_cons_self ..)).1 hm.1 e).2⟩
        refine List.pairwise_cons.2 ⟨fun u hu2 => ?_, hu⟩
        rcases List.mem_cons.1 hu2 with rfl | h
        · exact hx
        · exact Zc _ _ _ hx (hu'.1 u h)
theorem qly {p n : Int} {m : List Nat} {k : Int} {ts : List (Int × List Nat × Int)} (hp : 0 < p) (hm : okD m) (hs : isS n.toNat m = true) (h : xd p n ts) : xd p n (qjh p ts n m k) := by
  rw [qhj]
  split
  · exact h
  · rename_i hk
    have b1 : 0 ≤ k.emod p := Int.emod_nonneg k (by omega)
    have b2 : k.emod p < p := Int.emod_lt_of_pos k hp
    refine ⟨fun u hu => ?_, fun u hu => ?_, fun u hu => ?_, qvv hm hs h.ok h.dia h.up⟩
    · rcases Uq hu with h1 | ⟨_, h2, _⟩
      · exact h.ok u h1
      · rw [h2]; exact hm
    · rcases Uq hu with h1 | ⟨h1, h2, _⟩
      · exact h.dia u h1
      · rw [h2]; exact ⟨h1, hs⟩
    · rcases Uq hu with h1 | ⟨_, _, h3 | ⟨f, h3, h4⟩⟩
      · exact h.fac u h1
      · omega
      · have c1 : 0 ≤ (f + k.emod p).emod p := Int.emod_nonneg _ (by omega)
        have c2 : (f + k.emod p).emod p < p := Int.emod_lt_of_pos _ hp
        omega
theorem qp8 {p n : Int} {m : List Nat} {k : Int} {ts : List (Int × List Nat × Int)} : (qjh p ts n m k).length ≤ ts.length + 1 := by
  rw [qhj]; split
  · omega
  · exact qop
def qcd (p n k : Int) (acc b : List (Int × List Nat × Int)) : List (Int × List Nat × Int) := b.foldl (fun acc t => qjh p acc n t.2.1 (k * t.2.2)) acc
theorem qex {p n k : Int} {a : List (Int × List Nat × Int)} (hp : 0 < p) (ha : xd p n a) : ∀ {b : List (Int × List Nat × Int)}, xd p n b → xd p n (qcd p n k a b) ∧ (qcd p n k a b).length ≤ a.length + b.length := by
  intro b
  unfold qcd
  induction b generalizing a with
  | nil => exact fun _ => ⟨ha, by simp⟩
  | cons t b ih =>
    intro hb
    have h1 := qly (k := k * t.2.2) hp (hb.ok t (List.mem_cons_self ..)) (hb.dia t (List.mem_cons_self ..)).2 ha
    have h2 := qp8 (p := p) (n := n) (m := t.2.1) (k := k * t.2.2) (ts := a)
    have h3 := ih h1 ⟨fun u h => hb.ok u (List.mem_cons_of_mem _ h), fun u h => hb.dia u (List.mem_cons_of_mem _ h), fun u h => hb.fac u (List.mem_cons_of_mem _ h), (List.pairwise_cons.1 hb.up).2⟩
    rw [List.foldl_cons]
    refine ⟨h3.1, ?_⟩
    have := h3.2
    simp only [List.length_cons]; omega
def Ux (p n : Int) (ts : List (Int × List Nat × Int)) : Prop := (∀ t ∈ ts, t.1 = n ∧ isS n.toNat t.2.1 = true) ∧ (∀ t ∈ ts, 1 ≤ t.2.2 ∧ t.2.2 ≤ p - 1) ∧ (ts.Pairwise fun a b => ltT a b = true)
instance {p n : Int} {ts : List (Int × List Nat × Int)} : Decidable (Ux p n ts) := by unfold Ux; infer_instance
theorem Ux.qg8 {p n : Int} {ts : List (Int × List Nat × Int)} (h : Ux p n ts) (ho : okT ts) : xd p n ts := ⟨ho, h.1, h.2.1, h.2.2⟩
theorem xd.dec {p n : Int} {ts : List (Int × List Nat × Int)} (h : xd p n ts) : Ux p n ts := ⟨h.dia, h.fac, h.up⟩
def B37 : zc := B36
theorem qff : qp Try.prog B37 := q8b
def Zq (n : Int) (m : List Nat) : List (Int × List Nat × Int) → Option Nat
  | [] => none
  | t :: l => if n = t.1 ∧ m = t.2.1 then some 0 else (Zq n m l).map (· + 1)
theorem Uh {n : Int} {m : List Nat} (hm : m.length = 16) : ∀ {ts : List (Int × List Nat × Int)} {k i : Nat}, okT ts →
    wx KD true (.agg (dia n m)) (esT k ts) i = some ((Zq n m ts).map fun j => (i + j, ⟨.agg (dia n m), .int .i64 (ts.getD j zT).2.2, k + j⟩))
  | [], k, i, _ => rfl
  | t :: l, k, i, h => by
    have h1 := (h t (List.mem_cons_self ..)).1
    have ih := Uh (n := n) hm (ts := l) (k := k + 1) (i := i + 1) fun u hu => h u (List.mem_cons_of_mem _ hu)
    unfold esT wx
    simp only [keq, Uz hm h1, Zq]
    by_cases e : n = t.1 ∧ m = t.2.1
    · simp only [decide_eq_true e, if_pos e, Option.map_some, Nat.add_zero, List.getD_cons_zero]
      obtain ⟨rfl, rfl⟩ := e
      rfl
    · simp only [decide_eq_false e, if_neg e, ih, Option.map_map]
      congr 1
      congr 1
      funext j
      simp only [Function.comp, List.getD_cons_succ]
      rw [show i + 1 + j = i + (j + 1) by omega, show k + 1 + j = k + (j + 1) by omega]
def kx (n : Int) (m : List Nat) (f : Int) : List (Int × List Nat × Int) → List (Int × List Nat × Int)
  | [] => [(n, m, f)]
  | t :: l => if n = t.1 ∧ m = t.2.1 then (t.1, t.2.1, t.2.2 + f) :: l else t :: kx n m f l
theorem qoc : ∀ {a b : List (Int × List Nat × Int)} {k : Nat}, esT k (a ++ b) = esT k a ++ esT (k + a.length) b
  | [], b, k => rfl
  | t :: a, b, k => by
    simp only [List.cons_append, esT, qoc, List.length_cons]
    rw [show k + 1 + a.length = k + (a.length + 1) by omega]
theorem qnm {n v : Int} {m : List Nat} : ∀ {ts : List (Int × List Nat × Int)} {k j : Nat}, (esT k ts).set j ⟨.agg (dia n m), .int .i64 v, k + j⟩ = esT k (ts.set j (n, m, v))
  | [], k, j => rfl
  | t :: ts, k, 0 => rfl
  | t :: ts, k, j + 1 => by
    simp only [esT, List.set_cons_succ]
    rw [show k + (j + 1) = k + 1 + j by omega, qnm]
theorem qnk {v : Int} : ∀ {ts : List (Int × List Nat × Int)} {k j : Nat}, (esT k ts).modify j (fun x => ⟨x.key, .int .i64 v, x.born⟩) = esT k (ts.modify j fun t => (t.1, t.2.1, v))
  | [], k, j => by cases j <;> rfl
  | t :: ts, k, 0 => rfl
  | t :: ts, k, j + 1 => by
    simp only [esT, List.modify_succ_cons, qnk]
theorem qir : ∀ {ts : List (Int × List Nat × Int)} {k j : Nat}, j < ts.length → (esT k ts).findIdx? (fun x => (x.born : Int) == ((k + j : Nat) : Int)) = some j
  | t :: ts, k, 0, _ => by simp [esT, List.findIdx?_cons]
  | t :: ts, k, j + 1, h => by
    have := qir (ts := ts) (k := k + 1) (j := j) (by simpa using h)
    rw [show k + 1 + j = k + (j + 1) by omega] at this
    have hne : ((k : Int) == ((k + (j + 1) : Nat) : Int)) = false := by rw [beq_eq_false_iff_ne]; omega
    simp only [esT, List.findIdx?_cons, hne, this, Bool.false_eq_true, if_false, Option.map_some]
theorem Bo {n : Int} {m : List Nat} : ∀ {ts : List (Int × List Nat × Int)} {j : Nat}, Zq n m ts = some j → j < ts.length ∧ (ts.getD j zT).1 = n ∧ (ts.getD j zT).2.1 = m ∧ ∀ f, kx n m f ts = ts.set j (n, m, (ts.getD j zT).2.2 + f)
  | t :: l, j, h => by
    unfold Zq at h
    split at h
    · rename_i e
      cases h
      obtain ⟨rfl, rfl⟩ := e
      exact ⟨by simp, rfl, rfl, fun f => by simp [kx]⟩
    · rename_i e
      cases hi : Zq n m l with
      | none => rw [hi] at h; cases h
      | some i =>
        rw [hi] at h; cases h
        obtain ⟨h1, h2, h3, h4⟩ := Bo hi
        exact ⟨by simp; omega, by simpa using h2, by simpa using h3, fun f => by simp [kx, if_neg e, h4]⟩
theorem qfl {n : Int} {m : List Nat} : ∀ {ts : List (Int × List Nat × Int)}, Zq n m ts = none → (∀ f, kx n m f ts = ts ++ [(n, m, f)]) ∧ ∀ t ∈ ts, ¬ (n = t.1 ∧ m = t.2.1)
  | [], _ => ⟨fun _ => rfl, by simp⟩
  | t :: l, h => by
    unfold Zq at h
    split at h
    · cases h
    · rename_i e
      have hi : Zq n m l = none := by
        cases hi : Zq n m l with
        | none => rfl
        | some i => rw [hi] at h; cases h
      obtain ⟨h1, h2⟩ := qfl hi
      refine ⟨fun f => by simp [kx, if_neg e, h1], fun u hu => ?_⟩
      rcases List.mem_cons.1 hu with rfl | hu
      · exact e
      · exact h2 u hu
structure qa6 (n M : Int) (ts : List (Int × List Nat × Int)) : Prop where
  ok : okT ts
  dia : ∀ t ∈ ts, t.1 = n ∧ isS n.toNat t.2.1 = true
  fac : ∀ t ∈ ts, -M ≤ t.2.2 ∧ t.2.2 ≤ M
  one : ts.Pairwise fun a b => a.2.1 ≠ b.2.1
theorem Wr {n f : Int} {m : List Nat} {u : Int × List Nat × Int} : ∀ {ts : List (Int × List Nat × Int)}, u ∈ kx n m f ts → (∃ t ∈ ts, u.1 = t.1 ∧ u.2.1 = t.2.1 ∧ (u.2.2 = t.2.2 ∨ u.2.2 = t.2.2 + f)) ∨ (u = (n, m, f) ∧ ∀ t ∈ ts, ¬ (n = t.1 ∧ m = t.2.1))
  | [], h => by
    rw [kx, List.mem_singleton] at h
    exact .inr ⟨h, by simp⟩
  | t :: l, h => by
    unfold kx at h
    split at h
    · rcases List.mem_cons.1 h with rfl | h
      · exact .inl ⟨t, List.mem_cons_self .., rfl, rfl, .inr rfl⟩
      · exact .inl ⟨u, List.mem_cons_of_mem _ h, rfl, rfl, .inl rfl⟩
    · rename_i e
      rcases List.mem_cons.1 h with rfl | h
      · exact .inl ⟨u, List.mem_cons_self .., rfl, rfl, .inl rfl⟩
      · rcases Wr h with ⟨v, hv, h1⟩ | ⟨h1, h2⟩
        · exact .inl ⟨v, List.mem_cons_of_mem _ hv, h1⟩
        · refine .inr ⟨h1, fun v hv => ?_⟩
          rcases List.mem_cons.1 hv with rfl | hv
          · exact e
          · exact h2 v hv
theorem qh5 {n f : Int} {m : List Nat} : ∀ {ts : List (Int × List Nat × Int)}, (∀ t ∈ ts, t.1 = n) → (ts.Pairwise fun a b => a.2.1 ≠ b.2.1) → (kx n m f ts).Pairwise fun a b => a.2.1 ≠ b.2.1
  | [], _, _ => List.pairwise_singleton _ _
  | t :: l, hs, h => by
    have h' := List.pairwise_cons.1 h
    unfold kx
    split
    · exact List.pairwise_cons.2 ⟨fun u hu => h'.1 u hu, h'.2⟩
    · rename_i e
      refine List.pairwise_cons.2 ⟨fun u hu => ?_, qh5 (fun u hu => hs u (List.mem_cons_of_mem _ hu)) h'.2⟩
      rcases Wr hu with ⟨v, hv, _, h2, _⟩ | ⟨rfl, _⟩
      · rw [h2]; exact h'.1 v hv
      · intro e2; exact e ⟨(hs t (List.mem_cons_self ..)).symm, e2.symm⟩
theorem qqz {n f M F : Int} {m : List Nat} {ts : List (Int × List Nat × Int)} (hm : okD m) (hs : isS n.toNat m = true) (hf : -F ≤ f ∧ f ≤ F) (hM : 0 ≤ M) (h : qa6 n M ts) : qa6 n (M + F) (kx n m f ts) := by
  refine ⟨fun u hu => ?_, fun u hu => ?_, fun u hu => ?_, qh5 (fun t ht => (h.dia t ht).1) h.one⟩
  · rcases Wr hu with ⟨v, hv, _, h2, _⟩ | ⟨rfl, _⟩
    · rw [h2]; exact h.ok v hv
    · exact hm
  · rcases Wr hu with ⟨v, hv, h1, h2, _⟩ | ⟨rfl, _⟩
    · rw [h1, h2]; exact h.dia v hv
    · exact ⟨rfl, hs⟩
  · rcases Wr hu with ⟨v, hv, _, _, h3⟩ | ⟨rfl, _⟩
    · have := h.fac v hv
      rcases h3 with h3 | h3 <;> omega
    · simp only; omega
def xo (k : Int) (acc b : List (Int × List Nat × Int)) : List (Int × List Nat × Int) := b.foldl (fun acc t => kx t.1 t.2.1 (k * t.2.2) acc) acc
theorem qjx {k : Int} {a b : List (Int × List Nat × Int)} {i : Nat} (h : i < b.length) : xo k a (b.take (i + 1)) = kx b[i].1 b[i].2.1 (k * b[i].2.2) (xo k a (b.take i)) := by
  rw [List.take_succ_eq_append_getElem h, xo, List.foldl_append]; rfl
theorem qjo {n f : Int} {m : List Nat} : ∀ {ts : List (Int × List Nat × Int)}, (kx n m f ts).length ≤ ts.length + 1
  | [] => Nat.le_refl _
  | t :: l => by
    unfold kx
    split
    · simp
    · have := qjo (n := n) (m := m) (f := f) (ts := l)
      simp only [List.length_cons]; omega
def cf (m : List Nat) : List (Int × List Nat × Int) → Int
  | [] => 0
  | t :: l => (if t.2.1 = m then t.2.2 else 0) + cf m l
theorem qzu {m : List Nat} : ∀ {a b : List (Int × List Nat × Int)}, cf m (a ++ b) = cf m a + cf m b
  | [], b => by simp [cf]
  | t :: a, b => by simp only [List.cons_append, cf, qzu (a := a)]; omega
theorem q3r {m : List Nat} {a b : List (Int × List Nat × Int)} (h : a.Perm b) : cf m a = cf m b := by
  induction h with
  | nil => rfl
  | cons x _ ih => simp only [cf, ih]
  | swap x y l => simp only [cf]; omega
  | trans _ _ h1 h2 => rw [h1, h2]
theorem Qv (p a : Int) : p ∣ a.emod p - a := ⟨-(a / p), by
  have : a.emod p = a - p * (a / p) := Int.emod_def a p
  rw [this, Int.mul_neg]; omega⟩
theorem br {p x y z : Int} (h1 : p ∣ x) (h2 : p ∣ y) (e : z = x + y) : p ∣ z := e ▸ Int.dvd_add h1 h2
theorem Ys {p x y z : Int} (h1 : p ∣ x) (h2 : p ∣ y) (e : z = x - y) : p ∣ z := e ▸ Int.dvd_sub h1 h2
theorem qog {p a : Int} (h : a.emod p = 0) : p ∣ a := Int.dvd_of_emod_eq_zero h
theorem qhp {n f : Int} {m m' : List Nat} : ∀ {ts : List (Int × List Nat × Int)}, (∀ t ∈ ts, t.1 = n) → cf m (kx n m' f ts) = cf m ts + if m' = m then f else 0
  | [], _ => by simp [kx, cf]
  | t :: l, h => by
    have h0 := h t (List.mem_cons_self ..)
    unfold kx
    split
    · rename_i e
      simp only [cf, e.2]
      split <;> omega
    · simp only [cf, qhp (ts := l) fun u hu => h u (List.mem_cons_of_mem _ hu)]
      omega
theorem qvc {p : Int} {m : List Nat} : ∀ {ts : List (Int × List Nat × Int)}, p ∣ cf m (zw p ts) - cf m ts
  | [] => by simp [zw, cf]
  | t :: l => by
    have ih := qvc (p := p) (m := m) (ts := l)
    unfold zw at ih ⊢
    rw [List.filterMap_cons]
    split
    · rename_i e
      split at e
      · rename_i e2
        simp only [cf]
        split
        · exact Ys ih (qog e2) (by omega)
        · exact br ih (Int.dvd_zero p) (by omega)
      · cases e
    · rename_i u e
      split at e
      · cases e
      · cases e
        simp only [cf]
        split
        · exact br ih (Qv p t.2.2) (by omega)
        · exact br ih (Int.dvd_zero p) (by omega)
theorem qvi {p n kk : Int} {m m' : List Nat} : ∀ {ts : List (Int × List Nat × Int)}, (∀ t ∈ ts, t.1 = n) → p ∣ cf m (qb5 p n m' kk ts) - (cf m ts + if m' = m then kk else 0)
  | [], _ => by simp [qb5, cf]
  | t :: l, h => by
    have ih := qvi (p := p) (kk := kk) (m := m) (m' := m') (ts := l) fun u hu => h u (List.mem_cons_of_mem _ hu)
    unfold qb5
    split
    · simp only [cf]
      exact br ih (Int.dvd_zero p) (by omega)
    · split
      · rename_i e
        rw [qzu]
        split
        · rename_i e0
          simp only [cf, e.2]
          split
          · exact Ys (Int.dvd_zero p) (qog e0) (by omega)
          · exact br (Int.dvd_zero p) (Int.dvd_zero p) (by omega)
        · simp only [cf, e.2]
          split
          · exact br (Qv p (t.2.2 + kk)) (Int.dvd_zero p) (by omega)
          · exact br (Int.dvd_zero p) (Int.dvd_zero p) (by omega)
      · simp only [cf]
        exact br (Int.dvd_zero p) (Int.dvd_zero p) (by omega)
theorem qut {p n k : Int} {m m' : List Nat} {ts : List (Int × List Nat × Int)} (h : ∀ t ∈ ts, t.1 = n) : p ∣ cf m (qjh p ts n m' k) - (cf m ts + if m' = m then k else 0) := by
  rw [qhj]
  split
  · rename_i e
    split
    · exact Ys (Int.dvd_zero p) (qog e) (by omega)
    · exact br (Int.dvd_zero p) (Int.dvd_zero p) (by omega)
  · have h1 := qvi (p := p) (kk := k.emod p) (m := m) (m' := m') h
    split at h1
    · rename_i e
      rw [if_pos e]
      exact br h1 (Qv p k) (by omega)
    · rename_i e
      rw [if_neg e]; exact h1
theorem qhe {m : List Nat} : ∀ {ts : List (Int × List Nat × Int)}, (∀ t ∈ ts, t.2.1 ≠ m) → cf m ts = 0
  | [], _ => rfl
  | t :: l, h => by
    simp only [cf, if_neg (h t (List.mem_cons_self ..)), qhe (ts := l) fun u hu => h u (List.mem_cons_of_mem _ hu)]; rfl
theorem qok : ∀ {ts : List (Int × List Nat × Int)}, (ts.Pairwise fun a b => a.2.1 ≠ b.2.1) → ∀ t ∈ ts, cf t.2.1 ts = t.2.2
  | u :: l, h, t, ht => by
    have h' := List.pairwise_cons.1 h
    rcases List.mem_cons.1 ht with rfl | ht
    · simp only [cf, if_true, qhe fun v hv e => h'.1 v hv e.symm]; omega
    · simp only [cf, if_neg (h'.1 t ht), qok h'.2 t ht]; omega
theorem qps {ts : List (Int × List Nat × Int)} {n : Int} (hs : ∀ t ∈ ts, t.1 = n) (h : upT ts) : ts.Pairwise fun a b => a.2.1 ≠ b.2.1 := by
  refine List.Pairwise.imp_of_mem ?_ h
  intro a b ha hb hlt e
  have : txt a = txt b := by unfold txt; rw [hs a ha, hs b hb, e]
  unfold ltT at hlt
  rw [this, uz] at hlt; cases hlt
theorem Xm {p n : Int} {ts : List (Int × List Nat × Int)} (h : xd p n ts) (hp : 0 < p) (m : List Nat) : (0 ≤ cf m ts ∧ cf m ts ≤ p - 1) ∧ ∀ t : Int × List Nat × Int, t.2.1 = m → (t ∈ ts ↔ t.1 = n ∧ t.2.2 = cf m ts ∧ cf m ts ≠ 0) := by
  have ha := qps (fun t ht => (h.dia t ht).1) h.up
  by_cases hx : ∃ t ∈ ts, t.2.1 = m
  · obtain ⟨t, ht, rfl⟩ := hx
    have e := qok ha t ht
    have hf := h.fac t ht
    rw [e]
    refine ⟨by omega, fun u hu => ⟨fun hm => ?_, fun ⟨h1, h2, _⟩ => ?_⟩⟩
    · have e2 := qok ha u hm
      rw [hu, e] at e2
      exact ⟨(h.dia u hm).1, e2.symm, by omega⟩
    · have : u = t := by
        obtain ⟨a, b, c⟩ := u
        obtain ⟨a', b', c'⟩ := t
        simp only at h1 h2 hu
        rw [h1, h2, hu, ← (h.dia _ ht).1]
      rw [this]; exact ht
  · have e := qhe (m := m) (ts := ts) fun t ht e => hx ⟨t, ht, e⟩
    rw [e]
    exact ⟨by omega, fun u hu => ⟨fun hm => absurd ⟨u, hm, hu⟩ hx, fun h3 => absurd rfl h3.2.2⟩⟩
theorem qr9 {ts : List (Int × List Nat × Int)} (h : upT ts) : ts.Nodup := h.imp fun {a b} hlt e => by
  subst e; unfold ltT at hlt; rw [uz] at hlt; cases hlt
theorem Ki {p n : Int} {a b : List (Int × List Nat × Int)} (hp : 0 < p) (ha : xd p n a) (hb : xd p n b) (h : ∀ m, p ∣ cf m a - cf m b) : a = b := by
  have he : ∀ m, cf m a = cf m b := fun m => by
    obtain ⟨q, hq⟩ := h m
    have h1 := (Xm ha hp m).1
    have h2 := (Xm hb hp m).1
    have : q = 0 := by
      rcases Int.lt_trichotomy q 0 with hl | hl | hl
      · exfalso
        have : p * q ≤ p * (-1) := Int.mul_le_mul_of_nonneg_left (by omega) (by omega)
        omega
      · exact hl
      · exfalso
        have : p * 1 ≤ p * q := Int.mul_le_mul_of_nonneg_left (by omega) (by omega)
        omega
    subst this
    omega
  refine qeq ha.up hb.up ((List.perm_ext_iff_of_nodup (qr9 ha.up) (qr9 hb.up)).2 fun t => ?_)
  rw [(Xm ha hp t.2.1).2 t rfl, (Xm hb hp t.2.1).2 t rfl, he]
theorem qip {p n M : Int} {S : List (Int × List Nat × Int)} (hp : 0 < p) (h : qa6 n M S) : xd p n (Q7 (zw p S)) := by
  have hmem : ∀ t ∈ Q7 (zw p S), ∃ u ∈ S, t = (u.1, u.2.1, u.2.2.emod p) ∧ u.2.2.emod p ≠ 0 := fun t ht => qj1 ((uy _).mem_iff.1 ht)
  refine ⟨fun t ht => ?_, fun t ht => ?_, fun t ht => ?_, qcw (qib ?_)⟩
  · obtain ⟨u, hu, rfl, _⟩ := hmem t ht; exact h.ok u hu
  · obtain ⟨u, hu, rfl, _⟩ := hmem t ht; exact h.dia u hu
  · obtain ⟨u, hu, rfl, hne⟩ := hmem t ht
    have b1 : 0 ≤ u.2.2.emod p := Int.emod_nonneg _ (by omega)
    have b2 : u.2.2.emod p < p := Int.emod_lt_of_pos _ hp
    simp only; omega
  · unfold G4 List.Nodup
    rw [List.pairwise_map]
    refine List.Pairwise.imp_of_mem ?_ h.one
    intro a b ha hb hne e
    unfold txt at e
    have h1 := h.dia a ha
    have h2 := h.dia b hb
    rw [h1.1, h2.1] at e
    exact hne (qih h1.2 h2.2 (h.ok a ha).1 (h.ok b hb).1 e).2
theorem qn3 {p : Int} {m : List Nat} {S : List (Int × List Nat × Int)} : p ∣ cf m (Q7 (zw p S)) - cf m S := by
  rw [q3r (uy _)]; exact qvc
end Go.Proofs.Ytfhckbbgmblhbaa

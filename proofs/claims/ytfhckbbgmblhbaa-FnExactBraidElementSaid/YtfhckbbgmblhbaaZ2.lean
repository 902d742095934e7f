/- Contracts of functions of the program, and plain laws, part 2: each text of this part is proved without further condition. -/
import Derived.Test.YtfhckbbgmblhbaaZ1
import Derived.Test.YtfhckbbgmblhbaaAmC
import Derived.Shelf.Small.Strs
namespace Go.Proofs.Ytfhckbbgmblhbaa
open Go.Am Go.Dia
open Nat renaming reduceAdd → nA, reduceMul → nM, reduceSub → nS, reduceEqDiff → nE, reduceLT → nL, reduceLeDiff → nD, reduceBEq → nB
open Int renaming reduceEq → iE, reduceNe → iN, reduceBEq → iB, reduceBNe → iC, reduceLT → iL, reduceLE → iD, reduceAdd → iA, reduceSub → iS, reduceMul → iM
set_option linter.unusedSimpArgs false
set_option linter.unusedVariables false
set_option maxRecDepth 4000
set_option maxHeartbeats 1000000
theorem qi9 {a b c d x : AV} : over [a, b, c, d] 0 [x] = [x, b, c, d] := rfl
theorem qj6 {a b c d x : AV} : over [a, b, c, d] 1 [x] = [a, x, c, d] := rfl
theorem qi8 {a b c d x : AV} : over [a, b, c, d] 2 [x] = [a, b, x, d] := rfl
theorem qka {a b c d x : AV} : over [a, b, c, d] 3 [x] = [a, b, c, x] := rfl
theorem qjm {a b c d x y z w : AV} : over [a, b, c, d] 0 [x, y, z, w] = [x, y, z, w] := rfl
theorem qh : type_of% (And.intro @qi9 (And.intro @qj6 (And.intro @qi8 (And.intro @qka @qjm)))) := (And.intro @qi9 (And.intro @qj6 (And.intro @qi8 (And.intro @qka @qjm))))
def B24 : zk := B23
theorem qz5 : qu Try.prog B24 := q01
def qv9 : Go.Shelf.Ren := ⟨fun | 106 => 156 | 213 => 183 | 265 => 200 | n => n, fun | 9 => 9 | 3 => 3 | n => n, fun | n => n⟩
theorem q2a : Go.Proofs.Lays.n106 Try.prog qv9 where
  mixed := by kernel_rfl
  f106 := Try.func156.trans (congrArg some (by kernel_rfl))
  f213 := Try.func183.trans (congrArg some (by kernel_rfl))
  f265 := Try.func200.trans (congrArg some (by kernel_rfl))
  t3 := Try.underlying3
  a3 := Try.isAgg3
  z3 := Try.sizeOf3
  v3 := Try.zeroValue3
  t9 := Try.underlying9
  a9 := Try.isAgg9
  z9 := Try.sizeOf9
  v9 := Try.zeroValue9
def qv2 : Go.Shelf.Ren := ⟨fun | 6 => 154 | 15 => 182 | 14 => 181 | 28 => 198 | 29 => 199 | 20 => 190 | 21 => 191 | 22 => 192 | 23 => 193 | 24 => 194 | 25 => 195 | 26 => 196 | 27 => 197 | 46 => 201 | 47 => 202 | 48 => 203 | 49 => 204 | 50 => 205 | 57 => 206 | n => n, fun | 22 => 28 | 24 => 73 | 25 => 150 | 3 => 3 | 39 => 177 | 0 => 0 | 53 => 195 | 55 => 110 | 4 => 4 | 46 => 188 | 45 => 187 | 50 => 192 | 5 => 5 | 9 => 9 | 66 => 197 | 70 => 201 | 76 => 203 | 77 => 204 | n => n, fun | n => n⟩
theorem q17 : Go.Proofs.SlLaysF0.n6 Try.prog qv2 where
  mixed := by kernel_rfl
  f6 := ⟨Try.f154.name, by kernel_rfl, Try.func154.trans (congrArg some (by kernel_rfl))⟩
  f14 := ⟨Try.f181.name, by kernel_rfl, Try.func181.trans (congrArg some (by kernel_rfl))⟩
  f15 := Try.func182.trans (congrArg some (by kernel_rfl))
  f20 := ⟨Try.f190.name, by kernel_rfl, Try.func190.trans (congrArg some (by kernel_rfl))⟩
  f21 := ⟨Try.f191.name, by kernel_rfl, Try.func191.trans (congrArg some (by kernel_rfl))⟩
  f22 := ⟨Try.f192.name, by kernel_rfl, Try.func192.trans (congrArg some (by kernel_rfl))⟩
  f23 := ⟨Try.f193.name, by kernel_rfl, Try.func193.trans (congrArg some (by kernel_rfl))⟩
  f24 := ⟨Try.f194.name, by kernel_rfl, Try.func194.trans (congrArg some (by kernel_rfl))⟩
  f25 := ⟨Try.f195.name, by kernel_rfl, Try.func195.trans (congrArg some (by kernel_rfl))⟩
  f26 := ⟨Try.f196.name, by kernel_rfl, Try.func196.trans (congrArg some (by kernel_rfl))⟩
  f27 := ⟨Try.f197.name, by kernel_rfl, Try.func197.trans (congrArg some (by kernel_rfl))⟩
  f28 := Try.func198.trans (congrArg some (by kernel_rfl))
  f29 := Try.func199.trans (congrArg some (by kernel_rfl))
  f46 := ⟨Try.f201.name, by kernel_rfl, Try.func201.trans (congrArg some (by kernel_rfl))⟩
  f47 := Try.func202.trans (congrArg some (by kernel_rfl))
  f48 := Try.func203.trans (congrArg some (by kernel_rfl))
  f49 := ⟨Try.f204.name, by kernel_rfl, Try.func204.trans (congrArg some (by kernel_rfl))⟩
  f50 := ⟨Try.f205.name, by kernel_rfl, Try.func205.trans (congrArg some (by kernel_rfl))⟩
  f57 := ⟨Try.f206.name, by kernel_rfl, Try.func206.trans (congrArg some (by kernel_rfl))⟩
  t0 := Try.underlying0
  a0 := Try.isAgg0
  z0 := Try.sizeOf0
  v0 := Try.zeroValue0
  t3 := Try.underlying3
  a3 := Try.isAgg3
  z3 := Try.sizeOf3
  v3 := Try.zeroValue3
  t4 := Try.underlying4
  a4 := Try.isAgg4
  z4 := Try.sizeOf4
  v4 := Try.zeroValue4
  t5 := Try.underlying5
  a5 := Try.isAgg5
  z5 := Try.sizeOf5
  v5 := Try.zeroValue5
  t9 := Try.underlying9
  a9 := Try.isAgg9
  z9 := Try.sizeOf9
  v9 := Try.zeroValue9
  t22 := Try.underlying28
  a22 := Try.isAgg28
  z22 := Try.sizeOf28
  v22 := Try.zeroValue28
  t25 := Try.underlying150
  a25 := Try.isAgg150
  z25 := Try.sizeOf150
  v25 := Try.zeroValue150
  t39 := Try.underlying177
  a39 := Try.isAgg177
  z39 := Try.sizeOf177
  v39 := Try.zeroValue177
  t45 := Try.underlying187
  a45 := Try.isAgg187
  z45 := Try.sizeOf187
  v45 := Try.zeroValue187
  t46 := Try.underlying188
  a46 := Try.isAgg188
  z46 := Try.sizeOf188
  v46 := Try.zeroValue188
  t50 := Try.underlying192
  a50 := Try.isAgg192
  z50 := Try.sizeOf192
  v50 := Try.zeroValue192
  t53 := Try.underlying195
  a53 := Try.isAgg195
  z53 := Try.sizeOf195
  v53 := Try.zeroValue195
  t55 := Try.underlying110
  a55 := Try.isAgg110
  z55 := Try.sizeOf110
  v55 := Try.zeroValue110
  t66 := Try.underlying197
  a66 := Try.isAgg197
  z66 := Try.sizeOf197
  v66 := Try.zeroValue197
  t70 := Try.underlying201
  a70 := Try.isAgg201
  z70 := Try.sizeOf201
  v70 := Try.zeroValue201
  t76 := Try.underlying203
  a76 := Try.isAgg203
  z76 := Try.sizeOf203
  v76 := Try.zeroValue203
  t77 := Try.underlying204
  a77 := Try.isAgg204
  z77 := Try.sizeOf204
  v77 := Try.zeroValue204
def Ya : List AV → Option AV
  | [.str a, .str b] => some (.int .i64 (Go.Lib.compareBytes a b))
  | _ => none
theorem qsv (a b : List UInt8) : Am.Fn Try.prog 156 [.str a, .str b] [] (fun v H' => v = .int .i64 (Go.Lib.compareBytes a b) ∧ H' = []) :=
  qmf ⟨Try.f156, Try.func156, by kernel_rfl, by kernel_rfl⟩ rfl rfl fun w => Go.Proofs.Any.strings_Compare q2a ⟨a.toArray⟩ ⟨b.toArray⟩ w
theorem qs9 : Am.Callee Try.prog 156 (ql Ya) := Am.Callee.plain fun xs v he => by
  unfold Ya at he
  split at he
  · cases he; exact ⟨rfl, rfl, qsv _ _⟩
  · cases he
def B26 : zk := (B24.put 156 (ql Ya))
theorem qun : qu Try.prog B26 := (qz5.put (qs9))
theorem Uw : B26 142 = some (Ug 17 qez) := rfl
theorem qa9 : B26 156 = some (ql Ya) := rfl
def Jz : AC := .seq (.region [o0 2 (.box (.t 0)),o0 3 (.box (.t 1)),oI 4 0]) (.seq (.region [oF 5 0 2,oC 6 142 [.t 5],oF 7 0 3,oC 8 142 [.t 7],oC 9 156 [.t 6,.t 8],oM 4 9]) .ret)
theorem Kq : zl Try.prog 155 = some ⟨10, Jz, [.slot 4]⟩ := by kernel_rfl
def txt (t : Int × List Nat × Int) : List UInt8 := wk t.1.toNat t.2.1
def qui (t u : Int × List Nat × Int) : Int := Go.Lib.compareBytes (txt t) (txt u)
theorem qys (t u : Int × List Nat × Int) (ht : okD t.2.1) (hu : okD u.2.1) (h1 : 0 ≤ t.1 ∧ t.1 ≤ 8) (h2 : 0 ≤ u.1 ∧ u.1 ≤ 8) :
    Am.Fn Try.prog 155 [.agg (trm t), .agg (trm u)] [] (fun v H' => v = .int .i64 (qui t u) ∧ H' = []) := by
  refine Am.Fn.xu (R := fun v => v = _) qun mixed Kq (by simp) (by simp) ?_
  simp (maxSteps := 3000000) only [Jz, Uw, qa9, Ya, qez, Y0 ht, Y0 hu, z8 ht, z8 hu, za ht, za hu, h1, h2, rd, List.getElem?_cons_zero, List.getElem?_cons_succ, qa, zZ, ↓qt, ↓reduceIte, reduceCtorEq, nA, nM, nS, nE, nL, nD]; try simp only [qa, zY]
  rfl
theorem qrf : ∀ (a b : List UInt8), (Go.Lib.compareBytes a b < 0) ↔ Op.bytesLess a b = true
  | [], [] => by simp [Go.Lib.compareBytes, Op.bytesLess]
  | [], b :: y => by simp [Go.Lib.compareBytes, Op.bytesLess]
  | a :: x, [] => by simp [Go.Lib.compareBytes, Op.bytesLess]
  | a :: x, b :: y => by
    simp only [Go.Lib.compareBytes, Op.bytesLess, Bool.or_eq_true, Bool.and_eq_true, decide_eq_true_eq, beq_iff_eq]
    by_cases h : a < b
    · simp [h]
    · by_cases h2 : b < a
      · have : a ≠ b := fun e => by subst e; exact UInt8.lt_irrefl _ h2
        simp [h, h2, this]
      · have : a = b := UInt8.le_antisymm (UInt8.not_lt.1 h2) (UInt8.not_lt.1 h)
        subst this
        simp only [h, if_false, false_or, true_and]
        exact qrf x y
theorem Qq : ∀ (a : List UInt8), Op.bytesLess a a = false
  | [] => rfl
  | a :: x => by simp [Op.bytesLess, Qq x]
theorem ue : ∀ (a b c : List UInt8), Op.bytesLess a b = true → Op.bytesLess b c = true → Op.bytesLess a c = true
  | _, _, [], _, h => by cases ‹List UInt8› <;> simp [Op.bytesLess] at h
  | [], _, c :: z, h, _ => by simp [Op.bytesLess]
  | a :: x, [], c :: z, h, _ => by simp [Op.bytesLess] at h
  | a :: x, b :: y, c :: z, h, h' => by
    simp only [Op.bytesLess, Bool.or_eq_true, Bool.and_eq_true, decide_eq_true_eq, beq_iff_eq] at h h' ⊢
    rcases h with h | ⟨rfl, h⟩
    · rcases h' with h' | ⟨rfl, h'⟩
      · exact .inl (UInt8.lt_trans h h')
      · exact .inl h
    · rcases h' with h' | ⟨rfl, h'⟩
      · exact .inl h'
      · exact .inr ⟨rfl, ue x y z h h'⟩
theorem Z0 : ∀ (a b : List UInt8), Op.bytesLess a b = false → Op.bytesLess b a = false → a = b
  | [], [], _, _ => rfl
  | [], b :: y, h, _ => by simp [Op.bytesLess] at h
  | a :: x, [], _, h => by simp [Op.bytesLess] at h
  | a :: x, b :: y, h, h' => by
    simp only [Op.bytesLess, Bool.or_eq_false_iff, Bool.and_eq_false_iff, decide_eq_false_iff_not, beq_eq_false_iff_ne] at h h'
    have e : a = b := UInt8.le_antisymm (UInt8.not_lt.1 h'.1) (UInt8.not_lt.1 h.1)
    subst e
    rw [Z0 x y (by simpa using h.2) (by simpa using h'.2)]
theorem qdr (a b : List UInt8) (h : Op.bytesLess a b = true) : Op.bytesLess b a = false := by
  cases hb : Op.bytesLess b a with
  | false => rfl
  | true => have := ue a b a h hb; rw [Qq] at this; cases this
def ltT (t u : Int × List Nat × Int) : Bool := Op.bytesLess (txt t) (txt u)
abbrev Kp := {t : Int × List Nat × Int // okD t.2.1 ∧ 0 ≤ t.1 ∧ t.1 ≤ 8}
instance : Inhabited Kp := ⟨⟨(0, List.replicate 16 0, 0), ⟨by simp, by intro x hx; simp at hx; omega⟩, by decide, by decide⟩⟩
theorem qjr (x y : Kp) : Go.Proofs.ltOf (fun x y : Kp => qui x.1 y.1) x y = ltT x.1 y.1 := by
  unfold Go.Proofs.ltOf qui ltT
  have := qrf (txt x.1) (txt y.1)
  cases h : Op.bytesLess (txt x.1) (txt y.1) with
  | true => exact decide_eq_true (this.2 h)
  | false => exact decide_eq_false (fun h2 => by rw [this.1 h2] at h; cases h)
theorem swo : Go.Sort.SWO (Go.Proofs.ltOf (fun x y : Kp => qui x.1 y.1)) where
  irrefl x := by rw [qjr]; exact Qq _
  trans x y z h h' := by rw [qjr] at *; exact ue _ _ _ h h'
  ntrans x y z h h' := by
    rw [qjr] at *
    cases hc : ltT x.1 z.1 with
    | false => rfl
    | true =>
      exfalso
      by_cases e : txt x.1 = txt y.1
      · unfold ltT at *; rw [e] at hc; rw [hc] at h'; cases h'
      · have h1 : ltT y.1 x.1 = true := by
          cases hb : ltT y.1 x.1 with
          | true => rfl
          | false => exact absurd (Z0 _ _ h hb) e
        have := ue _ _ _ h1 hc
        unfold ltT at h'; rw [this] at h'; cases h'
def qoy (t : Int × List Nat × Int) : List (Int × List Nat × Int) → List (Int × List Nat × Int)
  | [] => [t]
  | u :: l => if ltT t u then t :: u :: l else u :: qoy t l
def Ze : List (Int × List Nat × Int) → List (Int × List Nat × Int)
  | [] => []
  | t :: l => qoy t (Ze l)
theorem qbo (t : Int × List Nat × Int) : ∀ l, (qoy t l).Perm (t :: l)
  | [] => .refl _
  | u :: l => by
    unfold qoy; split
    · exact .refl _
    · exact ((qbo t l).cons u).trans (.swap t u l)
theorem bu : ∀ l, (Ze l).Perm l
  | [] => .refl _
  | t :: l => (qbo t _).trans ((bu l).cons t)
def Bw (l : List (Int × List Nat × Int)) : Prop := (l.map txt).Nodup
def upT (l : List (Int × List Nat × Int)) : Prop := l.Pairwise fun a b => ltT a b = true
theorem qqp {t : Int × List Nat × Int} : ∀ {l}, upT l → (∀ u ∈ l, txt t ≠ txt u) → upT (qoy t l)
  | [], _, _ => by simp [qoy, upT]
  | u :: l, h, hn => by
    unfold qoy
    have h' := List.pairwise_cons.1 h
    split
    · rename_i hlt
      exact List.pairwise_cons.2 ⟨fun a ha => by
        rcases List.mem_cons.1 ha with rfl | ha
        · exact hlt
        · exact ue _ _ _ hlt (h'.1 a ha), h⟩
    · rename_i hlt
      refine List.pairwise_cons.2 ⟨fun a ha => ?_, qqp h'.2 fun v hv => hn v (List.mem_cons_of_mem _ hv)⟩
      have hm := (qbo t l).mem_iff.1 ha
      rcases List.mem_cons.1 hm with rfl | hm
      · cases hb : ltT u a with
        | true => rfl
        | false => exact absurd (Z0 _ _ (Bool.eq_false_iff.2 hlt) hb) (hn u (List.mem_cons_self ..))
      · exact h'.1 a hm
theorem qak : ∀ {l}, Bw l → upT (Ze l)
  | [], _ => .nil
  | t :: l, h => by
    have h' := List.nodup_cons.1 h
    refine qqp (qak h'.2) fun u hu e => h'.1 ?_
    rw [e]
    exact List.mem_map.2 ⟨u, (bu l).mem_iff.1 hu, rfl⟩
theorem qce : ∀ {a b : List (Int × List Nat × Int)}, upT a → upT b → a.Perm b → a = b
  | [], b, _, _, hp => by rw [List.nil_perm.1 hp]
  | x :: a, [], _, _, hp => by have := hp.length_eq; simp at this
  | x :: a, y :: b, ha, hb, hp => by
    have ha' := List.pairwise_cons.1 ha
    have hb' := List.pairwise_cons.1 hb
    have e : x = y := by
      have h1 : x ∈ y :: b := hp.mem_iff.1 (List.mem_cons_self ..)
      have h2 : y ∈ x :: a := hp.mem_iff.2 (List.mem_cons_self ..)
      rcases List.mem_cons.1 h1 with h | h
      · exact h
      · rcases List.mem_cons.1 h2 with h' | h'
        · exact h'.symm
        · have c1 := hb'.1 x h
          have c2 := ha'.1 y h'
          have := qdr _ _ c1
          unfold ltT at c2; rw [this] at c2; cases c2
    subst e
    rw [qce ha'.2 hb'.2 ((List.perm_cons x).1 hp)]
theorem qmi {a l : List (Int × List Nat × Int)} (hp : a.Perm l) (hs : a.Pairwise fun x y => ltT y x = false) (hl : Bw l) : a = Ze l := by
  have hn : (a.map txt).Nodup := (hp.map txt).nodup_iff.2 hl
  refine qce ?_ (qak hl) (hp.trans (bu l).symm)
  unfold upT
  rw [List.pairwise_iff_getElem] at hs ⊢
  intro i j hi hj hij
  cases hb : ltT a[i] a[j] with
  | true => rfl
  | false =>
    have e := Z0 _ _ hb (hs i j hi hj hij)
    have := (List.pairwise_iff_getElem.1 hn) i j (by simpa using hi) (by simpa using hj) hij
    simp only [List.getElem_map] at this
    exact absurd e this
theorem qzv (ts : List (Int × List Nat × Int)) (hl : ts.length ≤ 1000000000) (hok : ∀ t ∈ ts, okD t.2.1 ∧ 0 ≤ t.1 ∧ t.1 ≤ 8) (hap : Bw ts) :
    Am.Fn Try.prog 154 [.slc 0 0 ts.length false 0, .fn 155 [] []] [.vec 18 (qq ts)] (fun v H' => v = .tup [] ∧ H' = [.vec 18 (qq (Ze ts))]) := by
  obtain ⟨d, rfl⟩ : ∃ d : List Kp, ts = d.map Subtype.val := ⟨ts.attach.map fun x => ⟨x.1, hok x.1 x.2⟩, by rw [List.map_map]; exact (List.attach_map_subtype_val ts).symm⟩
  have e : ∀ d : List Kp, qq (d.map Subtype.val) = d.flatMap fun x => trm x.1 := fun d => by simp [qq, List.flatMap_map]
  have := qxy q17 18 (by decide) Try.isAgg73 Try.sizeOf73 (fun x : Kp => trm x.1) (fun x => z8 x.2.1) (fun x a ha => ?_) (fun x => yz _) (fun x y => qui x.1 y.1) swo
    ⟨Try.f154, Try.func154, by kernel_rfl, by kernel_rfl⟩ 155 ⟨Try.f155, Try.func155, by kernel_rfl, by kernel_rfl⟩
    (fun x y => qys x.1 y.1 x.2.1 y.2.1 x.2.2 y.2.2) d (by simp at hl; omega)
  · rw [List.length_map, e]
    refine this.mono ?_
    rintro v H' ⟨rfl, d', hp, hs, rfl⟩
    refine ⟨rfl, ?_⟩
    rw [← e d', qmi (hp.map _) ?_ hap]
    exact List.pairwise_map.2 (hs.imp fun {a b} h => by rw [qjr] at h; exact h)
  · simp only [trm, dia, List.cons_append, List.mem_cons, List.mem_append, List.not_mem_nil, or_false] at ha
    rcases ha with rfl | ha | rfl
    · rfl
    · unfold u8s at ha
      obtain ⟨y, _, rfl⟩ := List.mem_map.1 ha
      rfl
    · rfl
def Bn : BE := fun hp xs => match xs with
  | [.slc b 0 n false 0, .fn 155 [] []] => match hp[b]? with
    | some (.vec 18 l) => match kv n l with
      | some ts => chk (l.length = n * 18 ∧ n ≤ 1000000 ∧ (∀ t ∈ ts, 0 ≤ t.1 ∧ t.1 ≤ 8) ∧ (ts.map txt).Nodup) (some (.tup [], hp.set b (.vec 18 (qq (Ze ts)))))
      | none => none
    | _ => none
  | _ => none
theorem q0h : Am.Callee Try.prog 154 Bn := Callee.wr1 fun hp xs v hp' he => by
  unfold Bn at he
  split at he
  · rename_i b n
    split at he
    · rename_i l hb
      split at he
      · rename_i ts hts
        obtain ⟨h0, he⟩ := qk he
        simp only [Option.some.injEq, Prod.mk.injEq] at he
        obtain ⟨rfl, rfl⟩ := he
        obtain ⟨e1, e2, e3, e4⟩ := ju hts
        have hl : l = qq ts := by rw [← e3, List.take_of_length_le (by omega)]
        subst hl
        refine ⟨18, qq ts, _, b, [.slc 0 0 ts.length false 0, .fn 155 [] []], hb, rfl, qb _, qb _, ?_, rfl, ⟨by simp [AV.under], ⟨trivial, trivial⟩, trivial⟩, rfl, ?_⟩
        · simp only [AV.zg, AV.ren, one, if_true, e1, Nat.zero_add]
        · exact qzv ts (by omega) (fun t ht => ⟨e2 t ht, h0.2.2.1 t ht⟩) h0.2.2.2
      · cases he
    · cases he
  · cases he
def B27 : zk := (B26.put 154 (Bn))
theorem qom : qu Try.prog B27 := (qun.put (q0h))
theorem Zz : B27 76 = some (ql vp) := rfl
theorem x8 : B27 154 = some (Bn) := rfl
def esT : Nat → List (Int × List Nat × Int) → List AE
  | _, [] => []
  | k, t :: l => ⟨.agg (dia t.1 t.2.1), .int .i64 t.2.2, k⟩ :: esT (k + 1) l
def v8 (ts : List (Int × List Nat × Int)) : AO := .map (esT 0 ts) ts.length
def zs (p : Int) (ts : List (Int × List Nat × Int)) : List (Int × List Nat × Int) := ts.filterMap fun t => if t.2.2.emod p = 0 then none else some (t.1, t.2.1, t.2.2.emod p)
def yx (ts : List (Int × List Nat × Int)) (seen : List Nat) : List (Int × List Nat × Int) := seen.map fun i => ts.getD i (0, [], 0)
theorem Gn : ∀ {ts : List (Int × List Nat × Int)} {k : Nat} {e : AE}, e ∈ esT k ts → ∃ i, i < ts.length ∧ e = ⟨.agg (dia (ts.getD i (0, [], 0)).1 (ts.getD i (0, [], 0)).2.1), .int .i64 (ts.getD i (0, [], 0)).2.2, k + i⟩
  | [], k, e, h => by cases h
  | t :: l, k, e, h => by
    rcases List.mem_cons.1 h with rfl | h
    · exact ⟨0, by simp, by simp⟩
    · obtain ⟨i, h1, rfl⟩ := Gn h
      refine ⟨i + 1, by simpa using h1, ?_⟩
      simp only [List.getD_cons_succ, AE.mk.injEq, true_and]; omega
theorem qrh : ∀ {ts : List (Int × List Nat × Int)} {k i : Nat}, i < ts.length → (⟨.agg (dia (ts.getD i (0, [], 0)).1 (ts.getD i (0, [], 0)).2.1), .int .i64 (ts.getD i (0, [], 0)).2.2, k + i⟩ : AE) ∈ esT k ts
  | t :: l, k, 0, h => by simp [esT]
  | t :: l, k, i + 1, h => by
    have := qrh (ts := l) (k := k + 1) (i := i) (by simpa using h)
    simp only [esT, List.mem_cons]
    right
    rw [show k + (i + 1) = k + 1 + i by omega]
    simpa using this
theorem qky : ∀ {ts : List (Int × List Nat × Int)} {k i : Nat}, i < ts.length → (esT k ts).find? (fun x => x.born == k + i) = some ⟨.agg (dia (ts.getD i (0, [], 0)).1 (ts.getD i (0, [], 0)).2.1), .int .i64 (ts.getD i (0, [], 0)).2.2, k + i⟩
  | t :: l, k, 0, h => by simp [esT]
  | t :: l, k, i + 1, h => by
    have := qky (ts := l) (k := k + 1) (i := i) (by simpa using h)
    rw [show k + 1 + i = k + (i + 1) by omega] at this
    simp only [esT, List.find?_cons]
    rw [show (k == k + (i + 1)) = false by simp]
    simpa using this
theorem qca (n : Nat) (ts : List (Int × List Nat × Int)) (k : Nat) : ∀ e ∈ esT k ts, e.key.under n ∧ e.val.under n := fun e he => by
  obtain ⟨i, _, rfl⟩ := Gn he
  exact ⟨qi _ _ (qg _ _), trivial⟩
theorem Q3 (ρ : Ren) (ts : List (Int × List Nat × Int)) : (v8 ts).ren ρ = v8 ts := by
  simp only [v8, AO.ren]
  congr 1
  conv => rhs; rw [← List.map_id (esT 0 ts)]
  refine List.map_congr_left fun e he => ?_
  obtain ⟨i, _, rfl⟩ := Gn he
  simp only [AE.ren, AV.ren, qc _ _ (qg _ _), id]
theorem Ve (ids : List Nat) (ts : List (Int × List Nat × Int)) : (v8 ts).within ids = true := by
  simp only [v8, AO.within, List.all_eq_true]
  intro e he
  obtain ⟨i, _, rfl⟩ := Gn he
  simp only [AV.within, qd _ _ (qg _ _), Bool.and_self]
theorem zj (ids : List Nat) (ts : List (Int × List Nat × Int)) (k : Nat) : (AO.map (esT 0 ts) k).within ids = true := Ve ids ts
theorem yl (ρ : Ren) (ts : List (Int × List Nat × Int)) (k : Nat) : (AO.map (esT 0 ts) k).ren ρ = AO.map (esT 0 ts) k := by
  have := Q3 ρ ts
  simp only [v8, AO.ren, AO.map.injEq] at this ⊢
  exact ⟨this.1, trivial⟩
theorem qvn {r m : Nat} {ts : List (Int × List Nat × Int)} {seen : List Nat} {hp : List AO} {K : AV → List AO → Prop} (h1 : hp[r]? = some (.xg (some m) ts.length seen ts.length)) (h2 : hp[m]? = some (v8 ts))
    (hend : (∀ i, i < ts.length → i ∈ seen) → K (.tup [.bool false]) hp)
    (hgo : ∀ i, i < ts.length → i ∉ seen → K (.tup [.bool true, .agg (dia (ts.getD i (0, [], 0)).1 (ts.getD i (0, [], 0)).2.1), .int .i64 (ts.getD i (0, [], 0)).2.2]) (hp.set r (.xg (some m) ts.length (seen ++ [i]) ts.length))) :
    wbN (.ptr r 0) hp K := by
  simp only [wbN, qqk, h1, h2, v8]
  refine ⟨_, qci ⟨trivial, trivial, fun e he => ?_⟩, fun h => ?_, fun e he hs => ?_⟩
  · obtain ⟨i, h3, rfl⟩ := Gn he; show 0 + i < _; omega
  · refine hend fun i hi => ?_
    have := h _ (qrh (k := 0) hi)
    simpa using this
  · obtain ⟨i, h3, rfl⟩ := Gn he
    simp only [Nat.zero_add] at hs ⊢
    exact hgo i h3 hs
theorem qwl {B : zk} {n0 nt : Nat} {dst : Option Nat} {it : Opd} {l : List AI} {b : AC} {Q : AX → St → Prop} {s : St}
    (h : wbN (ev s.env it) s.hp (fun v hp' => wbC Try.prog B n0 nt (.seq (.region l) b) Q ⟨xa dst v s.env, hp'⟩)) : wbC Try.prog B n0 nt (.seq (.region (⟨dst, none, .next it⟩ :: l)) b) Q s := h
theorem qtp {ts : List (Int × List Nat × Int)} {seen : List Nat} (hn : seen.Nodup) (hlt : ∀ i ∈ seen, i < ts.length) (h : ∀ i, i < ts.length → i ∈ seen) : (yx ts seen).Perm ts := by
  have hp : seen.Perm (List.range ts.length) := (List.perm_ext_iff_of_nodup hn List.nodup_range).2 fun i => ⟨fun hi => List.mem_range.2 (hlt i hi), fun hi => h i (List.mem_range.1 hi)⟩
  have e : (List.range ts.length).map (fun i => ts.getD i (0, [], 0)) = ts := by
    apply List.ext_getElem (by simp)
    intro i h1 h2
    simp at h1
    simp [h1]
  unfold yx
  refine (hp.map _).trans ?_
  rw [e]
theorem qtc {p : Int} {a b : List (Int × List Nat × Int)} (h : a.Perm b) : (zs p a).Perm (zs p b) := h.filterMap _
theorem qfr {p : Int} : ∀ {l : List (Int × List Nat × Int)}, Bw l → Bw (zs p l) := fun {l} h => by
  unfold Bw zs at *
  refine List.Nodup.sublist ?_ h
  induction l with
  | nil => exact List.nil_sublist _
  | cons t l ih =>
    simp only [List.filterMap_cons]
    split
    · exact (ih (List.nodup_cons.1 h).2).trans (List.sublist_cons_self _ _)
    · rename_i u hu
      split at hu
      · cases hu
      · cases hu
        exact (ih (List.nodup_cons.1 h).2).cons_cons _
theorem qep {p : Int} {l : List (Int × List Nat × Int)} {t : Int × List Nat × Int} (h : t ∈ zs p l) : ∃ u ∈ l, t = (u.1, u.2.1, u.2.2.emod p) ∧ u.2.2.emod p ≠ 0 := by
  obtain ⟨u, hu, he⟩ := List.mem_filterMap.1 h
  split at he
  · cases he
  · rename_i hne; cases he; exact ⟨u, hu, rfl, hne⟩
theorem qql {p : Int} {l : List (Int × List Nat × Int)} (h : okT l) : okT (zs p l) := fun t ht => by
  obtain ⟨u, hu, rfl, _⟩ := qep ht; exact h u hu
theorem ql6 {ts : List (Int × List Nat × Int)} {seen : List Nat} (h : okT ts) (hlt : ∀ i ∈ seen, i < ts.length) : okT (yx ts seen) := fun t ht => by
  obtain ⟨i, hi, rfl⟩ := List.mem_map.1 ht
  have := hlt i hi
  simp only [List.getD_eq_getElem?_getD, List.getElem?_eq_getElem this, Option.getD_some]
  exact h _ (List.getElem_mem _)
theorem qit (l : List (Int × List Nat × Int)) (t : Int × List Nat × Int) : qq l ++ trm t = qq (l ++ [t]) := by simp [qq]
theorem wy : [AV.int .i64 0, .int .u8 0, .int .u8 0, .int .u8 0, .int .u8 0, .int .u8 0, .int .u8 0, .int .u8 0, .int .u8 0, .int .u8 0, .int .u8 0, .int .u8 0, .int .u8 0, .int .u8 0, .int .u8 0, .int .u8 0, .int .u8 0] = dia 0 (List.replicate 16 0) := rfl
theorem Wv {n : Int} {m : List Nat} (h : m.length = 16) : over (dia 0 (List.replicate 16 0)) 0 (dia n m) = dia n m := qai (by rw [qf, qf, h, List.length_replicate])
theorem qiu {n : Int} {m : List Nat} (h : m.length = 16) : over (trm (0, List.replicate 16 0, 0)) 0 (dia n m) = trm (n, m, 0) := Q8 (by simp) h
theorem ui : (trm (0, List.replicate 16 0, 0)).length = 18 := rfl
theorem xl : (dia 0 (List.replicate 16 0)).length = 17 := rfl
def Xx : AC := .seq (.region [⟨some 23,none,.next (.t 22)⟩,oE 24 0 23]) (.seq (.cond 24 .skip (.exit 0)) (.block 1 (.seq (.region [o0 25 (.entry (.t 22)),oE 26 0 25,oE 27 1 25,oD 6,oS 17 6 26,oM 7 27]) (.seq (.region [oM 28 7,oM 29 0,o0 30 (.vf (.t 29)),oF 31 0 30,oL 32 31,oC 33 76 [.t 28,.t 32],oM 7 33]) (.seq (.region [oM 34 7,oK 35 .neq 34 0]) (.cond 35 (.seq (.region [oF 36 0 6,oL 37 36,oF 38 2 5,oT 38 37]) (.region [oF 39 3 5,oL 40 39,oN 41 17 6,oM 42 7,o0 43 (.build [.int .i64 0,.int .u8 0,.int .u8 0,.int .u8 0,.int .u8 0,.int .u8 0,.int .u8 0,.int .u8 0,.int .u8 0,.int .u8 0,.int .u8 0,.int .u8 0,.int .u8 0,.int .u8 0,.int .u8 0,.int .u8 0,.int .u8 0,.int .i64 0] [(0,17,.t 41),(17,1,.t 42)]),o0 44 (.Qh 1 [.int .i64 0,.int .u8 0,.int .u8 0,.int .u8 0,.int .u8 0,.int .u8 0,.int .u8 0,.int .u8 0,.int .u8 0,.int .u8 0,.int .u8 0,.int .u8 0,.int .u8 0,.int .u8 0,.int .u8 0,.int .u8 0,.int .u8 0,.int .i64 0] [(0,18,.t 43)]),o0 45 (.append 18 32 (.t 40) (.t 44)),oF 46 3 5,oT 46 45])) .skip))))))
def Xt : AC := .seq (.region [oF 47 3 5,oL 48 47,⟨some 49,none,.call (.c (.fn 154 [] [])) [.t 48,(.c (.fn 155 [] []))]⟩]) (.seq (.region [oN 50 4 5,oS 4 4 50]) .ret)
def Yd : AC := .seq (.region [oZ 4]) (.seq (.draw false [oM 8 0,o0 9 (.vf (.t 8)),oF 10 0 9,oL 11 10,oM 12 0,o0 13 (.vf (.t 12)),oF 14 1 13,oL 15 14,oM 16 0,o0 17 (.vf (.t 16)),oF 18 2 17,oL 19 18,o0 20 (.build [.int .i64 0,.int .i64 0,.int .i64 0,(.v (.slice none 0 0))] [(0,1,.t 11),(1,1,.t 15),(2,1,.t 19)]),oZ 5,oS 4 5 20]) (.seq (.seq (.region [oM 21 1,o0 22 (.Bl (.t 21))]) (.block 0 (.loop Xx))) Xt))
theorem qb7 : zl Try.prog 105 = some ⟨51, Yd, [.bg 4 4]⟩ := by kernel_rfl
def qid (p c n sz : Int) (ts : List (Int × List Nat × Int)) (seen : List Nat) : St :=
  ⟨[(22, .ptr 4 0), (5, .ptr 3 0), (4, .ptr 2 0), (0, .ptr 0 0)], [.ro [.int .i64 p, .int .i64 c, .int .i64 n], v8 ts, .cells [.int .i64 0, .int .i64 0, .int .i64 0, .v (.slice none 0 0)],
    .cells [.int .i64 p, .int .i64 c, .int .i64 (if zs p (yx ts seen) = [] then n else sz), .slc 5 0 (zs p (yx ts seen)).length false 0], .xg (some 1) ts.length seen ts.length, .vec 18 (qq (zs p (yx ts seen)))]⟩
def q13 (p c n sz : Int) (ts : List (Int × List Nat × Int)) (s : St) : Prop := ∃ seen : List Nat, seen.Nodup ∧ (∀ i ∈ seen, i < ts.length) ∧ s = qid p c n sz ts seen
def qw6 (ts : List (Int × List Nat × Int)) (s : St) : Nat := match s.hp[4]? with | some (AO.xg _ _ seen _) => ts.length - seen.length | _ => 0
theorem qzl (p c n sz : Int) (ts : List (Int × List Nat × Int)) (hp : 0 < p ∧ p ≤ 1000000) (hs : 0 ≤ sz ∧ sz ≤ 8) (ht : okT ts) (hz : ∀ t ∈ ts, t.1 = sz) (ha : Bw ts) (hl : ts.length ≤ 1000000) :
    Am.Fn Try.prog 105 [.ptr 0 0, .map 1] [.ro [.int .i64 p, .int .i64 c, .int .i64 n], v8 ts] (fun v H' => v = elemV p c (if zs p ts = [] then n else sz) 2 (zs p ts).length ∧
      H' = [.ro [.int .i64 p, .int .i64 c, .int .i64 n], v8 ts, .vec 18 (qq (Ze (zs p ts)))]) := by
  refine Am.Fn.ofB qom mixed qb7 (by simp) ?_ ?_
  · intro j o hj
    match j, hj with
    | 0, hj => cases hj; exact ⟨trivial, trivial, trivial, trivial⟩
    | 1, hj => cases hj; exact qca _ _ _
    | j + 2, hj => simp at hj
  have hm : v8 ts = .map (esT 0 ts) ts.length := rfl
  simp (maxSteps := 3000000) only [Yd, hm, qi9, qj6, qi8, qka, qjm, Zz, x8, vp, Bn, u7, rd, wrt, wrl, AO.Wn, List.getElem?_cons_zero, List.getElem?_cons_succ, List.set_cons_zero, List.set_cons_succ, qa, zZ, ↓qt, ↓reduceIte, reduceCtorEq, nA, nM, nS, nE, nL, nD]; try simp only [qa, zY]
  refine ⟨rfl, WA.jh qom (q13 p c n sz ts) (qw6 ts) ⟨qid p c n sz ts [], ?_, [], .nil, by simp, rfl⟩ ?_⟩
  · refine qx.trans (qx.qy [22, 5, 4, 0]) ?_
    refine Eq.subst (motive := fun s' => qx 2 _ s') ?_ (qx.q1b 3 3 18 rfl rfl (by simp) ?_ ?_)
    · simp only [qy, zn]
      rfl
    · simp [qy, zn, AV.under]
    · simp only [List.mem_cons, List.not_mem_nil, or_false, forall_eq_or_imp, forall_eq]
      exact ⟨⟨trivial, trivial, trivial, trivial⟩, qca _ _ _, ⟨trivial, trivial, trivial, trivial, trivial⟩, ⟨trivial, trivial, trivial, trivial, trivial⟩, fun b h => by cases h; simp⟩
  rintro s ⟨seen, hnd, hlt, rfl⟩
  unfold Xx
  refine qwl (qvn (r := 4) (m := 1) (ts := ts) (seen := seen) rfl rfl (fun hall => ?_) (fun i hi hsn => ?_))
  · have hpm := qtp hnd hlt hall
    have hr := qtc (p := p) hpm
    have hrt := qql (p := p) (ql6 ht hlt)
    have hap : (List.map txt (zs p (yx ts seen))).Nodup := (hr.map txt).nodup_iff.2 (qfr ha)
    have hsz : ∀ t ∈ zs p (yx ts seen), 0 ≤ t.1 ∧ t.1 ≤ 8 := fun t h => by
      obtain ⟨u, hu, rfl, _⟩ := qep (hr.mem_iff.1 h)
      simp only [hz u hu]; exact hs
    have hlen : (zs p (yx ts seen)).length = (zs p ts).length := hr.length_eq
    have hle : (zs p ts).length ≤ 1000000 := Nat.le_trans (List.length_filterMap_le _ _) hl
    have hle' : (zs p (yx ts seen)).length ≤ 1000000 := by omega
    have hso : Ze (zs p (yx ts seen)) = Ze (zs p ts) := qmi ((bu _).trans hr) ((qak hap).imp fun {a b} h => qdr _ _ h) (qfr ha)
    have hnil : (zs p (yx ts seen) = []) = (zs p ts = []) := propext ⟨fun h => by rw [h] at hr; exact List.nil_perm.1 hr, fun h => by rw [h] at hr; exact List.perm_nil.1 hr⟩
    have htl := qw hrt
    have hto := z7 hrt
    rw [hlen] at htl hto
    unfold qid
    simp (maxSteps := 3000000) only [qh, zH, Xt, Zz, x8, vp, Bn, htl, hto, hle, hap, hsz, hso, hnil, hlen, qa, zZ, ↓qt, ↓reduceIte, reduceCtorEq, nA, nM, nS, nE, nL, nD]; try simp only [qa, zY]
    refine ⟨hsz, rfl, ?_⟩
    refine Ret.xf [0, 1, 5] ⟨⟨by simp, rfl, by decide⟩, ?_⟩ (rs := [.agg [.int .i64 p, .int .i64 c, .int .i64 (if zs p ts = [] then n else sz), .slc 5 0 (zs p ts).length false 0]]) rfl rfl (by simp [zt]) ?_ ⟨?_, ?_⟩
    · simp only [Ve, ↓zj, qd _ _ (qb _), zK, ↓reduceIte, reduceCtorEq, nE, nB, nA]
    · intro j l; match j with
      | 0 => exact fun _ => ⟨_, rfl⟩
      | 1 => simp [q7, Q3]; simp [v8]
      | 2 => simp [q7, AO.ren]
      | j + 3 => simp [q7]
    · simp only [elemV, zt]
      simp only [zL, ↓reduceIte, reduceCtorEq, nE, nA]
    · simp only [Q3, ↓yl, qc _ _ (qb _), zL, ↓reduceIte, reduceCtorEq, nE, nA]
      rfl
  · unfold qid
    have htm : ts.getD i (0, [], 0) ∈ ts := by rw [List.getD_eq_getElem?_getD, List.getElem?_eq_getElem hi]; exact List.getElem_mem _
    have hk : okD (ts.getD i (0, [], 0)).2.1 := ht _ htm
    have h1 : (ts.getD i (0, [], 0)).1 = sz := hz _ htm
    have hfind := qky (ts := ts) (k := 0) hi
    have hlast : (seen ++ [i]).getLast? = some i := List.getLast?_concat ..
    have hpk : yx ts (seen ++ [i]) = yx ts seen ++ [ts.getD i (0, [], 0)] := by simp [yx]
    have hnd' : (seen ++ [i]).Nodup := by
      rw [List.nodup_append]
      exact ⟨hnd, by simp, fun a ha b hb => by simp at hb; subst hb; rintro rfl; exact hsn ha⟩
    have hlt' : ∀ j ∈ seen ++ [i], j < ts.length := fun j hj => by
      rcases List.mem_append.1 hj with h | h
      · exact hlt j h
      · simp at h; omega
    have hsl : seen.length < ts.length := by
      have := qfl ts.length (seen ++ [i]) hnd' hlt'
      simp at this; omega
    rw [Nat.zero_add] at hfind
    generalize htt : ts.getD i (0, [], 0) = t at hk h1 hfind hpk ⊢
    obtain ⟨n1, m1, k1⟩ := t
    simp only at hk h1 hfind
    subst h1
    have hone : (dia n1 m1).all AV.one = true := j7 _ _
    have hrt := qql (p := p) (ql6 ht hlt)
    have htl := qw hrt
    have htk : List.take ((zs p (yx ts seen)).length * 18) (qq (zs p (yx ts seen))) = qq (zs p (yx ts seen)) := List.take_of_length_le (by rw [htl]; exact Nat.le_refl _)
    have hbd : (zs p (yx ts seen)).length ≤ 1000000 := by
      have := List.length_filterMap_le (fun t : Int × List Nat × Int => if t.2.2.emod p = 0 then none else some (t.1, t.2.1, t.2.2.emod p)) (yx ts seen)
      have h2 : (yx ts seen).length = seen.length := by simp [yx]
      unfold zs; omega
    by_cases hkz : k1.emod p = 0
    · have hre : zs p (yx ts (seen ++ [i])) = zs p (yx ts seen) := by rw [hpk]; simp [zs, hkz]
      simp (maxSteps := 3000000) only [qh, zH, Zz, x8, vp, Bn, hkz, hp, hm, qf, hk.1, hlast, hfind, hone, wy, Wv hk.1, qiu hk.1, Zr (t := (n1, m1, 0)) hk.1, wc, wh, ui, xl, zb hk.1, jo, src, qdn, qrj, Int.toNat_zero, Option.map_some, Option.map_none, List.length_replicate, kd (t := (0, List.replicate 16 0, 0)) (u := (n1, m1, k1.emod p)) (by simp) hk.1, bx (t := (n1, m1, k1.emod p)) hk.1, htk, htl, qa, zZ, ↓qt, ↓reduceIte, reduceCtorEq, nA, nM, nS, nE, nL, nD]; try simp only [qa, zY]
      refine ⟨_, qx.xf [0, 1, 2, 3, 4, 5] [22, 5, 4, 0] ⟨by decide, ?_⟩ ?_, ⟨seen ++ [i], hnd', hlt', ?_⟩, ?_⟩
      · simp only [Ve, ↓zj, qd _ _ (qb _), zK, ↓reduceIte, reduceCtorEq, nE, nB, nA]
      · simp only [zK, ↓reduceIte, reduceCtorEq, nE, nB, nA]
      · unfold qid
        simp only [Q3, ↓yl, qc _ _ (qb _), hre, zL, ↓reduceIte, reduceCtorEq, nE, nA]
        rfl
      · simp only [qw6]
        simp only [Q3, ↓yl, zL, ↓reduceIte, reduceCtorEq, nE, nA]
        simp; omega
    · have hre : zs p (yx ts (seen ++ [i])) = zs p (yx ts seen) ++ [(n1, m1, k1.emod p)] := by rw [hpk]; simp [zs, hkz]
      simp (maxSteps := 3000000) only [qh, zH, Zz, x8, vp, Bn, hkz, hp, hm, qf, hk.1, hlast, hfind, hone, wy, Wv hk.1, qiu hk.1, Zr (t := (n1, m1, 0)) hk.1, wc, wh, ui, xl, zb hk.1, jo, src, qdn, qrj, Int.toNat_zero, Option.map_some, Option.map_none, List.length_replicate, kd (t := (0, List.replicate 16 0, 0)) (u := (n1, m1, k1.emod p)) (by simp) hk.1, bx (t := (n1, m1, k1.emod p)) hk.1, htk, htl, qa, zZ, ↓qt, ↓reduceIte, reduceCtorEq, nA, nM, nS, nE, nL, nD]; try simp only [qa, zY]
      refine ⟨rfl, ⟨Nat.le_refl _, by omega⟩, rfl, _, qx.xf [0, 1, 2, 3, 4, 8] [22, 5, 4, 0] ⟨by decide, ?_⟩ ?_, ⟨seen ++ [i], hnd', hlt', ?_⟩, ?_⟩
      · simp only [Ve, ↓zj, qit, qd _ _ (qb _), zK, ↓reduceIte, reduceCtorEq, nE, nB, nA]
      · simp only [zK, ↓reduceIte, reduceCtorEq, nE, nB, nA]
      · unfold qid
        have hne : (zs p (yx ts seen) ++ [(n1, m1, k1.emod p)] = []) = False := by simp
        simp only [Q3, ↓yl, qit, qc _ _ (qb _), hre, hne, List.length_append, List.length_nil, List.length_cons, zL, ↓reduceIte, reduceCtorEq, nE, nA]
        rfl
      · simp only [qw6]
        simp only [Q3, ↓yl, zL, ↓reduceIte, reduceCtorEq, nE, nA]
        simp; omega
def tsE : Nat → List AE → Option (List (Int × List Nat × Int))
  | _, [] => some []
  | k, ⟨.agg l, .int .i64 v, b⟩ :: es => match wv l, tsE (k + 1) es with
    | some (n, m), some ts => if b = k then some ((n, m, v) :: ts) else none
    | _, _ => none
  | _, _ => none
theorem qje : ∀ {ts : List (Int × List Nat × Int)} {k : Nat}, okT ts → tsE k (esT k ts) = some ts
  | [], _, _ => rfl
  | t :: l, k, h => by
    simp only [esT, tsE, za (h t (List.mem_cons_self ..)), qje (ts := l) (k := k + 1) fun u hu => h u (List.mem_cons_of_mem _ hu), if_true]
theorem qlq : ∀ {es : List AE} {k : Nat} {ts : List (Int × List Nat × Int)}, tsE k es = some ts → es = esT k ts ∧ okT ts
  | [], k, ts, h => by simp only [tsE, Option.some.injEq] at h; subst h; exact ⟨rfl, fun t ht => by cases ht⟩
  | ⟨key, val, b⟩ :: es, k, ts, h => by
    unfold tsE at h
    split at h
    · rename_i e; cases e
    · rename_i e; cases e
      split at h
      · rename_i n m ts' hd hts
        split at h
        · rename_i hb
          cases h; subst hb
          obtain ⟨rfl, hm⟩ := z6 hd
          obtain ⟨e1, e2⟩ := qlq hts
          refine ⟨by rw [e1]; rfl, fun t ht => ?_⟩
          rcases List.mem_cons.1 ht with rfl | ht
          · exact hm
          · exact e2 t ht
        · cases h
      · cases h
    · cases h
theorem qk6 {α : Type} : ∀ {l : List α} {i : Nat} {a : α}, l[i]? = some a → l.set i a = l
  | [], i, a, h => by simp at h
  | x :: l, 0, a, h => by simp only [List.getElem?_cons_zero, Option.some.injEq] at h; simp [h]
  | x :: l, i + 1, a, h => by simp only [List.getElem?_cons_succ] at h; simp [qk6 h]
def qd7 (ts : List (Int × List Nat × Int)) : Int := match ts with | t :: _ => t.1 | [] => 0
def vk : BE := fun hp xs => match xs with
  | [.ptr b 0, .map m] => match rd hp b, hp[m]? with
    | some (.int .i64 p :: .int .i64 c :: .int .i64 n :: _), some (.map es ck) => match tsE 0 es with
      | some ts => chk (ck = ts.length ∧ (0 < p ∧ p ≤ 1000000) ∧ ts.length ≤ 1000000 ∧ (0 ≤ qd7 ts ∧ qd7 ts ≤ 8) ∧ (∀ t ∈ ts, t.1 = qd7 ts) ∧ (ts.map txt).Nodup)
          (some (elemV p c (if zs p ts = [] then n else qd7 ts) hp.length (zs p ts).length, hp ++ [.vec 18 (qq (Ze (zs p ts)))]))
      | none => none
    | _, _ => none
  | _ => none
theorem qzw : Am.Callee Try.prog 105 vk := Callee.fp fun hp xs v hp' he => by
  unfold vk at he
  split at he
  · rename_i b m
    split at he
    · rename_i p c n L es ck hrd hm
      split at he
      · rename_i ts hts
        obtain ⟨⟨h1, h2, h3, h4, h5, h6⟩, he⟩ := qk he
        simp only [Option.some.injEq, Prod.mk.injEq] at he
        obtain ⟨rfl, rfl⟩ := he
        obtain ⟨rfl, hok⟩ := qlq hts
        subst h1
        have hne : m ≠ b := by
          rintro rfl
          simp [rd, hm] at hrd
        refine ⟨[(b, 0), (m, 0)], [.ptr 0 0, .map 1], _, _, _, qzl p c n (qd7 ts) ts h2 h4 hok h5 h6 h3, ?_, rfl, ⟨⟨_, hrd, by simp, by simp [AV.zg, AV.ren]⟩, ⟨rfl, ?_⟩, trivial⟩, ?_, ?_, ?_, ?_, ?_⟩
        · simp [ofL, AV.zg, AV.ren]
        · rw [Q3]; exact hm
        · simp [Jp, AO.wr, hne]
        · exact ⟨⟨trivial, trivial, trivial, trivial⟩, qca _ _ _, trivial⟩
        · exact ⟨by simp [AV.under], by simp [AV.under], trivial⟩
        · simp [elemV, AV.ren, AV.zg, Ren.ext]
        · simp only [after, upd, q1h, show (v8 ts).wr = true from rfl, Q3, qzj, vy, if_true, Bool.false_eq_true, if_false, qk6 (show hp[m]? = some (v8 ts) from hm), qc _ _ (qb _), List.length_cons, List.length_nil, List.drop_succ_cons, List.drop_zero, List.map_cons, List.map_nil]
      · cases he
    · cases he
  · cases he
def B28 : zk := (B27.put 105 (vk))
theorem qv7 : qu Try.prog B28 := (qom.put (qzw))
theorem Uv : B28 105 = some (vk) := rfl
abbrev KD : List LT := [LT.int, LT.int, LT.int, LT.int, LT.int, LT.int, LT.int, LT.int, LT.int, LT.int, LT.int, LT.int, LT.int, LT.int, LT.int, LT.int, LT.int]
theorem qlp : ∀ (m m' : List Nat), m.length = m'.length → jq (List.replicate m.length .int) (u8s m) (u8s m') = some (decide (m = m'))
  | [], [], _ => rfl
  | [], _ :: _, h => by simp at h
  | _ :: _, [], h => by simp at h
  | a :: m, b :: m', h => by
    have ih := qlp m m' (by simpa using h)
    simp only [u8s] at ih
    simp only [List.length_cons, List.replicate_succ, u8s, List.map_cons, jq, leq, if_true, ih]
    by_cases e : a = b
    · subst e; simp
    · have : ¬ ((a : Int) = (b : Int)) := by omega
      simp [e, this]
theorem qah {n n' : Int} {m m' : List Nat} (h : m.length = 16) (h' : m'.length = 16) : jq KD (dia n m) (dia n' m') = some (decide (n = n' ∧ m = m')) := by
  have h1 := qlp m m' (by rw [h, h'])
  rw [h] at h1
  have h2 : KD = .int :: List.replicate 16 .int := rfl
  rw [h2]
  simp only [dia, jq, leq, if_true, h1]
  by_cases e : n = n'
  · subst e; simp
  · simp [e]
theorem qec {n : Int} {m : List Nat} (h : m.length = 16) : kok KD true (.agg (dia n m)) = true := by
  simp only [kok, keq, qah h h]
def qga : AC := .seq (.region [o0 6 (.box (.t 2)),oZ 8]) (.seq (.region [oM 10 0,oM 11 1,oF 12 0 6,oL 13 12,o0 14 (.build [.int .i64 0,.int .i64 0,.int .i64 0,(.v (.slice none 0 0))] [(0,1,.t 10),(1,1,.t 11),(2,1,.t 13)]),oZ 9,oS 4 9 14]) (.seq (.region [o0 15 (.Gy),oN 16 17 6,oM 17 3,⟨none,none,.op (.Bs [.int,.int,.int,.int,.int,.int,.int,.int,.int,.int,.int,.int,.int,.int,.int,.int,.int] true (.t 15) (.t 16) (.t 17))⟩,oM 18 15,oC 19 105 [.t 9,.t 18],oS 4 8 19]) .ret))
theorem qo2 : zl Try.prog 103 = some ⟨20, qga, [.bg 8 4]⟩ := by kernel_rfl
theorem qw5 (p c n : Int) (m : List Nat) (k : Int) (hp : 0 < p ∧ p ≤ 1000000) (hn : 0 ≤ n ∧ n ≤ 8) (hm : okD m) :
    Am.Fn Try.prog 103 [.int .i64 p, .int .i64 c, .agg (dia n m), .int .i64 k] [] (fun v H' => v = elemV p c n 0 (if k.emod p = 0 then ([] : List (Int × List Nat × Int)) else [(n, m, k.emod p)]).length ∧ H' = [.vec 18 (qq (if k.emod p = 0 then [] else [(n, m, k.emod p)]))]) := by
  refine Am.Fn.ofB qv7 mixed qo2 (by simp) (by simp) ?_
  have hr : zs p [(n, m, k)] = if k.emod p = 0 then [] else [(n, m, k.emod p)] := by
    unfold zs; by_cases h : k.emod p = 0 <;> simp [h]
  have hle : (if k.emod p = 0 then [] else [(n, m, k.emod p)]).length ≤ 1 := by split <;> simp
  generalize (if k.emod p = 0 then [] else [(n, m, k.emod p)]) = L at hr hle ⊢
  have hs : Ze L = L := by
    match L, hle with
    | [], _ => rfl
    | [t], _ => rfl
  have hsz : qd7 [(n, m, k)] = n := rfl
  have hall : ∀ t ∈ [(n, m, k)], t.1 = n := by simp
  have hnd : [txt (n, m, k)].Nodup := by simp
  simp (maxSteps := 3000000) only [qh, zH, qga, Uv, vk, qf, hm.1, za hm, qec hm.1, zb hm.1, jg, wi, tsE, hp, hn, hsz, hall, hnd, hr, hs, elemV, ite_self, qa, zZ, ↓qt, ↓reduceIte, reduceCtorEq, nA, nM, nS, nE, nL, nD]; try simp only [qa, zY]
  refine ⟨rfl, hall, rfl, ?_⟩
  refine Ret.xf [4] ⟨⟨by simp, rfl, by decide⟩, ?_⟩ (rs := [.agg [.int .i64 p, .int .i64 c, .int .i64 n, .slc 4 0 L.length false 0]]) rfl rfl (by simp [zt]) ?_ ⟨?_, ?_⟩
  · simp only [qd _ _ (qb _), zK, ↓reduceIte, reduceCtorEq, nE, nB, nA]
  · intro j l; match j with
    | 0 => simp [q7, AO.ren]
    | j + 1 => simp [q7]
  · simp only [zt]
    simp only [zL, ↓reduceIte, reduceCtorEq, nE, nA]
  · simp only [qc _ _ (qb _), zL, ↓reduceIte, reduceCtorEq, nE, nA]
def j2 : List AV → Option (AV × List AO)
  | [.int .i64 p, .int .i64 c, .agg l, .int .i64 k] => match wv l with
    | some (n, m) => chk ((0 < p ∧ p ≤ 1000000) ∧ (0 ≤ n ∧ n ≤ 8)) (some (elemV p c n 0 (if k.emod p = 0 then ([] : List (Int × List Nat × Int)) else [(n, m, k.emod p)]).length, [.vec 18 (qq (if k.emod p = 0 then [] else [(n, m, k.emod p)]))]))
    | none => none
  | _ => none
theorem qvu : Am.Callee Try.prog 103 (qhr j2) :=
  Am.Callee.new fun xs v H he => by
    unfold j2 at he
    split at he
    · rename_i p c l k
      split at he
      · rename_i n m hd
        obtain ⟨⟨h1, h2⟩, he⟩ := qk he
        obtain ⟨rfl, hm⟩ := z6 hd
        have e1 := congrArg Prod.fst (Option.some.inj he)
        have e2 := congrArg Prod.snd (Option.some.inj he)
        simp only at e1 e2
        subst e1; subst e2
        exact ⟨by simp only [AV.zh, AV.zp, qg, Bool.and_self], qw5 p c n m k h1 h2 hm⟩
      · cases he
    · cases he
def B29 : zk := (B28.put 103 (qhr j2))
theorem q0i : qu Try.prog B29 := (qv7.put (qvu))
theorem br (p c n : Int) (b k m : Nat) : AV.ren (Bv m) (.agg [.int .i64 p, .int .i64 c, .int .i64 n, .slc b 0 k false 0]) = .agg [.int .i64 p, .int .i64 c, .int .i64 n, .slc (m + b) 0 k false 0] := rfl
def B30 : zk := B29
theorem q0n : qu Try.prog B30 := q0i
theorem qkj (p c n e : Int) (b k m : Nat) : AV.ren (Bv m) (.tup [.agg [.int .i64 p, .int .i64 c, .int .i64 n, .slc b 0 k false 0], .int .i64 e]) = .tup [.agg [.int .i64 p, .int .i64 c, .int .i64 n, .slc (m + b) 0 k false 0], .int .i64 e] := rfl
def q1k : zk := B30
theorem qxr : qu Try.prog q1k := q0n
def qzk (hp : List AO) (X : AV) : Option (List (Int × List Nat × Int)) := match X with
  | .v (.slice none 0 0) => some []
  | .slc b 0 n true cap => match hp[b]? with
    | some .dead => if n = 0 ∧ cap = 0 then some [] else none
    | some (.ro l) => match kv (l.length / 18) l with
      | some all => if l.length = all.length * 18 ∧ n ≤ cap ∧ n ≤ all.length then some (all.take n) else none
      | none => none
    | _ => none
  | _ => none
def q12 : zk := q1k
theorem qx0 : qu Try.prog q12 := qxr
def q15 : zk := q12
theorem qyl : qu Try.prog q15 := qx0
def q1f : zk := q15
theorem qy6 : qu Try.prog q1f := qyl
def B31 : zk := q1f
theorem Yo : qu Try.prog B31 := qy6
theorem qe3 {α : Type} (l : List α) (a b k : Nat) (h : a ≤ b) : List.take a (List.drop k l) = List.take a (List.take b (List.drop k l)) := by
  rw [List.take_take, Nat.min_eq_left h]
theorem Zi {ts : List (Int × List Nat × Int)} {i : Nat} (h : okT ts) (hi : i < ts.length) : List.take 17 (List.drop (i * 18) (qq ts)) = dia ts[i].1 ts[i].2.1 := by
  rw [qe3 _ 17 18 _ (by decide), kj h hi]
  have := Y0 (h _ (List.getElem_mem hi))
  rwa [List.drop_zero] at this
theorem Bk {ts : List (Int × List Nat × Int)} {i : Nat} (h : okT ts) (hi : i < ts.length) : (qq ts)[i * 18 + 17]? = some (.int .i64 ts[i].2.2) := by
  have h1 := b9 (h _ (List.getElem_mem hi))
  rw [← kj h hi, List.getElem?_take, if_pos (by decide), List.getElem?_drop] at h1
  exact h1
def B32 : zk := B31
theorem qz8 : qu Try.prog B32 := Yo
def zT : Int × List Nat × Int := (0, [], 0)
theorem X4 {ts : List (Int × List Nat × Int)} {i : Nat} (h : i < ts.length) : ts.getD i zT = ts[i] := by
  rw [List.getD_eq_getElem?_getD, List.getElem?_eq_getElem h]; rfl
def B33 : zk := B32
theorem q0p : qu Try.prog B33 := qz8
theorem qap {t : Int × List Nat × Int} (h : okD t.2.1) : List.take 17 (trm t) = dia t.1 t.2.1 := by
  have := Y0 h
  rwa [List.drop_zero] at this
def B34 : zk := B33
theorem qos : qu Try.prog B34 := q0p
theorem x7 : B34 70 = some (ql j3) := rfl
theorem xk : B34 150 = some (ql uq) := rfl
def Uy (ts : List (Int × List Nat × Int)) (n : Int) (m : List Nat) : Nat := (ts.takeWhile fun t => ltT t (n, m, 0)).length
def j8 (p : Int) (ts : List (Int × List Nat × Int)) (n : Int) (m : List Nat) (k : Int) : List (Int × List Nat × Int) :=
  if k.emod p = 0 then ts else
  if Uy ts n m < ts.length ∧ (ts.getD (Uy ts n m) zT).1 = n ∧ (ts.getD (Uy ts n m) zT).2.1 = m then
    ts.take (Uy ts n m) ++ (if ((ts.getD (Uy ts n m) zT).2.2 + k.emod p).emod p = 0 then [] else [(n, m, ((ts.getD (Uy ts n m) zT).2.2 + k.emod p).emod p)]) ++ ts.drop (Uy ts n m + 1)
  else ts.take (Uy ts n m) ++ (n, m, k.emod p) :: ts.drop (Uy ts n m)
theorem qud : ∀ {ts : List (Int × List Nat × Int)} {n : Int} {m : List Nat} {i : Nat}, i ≤ ts.length → (∀ j, j < i → ltT (ts.getD j zT) (n, m, 0) = true) → (∀ j, i ≤ j → j < ts.length → ltT (ts.getD j zT) (n, m, 0) = false) → Uy ts n m = i
  | [], n, m, i, h, _, _ => by simp at h; subst h; rfl
  | t :: ts, n, m, 0, h, _, h2 => by
    have := h2 0 (Nat.le_refl 0) (by simp)
    simp only [List.getD_cons_zero] at this
    simp [Uy, List.takeWhile_cons, this]
  | t :: ts, n, m, i + 1, h, h1, h2 => by
    have h0 := h1 0 (by omega)
    simp only [List.getD_cons_zero] at h0
    have ih := qud (ts := ts) (n := n) (m := m) (i := i) (by simpa using h) (fun j hj => by simpa using h1 (j + 1) (by omega)) (fun j hj hl => by simpa using h2 (j + 1) (by omega) (by simpa using hl))
    simp only [Uy] at ih
    simp only [Uy, List.takeWhile_cons, h0, if_true, List.length_cons, ih]
theorem qr9 (ts : List (Int × List Nat × Int)) (h : okT ts) (i : Nat) : List.take (i * 18) (qq ts) = qq (ts.take i) := by
  induction i generalizing ts with
  | zero => simp [qq]
  | succ i ih => match ts, h with
    | [], _ => simp [qq]
    | t :: ts, h =>
      have hl := z8 (h t (List.mem_cons_self ..))
      have := ih ts fun u hu => h u (List.mem_cons_of_mem _ hu)
      simp only [qq, List.flatMap_cons, List.take_succ_cons] at this ⊢
      rw [show (i + 1) * 18 = 18 + i * 18 by omega, List.take_append, List.take_of_length_le (by omega), hl, show 18 + i * 18 - 18 = i * 18 by omega, this]
theorem qia (ts : List (Int × List Nat × Int)) (h : okT ts) (i : Nat) : List.drop (i * 18) (qq ts) = qq (ts.drop i) := by
  induction i generalizing ts with
  | zero => simp [qq]
  | succ i ih => match ts, h with
    | [], _ => simp [qq]
    | t :: ts, h =>
      have hl := z8 (h t (List.mem_cons_self ..))
      have := ih ts fun u hu => h u (List.mem_cons_of_mem _ hu)
      simp only [qq, List.flatMap_cons, List.drop_succ_cons] at this ⊢
      rw [show (i + 1) * 18 = 18 + i * 18 by omega, List.drop_append, List.drop_of_length_le (by omega), hl, show 18 + i * 18 - 18 = i * 18 by omega, this, List.nil_append]
theorem Z9 (a b : List (Int × List Nat × Int)) : qq (a ++ b) = qq a ++ qq b := by simp [qq]
theorem qbq {n n' : Int} {m m' : List Nat} (h : m.length = 16) (h' : m'.length = 16) : jq [.int, .int, .int, .int, .int, .int, .int, .int, .int, .int, .int, .int, .int, .int, .int, .int, .int] (dia n m) (dia n' m') = some (decide (n = n' ∧ m = m')) := qah h h'
structure q16 (p n : Int) (ts : List (Int × List Nat × Int)) : Prop where
  ok : okT ts
  len : ts.length ≤ 1000000
  size : ∀ t ∈ ts, t.1 = n
  small : ∀ t ∈ ts, -1000000000000 ≤ t.2.2 ∧ t.2.2 ≤ 1000000000000
  up : upT ts
theorem qo1 (p n : Int) (ts : List (Int × List Nat × Int)) (m : List Nat) (k : Int) (hp : 0 < p ∧ p ≤ 1000000) (hn : 0 ≤ n ∧ n ≤ 8) (hm : okD m) (ht : q16 p n ts) :
    Am.Fn Try.prog 100 [.int .i64 p, .slc 0 0 ts.length false 0, .agg (dia n m), .int .i64 k] [.vec 18 (qq ts)]
      (fun v H' => if k.emod p = 0 then v = .slc 0 0 ts.length false 0 ∧ H' = [.vec 18 (qq ts)] else v = .slc 1 0 (j8 p ts n m k).length false 0 ∧ H' = [.vec 18 (qq ts), .vec 18 (qq (j8 p ts n m k))]) := by
  refine Am.Fn.ofB qos mixed qgh (by simp) (fun j o hj => by
    match j, hj with
    | 0, hj => cases hj; exact qi _ _ (qb _)
    | j + 1, hj => simp at hj) ?_
  have hml := hm.1
  have htl := qw ht.ok
  by_cases hk : k.emod p = 0
  · simp (maxSteps := 3000000) only [qh, zH, Yv, x7, xk, j3, uq, hp, hk, iE, iN, iB, iC, iL, iD, iA, iS, iM, qa, zZ, ↓qt, ↓reduceIte, reduceCtorEq, nA, nM, nS, nE, nL, nD]; try simp only [qa, zY]
    refine Ret.xf [0] ⟨⟨by simp, rfl, by decide⟩, ?_⟩ (rs := [.slc 0 0 ts.length false 0]) rfl rfl (by simp [zt]) ?_ ⟨?_, ?_⟩
    · simp only [qd _ _ (qb _), zK, ↓reduceIte, reduceCtorEq, nE, nB, nA]
    · intro j l; match j with
      | 0 => simp [q7, AO.ren]
      | j + 1 => simp [q7]
    · simp only [zt]
      simp only [zL, ↓reduceIte, reduceCtorEq, nE, nA]
    · simp only [qc _ _ (qb _), zL, ↓reduceIte, reduceCtorEq, nE, nA]
  have hlen := ht.len
  have hup : ∀ i j, i < j → j < ts.length → ltT (ts.getD i zT) (ts.getD j zT) = true := fun i j hij hj => by
    rw [X4 hj, X4 (by omega)]
    exact (List.pairwise_iff_getElem.1 ht.up) i j (by omega) hj hij
  simp (maxSteps := 3000000) only [qh, zH, Yv, x7, xk, j3, uq, hp, hk, zb hml, qf, hml, za hm, hn, and_self, iE, iN, iB, iC, iL, iD, iA, iS, iM, qa, zZ, ↓qt, ↓reduceIte, reduceCtorEq, nA, nM, nS, nE, nL, nD]; try simp only [qa, zY]
  refine WA.jh qos (fun s => ∃ lo hi : Nat, lo ≤ hi ∧ hi ≤ ts.length ∧ (∀ j, j < lo → ltT (ts.getD j zT) (n, m, 0) = true) ∧ (∀ j, hi ≤ j → j < ts.length → ltT (ts.getD j zT) (n, m, 0) = false) ∧
      s = ⟨[(11, .str (wk n.toNat m)), (10, .int .i64 hi), (9, .int .i64 lo), (6, .ptr 1 0), (0, .int .i64 p), (1, .slc 0 0 ts.length false 0), (3, .int .i64 (k.emod p))], [.vec 18 (qq ts), .cells (dia n m)]⟩)
    (fun s => match get s.env 9, get s.env 10 with | .int _ lo, .int _ hi => (hi - lo).toNat | _, _ => 0) ⟨_, qx.qy [11, 10, 9, 6, 0, 1, 3], 0, ts.length, by omega, Nat.le_refl _, by intros; omega, by intros; omega, rfl⟩ ?_
  rintro s ⟨lo, hi, h1, h2, hlow, hhigh, rfl⟩
  by_cases hlt : lo < hi
  · have hli : (lo : Int) < hi := by omega
    have hmid : ((lo + hi) / 2 : Nat) < ts.length := by omega
    generalize hmd : (lo + hi) / 2 = mid at hmid
    have hw1 : qm .i64 ((lo : Int) + hi) = ((lo + hi : Nat) : Int) := by rw [wrap64 (by omega) (by omega)]; omega
    have hw2 : qm .i64 (((lo + hi : Nat) : Int).tdiv 2) = (mid : Int) := by
      rw [Int.tdiv_eq_ediv_of_nonneg (by omega), wrap64 (by omega) (by omega)]; omega
    have hw3 : qm .i64 ((mid : Int) + 1) = ((mid + 1 : Nat) : Int) := by rw [wrap64 (by omega) (by omega)]; rfl
    have hd := Zi ht.ok hmid
    have hok := ht.ok _ (List.getElem_mem hmid)
    have hsz := ht.size _ (List.getElem_mem hmid)
    have hb1 : mid * 18 < ts.length * 18 := by omega
    have hb2 : mid * 18 + 18 ≤ ts.length * 18 := by omega
    have hb3 : mid * 18 + 17 ≤ ts.length * 18 := by omega
    have hmi : (mid : Int) < ts.length := by omega
    have hmi' : (0 : Int) ≤ mid := by omega
    have hat : ts.getD mid zT = ts[mid] := X4 hmid
    rw [hsz] at hd
    cases hL : ltT (ts.getD mid zT) (n, m, 0) with
    | true =>
      have hL' : Op.bytesLess (wk n.toNat ts[mid].2.1) (wk n.toNat m) = true := by
        rw [hat] at hL; unfold ltT txt at hL; rw [hsz] at hL; exact hL
      simp (maxSteps := 3000000) only [qh, zH, j1, vr, x7, xk, j3, uq, hli, hw1, hw2, hw3, hd, htl, hb1, hb2, hb3, hmi, hmi', za hok, hn, hL', iE, iN, iB, iC, iL, iD, iA, iS, iM, and_self, bn, qa, zZ, ↓qt, ↓reduceIte, reduceCtorEq, nA, nM, nS, nE, nL, nD]; try simp only [qa, zY]
      refine ⟨_, qx.qy [11, 10, 9, 6, 0, 1, 3], ⟨mid + 1, hi, by omega, h2, fun j hj => ?_, hhigh, rfl⟩, ?_⟩
      · by_cases e : j = mid
        · subst e; exact hL
        · exact ue _ _ _ (hup j mid (by omega) hmid) hL
      · simp only [zL, ↓reduceIte, reduceCtorEq, nE, nA]; omega
    | false =>
      have hL' : Op.bytesLess (wk n.toNat ts[mid].2.1) (wk n.toNat m) = false := by
        rw [hat] at hL; unfold ltT txt at hL; rw [hsz] at hL; exact hL
      simp (maxSteps := 3000000) only [qh, zH, j1, vr, x7, xk, j3, uq, hli, hw1, hw2, hw3, hd, htl, hb1, hb2, hb3, hmi, hmi', za hok, hn, hL', iE, iN, iB, iC, iL, iD, iA, iS, iM, and_self, bn, qa, zZ, ↓qt, ↓reduceIte, reduceCtorEq, nA, nM, nS, nE, nL, nD]; try simp only [qa, zY]
      refine ⟨_, qx.qy [11, 10, 9, 6, 0, 1, 3], ⟨lo, mid, by omega, by omega, hlow, fun j hj hjl => ?_, rfl⟩, ?_⟩
      · by_cases e : j = mid
        · subst e; exact hL
        · cases hb : ltT (ts.getD j zT) (n, m, 0) with
          | false => rfl
          | true =>
            have := ue _ _ _ (hup mid j (by omega) hjl) hb
            unfold ltT at hL; rw [hL] at this; cases this
      · simp only [zL, ↓reduceIte, reduceCtorEq, nE, nA]; omega
  · have hli : ¬ ((lo : Int) < hi) := by omega
    obtain rfl : lo = hi := by omega
    have hcut : Uy ts n m = lo := qud h2 hlow hhigh
    have hll : (lo : Int) ≤ ts.length := by omega
    have hl0 : (0 : Int) ≤ lo := by omega
    have htk := qr9 ts ht.ok lo
    have htd := qia ts ht.ok lo
    have htd1 := qia ts ht.ok (lo + 1)
    have hokt : okT (ts.take lo) := fun t h => ht.ok t (List.mem_of_mem_take h)
    have hokd : okT (ts.drop lo) := fun t h => ht.ok t (List.mem_of_mem_drop h)
    have hokd1 : okT (ts.drop (lo + 1)) := fun t h => ht.ok t (List.mem_of_mem_drop h)
    have hlt1 := qw hokt
    have hlt2 := qw hokd
    have hlt3 := qw hokd1
    rw [List.length_take, Nat.min_eq_left h2] at hlt1
    rw [List.length_drop] at hlt2 hlt3
    have hb0 : lo * 18 ≤ ts.length * 18 := by omega
    have hones : ∀ l, (qq l).all AV.one = true := fun l => by
      simp only [qq, List.all_flatMap]; simp [jo]
    have htt : List.take (lo * 18) (qq (ts.take lo)) = qq (ts.take lo) := by rw [List.take_of_length_le (by omega)]
    have hby : lo * 32 ≤ 1099511627776 := by omega
    have hz : (List.replicate 16 0 : List Nat).length = 16 := rfl
    have e1 : over (trm (0, List.replicate 16 0, 0)) 0 (dia n m) = trm (n, m, 0) := Q8 (t := (0, List.replicate 16 0, 0)) hz hml
    have e2 : ∀ f : Int, over (trm (n, m, 0)) 17 [.int .i64 f] = trm (n, m, f) := fun f => Zr (t := (n, m, 0)) hml
    have e3 : ∀ f : Int, over (trm (0, List.replicate 16 0, 0)) 0 (trm (n, m, f)) = trm (n, m, f) := fun f => kd (t := (0, List.replicate 16 0, 0)) hz hml
    have e4 : ∀ f : Int, List.take 18 (trm (n, m, f)) = trm (n, m, f) := fun f => bx (t := (n, m, f)) hml
    by_cases hlo : lo < ts.length
    · have hli2 : (lo : Int) < ts.length := by omega
      have hd := Zi ht.ok hlo
      have hf := Bk ht.ok hlo
      have hok := ht.ok _ (List.getElem_mem hlo)
      have hsz := ht.size _ (List.getElem_mem hlo)
      have hsm := ht.small _ (List.getElem_mem hlo)
      have hat : ts.getD lo zT = ts[lo] := X4 hlo
      generalize hT : ts[lo] = T at hd hf hok hsz hsm hat
      obtain ⟨n', m', f⟩ := T
      simp only at hd hf hok hsz hsm
      subst hsz
      have hb1 : lo * 18 < ts.length * 18 := by omega
      have hb2 : lo * 18 + 17 ≤ ts.length * 18 := by omega
      have hb3 : lo * 18 + 17 < ts.length * 18 := by omega
      by_cases hmm : m' = m
      · subst hmm
        have hwf : qm .i64 (f + k.emod p) = f + k.emod p := by
          have : 0 ≤ k.emod p := Int.emod_nonneg k (show p ≠ 0 by omega)
          have : k.emod p < p := Int.emod_lt_of_pos k hp.1
          rw [wrap64 (by omega) (by omega)]
        have hw1 : qm .i64 ((lo : Int) + 1) = ((lo + 1 : Nat) : Int) := by rw [wrap64 (by omega) (by omega)]; rfl
        have hll1 : ((lo + 1 : Nat) : Int) ≤ ts.length := by omega
        have hll2 : (0 : Int) ≤ ((lo + 1 : Nat) : Int) := by omega
        have ht2 : List.take ((ts.length - (lo + 1)) * 18) (List.drop ((lo + 1) * 18) (qq ts)) = qq (ts.drop (lo + 1)) := by rw [htd1, List.take_of_length_le (by omega)]
        by_cases hs : (f + k.emod p).emod p = 0
        · have hput : j8 p ts n' m' k = ts.take lo ++ ts.drop (lo + 1) := by
            simp only [j8, if_neg hk, hcut, hat, hs, hlo, and_self, if_true, List.append_nil]
          have hln : lo + (ts.length - (lo + 1)) = (j8 p ts n' m' k).length := by rw [hput]; simp; omega
          have hl18 : qq (j8 p ts n' m' k) = qq (ts.take lo) ++ qq (ts.drop (lo + 1)) := by rw [hput, Z9]
          simp (maxSteps := 3000000) only [qh, zH, j1, ye, yd, yf, vr, x7, xk, j3, uq, hli, src, lim, Option.map_some, Option.map_none, hll, hl0, and_self, bn, htl, hb0, hones, hby, Nat.sub_zero, Nat.le_refl, htk, htt, hlt1, wc, wh, jo, hml, zb hml, qf, e1, e2, e3, e4, hz, hli2, hb1, hb2, hb3, hd, hf, qbq hok.1 hml, decide_true, hwf, hw1, hll1, hll2, hs, iE, iN, iB, iC, iL, iD, iA, iS, iM, qa, zZ, ↓qt, ↓reduceIte, reduceCtorEq, nA, nM, nS, nE, nL, nD]; try simp only [qa, zY]
          refine ⟨hp, fun hlast => ⟨by omega, ⟨by rw [ht2]; exact hones _, by omega⟩, ?_⟩, fun hlast => ⟨rfl, ?_⟩⟩
          · rw [ht2, ← hl18, hln]
            refine Ret.xf [0, 4] ⟨⟨by simp, rfl, by decide⟩, ?_⟩ (rs := [.slc 4 0 (j8 p ts n' m' k).length false 0]) rfl rfl (by simp [zt]) ?_ ⟨?_, ?_⟩
            · simp only [qd _ _ (qb _), zK, ↓reduceIte, reduceCtorEq, nE, nB, nA]
            · intro j l; match j with
              | 0 => simp [q7, AO.ren]
              | 1 => simp [q7, AO.ren]
              | j + 2 => simp [q7]
            · simp only [zt]
              simp only [zL, ↓reduceIte, reduceCtorEq, nE, nA]
            · simp only [qc _ _ (qb _), zL, ↓reduceIte, reduceCtorEq, nE, nA]
          · have h0 : ts.drop (lo + 1) = [] := List.drop_of_length_le (by omega)
            have h1 : qq (ts.take lo) = qq (j8 p ts n' m' k) := by rw [hl18, h0]; simp [qq]
            have h2' : lo = (j8 p ts n' m' k).length := by omega
            simp only [List.append_nil, h1]
            refine Ret.xf [0, 5] ⟨⟨by simp, rfl, by decide⟩, ?_⟩ (rs := [.slc 5 0 lo false 0]) rfl rfl (by simp [zt]) ?_ ⟨?_, ?_⟩
            · simp only [qd _ _ (qb _), zK, ↓reduceIte, reduceCtorEq, nE, nB, nA]
            · intro j l; match j with
              | 0 => simp [q7, AO.ren]
              | 1 => simp [q7, AO.ren]
              | j + 2 => simp [q7]
            · simp only [zt]
              simp only [← h2', zL, ↓reduceIte, reduceCtorEq, nE, nA]
            · simp only [qc _ _ (qb _), zL, ↓reduceIte, reduceCtorEq, nE, nA]
        · have hput : j8 p ts n' m' k = ts.take lo ++ [(n', m', (f + k.emod p).emod p)] ++ ts.drop (lo + 1) := by
            simp only [j8, if_neg hk, hcut, hat, hs, hlo, and_self, if_true, if_false]
          have hln : lo + 1 + (ts.length - (lo + 1)) = (j8 p ts n' m' k).length := by rw [hput]; simp; omega
          have hlr : (qq (ts.take lo) ++ trm (n', m', (f + k.emod p).emod p)).length = (lo + 1) * 18 := by rw [List.length_append, hlt1, wh, hml]; omega
          have hl18 : List.take ((lo + 1) * 18) (qq (ts.take lo) ++ trm (n', m', (f + k.emod p).emod p)) ++ qq (ts.drop (lo + 1)) = qq (j8 p ts n' m' k) := by
            rw [List.take_of_length_le (by omega), hput, Z9, Z9]
            simp [qq]
          simp (maxSteps := 3000000) only [qh, zH, j1, ye, yd, yf, vr, x7, xk, j3, uq, hli, src, lim, Option.map_some, Option.map_none, hll, hl0, and_self, bn, htl, hb0, hones, hby, Nat.sub_zero, Nat.le_refl, htk, htt, hlt1, wc, wh, jo, hml, zb hml, qf, e1, e2, e3, e4, hz, hli2, hb1, hb2, hb3, hd, hf, qbq hok.1 hml, decide_true, hwf, hw1, hll1, hll2, hs, iE, iN, iB, iC, iL, iD, iA, iS, iM, qa, zZ, ↓qt, ↓reduceIte, reduceCtorEq, nA, nM, nS, nE, nL, nD]; try simp only [qa, zY]
          refine ⟨hp, by omega, fun hlast => ⟨by omega, ⟨by omega, by rw [ht2]; exact hones _, by omega⟩, ?_⟩, fun hlast => ⟨⟨by omega, rfl, by omega⟩, ?_⟩⟩
          · rw [ht2, hl18, hln]
            refine Ret.xf [0, 6] ⟨⟨by simp, rfl, by decide⟩, ?_⟩ (rs := [.slc 6 0 (j8 p ts n' m' k).length false 0]) rfl rfl (by simp [zt]) ?_ ⟨?_, ?_⟩
            · simp only [qd _ _ (qb _), zK, ↓reduceIte, reduceCtorEq, nE, nB, nA]
            · intro j l; match j with
              | 0 => simp [q7, AO.ren]
              | 1 => simp [q7, AO.ren]
              | j + 2 => simp [q7]
            · simp only [zt]
              simp only [zL, ↓reduceIte, reduceCtorEq, nE, nA]
            · simp only [qc _ _ (qb _), zL, ↓reduceIte, reduceCtorEq, nE, nA]
          · have h0 : ts.drop (lo + 1) = [] := List.drop_of_length_le (by omega)
            have h1 : List.take ((lo + 1) * 18) (qq (ts.take lo) ++ trm (n', m', (f + k.emod p).emod p)) = qq (j8 p ts n' m' k) := by rw [← hl18, h0]; simp [qq]
            have h2' : lo + 1 = (j8 p ts n' m' k).length := by omega
            simp only [List.append_nil, h1]
            refine Ret.xf [0, 7] ⟨⟨by simp, rfl, by decide⟩, ?_⟩ (rs := [.slc 7 0 (lo + 1) false 0]) rfl rfl (by simp [zt]) ?_ ⟨?_, ?_⟩
            · simp only [qd _ _ (qb _), zK, ↓reduceIte, reduceCtorEq, nE, nB, nA]
            · intro j l; match j with
              | 0 => simp [q7, AO.ren]
              | 1 => simp [q7, AO.ren]
              | j + 2 => simp [q7]
            · simp only [zt]
              simp only [← h2', zL, ↓reduceIte, reduceCtorEq, nE, nA]
            · simp only [qc _ _ (qb _), zL, ↓reduceIte, reduceCtorEq, nE, nA]
      · have hor : (lo = 0 ∨ lo < ts.length) := .inr hlo
        have hput : j8 p ts n' m k = ts.take lo ++ (n', m, k.emod p) :: ts.drop lo := by
          simp only [j8, if_neg hk, hcut, hat, hmm, and_false, if_false]
        simp (maxSteps := 3000000) only [qh, zH, j1, ye, yd, yf, vr, x7, xk, j3, uq, hli, src, lim, Option.map_some, Option.map_none, hll, hl0, and_self, bn, htl, hb0, hones, hby, Nat.sub_zero, Nat.le_refl, htk, htt, hlt1, wc, wh, jo, hml, zb hml, qf, e1, e2, e3, e4, hz, hli2, hb1, hb2, hd, qbq hok.1 hml, hmm, and_false, hor, iE, iN, iB, iC, iL, iD, iA, iS, iM, qa, zZ, ↓qt, ↓reduceIte, reduceCtorEq, nA, nM, nS, nE, nL, nD]; try simp only [qa, zY]
        have ht2 : List.take ((ts.length - lo) * 18) (List.drop (lo * 18) (qq ts)) = qq (ts.drop lo) := by rw [htd, List.take_of_length_le (by omega)]
        have hlr : (qq (ts.take lo) ++ trm (n', m, k.emod p)).length = (lo + 1) * 18 := by rw [List.length_append, hlt1, wh, hml]; omega
        have hcon : List.take ((lo + 1) * 18) (qq (ts.take lo) ++ trm (n', m, k.emod p)) ++ List.take ((ts.length - lo) * 18) (List.drop (lo * 18) (qq ts)) = qq (j8 p ts n' m k) := by
          rw [ht2, List.take_of_length_le (by omega), hput, Z9]
          simp [qq]
        have hpl : lo + 1 + (ts.length - lo) = (j8 p ts n' m k).length := by
          rw [hput]; simp; omega
        refine ⟨by omega, by omega, ⟨by omega, by rw [ht2]; exact hones _, by omega⟩, ?_⟩
        rw [hcon, hpl]
        refine Ret.xf [0, 6] ⟨⟨by simp, rfl, by decide⟩, ?_⟩ (rs := [.slc 6 0 (j8 p ts n' m k).length false 0]) rfl rfl (by simp [zt]) ?_ ⟨?_, ?_⟩
        · simp only [qd _ _ (qb _), zK, ↓reduceIte, reduceCtorEq, nE, nB, nA]
        · intro j l; match j with
          | 0 => simp [q7, AO.ren]
          | 1 => simp [q7, AO.ren]
          | j + 2 => simp [q7]
        · simp only [zt]
          simp only [zL, ↓reduceIte, reduceCtorEq, nE, nA]
        · simp only [qc _ _ (qb _), zL, ↓reduceIte, reduceCtorEq, nE, nA]
    · have hli2 : ¬ (lo : Int) < ts.length := by omega
      obtain rfl : lo = ts.length := by omega
      have hput : j8 p ts n m k = ts ++ [(n, m, k.emod p)] := by
        simp only [j8, if_neg hk, hcut, Nat.lt_irrefl, false_and, if_false, List.take_length, List.drop_length]
      have hlr : (qq (ts.take ts.length) ++ trm (n, m, k.emod p)).length = (ts.length + 1) * 18 := by rw [List.length_append, hlt1, wh, hml]; omega
      have hcon : List.take ((ts.length + 1) * 18) (qq (ts.take ts.length) ++ trm (n, m, k.emod p)) = qq (j8 p ts n m k) := by
        rw [List.take_of_length_le (by omega), hput, Z9, List.take_length]
        simp [qq]
      have hpl : ts.length + 1 = (j8 p ts n m k).length := by
        rw [hput]; simp
      by_cases hz0 : ts.length = 0
      · have hor : (ts.length = 0 ∨ ts.length < ts.length) := .inl hz0
        simp (maxSteps := 3000000) only [qh, zH, j1, ye, yd, yf, vr, x7, xk, j3, uq, hli, src, lim, Option.map_some, Option.map_none, hll, hl0, and_self, bn, htl, hb0, hones, hby, Nat.sub_zero, Nat.le_refl, htk, htt, hlt1, wc, wh, jo, hml, zb hml, qf, e1, e2, e3, e4, hz, hli2, Int.lt_irrefl, hor, Nat.sub_self, Nat.zero_mul, List.take_zero, List.all_nil, iE, iN, iB, iC, iL, iD, iA, iS, iM, qa, zZ, ↓qt, ↓reduceIte, reduceCtorEq, nA, nM, nS, nE, nL, nD]; try simp only [qa, zY]
        refine ⟨by omega, ⟨by omega, by omega⟩, ?_⟩
        rw [hcon, hpl]
        refine Ret.xf [0, 6] ⟨⟨by simp, rfl, by decide⟩, ?_⟩ (rs := [.slc 6 0 (j8 p ts n m k).length false 0]) rfl rfl (by simp [zt]) ?_ ⟨?_, ?_⟩
        · simp only [qd _ _ (qb _), zK, ↓reduceIte, reduceCtorEq, nE, nB, nA]
        · intro j l; match j with
          | 0 => simp [q7, AO.ren]
          | 1 => simp [q7, AO.ren]
          | j + 2 => simp [q7]
        · simp only [zt]
          simp only [zL, ↓reduceIte, reduceCtorEq, nE, nA]
        · simp only [qc _ _ (qb _), zL, ↓reduceIte, reduceCtorEq, nE, nA]
      · have hor : ¬ (ts.length = 0 ∨ ts.length < ts.length) := by omega
        simp (maxSteps := 3000000) only [qh, zH, j1, ye, yd, yf, vr, x7, xk, j3, uq, hli, src, lim, Option.map_some, Option.map_none, hll, hl0, and_self, bn, htl, hb0, hones, hby, Nat.sub_zero, Nat.le_refl, htk, htt, hlt1, wc, wh, jo, hml, zb hml, qf, e1, e2, e3, e4, hz, hli2, Int.lt_irrefl, hor, List.all_nil, iE, iN, iB, iC, iL, iD, iA, iS, iM, qa, zZ, ↓qt, ↓reduceIte, reduceCtorEq, nA, nM, nS, nE, nL, nD]; try simp only [qa, zY]
        refine ⟨by omega, ⟨by omega, by omega⟩, ?_⟩
        rw [hcon, hpl]
        refine Ret.xf [0, 7] ⟨⟨by simp, rfl, by decide⟩, ?_⟩ (rs := [.slc 7 0 (j8 p ts n m k).length false 0]) rfl rfl (by simp [zt]) ?_ ⟨?_, ?_⟩
        · simp only [qd _ _ (qb _), zK, ↓reduceIte, reduceCtorEq, nE, nB, nA]
        · intro j l; match j with
          | 0 => simp [q7, AO.ren]
          | 1 => simp [q7, AO.ren]
          | j + 2 => simp [q7]
        · simp only [zt]
          simp only [zL, ↓reduceIte, reduceCtorEq, nE, nA]
        · simp only [qc _ _ (qb _), zL, ↓reduceIte, reduceCtorEq, nE, nA]
def qgw (n : Int) (ts : List (Int × List Nat × Int)) : Prop := ts.length ≤ 1000000 ∧ (∀ t ∈ ts, t.1 = n) ∧ (∀ t ∈ ts, -1000000000000 ≤ t.2.2 ∧ t.2.2 ≤ 1000000000000) ∧ (ts.Pairwise fun a b => ltT a b = true)
instance {n : Int} {ts : List (Int × List Nat × Int)} : Decidable (qgw n ts) := by unfold qgw; infer_instance
theorem qgw.fit {p n : Int} {ts : List (Int × List Nat × Int)} (h : qgw n ts) (ho : okT ts) : q16 p n ts := ⟨ho, h.1, h.2.1, h.2.2.1, h.2.2.2⟩
theorem qh4 {α : Type} {l : List α} {i : Nat} {a : α} (h : l[i]? = some a) : l.set i a = l := by
  obtain ⟨hi, rfl⟩ := List.getElem?_eq_some_iff.1 h
  exact List.set_getElem_self hi
def Xc : BE := fun hp xs => match xs with
  | [.int .i64 p, .slc b 0 len false 0, .agg l, .int .i64 k] => match hp[b]? with
    | some (.vec 18 L) => match kv len L, wv l with
      | some ts, some (n, m) => chk ((L.length = len * 18 ∧ (0 < p ∧ p ≤ 1000000)) ∧ (0 ≤ n ∧ n ≤ 8) ∧ qgw n ts) (if k.emod p = 0 then some (.slc b 0 len false 0, hp) else some (.slc hp.length 0 (j8 p ts n m k).length false 0, hp ++ [.vec 18 (qq (j8 p ts n m k))]))
      | _, _ => none
    | _ => none
  | _ => none
theorem q10 : Am.Callee Try.prog 100 Xc := Callee.fp fun hp xs v hp' he => by
  unfold Xc at he
  split at he
  · rename_i p b len l k
    split at he
    · rename_i L hb
      split at he
      · rename_i ts n m hts hd
        obtain ⟨⟨⟨h1, h2⟩, h3, h4⟩, he2⟩ := qk he
        obtain ⟨rfl, hm⟩ := z6 hd
        obtain ⟨e1, e2, e3, e4⟩ := ju hts
        have hl : L = qq ts := by rw [← e3, List.take_of_length_le (by omega)]
        subst hl
        subst e1
        have hc := qo1 p n ts m k h2 h3 hm (h4.fit e2)
        have hfit : Gb hp (ofL [(b, 0)]) [(b, 0)] [.vec 18 (qq ts)] := by
          refine ⟨?_, trivial⟩
          simp only [Fits, qc _ _ (qb _)]
          exact ⟨trivial, by rw [hb, vy, qc _ _ (qb _)]⟩
        by_cases hk : k.emod p = 0
        · rw [if_pos hk] at he2
          simp only [Option.some.injEq, Prod.mk.injEq] at he2
          obtain ⟨rfl, rfl⟩ := he2
          have hc := hc.mono (R' := fun v H' => v = .slc 0 0 ts.length false 0 ∧ H' = [.vec 18 (qq ts)]) fun v H' h => by rw [if_pos hk] at h; exact h
          refine ⟨[(b, 0)], [.int .i64 p, .slc 0 0 ts.length false 0, .agg (dia n m), .int .i64 k], _, _, _, hc, by simp [AV.ren, AV.zg, ofL, qc _ _ (qg _ _)], rfl, hfit, rfl, ⟨qi _ _ (qb _), trivial⟩, ⟨trivial, by simp [AV.under], qi _ _ (qg _ _), trivial, trivial⟩, by simp [AV.ren, Ren.ext, ofL], ?_⟩
          simp only [after, upd, AO.wr, if_true, vy, qc _ _ (qb _), List.length_cons, List.length_nil, List.drop_succ_cons, List.drop_nil, List.map_nil, List.append_nil]
          exact qh4 hb
        · rw [if_neg hk] at he2
          simp only [Option.some.injEq, Prod.mk.injEq] at he2
          obtain ⟨rfl, rfl⟩ := he2
          have hc := hc.mono (R' := fun v H' => v = .slc 1 0 (j8 p ts n m k).length false 0 ∧ H' = [.vec 18 (qq ts), .vec 18 (qq (j8 p ts n m k))]) fun v H' h => by rw [if_neg hk] at h; exact h
          refine ⟨[(b, 0)], [.int .i64 p, .slc 0 0 ts.length false 0, .agg (dia n m), .int .i64 k], _, _, _, hc, by simp [AV.ren, AV.zg, ofL, qc _ _ (qg _ _)], rfl, hfit, rfl, ⟨qi _ _ (qb _), trivial⟩, ⟨trivial, by simp [AV.under], qi _ _ (qg _ _), trivial, trivial⟩, by simp [AV.ren, Ren.ext], ?_⟩
          simp only [after, upd, AO.wr, if_true, vy, qc _ _ (qb _), List.length_cons, List.length_nil, List.drop_succ_cons, List.drop_zero, List.map_cons, List.map_nil]
          rw [qh4 hb]
      · cases he
    · cases he
  · cases he
def B35 : zk := (B34.put 100 (Xc))
theorem qpe : qu Try.prog B35 := (qos.put (q10))
def Yx : AC := .seq (.region [o0 1 (.box (.t 0)),oZ 2]) (.seq (.region [oF 3 0 1,oL 4 3,oF 5 1 1,oL 6 5,oF 7 2 1,oL 8 7,o0 9 (.Qh 0 [] []),o0 10 (.build [.int .i64 0,.int .i64 0,.int .i64 0,(.v (.slice none 0 0))] [(0,1,.t 4),(1,1,.t 6),(2,1,.t 8),(3,1,.t 9)]),oS 4 2 10]) .ret)
theorem qac : zl Try.prog 97 = some ⟨11, Yx, [.bg 2 4]⟩ := by kernel_rfl
theorem qjh (p c n : Int) (k : Nat) :
    Am.Fn Try.prog 97 [elemV p c n 0 k] [.ro []] (fun v H' => v = elemV p c n 1 0 ∧ H' = [.ro [], .vec 18 []]) := by
  refine Am.Fn.ofW qpe mixed qac (by simp [elemV, AV.qp, AV.under]) (vh rfl) ?_
  simp (maxSteps := 3000000) only [qh, zH, Yx, qa, elemV, iE, iN, iB, iC, iL, iD, iA, iS, iM, rep, qa, zZ, ↓qt, ↓reduceIte, reduceCtorEq, nA, nM, nS, nE, nL, nD]; try simp only [qa, zY]
  refine ⟨rfl, _, qx.trans (qx.qy [2]) (qx.vec 3 0 18 (by decide) rfl rfl rfl rfl), ?_⟩
  refine Ret.xf [0, 3] ⟨⟨by simp, rfl, by decide⟩, ?_⟩ (rs := [.agg [.int .i64 p, .int .i64 c, .int .i64 n, .slc 3 0 0 false 0]]) ?_ rfl (by simp [zt]) ?_ ⟨?_, ?_⟩
  · simp only [qy, zn, zV, ↓reduceIte, nE, reduceCtorEq, nB]
    simp only [zK, ↓reduceIte, reduceCtorEq, nE, nB, nA]
  · simp only [qy, zn, zV, ↓reduceIte, nE, reduceCtorEq, nB]
    rfl
  · intro j l; match j with
    | 0 => simp [q7, W2, AO.zw, AO.ren]
    | 1 => simp [q7, W2, AO.zw, AO.ren]
    | j + 2 => simp [q7]
  · simp only [zt]
    simp only [zL, ↓reduceIte, reduceCtorEq, nE, nA]
  · rfl
def jy : BE := fun hp xs => match xs with
  | [.agg [.int .i64 p, .int .i64 c, .int .i64 n, .slc b 0 k false 0]] => match rd hp b with
    | some _ => some (elemV p c n hp.length 0, hp ++ [.vec 18 []])
    | none => none
  | _ => none
theorem qyu : Am.Callee Try.prog 97 jy := Callee.fp fun hp xs v hp' he => by
  unfold jy at he
  split at he
  · rename_i p c n b k
    split at he
    · rename_i L hL
      simp only [Option.some.injEq, Prod.mk.injEq] at he
      obtain ⟨rfl, rfl⟩ := he
      refine ⟨[(b, 0)], [elemV p c n 0 k], _, _, _, qjh p c n k, by simp [elemV, AV.ren, AV.zg, ofL], rfl, ⟨⟨L, hL, by simp, by simp [AV.zg]⟩, trivial⟩, rfl, ⟨trivial, trivial⟩, ⟨⟨trivial, trivial, trivial, by simp [AV.under], trivial⟩, trivial⟩, by simp [elemV, AV.ren, AV.zg, Ren.ext], ?_⟩
      simp [after, upd, AO.wr, AO.ren, AV.zg]
    · cases he
  · cases he
def B36 : zk := (B35.put 97 (jy))
theorem qz9 : qu Try.prog B36 := (qpe.put (qyu))
theorem qer {n n' : Nat} {m m' : List Nat} (h : isS n m = true) (h' : isS n' m' = true) (hm : m.length = 16) (hm' : m'.length = 16) (e : wk n m = wk n' m') : n = n' ∧ m = m' := by
  rw [Ks n m hm] at h
  rw [Ks n' m' hm'] at h'
  simp only [isI, Bool.and_eq_true, beq_iff_eq] at h h'
  have h1 := h.2.2
  rw [e, h'.2.2] at h1
  simp only [Option.some.injEq, Prod.mk.injEq] at h1
  exact ⟨h1.1.symm, h1.2.symm⟩
structure xh (p n : Int) (ts : List (Int × List Nat × Int)) : Prop where
  ok : okT ts
  dia : ∀ t ∈ ts, t.1 = n ∧ isS n.toNat t.2.1 = true
  fac : ∀ t ∈ ts, 1 ≤ t.2.2 ∧ t.2.2 ≤ p - 1
  up : upT ts
theorem xh.fit {p n : Int} {ts : List (Int × List Nat × Int)} (h : xh p n ts) (hp : p ≤ 1000000) (hl : ts.length ≤ 1000000) : qgw n ts :=
  ⟨hl, fun t ht => (h.dia t ht).1, fun t ht => by have := h.fac t ht; omega, h.up⟩
def K5 (p n : Int) (m : List Nat) (kk : Int) : List (Int × List Nat × Int) → List (Int × List Nat × Int)
  | [] => [(n, m, kk)]
  | t :: l => if ltT t (n, m, 0) then t :: K5 p n m kk l else
    if t.1 = n ∧ t.2.1 = m then (if (t.2.2 + kk).emod p = 0 then [] else [(n, m, (t.2.2 + kk).emod p)]) ++ l else (n, m, kk) :: t :: l
theorem qsd (t : Int × List Nat × Int) (l : List (Int × List Nat × Int)) (n : Int) (m : List Nat) : Uy (t :: l) n m = if ltT t (n, m, 0) = true then Uy l n m + 1 else 0 := by
  unfold Uy
  rw [List.takeWhile_cons]
  split <;> rfl
theorem Gl (p n : Int) (m : List Nat) (k : Int) (ts : List (Int × List Nat × Int)) : j8 p ts n m k = if k.emod p = 0 then ts else K5 p n m (k.emod p) ts := by
  unfold j8
  split
  · rfl
  · rename_i hk
    induction ts with
    | nil => simp [Uy, K5]
    | cons t l ih =>
      rw [qsd]
      unfold K5
      by_cases h : ltT t (n, m, 0) = true
      · simp only [if_pos h, List.length_cons, Nat.add_lt_add_iff_right, List.getD_cons_succ, List.take_succ_cons, List.drop_succ_cons]
        rw [← ih]
        split <;> simp
      · simp only [if_neg h, List.length_cons, List.getD_cons_zero, List.take_zero, List.drop_zero, List.nil_append, List.drop_succ_cons]
        by_cases h2 : t.1 = n ∧ t.2.1 = m
        · rw [if_pos ⟨by omega, h2⟩, if_pos h2]
        · rw [if_neg (fun h3 => h2 h3.2), if_neg h2]
theorem qnl {p n : Int} {m : List Nat} {kk : Int} : ∀ {ts : List (Int × List Nat × Int)}, (K5 p n m kk ts).length ≤ ts.length + 1
  | [] => Nat.le_refl _
  | t :: l => by
    unfold K5
    split
    · have := qnl (p := p) (n := n) (m := m) (kk := kk) (ts := l)
      simp only [List.length_cons]; omega
    · split
      · split <;> simp <;> omega
      · simp
theorem W0 {p n : Int} {m : List Nat} {kk : Int} {u : Int × List Nat × Int} : ∀ {ts : List (Int × List Nat × Int)}, u ∈ K5 p n m kk ts → u ∈ ts ∨ (u.1 = n ∧ u.2.1 = m ∧ (u.2.2 = kk ∨ ∃ f : Int, u.2.2 = (f + kk).emod p ∧ (f + kk).emod p ≠ 0))
  | [], h => by
    rw [K5, List.mem_singleton] at h
    subst h; exact .inr ⟨rfl, rfl, .inl rfl⟩
  | t :: l, h => by
    unfold K5 at h
    split at h
    · rcases List.mem_cons.1 h with rfl | h
      · exact .inl (List.mem_cons_self ..)
      · rcases W0 h with h | h
        · exact .inl (List.mem_cons_of_mem _ h)
        · exact .inr h
    · split at h
      · split at h
        · exact .inl (List.mem_cons_of_mem _ h)
        · rename_i hne
          rcases List.mem_cons.1 h with rfl | h
          · exact .inr ⟨rfl, rfl, .inr ⟨t.2.2, rfl, hne⟩⟩
          · exact .inl (List.mem_cons_of_mem _ h)
      · rcases List.mem_cons.1 h with rfl | h
        · exact .inr ⟨rfl, rfl, .inl rfl⟩
        · exact .inl h
theorem qzt {t u u' : Int × List Nat × Int} (h1 : u.1 = u'.1) (h2 : u.2.1 = u'.2.1) : ltT t u = ltT t u' := by unfold ltT txt; rw [h1, h2]
theorem qx8 {t t' u : Int × List Nat × Int} (h1 : t.1 = t'.1) (h2 : t.2.1 = t'.2.1) : ltT t u = ltT t' u := by unfold ltT txt; rw [h1, h2]
theorem qqc {p n : Int} {m : List Nat} {kk : Int} (hm : okD m) (hs : isS n.toNat m = true) : ∀ {ts : List (Int × List Nat × Int)}, okT ts → (∀ t ∈ ts, t.1 = n ∧ isS n.toNat t.2.1 = true) → upT ts → upT (K5 p n m kk ts)
  | [], _, _, _ => by unfold K5 upT; exact List.pairwise_singleton _ _
  | t :: l, ho, hd, hu => by
    have hu' := List.pairwise_cons.1 hu
    have ih := qqc (p := p) (kk := kk) hm hs (ts := l) (fun u h => ho u (List.mem_cons_of_mem _ h)) (fun u h => hd u (List.mem_cons_of_mem _ h)) hu'.2
    unfold K5
    split
    · rename_i hlt
      refine List.pairwise_cons.2 ⟨fun u hu2 => ?_, ih⟩
      rcases W0 hu2 with h | ⟨h1, h2, _⟩
      · exact hu'.1 u h
      · rw [qzt (u' := (n, m, 0)) h1 h2]; exact hlt
    · rename_i hlt
      split
      · rename_i he
        split
        · exact hu'.2
        · refine List.pairwise_cons.2 ⟨fun u hu2 => ?_, hu'.2⟩
          rw [qx8 (t' := t) he.1.symm he.2.symm]
          exact hu'.1 u hu2
      · rename_i he
        have hx : ltT (n, m, kk) t = true := by
          cases hb : ltT (n, m, kk) t with
          | true => rfl
          | false =>
            exfalso
            have hdt := hd t (List.mem_cons_self ..)
            have e := Z0 _ _ (Bool.eq_false_iff.2 hlt) hb
            unfold txt at e
            simp only [hdt.1] at e
            exact he ⟨hdt.1, (qer hdt.2 hs (ho t (List.mem_cons_self ..)).1 hm.1 e).2⟩
        refine List.pairwise_cons.2 ⟨fun u hu2 => ?_, hu⟩
        rcases List.mem_cons.1 hu2 with rfl | h
        · exact hx
        · exact ue _ _ _ hx (hu'.1 u h)
theorem qcc {p n : Int} {m : List Nat} {k : Int} {ts : List (Int × List Nat × Int)} (hp : 0 < p) (hm : okD m) (hs : isS n.toNat m = true) (h : xh p n ts) : xh p n (j8 p ts n m k) := by
  rw [Gl]
  split
  · exact h
  · rename_i hk
    have b1 : 0 ≤ k.emod p := Int.emod_nonneg k (by omega)
    have b2 : k.emod p < p := Int.emod_lt_of_pos k hp
    refine ⟨fun u hu => ?_, fun u hu => ?_, fun u hu => ?_, qqc hm hs h.ok h.dia h.up⟩
    · rcases W0 hu with h1 | ⟨_, h2, _⟩
      · exact h.ok u h1
      · rw [h2]; exact hm
    · rcases W0 hu with h1 | ⟨h1, h2, _⟩
      · exact h.dia u h1
      · rw [h2]; exact ⟨h1, hs⟩
    · rcases W0 hu with h1 | ⟨_, _, h3 | ⟨f, h3, h4⟩⟩
      · exact h.fac u h1
      · omega
      · have c1 : 0 ≤ (f + k.emod p).emod p := Int.emod_nonneg _ (by omega)
        have c2 : (f + k.emod p).emod p < p := Int.emod_lt_of_pos _ hp
        omega
theorem qf0 {p n : Int} {m : List Nat} {k : Int} {ts : List (Int × List Nat × Int)} : (j8 p ts n m k).length ≤ ts.length + 1 := by
  rw [Gl]; split
  · omega
  · exact qnl
def qcj (p n k : Int) (acc b : List (Int × List Nat × Int)) : List (Int × List Nat × Int) := b.foldl (fun acc t => j8 p acc n t.2.1 (k * t.2.2)) acc
theorem qsi {p n k : Int} {a : List (Int × List Nat × Int)} (hp : 0 < p) (ha : xh p n a) : ∀ {b : List (Int × List Nat × Int)}, xh p n b → xh p n (qcj p n k a b) ∧ (qcj p n k a b).length ≤ a.length + b.length := by
  intro b
  unfold qcj
  induction b generalizing a with
  | nil => exact fun _ => ⟨ha, by simp⟩
  | cons t b ih =>
    intro hb
    have h1 := qcc (k := k * t.2.2) hp (hb.ok t (List.mem_cons_self ..)) (hb.dia t (List.mem_cons_self ..)).2 ha
    have h2 := qf0 (p := p) (n := n) (m := t.2.1) (k := k * t.2.2) (ts := a)
    have h3 := ih h1 ⟨fun u h => hb.ok u (List.mem_cons_of_mem _ h), fun u h => hb.dia u (List.mem_cons_of_mem _ h), fun u h => hb.fac u (List.mem_cons_of_mem _ h), (List.pairwise_cons.1 hb.up).2⟩
    rw [List.foldl_cons]
    refine ⟨h3.1, ?_⟩
    have := h3.2
    simp only [List.length_cons]; omega
def qa0 (p n : Int) (ts : List (Int × List Nat × Int)) : Prop := (∀ t ∈ ts, t.1 = n ∧ isS n.toNat t.2.1 = true) ∧ (∀ t ∈ ts, 1 ≤ t.2.2 ∧ t.2.2 ≤ p - 1) ∧ (ts.Pairwise fun a b => ltT a b = true)
instance {p n : Int} {ts : List (Int × List Nat × Int)} : Decidable (qa0 p n ts) := by unfold qa0; infer_instance
theorem qa0.qni {p n : Int} {ts : List (Int × List Nat × Int)} (h : qa0 p n ts) (ho : okT ts) : xh p n ts := ⟨ho, h.1, h.2.1, h.2.2⟩
theorem xh.dec {p n : Int} {ts : List (Int × List Nat × Int)} (h : xh p n ts) : qa0 p n ts := ⟨h.dia, h.fac, h.up⟩
def B37 : zk := B36
theorem qcm : qu Try.prog B37 := qz9
def Zb (n : Int) (m : List Nat) : List (Int × List Nat × Int) → Option Nat
  | [] => none
  | t :: l => if n = t.1 ∧ m = t.2.1 then some 0 else (Zb n m l).map (· + 1)
theorem Wl {n : Int} {m : List Nat} (hm : m.length = 16) : ∀ {ts : List (Int × List Nat × Int)} {k i : Nat}, okT ts →
    wi KD true (.agg (dia n m)) (esT k ts) i = some ((Zb n m ts).map fun j => (i + j, ⟨.agg (dia n m), .int .i64 (ts.getD j zT).2.2, k + j⟩))
  | [], k, i, _ => rfl
  | t :: l, k, i, h => by
    have h1 := (h t (List.mem_cons_self ..)).1
    have ih := Wl (n := n) hm (ts := l) (k := k + 1) (i := i + 1) fun u hu => h u (List.mem_cons_of_mem _ hu)
    unfold esT wi
    simp only [keq, qah hm h1, Zb]
    by_cases e : n = t.1 ∧ m = t.2.1
    · simp only [decide_eq_true e, if_pos e, Option.map_some, Nat.add_zero, List.getD_cons_zero]
      obtain ⟨rfl, rfl⟩ := e
      rfl
    · simp only [decide_eq_false e, if_neg e, ih, Option.map_map]
      congr 1
      congr 1
      funext j
      simp only [Function.comp, List.getD_cons_succ]
      rw [show i + 1 + j = i + (j + 1) by omega, show k + 1 + j = k + (j + 1) by omega]
def Zc (n : Int) (m : List Nat) (f : Int) : List (Int × List Nat × Int) → List (Int × List Nat × Int)
  | [] => [(n, m, f)]
  | t :: l => if n = t.1 ∧ m = t.2.1 then (t.1, t.2.1, t.2.2 + f) :: l else t :: Zc n m f l
theorem qko : ∀ {a b : List (Int × List Nat × Int)} {k : Nat}, esT k (a ++ b) = esT k a ++ esT (k + a.length) b
  | [], b, k => rfl
  | t :: a, b, k => by
    simp only [List.cons_append, esT, qko, List.length_cons]
    rw [show k + 1 + a.length = k + (a.length + 1) by omega]
theorem qjo {n v : Int} {m : List Nat} : ∀ {ts : List (Int × List Nat × Int)} {k j : Nat}, (esT k ts).set j ⟨.agg (dia n m), .int .i64 v, k + j⟩ = esT k (ts.set j (n, m, v))
  | [], k, j => rfl
  | t :: ts, k, 0 => rfl
  | t :: ts, k, j + 1 => by
    simp only [esT, List.set_cons_succ]
    rw [show k + (j + 1) = k + 1 + j by omega, qjo]
theorem qj8 {v : Int} : ∀ {ts : List (Int × List Nat × Int)} {k j : Nat}, (esT k ts).modify j (fun x => ⟨x.key, .int .i64 v, x.born⟩) = esT k (ts.modify j fun t => (t.1, t.2.1, v))
  | [], k, j => by cases j <;> rfl
  | t :: ts, k, 0 => rfl
  | t :: ts, k, j + 1 => by
    simp only [esT, List.modify_succ_cons, qj8]
theorem qfd : ∀ {ts : List (Int × List Nat × Int)} {k j : Nat}, j < ts.length → (esT k ts).findIdx? (fun x => (x.born : Int) == ((k + j : Nat) : Int)) = some j
  | t :: ts, k, 0, _ => by simp [esT, List.findIdx?_cons]
  | t :: ts, k, j + 1, h => by
    have := qfd (ts := ts) (k := k + 1) (j := j) (by simpa using h)
    rw [show k + 1 + j = k + (j + 1) by omega] at this
    have hne : ((k : Int) == ((k + (j + 1) : Nat) : Int)) = false := by rw [beq_eq_false_iff_ne]; omega
    simp only [esT, List.findIdx?_cons, hne, this, Bool.false_eq_true, if_false, Option.map_some]
theorem Gj {n : Int} {m : List Nat} : ∀ {ts : List (Int × List Nat × Int)} {j : Nat}, Zb n m ts = some j → j < ts.length ∧ (ts.getD j zT).1 = n ∧ (ts.getD j zT).2.1 = m ∧ ∀ f, Zc n m f ts = ts.set j (n, m, (ts.getD j zT).2.2 + f)
  | t :: l, j, h => by
    unfold Zb at h
    split at h
    · rename_i e
      cases h
      obtain ⟨rfl, rfl⟩ := e
      exact ⟨by simp, rfl, rfl, fun f => by simp [Zc]⟩
    · rename_i e
      cases hi : Zb n m l with
      | none => rw [hi] at h; cases h
      | some i =>
        rw [hi] at h; cases h
        obtain ⟨h1, h2, h3, h4⟩ := Gj hi
        exact ⟨by simp; omega, by simpa using h2, by simpa using h3, fun f => by simp [Zc, if_neg e, h4]⟩
theorem qbk {n : Int} {m : List Nat} : ∀ {ts : List (Int × List Nat × Int)}, Zb n m ts = none → (∀ f, Zc n m f ts = ts ++ [(n, m, f)]) ∧ ∀ t ∈ ts, ¬ (n = t.1 ∧ m = t.2.1)
  | [], _ => ⟨fun _ => rfl, by simp⟩
  | t :: l, h => by
    unfold Zb at h
    split at h
    · cases h
    · rename_i e
      have hi : Zb n m l = none := by
        cases hi : Zb n m l with
        | none => rfl
        | some i => rw [hi] at h; cases h
      obtain ⟨h1, h2⟩ := qbk hi
      refine ⟨fun f => by simp [Zc, if_neg e, h1], fun u hu => ?_⟩
      rcases List.mem_cons.1 hu with rfl | hu
      · exact e
      · exact h2 u hu
structure qcn (n M : Int) (ts : List (Int × List Nat × Int)) : Prop where
  ok : okT ts
  dia : ∀ t ∈ ts, t.1 = n ∧ isS n.toNat t.2.1 = true
  fac : ∀ t ∈ ts, -M ≤ t.2.2 ∧ t.2.2 ≤ M
  one : ts.Pairwise fun a b => a.2.1 ≠ b.2.1
theorem Wz {n f : Int} {m : List Nat} {u : Int × List Nat × Int} : ∀ {ts : List (Int × List Nat × Int)}, u ∈ Zc n m f ts → (∃ t ∈ ts, u.1 = t.1 ∧ u.2.1 = t.2.1 ∧ (u.2.2 = t.2.2 ∨ u.2.2 = t.2.2 + f)) ∨ (u = (n, m, f) ∧ ∀ t ∈ ts, ¬ (n = t.1 ∧ m = t.2.1))
  | [], h => by
    rw [Zc, List.mem_singleton] at h
    exact .inr ⟨h, by simp⟩
  | t :: l, h => by
    unfold Zc at h
    split at h
    · rcases List.mem_cons.1 h with rfl | h
      · exact .inl ⟨t, List.mem_cons_self .., rfl, rfl, .inr rfl⟩
      · exact .inl ⟨u, List.mem_cons_of_mem _ h, rfl, rfl, .inl rfl⟩
    · rename_i e
      rcases List.mem_cons.1 h with rfl | h
      · exact .inl ⟨u, List.mem_cons_self .., rfl, rfl, .inl rfl⟩
      · rcases Wz h with ⟨v, hv, h1⟩ | ⟨h1, h2⟩
        · exact .inl ⟨v, List.mem_cons_of_mem _ hv, h1⟩
        · refine .inr ⟨h1, fun v hv => ?_⟩
          rcases List.mem_cons.1 hv with rfl | hv
          · exact e
          · exact h2 v hv
theorem qgu {n f : Int} {m : List Nat} : ∀ {ts : List (Int × List Nat × Int)}, (∀ t ∈ ts, t.1 = n) → (ts.Pairwise fun a b => a.2.1 ≠ b.2.1) → (Zc n m f ts).Pairwise fun a b => a.2.1 ≠ b.2.1
  | [], _, _ => List.pairwise_singleton _ _
  | t :: l, hs, h => by
    have h' := List.pairwise_cons.1 h
    unfold Zc
    split
    · exact List.pairwise_cons.2 ⟨fun u hu => h'.1 u hu, h'.2⟩
    · rename_i e
      refine List.pairwise_cons.2 ⟨fun u hu => ?_, qgu (fun u hu => hs u (List.mem_cons_of_mem _ hu)) h'.2⟩
      rcases Wz hu with ⟨v, hv, _, h2, _⟩ | ⟨rfl, _⟩
      · rw [h2]; exact h'.1 v hv
      · intro e2; exact e ⟨(hs t (List.mem_cons_self ..)).symm, e2.symm⟩
theorem qup {n f M F : Int} {m : List Nat} {ts : List (Int × List Nat × Int)} (hm : okD m) (hs : isS n.toNat m = true) (hf : -F ≤ f ∧ f ≤ F) (hM : 0 ≤ M) (h : qcn n M ts) : qcn n (M + F) (Zc n m f ts) := by
  refine ⟨fun u hu => ?_, fun u hu => ?_, fun u hu => ?_, qgu (fun t ht => (h.dia t ht).1) h.one⟩
  · rcases Wz hu with ⟨v, hv, _, h2, _⟩ | ⟨rfl, _⟩
    · rw [h2]; exact h.ok v hv
    · exact hm
  · rcases Wz hu with ⟨v, hv, h1, h2, _⟩ | ⟨rfl, _⟩
    · rw [h1, h2]; exact h.dia v hv
    · exact ⟨rfl, hs⟩
  · rcases Wz hu with ⟨v, hv, _, _, h3⟩ | ⟨rfl, _⟩
    · have := h.fac v hv
      rcases h3 with h3 | h3 <;> omega
    · simp only; omega
def xb (k : Int) (acc b : List (Int × List Nat × Int)) : List (Int × List Nat × Int) := b.foldl (fun acc t => Zc t.1 t.2.1 (k * t.2.2) acc) acc
theorem qgf {k : Int} {a b : List (Int × List Nat × Int)} {i : Nat} (h : i < b.length) : xb k a (b.take (i + 1)) = Zc b[i].1 b[i].2.1 (k * b[i].2.2) (xb k a (b.take i)) := by
  rw [List.take_succ_eq_append_getElem h, xb, List.foldl_append]; rfl
theorem qlo {n f : Int} {m : List Nat} : ∀ {ts : List (Int × List Nat × Int)}, (Zc n m f ts).length ≤ ts.length + 1
  | [] => Nat.le_refl _
  | t :: l => by
    unfold Zc
    split
    · simp
    · have := qlo (n := n) (m := m) (f := f) (ts := l)
      simp only [List.length_cons]; omega
def cf (m : List Nat) : List (Int × List Nat × Int) → Int
  | [] => 0
  | t :: l => (if t.2.1 = m then t.2.2 else 0) + cf m l
theorem qwi {m : List Nat} : ∀ {a b : List (Int × List Nat × Int)}, cf m (a ++ b) = cf m a + cf m b
  | [], b => by simp [cf]
  | t :: a, b => by simp only [List.cons_append, cf, qwi (a := a)]; omega
theorem qyv {m : List Nat} {a b : List (Int × List Nat × Int)} (h : a.Perm b) : cf m a = cf m b := by
  induction h with
  | nil => rfl
  | cons x _ ih => simp only [cf, ih]
  | swap x y l => simp only [cf]; omega
  | trans _ _ h1 h2 => rw [h1, h2]
theorem qea (p a : Int) : p ∣ a.emod p - a := ⟨-(a / p), by
  have : a.emod p = a - p * (a / p) := Int.emod_def a p
  rw [this, Int.mul_neg]; omega⟩
theorem kc {p x y z : Int} (h1 : p ∣ x) (h2 : p ∣ y) (e : z = x + y) : p ∣ z := e ▸ Int.dvd_add h1 h2
theorem qe4 {p x y z : Int} (h1 : p ∣ x) (h2 : p ∣ y) (e : z = x - y) : p ∣ z := e ▸ Int.dvd_sub h1 h2
theorem qjq {p a : Int} (h : a.emod p = 0) : p ∣ a := Int.dvd_of_emod_eq_zero h
theorem qju {n f : Int} {m m' : List Nat} : ∀ {ts : List (Int × List Nat × Int)}, (∀ t ∈ ts, t.1 = n) → cf m (Zc n m' f ts) = cf m ts + if m' = m then f else 0
  | [], _ => by simp [Zc, cf]
  | t :: l, h => by
    have h0 := h t (List.mem_cons_self ..)
    unfold Zc
    split
    · rename_i e
      simp only [cf, e.2]
      split <;> omega
    · simp only [cf, qju (ts := l) fun u hu => h u (List.mem_cons_of_mem _ hu)]
      omega
theorem qq6 {p : Int} {m : List Nat} : ∀ {ts : List (Int × List Nat × Int)}, p ∣ cf m (zs p ts) - cf m ts
  | [] => by simp [zs, cf]
  | t :: l => by
    have ih := qq6 (p := p) (m := m) (ts := l)
    unfold zs at ih ⊢
    rw [List.filterMap_cons]
    split
    · rename_i e
      split at e
      · rename_i e2
        simp only [cf]
        split
        · exact qe4 ih (qjq e2) (by omega)
        · exact kc ih (Int.dvd_zero p) (by omega)
      · cases e
    · rename_i u e
      split at e
      · cases e
      · cases e
        simp only [cf]
        split
        · exact kc ih (qea p t.2.2) (by omega)
        · exact kc ih (Int.dvd_zero p) (by omega)
theorem qqv {p n kk : Int} {m m' : List Nat} : ∀ {ts : List (Int × List Nat × Int)}, (∀ t ∈ ts, t.1 = n) → p ∣ cf m (K5 p n m' kk ts) - (cf m ts + if m' = m then kk else 0)
  | [], _ => by simp [K5, cf]
  | t :: l, h => by
    have ih := qqv (p := p) (kk := kk) (m := m) (m' := m') (ts := l) fun u hu => h u (List.mem_cons_of_mem _ hu)
    unfold K5
    split
    · simp only [cf]
      exact kc ih (Int.dvd_zero p) (by omega)
    · split
      · rename_i e
        rw [qwi]
        split
        · rename_i e0
          simp only [cf, e.2]
          split
          · exact qe4 (Int.dvd_zero p) (qjq e0) (by omega)
          · exact kc (Int.dvd_zero p) (Int.dvd_zero p) (by omega)
        · simp only [cf, e.2]
          split
          · exact kc (qea p (t.2.2 + kk)) (Int.dvd_zero p) (by omega)
          · exact kc (Int.dvd_zero p) (Int.dvd_zero p) (by omega)
      · simp only [cf]
        exact kc (Int.dvd_zero p) (Int.dvd_zero p) (by omega)
theorem qqf {p n k : Int} {m m' : List Nat} {ts : List (Int × List Nat × Int)} (h : ∀ t ∈ ts, t.1 = n) : p ∣ cf m (j8 p ts n m' k) - (cf m ts + if m' = m then k else 0) := by
  rw [Gl]
  split
  · rename_i e
    split
    · exact qe4 (Int.dvd_zero p) (qjq e) (by omega)
    · exact kc (Int.dvd_zero p) (Int.dvd_zero p) (by omega)
  · have h1 := qqv (p := p) (kk := k.emod p) (m := m) (m' := m') h
    split at h1
    · rename_i e
      rw [if_pos e]
      exact kc h1 (qea p k) (by omega)
    · rename_i e
      rw [if_neg e]; exact h1
theorem qj9 {m : List Nat} : ∀ {ts : List (Int × List Nat × Int)}, (∀ t ∈ ts, t.2.1 ≠ m) → cf m ts = 0
  | [], _ => rfl
  | t :: l, h => by
    simp only [cf, if_neg (h t (List.mem_cons_self ..)), qj9 (ts := l) fun u hu => h u (List.mem_cons_of_mem _ hu)]; rfl
theorem qn7 : ∀ {ts : List (Int × List Nat × Int)}, (ts.Pairwise fun a b => a.2.1 ≠ b.2.1) → ∀ t ∈ ts, cf t.2.1 ts = t.2.2
  | u :: l, h, t, ht => by
    have h' := List.pairwise_cons.1 h
    rcases List.mem_cons.1 ht with rfl | ht
    · simp only [cf, if_true, qj9 fun v hv e => h'.1 v hv e.symm]; omega
    · simp only [cf, if_neg (h'.1 t ht), qn7 h'.2 t ht]; omega
theorem qv6 {ts : List (Int × List Nat × Int)} {n : Int} (hs : ∀ t ∈ ts, t.1 = n) (h : upT ts) : ts.Pairwise fun a b => a.2.1 ≠ b.2.1 := by
  refine List.Pairwise.imp_of_mem ?_ h
  intro a b ha hb hlt e
  have : txt a = txt b := by unfold txt; rw [hs a ha, hs b hb, e]
  unfold ltT at hlt
  rw [this, Qq] at hlt; cases hlt
theorem qek {p n : Int} {ts : List (Int × List Nat × Int)} (h : xh p n ts) (hp : 0 < p) (m : List Nat) : (0 ≤ cf m ts ∧ cf m ts ≤ p - 1) ∧ ∀ t : Int × List Nat × Int, t.2.1 = m → (t ∈ ts ↔ t.1 = n ∧ t.2.2 = cf m ts ∧ cf m ts ≠ 0) := by
  have ha := qv6 (fun t ht => (h.dia t ht).1) h.up
  by_cases hx : ∃ t ∈ ts, t.2.1 = m
  · obtain ⟨t, ht, rfl⟩ := hx
    have e := qn7 ha t ht
    have hf := h.fac t ht
    rw [e]
    refine ⟨by omega, fun u hu => ⟨fun hm => ?_, fun ⟨h1, h2, _⟩ => ?_⟩⟩
    · have e2 := qn7 ha u hm
      rw [hu, e] at e2
      exact ⟨(h.dia u hm).1, e2.symm, by omega⟩
    · have : u = t := by
        obtain ⟨a, b, c⟩ := u
        obtain ⟨a', b', c'⟩ := t
        simp only at h1 h2 hu
        rw [h1, h2, hu, ← (h.dia _ ht).1]
      rw [this]; exact ht
  · have e := qj9 (m := m) (ts := ts) fun t ht e => hx ⟨t, ht, e⟩
    rw [e]
    exact ⟨by omega, fun u hu => ⟨fun hm => absurd ⟨u, hm, hu⟩ hx, fun h3 => absurd rfl h3.2.2⟩⟩
theorem qnr {ts : List (Int × List Nat × Int)} (h : upT ts) : ts.Nodup := h.imp fun {a b} hlt e => by
  subst e; unfold ltT at hlt; rw [Qq] at hlt; cases hlt
theorem qcx {p n : Int} {a b : List (Int × List Nat × Int)} (hp : 0 < p) (ha : xh p n a) (hb : xh p n b) (h : ∀ m, p ∣ cf m a - cf m b) : a = b := by
  have he : ∀ m, cf m a = cf m b := fun m => by
    obtain ⟨q, hq⟩ := h m
    have h1 := (qek ha hp m).1
    have h2 := (qek hb hp m).1
    have : q = 0 := by
      rcases Int.lt_trichotomy q 0 with hl | hl | hl
      · exfalso
        have : p * q ≤ p * (-1) := Int.mul_le_mul_of_nonneg_left (by omega) (by omega)
        omega
      · exact hl
      · exfalso
        have : p * 1 ≤ p * q := Int.mul_le_mul_of_nonneg_left (by omega) (by omega)
        omega
    subst this
    omega
  refine qce ha.up hb.up ((List.perm_ext_iff_of_nodup (qnr ha.up) (qnr hb.up)).2 fun t => ?_)
  rw [(qek ha hp t.2.1).2 t rfl, (qek hb hp t.2.1).2 t rfl, he]
theorem qmw {p n M : Int} {S : List (Int × List Nat × Int)} (hp : 0 < p) (h : qcn n M S) : xh p n (Ze (zs p S)) := by
  have hmem : ∀ t ∈ Ze (zs p S), ∃ u ∈ S, t = (u.1, u.2.1, u.2.2.emod p) ∧ u.2.2.emod p ≠ 0 := fun t ht => qep ((bu _).mem_iff.1 ht)
  refine ⟨fun t ht => ?_, fun t ht => ?_, fun t ht => ?_, qak (qfr ?_)⟩
  · obtain ⟨u, hu, rfl, _⟩ := hmem t ht; exact h.ok u hu
  · obtain ⟨u, hu, rfl, _⟩ := hmem t ht; exact h.dia u hu
  · obtain ⟨u, hu, rfl, hne⟩ := hmem t ht
    have b1 : 0 ≤ u.2.2.emod p := Int.emod_nonneg _ (by omega)
    have b2 : u.2.2.emod p < p := Int.emod_lt_of_pos _ hp
    simp only; omega
  · unfold Bw List.Nodup
    rw [List.pairwise_map]
    refine List.Pairwise.imp_of_mem ?_ h.one
    intro a b ha hb hne e
    unfold txt at e
    have h1 := h.dia a ha
    have h2 := h.dia b hb
    rw [h1.1, h2.1] at e
    exact hne (qer h1.2 h2.2 (h.ok a ha).1 (h.ok b hb).1 e).2
theorem qqu {p : Int} {m : List Nat} {S : List (Int × List Nat × Int)} : p ∣ cf m (Ze (zs p S)) - cf m S := by
  rw [qyv (bu _)]; exact qq6
end Go.Proofs.Ytfhckbbgmblhbaa

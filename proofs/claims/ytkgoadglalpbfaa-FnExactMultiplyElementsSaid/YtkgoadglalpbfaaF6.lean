/- Contracts: comparing and sorting terms. -/
import Derived.Test.YtkgoadglalpbfaaAmC
import Derived.Shelf.Small.Strs
import Derived.Test.YtkgoadglalpbfaaF4
namespace Go.Proofs.Ytkgoadglalpbfaa
open Go.Am Go.Dia
open Nat renaming reduceAdd → nA, reduceMul → nM, reduceSub → nS, reduceEqDiff → nE, reduceLT → nL, reduceLeDiff → nD, reduceBEq → nB
open Int renaming reduceEq → iE, reduceNe → iN, reduceBEq → iB, reduceBNe → iC, reduceLT → iL, reduceLE → iD, reduceAdd → iA, reduceSub → iS, reduceMul → iM
set_option linter.unusedSimpArgs false
set_option linter.unusedVariables false
set_option maxRecDepth 4000
set_option maxHeartbeats 1000000
def qr4 : Go.Shelf.Ren := ⟨fun | 106 => 139 | 213 => 154 | 265 => 166 | n => n, fun | 9 => 9 | 3 => 3 | n => n, fun | n => n⟩
theorem qyj : Go.Proofs.Lays.n106 Try.prog qr4 where
  mixed := by kernel_rfl
  f106 := Try.func139.trans (congrArg some (by kernel_rfl))
  f213 := Try.func154.trans (congrArg some (by kernel_rfl))
  f265 := Try.func166.trans (congrArg some (by kernel_rfl))
  t3 := Try.underlying3
  a3 := Try.isAgg3
  z3 := Try.sizeOf3
  v3 := Try.zeroValue3
  t9 := Try.underlying9
  a9 := Try.isAgg9
  z9 := Try.sizeOf9
  v9 := Try.zeroValue9
def qrz : Go.Shelf.Ren := ⟨fun | 6 => 137 | 15 => 153 | 14 => 152 | 28 => 164 | 29 => 165 | 20 => 156 | 21 => 157 | 22 => 158 | 23 => 159 | 24 => 160 | 25 => 161 | 26 => 162 | 27 => 163 | 46 => 167 | 47 => 168 | 48 => 169 | 49 => 170 | 50 => 171 | 57 => 172 | n => n, fun | 22 => 29 | 24 => 64 | 25 => 132 | 3 => 3 | 39 => 147 | 0 => 0 | 53 => 162 | 55 => 96 | 4 => 4 | 46 => 155 | 45 => 154 | 50 => 159 | 5 => 5 | 9 => 9 | 66 => 164 | 70 => 168 | 76 => 170 | 77 => 171 | n => n, fun | n => n⟩
theorem qym : Go.Proofs.SlLaysF0.n6 Try.prog qrz where
  mixed := by kernel_rfl
  f6 := ⟨Try.f137.name, by kernel_rfl, Try.func137.trans (congrArg some (by kernel_rfl))⟩
  f14 := ⟨Try.f152.name, by kernel_rfl, Try.func152.trans (congrArg some (by kernel_rfl))⟩
  f15 := Try.func153.trans (congrArg some (by kernel_rfl))
  f20 := ⟨Try.f156.name, by kernel_rfl, Try.func156.trans (congrArg some (by kernel_rfl))⟩
  f21 := ⟨Try.f157.name, by kernel_rfl, Try.func157.trans (congrArg some (by kernel_rfl))⟩
  f22 := ⟨Try.f158.name, by kernel_rfl, Try.func158.trans (congrArg some (by kernel_rfl))⟩
  f23 := ⟨Try.f159.name, by kernel_rfl, Try.func159.trans (congrArg some (by kernel_rfl))⟩
  f24 := ⟨Try.f160.name, by kernel_rfl, Try.func160.trans (congrArg some (by kernel_rfl))⟩
  f25 := ⟨Try.f161.name, by kernel_rfl, Try.func161.trans (congrArg some (by kernel_rfl))⟩
  f26 := ⟨Try.f162.name, by kernel_rfl, Try.func162.trans (congrArg some (by kernel_rfl))⟩
  f27 := ⟨Try.f163.name, by kernel_rfl, Try.func163.trans (congrArg some (by kernel_rfl))⟩
  f28 := Try.func164.trans (congrArg some (by kernel_rfl))
  f29 := Try.func165.trans (congrArg some (by kernel_rfl))
  f46 := ⟨Try.f167.name, by kernel_rfl, Try.func167.trans (congrArg some (by kernel_rfl))⟩
  f47 := Try.func168.trans (congrArg some (by kernel_rfl))
  f48 := Try.func169.trans (congrArg some (by kernel_rfl))
  f49 := ⟨Try.f170.name, by kernel_rfl, Try.func170.trans (congrArg some (by kernel_rfl))⟩
  f50 := ⟨Try.f171.name, by kernel_rfl, Try.func171.trans (congrArg some (by kernel_rfl))⟩
  f57 := ⟨Try.f172.name, by kernel_rfl, Try.func172.trans (congrArg some (by kernel_rfl))⟩
  t0 := Try.underlying0
  a0 := Try.isAgg0
  z0 := Try.sizeOf0
  v0 := Try.zeroValue0
  t3 := Try.underlying3
  a3 := Try.isAgg3
  z3 := Try.sizeOf3
  v3 := Try.zeroValue3
  t4 := Try.underlying4
  a4 := Try.isAgg4
  z4 := Try.sizeOf4
  v4 := Try.zeroValue4
  t5 := Try.underlying5
  a5 := Try.isAgg5
  z5 := Try.sizeOf5
  v5 := Try.zeroValue5
  t9 := Try.underlying9
  a9 := Try.isAgg9
  z9 := Try.sizeOf9
  v9 := Try.zeroValue9
  t22 := Try.underlying29
  a22 := Try.isAgg29
  z22 := Try.sizeOf29
  v22 := Try.zeroValue29
  t25 := Try.underlying132
  a25 := Try.isAgg132
  z25 := Try.sizeOf132
  v25 := Try.zeroValue132
  t39 := Try.underlying147
  a39 := Try.isAgg147
  z39 := Try.sizeOf147
  v39 := Try.zeroValue147
  t45 := Try.underlying154
  a45 := Try.isAgg154
  z45 := Try.sizeOf154
  v45 := Try.zeroValue154
  t46 := Try.underlying155
  a46 := Try.isAgg155
  z46 := Try.sizeOf155
  v46 := Try.zeroValue155
  t50 := Try.underlying159
  a50 := Try.isAgg159
  z50 := Try.sizeOf159
  v50 := Try.zeroValue159
  t53 := Try.underlying162
  a53 := Try.isAgg162
  z53 := Try.sizeOf162
  v53 := Try.zeroValue162
  t55 := Try.underlying96
  a55 := Try.isAgg96
  z55 := Try.sizeOf96
  v55 := Try.zeroValue96
  t66 := Try.underlying164
  a66 := Try.isAgg164
  z66 := Try.sizeOf164
  v66 := Try.zeroValue164
  t70 := Try.underlying168
  a70 := Try.isAgg168
  z70 := Try.sizeOf168
  v70 := Try.zeroValue168
  t76 := Try.underlying170
  a76 := Try.isAgg170
  z76 := Try.sizeOf170
  v76 := Try.zeroValue170
  t77 := Try.underlying171
  a77 := Try.isAgg171
  z77 := Try.sizeOf171
  v77 := Try.zeroValue171
def Vx : List AV → Option AV
  | [.str a, .str b] => some (.int .i64 (Go.Lib.compareBytes a b))
  | _ => none
theorem qpo (a b : List UInt8) : Am.Fn Try.prog 139 [.str a, .str b] [] (fun v H' => v = .int .i64 (Go.Lib.compareBytes a b) ∧ H' = []) :=
  qi4 ⟨Try.f139, Try.func139, by kernel_rfl, by kernel_rfl⟩ rfl rfl fun w => Go.Proofs.Any.strings_Compare qyj ⟨a.toArray⟩ ⟨b.toArray⟩ w
theorem qot : Am.Callee Try.prog 139 (qu Vx) := Am.Callee.plain fun xs v he => by
  unfold Vx at he
  split at he
  · cases he; exact ⟨rfl, rfl, qpo _ _⟩
  · cases he
def B26 : z7 := (B24.put 139 (qu Vx))
theorem qto : ze Try.prog B26 := (qw8.put (qot))
theorem Yj : B26 100 = some (Zm 17 vq) := rfl
theorem Kw : B26 139 = some (qu Vx) := rfl
def Jh : AC := .seq (.region [o0 2 (.box (.t 0)),o0 3 (.box (.t 1)),oI 4 0]) (.seq (.region [oF 5 0 2,oC 6 100 [.t 5],oF 7 0 3,oC 8 100 [.t 7],oC 9 139 [.t 6,.t 8],oM 4 9]) .ret)
theorem Gq : zy Try.prog 138 = some ⟨10, Jh, [.slot 4]⟩ := by kernel_rfl
def txt (t : Int × List Nat × Int) : List UInt8 := xw t.1.toNat t.2.1
def qt9 (t u : Int × List Nat × Int) : Int := Go.Lib.compareBytes (txt t) (txt u)
theorem qvc (t u : Int × List Nat × Int) (ht : okD t.2.1) (hu : okD u.2.1) (h1 : 0 ≤ t.1 ∧ t.1 ≤ 8) (h2 : 0 ≤ u.1 ∧ u.1 ≤ 8) :
    Am.Fn Try.prog 138 [.agg (trm t), .agg (trm u)] [] (fun v H' => v = .int .i64 (qt9 t u) ∧ H' = []) := by
  refine Am.Fn.jw (R := fun v => v = _) qto mixed Gq (by simp) (by simp) ?_
  simp (maxSteps := 3000000) only [Jh, Yj, Kw, Vx, vq, Jw ht, Jw hu, zx ht, zx hu, zd ht, zd hu, h1, h2, rd, List.getElem?_cons_zero, List.getElem?_cons_succ, qb, zZ, ↓qp, ↓reduceIte, reduceCtorEq, nA, nM, nS, nE, nL, nD]; try simp only [qb, zY]
  rfl
theorem qnt : ∀ (a b : List UInt8), (Go.Lib.compareBytes a b < 0) ↔ Op.bytesLess a b = true
  | [], [] => by simp [Go.Lib.compareBytes, Op.bytesLess]
  | [], b :: y => by simp [Go.Lib.compareBytes, Op.bytesLess]
  | a :: x, [] => by simp [Go.Lib.compareBytes, Op.bytesLess]
  | a :: x, b :: y => by
    simp only [Go.Lib.compareBytes, Op.bytesLess, Bool.or_eq_true, Bool.and_eq_true, decide_eq_true_eq, beq_iff_eq]
    by_cases h : a < b
    · simp [h]
    · by_cases h2 : b < a
      · have : a ≠ b := fun e => by subst e; exact UInt8.lt_irrefl _ h2
        simp [h, h2, this]
      · have : a = b := UInt8.le_antisymm (UInt8.not_lt.1 h2) (UInt8.not_lt.1 h)
        subst this
        simp only [h, if_false, false_or, true_and]
        exact qnt x y
theorem Qm : ∀ (a : List UInt8), Op.bytesLess a a = false
  | [] => rfl
  | a :: x => by simp [Op.bytesLess, Qm x]
theorem yj : ∀ (a b c : List UInt8), Op.bytesLess a b = true → Op.bytesLess b c = true → Op.bytesLess a c = true
  | _, _, [], _, h => by cases ‹List UInt8› <;> simp [Op.bytesLess] at h
  | [], _, c :: z, h, _ => by simp [Op.bytesLess]
  | a :: x, [], c :: z, h, _ => by simp [Op.bytesLess] at h
  | a :: x, b :: y, c :: z, h, h' => by
    simp only [Op.bytesLess, Bool.or_eq_true, Bool.and_eq_true, decide_eq_true_eq, beq_iff_eq] at h h' ⊢
    rcases h with h | ⟨rfl, h⟩
    · rcases h' with h' | ⟨rfl, h'⟩
      · exact .inl (UInt8.lt_trans h h')
      · exact .inl h
    · rcases h' with h' | ⟨rfl, h'⟩
      · exact .inl h'
      · exact .inr ⟨rfl, yj x y z h h'⟩
theorem Zl : ∀ (a b : List UInt8), Op.bytesLess a b = false → Op.bytesLess b a = false → a = b
  | [], [], _, _ => rfl
  | [], b :: y, h, _ => by simp [Op.bytesLess] at h
  | a :: x, [], _, h => by simp [Op.bytesLess] at h
  | a :: x, b :: y, h, h' => by
    simp only [Op.bytesLess, Bool.or_eq_false_iff, Bool.and_eq_false_iff, decide_eq_false_iff_not, beq_eq_false_iff_ne] at h h'
    have e : a = b := UInt8.le_antisymm (UInt8.not_lt.1 h'.1) (UInt8.not_lt.1 h.1)
    subst e
    rw [Zl x y (by simpa using h.2) (by simpa using h'.2)]
theorem qbk (a b : List UInt8) (h : Op.bytesLess a b = true) : Op.bytesLess b a = false := by
  cases hb : Op.bytesLess b a with
  | false => rfl
  | true => have := yj a b a h hb; rw [Qm] at this; cases this
def ltT (t u : Int × List Nat × Int) : Bool := Op.bytesLess (txt t) (txt u)
abbrev Gm := {t : Int × List Nat × Int // okD t.2.1 ∧ 0 ≤ t.1 ∧ t.1 ≤ 8}
instance : Inhabited Gm := ⟨⟨(0, List.replicate 16 0, 0), ⟨by simp, by intro x hx; simp at hx; omega⟩, by decide, by decide⟩⟩
theorem qhl (x y : Gm) : Go.Proofs.ltOf (fun x y : Gm => qt9 x.1 y.1) x y = ltT x.1 y.1 := by
  unfold Go.Proofs.ltOf qt9 ltT
  have := qnt (txt x.1) (txt y.1)
  cases h : Op.bytesLess (txt x.1) (txt y.1) with
  | true => exact decide_eq_true (this.2 h)
  | false => exact decide_eq_false (fun h2 => by rw [this.1 h2] at h; cases h)
theorem swo : Go.Sort.SWO (Go.Proofs.ltOf (fun x y : Gm => qt9 x.1 y.1)) where
  irrefl x := by rw [qhl]; exact Qm _
  trans x y z h h' := by rw [qhl] at *; exact yj _ _ _ h h'
  ntrans x y z h h' := by
    rw [qhl] at *
    cases hc : ltT x.1 z.1 with
    | false => rfl
    | true =>
      exfalso
      by_cases e : txt x.1 = txt y.1
      · unfold ltT at *; rw [e] at hc; rw [hc] at h'; cases h'
      · have h1 : ltT y.1 x.1 = true := by
          cases hb : ltT y.1 x.1 with
          | true => rfl
          | false => exact absurd (Zl _ _ h hb) e
        have := yj _ _ _ h1 hc
        unfold ltT at h'; rw [this] at h'; cases h'
def qmi (t : Int × List Nat × Int) : List (Int × List Nat × Int) → List (Int × List Nat × Int)
  | [] => [t]
  | u :: l => if ltT t u then t :: u :: l else u :: qmi t l
def X4 : List (Int × List Nat × Int) → List (Int × List Nat × Int)
  | [] => []
  | t :: l => qmi t (X4 l)
theorem K7 (t : Int × List Nat × Int) : ∀ l, (qmi t l).Perm (t :: l)
  | [] => .refl _
  | u :: l => by
    unfold qmi; split
    · exact .refl _
    · exact ((K7 t l).cons u).trans (.swap t u l)
theorem kj : ∀ l, (X4 l).Perm l
  | [] => .refl _
  | t :: l => (K7 t _).trans ((kj l).cons t)
def Ym (l : List (Int × List Nat × Int)) : Prop := (l.map txt).Nodup
def upT (l : List (Int × List Nat × Int)) : Prop := l.Pairwise fun a b => ltT a b = true
theorem qnc {t : Int × List Nat × Int} : ∀ {l}, upT l → (∀ u ∈ l, txt t ≠ txt u) → upT (qmi t l)
  | [], _, _ => by simp [qmi, upT]
  | u :: l, h, hn => by
    unfold qmi
    have h' := List.pairwise_cons.1 h
    split
    · rename_i hlt
      exact List.pairwise_cons.2 ⟨fun a ha => by
        rcases List.mem_cons.1 ha with rfl | ha
        · exact hlt
        · exact yj _ _ _ hlt (h'.1 a ha), h⟩
    · rename_i hlt
      refine List.pairwise_cons.2 ⟨fun a ha => ?_, qnc h'.2 fun v hv => hn v (List.mem_cons_of_mem _ hv)⟩
      have hm := (K7 t l).mem_iff.1 ha
      rcases List.mem_cons.1 hm with rfl | hm
      · cases hb : ltT u a with
        | true => rfl
        | false => exact absurd (Zl _ _ (Bool.eq_false_iff.2 hlt) hb) (hn u (List.mem_cons_self ..))
      · exact h'.1 a hm
theorem Gw : ∀ {l}, Ym l → upT (X4 l)
  | [], _ => .nil
  | t :: l, h => by
    have h' := List.nodup_cons.1 h
    refine qnc (Gw h'.2) fun u hu e => h'.1 ?_
    rw [e]
    exact List.mem_map.2 ⟨u, (kj l).mem_iff.1 hu, rfl⟩
theorem K2 : ∀ {a b : List (Int × List Nat × Int)}, upT a → upT b → a.Perm b → a = b
  | [], b, _, _, hp => by rw [List.nil_perm.1 hp]
  | x :: a, [], _, _, hp => by have := hp.length_eq; simp at this
  | x :: a, y :: b, ha, hb, hp => by
    have ha' := List.pairwise_cons.1 ha
    have hb' := List.pairwise_cons.1 hb
    have e : x = y := by
      have h1 : x ∈ y :: b := hp.mem_iff.1 (List.mem_cons_self ..)
      have h2 : y ∈ x :: a := hp.mem_iff.2 (List.mem_cons_self ..)
      rcases List.mem_cons.1 h1 with h | h
      · exact h
      · rcases List.mem_cons.1 h2 with h' | h'
        · exact h'.symm
        · have c1 := hb'.1 x h
          have c2 := ha'.1 y h'
          have := qbk _ _ c1
          unfold ltT at c2; rw [this] at c2; cases c2
    subst e
    rw [K2 ha'.2 hb'.2 ((List.perm_cons x).1 hp)]
theorem qkx {a l : List (Int × List Nat × Int)} (hp : a.Perm l) (hs : a.Pairwise fun x y => ltT y x = false) (hl : Ym l) : a = X4 l := by
  have hn : (a.map txt).Nodup := (hp.map txt).nodup_iff.2 hl
  refine K2 ?_ (Gw hl) (hp.trans (kj l).symm)
  unfold upT
  rw [List.pairwise_iff_getElem] at hs ⊢
  intro i j hi hj hij
  cases hb : ltT a[i] a[j] with
  | true => rfl
  | false =>
    have e := Zl _ _ hb (hs i j hi hj hij)
    have := (List.pairwise_iff_getElem.1 hn) i j (by simpa using hi) (by simpa using hj) hij
    simp only [List.getElem_map] at this
    exact absurd e this
theorem qxa (ts : List (Int × List Nat × Int)) (hl : ts.length ≤ 1000000000) (hok : ∀ t ∈ ts, okD t.2.1 ∧ 0 ≤ t.1 ∧ t.1 ≤ 8) (hap : Ym ts) :
    Am.Fn Try.prog 137 [.slc 0 0 ts.length false 0, .fn 138 [] []] [.vec 18 (qq ts)] (fun v H' => v = .tup [] ∧ H' = [.vec 18 (qq (X4 ts))]) := by
  obtain ⟨d, rfl⟩ : ∃ d : List Gm, ts = d.map Subtype.val := ⟨ts.attach.map fun x => ⟨x.1, hok x.1 x.2⟩, by rw [List.map_map]; exact (List.attach_map_subtype_val ts).symm⟩
  have e : ∀ d : List Gm, qq (d.map Subtype.val) = d.flatMap fun x => trm x.1 := fun d => by simp [qq, List.flatMap_map]
  have := quy qym 18 (by decide) Try.isAgg64 Try.sizeOf64 (fun x : Gm => trm x.1) (fun x => zx x.2.1) (fun x a ha => ?_) (fun x => v7 _) (fun x y => qt9 x.1 y.1) swo
    ⟨Try.f137, Try.func137, by kernel_rfl, by kernel_rfl⟩ 138 ⟨Try.f138, Try.func138, by kernel_rfl, by kernel_rfl⟩
    (fun x y => qvc x.1 y.1 x.2.1 y.2.1 x.2.2 y.2.2) d (by simp at hl; omega)
  · rw [List.length_map, e]
    refine this.mono ?_
    rintro v H' ⟨rfl, d', hp, hs, rfl⟩
    refine ⟨rfl, ?_⟩
    rw [← e d', qkx (hp.map _) ?_ hap]
    exact List.pairwise_map.2 (hs.imp fun {a b} h => by rw [qhl] at h; exact h)
  · simp only [trm, dia, List.cons_append, List.mem_cons, List.mem_append, List.not_mem_nil, or_false] at ha
    rcases ha with rfl | ha | rfl
    · rfl
    · unfold u8s at ha
      obtain ⟨y, _, rfl⟩ := List.mem_map.1 ha
      rfl
    · rfl
end Go.Proofs.Ytkgoadglalpbfaa

/- Contracts: comparing and sorting terms. -/
import Derived.Test.YtkgoadglalpbfaaAmC
import Derived.Shelf.Small.Strs
import Derived.Test.YtkgoadglalpbfaaF4
namespace Go.Proofs.Ytkgoadglalpbfaa
open Go.Am Go.Dia
set_option linter.unusedSimpArgs false
set_option linter.unusedVariables false
set_option maxRecDepth 4000
set_option maxHeartbeats 1000000

def layC_ren : Go.Shelf.Ren := ⟨fun | 106 => 139 | 213 => 154 | 265 => 166 | n => n, fun | 9 => 9 | 3 => 3 | n => n, fun | n => n⟩
theorem layC : Go.Proofs.Lays.n106 Try.prog layC_ren where
  mixed := by kernel_rfl
  f106 := Try.func139.trans (congrArg some (by kernel_rfl))
  f213 := Try.func154.trans (congrArg some (by kernel_rfl))
  f265 := Try.func166.trans (congrArg some (by kernel_rfl))
  t3 := Try.underlying3
  a3 := Try.isAgg3
  z3 := Try.sizeOf3
  v3 := Try.zeroValue3
  t9 := Try.underlying9
  a9 := Try.isAgg9
  z9 := Try.sizeOf9
  v9 := Try.zeroValue9
def layS_ren : Go.Shelf.Ren := ⟨fun | 6 => 137 | 15 => 153 | 14 => 152 | 28 => 164 | 29 => 165 | 20 => 156 | 21 => 157 | 22 => 158 | 23 => 159 | 24 => 160 | 25 => 161 | 26 => 162 | 27 => 163 | 46 => 167 | 47 => 168 | 48 => 169 | 49 => 170 | 50 => 171 | 57 => 172 | n => n, fun | 22 => 29 | 24 => 64 | 25 => 132 | 3 => 3 | 39 => 147 | 0 => 0 | 53 => 162 | 55 => 96 | 4 => 4 | 46 => 155 | 45 => 154 | 50 => 159 | 5 => 5 | 9 => 9 | 66 => 164 | 70 => 168 | 76 => 170 | 77 => 171 | n => n, fun | n => n⟩
theorem layS : Go.Proofs.SlLaysF0.n6 Try.prog layS_ren where
  mixed := by kernel_rfl
  f6 := ⟨Try.f137.name, by kernel_rfl, Try.func137.trans (congrArg some (by kernel_rfl))⟩
  f14 := ⟨Try.f152.name, by kernel_rfl, Try.func152.trans (congrArg some (by kernel_rfl))⟩
  f15 := Try.func153.trans (congrArg some (by kernel_rfl))
  f20 := ⟨Try.f156.name, by kernel_rfl, Try.func156.trans (congrArg some (by kernel_rfl))⟩
  f21 := ⟨Try.f157.name, by kernel_rfl, Try.func157.trans (congrArg some (by kernel_rfl))⟩
  f22 := ⟨Try.f158.name, by kernel_rfl, Try.func158.trans (congrArg some (by kernel_rfl))⟩
  f23 := ⟨Try.f159.name, by kernel_rfl, Try.func159.trans (congrArg some (by kernel_rfl))⟩
  f24 := ⟨Try.f160.name, by kernel_rfl, Try.func160.trans (congrArg some (by kernel_rfl))⟩
  f25 := ⟨Try.f161.name, by kernel_rfl, Try.func161.trans (congrArg some (by kernel_rfl))⟩
  f26 := ⟨Try.f162.name, by kernel_rfl, Try.func162.trans (congrArg some (by kernel_rfl))⟩
  f27 := ⟨Try.f163.name, by kernel_rfl, Try.func163.trans (congrArg some (by kernel_rfl))⟩
  f28 := Try.func164.trans (congrArg some (by kernel_rfl))
  f29 := Try.func165.trans (congrArg some (by kernel_rfl))
  f46 := ⟨Try.f167.name, by kernel_rfl, Try.func167.trans (congrArg some (by kernel_rfl))⟩
  f47 := Try.func168.trans (congrArg some (by kernel_rfl))
  f48 := Try.func169.trans (congrArg some (by kernel_rfl))
  f49 := ⟨Try.f170.name, by kernel_rfl, Try.func170.trans (congrArg some (by kernel_rfl))⟩
  f50 := ⟨Try.f171.name, by kernel_rfl, Try.func171.trans (congrArg some (by kernel_rfl))⟩
  f57 := ⟨Try.f172.name, by kernel_rfl, Try.func172.trans (congrArg some (by kernel_rfl))⟩
  t0 := Try.underlying0
  a0 := Try.isAgg0
  z0 := Try.sizeOf0
  v0 := Try.zeroValue0
  t3 := Try.underlying3
  a3 := Try.isAgg3
  z3 := Try.sizeOf3
  v3 := Try.zeroValue3
  t4 := Try.underlying4
  a4 := Try.isAgg4
  z4 := Try.sizeOf4
  v4 := Try.zeroValue4
  t5 := Try.underlying5
  a5 := Try.isAgg5
  z5 := Try.sizeOf5
  v5 := Try.zeroValue5
  t9 := Try.underlying9
  a9 := Try.isAgg9
  z9 := Try.sizeOf9
  v9 := Try.zeroValue9
  t22 := Try.underlying29
  a22 := Try.isAgg29
  z22 := Try.sizeOf29
  v22 := Try.zeroValue29
  t25 := Try.underlying132
  a25 := Try.isAgg132
  z25 := Try.sizeOf132
  v25 := Try.zeroValue132
  t39 := Try.underlying147
  a39 := Try.isAgg147
  z39 := Try.sizeOf147
  v39 := Try.zeroValue147
  t45 := Try.underlying154
  a45 := Try.isAgg154
  z45 := Try.sizeOf154
  v45 := Try.zeroValue154
  t46 := Try.underlying155
  a46 := Try.isAgg155
  z46 := Try.sizeOf155
  v46 := Try.zeroValue155
  t50 := Try.underlying159
  a50 := Try.isAgg159
  z50 := Try.sizeOf159
  v50 := Try.zeroValue159
  t53 := Try.underlying162
  a53 := Try.isAgg162
  z53 := Try.sizeOf162
  v53 := Try.zeroValue162
  t55 := Try.underlying96
  a55 := Try.isAgg96
  z55 := Try.sizeOf96
  v55 := Try.zeroValue96
  t66 := Try.underlying164
  a66 := Try.isAgg164
  z66 := Try.sizeOf164
  v66 := Try.zeroValue164
  t70 := Try.underlying168
  a70 := Try.isAgg168
  z70 := Try.sizeOf168
  v70 := Try.zeroValue168
  t76 := Try.underlying170
  a76 := Try.isAgg170
  z76 := Try.sizeOf170
  v76 := Try.zeroValue170
  t77 := Try.underlying171
  a77 := Try.isAgg171
  z77 := Try.sizeOf171
  v77 := Try.zeroValue171

def g_compare : List AV → Option AV
  | [.str a, .str b] => some (.int .i64 (Go.Lib.compareBytes a b))
  | _ => none
theorem c_compare (a b : List UInt8) : Am.Fn Try.prog 139 [.str a, .str b] [] (fun v H' => v = .int .i64 (Go.Lib.compareBytes a b) ∧ H' = []) :=
  fn_of_calls ⟨Try.f139, Try.func139, by kernel_rfl, by kernel_rfl⟩ rfl rfl fun w => Go.Proofs.Any.strings_Compare layC ⟨a.toArray⟩ ⟨b.toArray⟩ w
theorem k_compare : Am.Callee Try.prog 139 (plainE g_compare) := Am.Callee.plain fun xs v he => by
  unfold g_compare at he
  split at he
  · cases he; exact ⟨rfl, rfl, c_compare _ _⟩
  · cases he
def B26 : Book := (B24.put 139 (plainE g_compare))

theorem B26_ok : BookOk Try.prog B26 := (B24_ok.put (k_compare))

theorem B26_i_Diagram_text_F6 : B26 100 = some (readE 17 g_text) := rfl
theorem B26_st_Compare_F6 : B26 139 = some (plainE g_compare) := rfl



def a_i_Element_with_1 : AC := .seq (.region [⟨some 2, none, .op (.box (.t 0))⟩,
     ⟨some 3, none, .op (.box (.t 1))⟩,
     ⟨some 4, none, .op (.mov (.c (.int .i64 0)))⟩]) (.seq (.region [⟨some 5, none, .op (.faddr 0 (.t 2))⟩,
     ⟨some 6, none, .call (.c (.fn 100 [] [])) [(.t 5)]⟩,
     ⟨some 7, none, .op (.faddr 0 (.t 3))⟩,
     ⟨some 8, none, .call (.c (.fn 100 [] [])) [(.t 7)]⟩,
     ⟨some 9, none, .call (.c (.fn 139 [] [])) [(.t 6), (.t 8)]⟩,
     ⟨some 4, none, .op (.mov (.t 9))⟩]) .ret)
theorem r_i_Element_with_1 : readF Try.prog 138 = some ⟨10, a_i_Element_with_1, [.slot 4]⟩ := by kernel_rfl

def txt (t : Int × List Nat × Int) : List UInt8 := textOf t.1.toNat t.2.1
def cmpT (t u : Int × List Nat × Int) : Int := Go.Lib.compareBytes (txt t) (txt u)
theorem c_with1 (t u : Int × List Nat × Int) (ht : okD t.2.1) (hu : okD u.2.1) (h1 : 0 ≤ t.1 ∧ t.1 ≤ 8) (h2 : 0 ≤ u.1 ∧ u.1 ≤ 8) :
    Am.Fn Try.prog 138 [.agg (trm t), .agg (trm u)] [] (fun v H' => v = .int .i64 (cmpT t u) ∧ H' = []) := by
  refine Am.Fn.sameB (R := fun v => v = _) B26_ok mixed r_i_Element_with_1 (by simp) (by simp) ?_
  simp (maxSteps := 3000000) only [a_i_Element_with_1, B26_i_Diagram_text_F6, B26_st_Compare_F6, g_compare, g_text, trm_dia ht, trm_dia hu, trm_length ht, trm_length hu, diaOf_dia ht, diaOf_dia hu, h1, h2, rd, List.getElem?_cons_zero, List.getElem?_cons_succ, idX_eq, wbE, ↓symP, symE, listE, AK.isCall, enumE, ev, putE, abin, aun, AV.cells, ↓reduceIte, reduceCtorEq, Nat.reduceAdd, Nat.reduceMul, Nat.reduceSub, Nat.reduceEqDiff, Nat.reduceLT, Nat.reduceLeDiff, implies_true, Back, retv, retV, AV.scal, AV.scals]; try simp only [idX_eq, ite_both, pickP_both, not_not_eq, Bool.not_eq_false, Bool.not_eq_true]
  rfl

theorem cmpB_lt : ∀ (a b : List UInt8), (Go.Lib.compareBytes a b < 0) ↔ Op.bytesLess a b = true
  | [], [] => by simp [Go.Lib.compareBytes, Op.bytesLess]
  | [], b :: y => by simp [Go.Lib.compareBytes, Op.bytesLess]
  | a :: x, [] => by simp [Go.Lib.compareBytes, Op.bytesLess]
  | a :: x, b :: y => by
    simp only [Go.Lib.compareBytes, Op.bytesLess, Bool.or_eq_true, Bool.and_eq_true, decide_eq_true_eq, beq_iff_eq]
    by_cases h : a < b
    · simp [h]
    · by_cases h2 : b < a
      · have : a ≠ b := fun e => by subst e; exact UInt8.lt_irrefl _ h2
        simp [h, h2, this]
      · have : a = b := UInt8.le_antisymm (UInt8.not_lt.1 h2) (UInt8.not_lt.1 h)
        subst this
        simp only [h, if_false, false_or, true_and]
        exact cmpB_lt x y
theorem lessB_irrefl : ∀ (a : List UInt8), Op.bytesLess a a = false
  | [] => rfl
  | a :: x => by simp [Op.bytesLess, lessB_irrefl x]
theorem lessB_trans : ∀ (a b c : List UInt8), Op.bytesLess a b = true → Op.bytesLess b c = true → Op.bytesLess a c = true
  | _, _, [], _, h => by cases ‹List UInt8› <;> simp [Op.bytesLess] at h
  | [], _, c :: z, h, _ => by simp [Op.bytesLess]
  | a :: x, [], c :: z, h, _ => by simp [Op.bytesLess] at h
  | a :: x, b :: y, c :: z, h, h' => by
    simp only [Op.bytesLess, Bool.or_eq_true, Bool.and_eq_true, decide_eq_true_eq, beq_iff_eq] at h h' ⊢
    rcases h with h | ⟨rfl, h⟩
    · rcases h' with h' | ⟨rfl, h'⟩
      · exact .inl (UInt8.lt_trans h h')
      · exact .inl h
    · rcases h' with h' | ⟨rfl, h'⟩
      · exact .inl h'
      · exact .inr ⟨rfl, lessB_trans x y z h h'⟩
theorem lessB_total : ∀ (a b : List UInt8), Op.bytesLess a b = false → Op.bytesLess b a = false → a = b
  | [], [], _, _ => rfl
  | [], b :: y, h, _ => by simp [Op.bytesLess] at h
  | a :: x, [], _, h => by simp [Op.bytesLess] at h
  | a :: x, b :: y, h, h' => by
    simp only [Op.bytesLess, Bool.or_eq_false_iff, Bool.and_eq_false_iff, decide_eq_false_iff_not, beq_eq_false_iff_ne] at h h'
    have e : a = b := UInt8.le_antisymm (UInt8.not_lt.1 h'.1) (UInt8.not_lt.1 h.1)
    subst e
    rw [lessB_total x y (by simpa using h.2) (by simpa using h'.2)]
theorem lessB_asymm (a b : List UInt8) (h : Op.bytesLess a b = true) : Op.bytesLess b a = false := by
  cases hb : Op.bytesLess b a with
  | false => rfl
  | true => have := lessB_trans a b a h hb; rw [lessB_irrefl] at this; cases this

def ltT (t u : Int × List Nat × Int) : Bool := Op.bytesLess (txt t) (txt u)
abbrev TermOk := {t : Int × List Nat × Int // okD t.2.1 ∧ 0 ≤ t.1 ∧ t.1 ≤ 8}
instance : Inhabited TermOk := ⟨⟨(0, List.replicate 16 0, 0), ⟨by simp, by intro x hx; simp at hx; omega⟩, by decide, by decide⟩⟩
theorem lt_cmp (x y : TermOk) : Go.Proofs.ltOf (fun x y : TermOk => cmpT x.1 y.1) x y = ltT x.1 y.1 := by
  unfold Go.Proofs.ltOf cmpT ltT
  have := cmpB_lt (txt x.1) (txt y.1)
  cases h : Op.bytesLess (txt x.1) (txt y.1) with
  | true => exact decide_eq_true (this.2 h)
  | false => exact decide_eq_false (fun h2 => by rw [this.1 h2] at h; cases h)
theorem swo : Go.Sort.SWO (Go.Proofs.ltOf (fun x y : TermOk => cmpT x.1 y.1)) where
  irrefl x := by rw [lt_cmp]; exact lessB_irrefl _
  trans x y z h h' := by rw [lt_cmp] at *; exact lessB_trans _ _ _ h h'
  ntrans x y z h h' := by
    rw [lt_cmp] at *
    cases hc : ltT x.1 z.1 with
    | false => rfl
    | true =>
      exfalso
      -- y lies neither ahead of z nor behind x
      by_cases e : txt x.1 = txt y.1
      · unfold ltT at *; rw [e] at hc; rw [hc] at h'; cases h'
      · have h1 : ltT y.1 x.1 = true := by
          cases hb : ltT y.1 x.1 with
          | true => rfl
          | false => exact absurd (lessB_total _ _ h hb) e
        have := lessB_trans _ _ _ h1 hc
        unfold ltT at h'; rw [this] at h'; cases h'

/-- Terms in order. -/
def insT (t : Int × List Nat × Int) : List (Int × List Nat × Int) → List (Int × List Nat × Int)
  | [] => [t]
  | u :: l => if ltT t u then t :: u :: l else u :: insT t l
def sortT : List (Int × List Nat × Int) → List (Int × List Nat × Int)
  | [] => []
  | t :: l => insT t (sortT l)
theorem insT_perm (t : Int × List Nat × Int) : ∀ l, (insT t l).Perm (t :: l)
  | [] => .refl _
  | u :: l => by
    unfold insT; split
    · exact .refl _
    · exact ((insT_perm t l).cons u).trans (.swap t u l)
theorem sortT_perm : ∀ l, (sortT l).Perm l
  | [] => .refl _
  | t :: l => (insT_perm t _).trans ((sortT_perm l).cons t)
/-- The texts part. -/
def apartT (l : List (Int × List Nat × Int)) : Prop := (l.map txt).Nodup
def upT (l : List (Int × List Nat × Int)) : Prop := l.Pairwise fun a b => ltT a b = true
theorem insT_up {t : Int × List Nat × Int} : ∀ {l}, upT l → (∀ u ∈ l, txt t ≠ txt u) → upT (insT t l)
  | [], _, _ => by simp [insT, upT]
  | u :: l, h, hn => by
    unfold insT
    have h' := List.pairwise_cons.1 h
    split
    · rename_i hlt
      exact List.pairwise_cons.2 ⟨fun a ha => by
        rcases List.mem_cons.1 ha with rfl | ha
        · exact hlt
        · exact lessB_trans _ _ _ hlt (h'.1 a ha), h⟩
    · rename_i hlt
      refine List.pairwise_cons.2 ⟨fun a ha => ?_, insT_up h'.2 fun v hv => hn v (List.mem_cons_of_mem _ hv)⟩
      have hm := (insT_perm t l).mem_iff.1 ha
      rcases List.mem_cons.1 hm with rfl | hm
      · cases hb : ltT u a with
        | true => rfl
        | false => exact absurd (lessB_total _ _ (Bool.eq_false_iff.2 hlt) hb) (hn u (List.mem_cons_self ..))
      · exact h'.1 a hm
theorem sortT_up : ∀ {l}, apartT l → upT (sortT l)
  | [], _ => .nil
  | t :: l, h => by
    have h' := List.nodup_cons.1 h
    refine insT_up (sortT_up h'.2) fun u hu e => h'.1 ?_
    rw [e]
    exact List.mem_map.2 ⟨u, (sortT_perm l).mem_iff.1 hu, rfl⟩
theorem up_unique : ∀ {a b : List (Int × List Nat × Int)}, upT a → upT b → a.Perm b → a = b
  | [], b, _, _, hp => by rw [List.nil_perm.1 hp]
  | x :: a, [], _, _, hp => by have := hp.length_eq; simp at this
  | x :: a, y :: b, ha, hb, hp => by
    have ha' := List.pairwise_cons.1 ha
    have hb' := List.pairwise_cons.1 hb
    have e : x = y := by
      have h1 : x ∈ y :: b := hp.mem_iff.1 (List.mem_cons_self ..)
      have h2 : y ∈ x :: a := hp.mem_iff.2 (List.mem_cons_self ..)
      rcases List.mem_cons.1 h1 with h | h
      · exact h
      · rcases List.mem_cons.1 h2 with h' | h'
        · exact h'.symm
        · have c1 := hb'.1 x h
          have c2 := ha'.1 y h'
          have := lessB_asymm _ _ c1
          unfold ltT at c2; rw [this] at c2; cases c2
    subst e
    rw [up_unique ha'.2 hb'.2 ((List.perm_cons x).1 hp)]
theorem up_sortT {a l : List (Int × List Nat × Int)} (hp : a.Perm l) (hs : a.Pairwise fun x y => ltT y x = false) (hl : apartT l) : a = sortT l := by
  have hn : (a.map txt).Nodup := (hp.map txt).nodup_iff.2 hl
  refine up_unique ?_ (sortT_up hl) (hp.trans (sortT_perm l).symm)
  unfold upT
  rw [List.pairwise_iff_getElem] at hs ⊢
  intro i j hi hj hij
  cases hb : ltT a[i] a[j] with
  | true => rfl
  | false =>
    have e := lessB_total _ _ hb (hs i j hi hj hij)
    have := (List.pairwise_iff_getElem.1 hn) i j (by simpa using hi) (by simpa using hj) hij
    simp only [List.getElem_map] at this
    exact absurd e this

theorem c_sort (ts : List (Int × List Nat × Int)) (hl : ts.length ≤ 1000000000) (hok : ∀ t ∈ ts, okD t.2.1 ∧ 0 ≤ t.1 ∧ t.1 ≤ 8) (hap : apartT ts) :
    Am.Fn Try.prog 137 [.slc 0 0 ts.length false 0, .fn 138 [] []] [.vec 18 (trms ts)] (fun v H' => v = .tup [] ∧ H' = [.vec 18 (trms (sortT ts))]) := by
  obtain ⟨d, rfl⟩ : ∃ d : List TermOk, ts = d.map Subtype.val := ⟨ts.attach.map fun x => ⟨x.1, hok x.1 x.2⟩, by rw [List.map_map]; exact (List.attach_map_subtype_val ts).symm⟩
  have e : ∀ d : List TermOk, trms (d.map Subtype.val) = d.flatMap fun x => trm x.1 := fun d => by simp [trms, List.flatMap_map]
  have := sort_fn layS 18 (by decide) Try.isAgg64 Try.sizeOf64 (fun x : TermOk => trm x.1) (fun x => trm_length x.2.1) (fun x a ha => ?_) (fun x => scals_trm _) (fun x y => cmpT x.1 y.1) swo
    ⟨Try.f137, Try.func137, by kernel_rfl, by kernel_rfl⟩ 138 ⟨Try.f138, Try.func138, by kernel_rfl, by kernel_rfl⟩
    (fun x y => c_with1 x.1 y.1 x.2.1 y.2.1 x.2.2 y.2.2) d (by simp at hl; omega)
  · rw [List.length_map, e]
    refine this.mono ?_
    rintro v H' ⟨rfl, d', hp, hs, rfl⟩
    refine ⟨rfl, ?_⟩
    rw [← e d', up_sortT (hp.map _) ?_ hap]
    exact List.pairwise_map.2 (hs.imp fun {a b} h => by rw [lt_cmp] at h; exact h)
  · simp only [trm, dia, List.cons_append, List.mem_cons, List.mem_append, List.not_mem_nil, or_false] at ha
    rcases ha with rfl | ha | rfl
    · rfl
    · unfold u8s at ha
      obtain ⟨y, _, rfl⟩ := List.mem_map.1 ha
      rfl
    · rfl
end Go.Proofs.Ytkgoadglalpbfaa

/- Contracts: the program's sum of elements. -/
import Derived.Test.YtkgoadglalpbfaaG7
namespace Go.Proofs.Ytkgoadglalpbfaa
open Go.Am Go.Dia
set_option linter.unusedSimpArgs false
set_option linter.unusedVariables false
set_option maxRecDepth 4000
set_option maxHeartbeats 1000000

theorem wbTT_alt (P : Program) (B : Book) (cf : Bool) (K : St → Prop) (s : St) (a : AI) (t r : AT) : wbTT P B cf (.alt a t r) K s = (wbOne P B cf a (wbTT P B cf t K) s ∧ wbTT P B cf r K s) := nrX rfl
theorem wbTT_no (P : Program) (B : Book) (cf : Bool) (K : St → Prop) (s : St) : wbTT P B cf .none K s = True := nrX rfl
theorem mod_set {α : Type} {f : α → α} : ∀ {l : List α} {j : Nat} {a : α}, l[j]? = some a → l.modify j f = l.set j (f a)
  | [], j, a, h => by simp at h
  | x :: l, 0, a, h => by simp only [List.getElem?_cons_zero, Option.some.injEq] at h; subst h; rfl
  | x :: l, j + 1, a, h => by
    simp only [List.getElem?_cons_succ] at h
    simp only [List.modify_succ_cons, List.set_cons_succ, mod_set h]
/-- What a sum's map does at a diagram that it has not. -/
theorem mapF_none {n : Int} {m : List Nat} {S : List (Int × List Nat × Int)} (hmo : okD m) (ho : okT S) (h : idxT n m S = none) :
    findK KD true (.agg (dia n m)) (esT 0 S) 0 = some none ∧
    findK KD true (.agg (dia n m)) (esT 0 S ++ [(⟨.agg (dia n m), .int .i64 0, S.length⟩ : AE)]) 0 = some (some (S.length, ⟨.agg (dia n m), .int .i64 0, S.length⟩)) ∧
    (esT 0 S ++ [(⟨.agg (dia n m), .int .i64 0, S.length⟩ : AE)]).findIdx? (fun x => (x.born : Int) == (S.length : Int)) = some S.length ∧
    (∀ v, (esT 0 S ++ [(⟨.agg (dia n m), .int .i64 0, S.length⟩ : AE)]).modify S.length (fun x => ⟨x.key, .int .i64 v, x.born⟩) = esT 0 (addT n m v S)) ∧ (∀ v, (addT n m v S).length = S.length + 1) := by
  have h2 := idxT_none h
  have e0 : ∀ v : Int, esT 0 S ++ [(⟨.agg (dia n m), .int .i64 v, S.length⟩ : AE)] = esT 0 (S ++ [(n, m, v)]) := fun v => by
    rw [esT_app]; simp [esT]
  have hm := hmo.1
  have hidx : ∀ (l : List (Int × List Nat × Int)), idxT n m l = none → idxT n m (l ++ [(n, m, 0)]) = some l.length := fun l => by
    induction l with
    | nil => intro _; simp [idxT]
    | cons t l ih =>
      intro h
      unfold idxT at h
      split at h
      · cases h
      · rename_i hne
        have h3 : idxT n m l = none := by
          cases hi : idxT n m l with
          | none => rfl
          | some i => rw [hi] at h; cases h
        simp only [List.cons_append, idxT, if_neg hne, ih h3, Option.map_some, List.length_cons]
  refine ⟨by rw [findK_es hm ho, h]; rfl, ?_, ?_, fun v => ?_, fun v => ?_⟩
  · rw [e0, findK_es hm (fun t ht => by
      rcases List.mem_append.1 ht with ht | ht
      · exact ho t ht
      · rw [List.mem_singleton.1 ht]; exact hmo), hidx S h]
    simp
  · rw [e0]
    have := esT_born (ts := S ++ [(n, m, 0)]) (k := 0) (j := S.length) (by simp)
    rwa [Nat.zero_add] at this
  · rw [e0, esT_mod, h2.1, mod_set (a := (n, m, 0)) (by simp)]
    simp
  · rw [h2.1]; simp
/-- What a sum's map does at a diagram that it has. -/
theorem mapF_some {n : Int} {m : List Nat} {S : List (Int × List Nat × Int)} {j : Nat} (hm : m.length = 16) (ho : okT S) (h : idxT n m S = some j) :
    findK KD true (.agg (dia n m)) (esT 0 S) 0 = some (some (j, ⟨.agg (dia n m), .int .i64 (S.getD j zT).2.2, j⟩)) ∧
    (esT 0 S).set j ⟨.agg (dia n m), .int .i64 (S.getD j zT).2.2, j⟩ = esT 0 S ∧
    (esT 0 S).findIdx? (fun x => (x.born : Int) == (j : Int)) = some j ∧
    (∀ f, (esT 0 S).modify j (fun x => ⟨x.key, .int .i64 ((S.getD j zT).2.2 + f), x.born⟩) = esT 0 (addT n m f S)) ∧ (∀ f, (addT n m f S).length = S.length) := by
  obtain ⟨h1, h2, h3, h4⟩ := idxT_lt h
  refine ⟨by rw [findK_es hm ho, h]; simp, ?_, ?_, fun f => ?_, fun f => by rw [h4]; simp⟩
  · have := esT_set (n := n) (v := (S.getD j zT).2.2) (m := m) (ts := S) (k := 0) (j := j)
    rw [Nat.zero_add] at this
    rw [this]
    congr 1
    have e : (n, m, (S.getD j zT).2.2) = S.getD j zT := by rw [← h2, ← h3]
    rw [e, getD_at h1, List.set_getElem_self]
  · have := esT_born (ts := S) (k := 0) h1
    rwa [Nat.zero_add] at this
  · rw [esT_mod, h4]
    rw [mod_set (List.getElem?_eq_getElem h1), ← getD_at h1, h2, h3]

theorem plusL_sum {n F k : Int} (hF : 0 ≤ F) : ∀ {b acc : List (Int × List Nat × Int)} {M : Int}, 0 ≤ M → SumT n M acc → (∀ t ∈ b, okD t.2.1 ∧ t.1 = n ∧ isS n.toNat t.2.1 = true ∧ -F ≤ k * t.2.2 ∧ k * t.2.2 ≤ F) → SumT n (M + F * b.length) (plusL k acc b)
  | [], acc, M, hM, h, _ => by simpa [plusL] using h
  | t :: b, acc, M, hM, h, hb => by
    obtain ⟨h1, h2, h3, h4⟩ := hb t (List.mem_cons_self ..)
    have h5 := addT_sum h1 h3 h4 hM h
    have := plusL_sum hF (b := b) (by omega) h5 fun u hu => hb u (List.mem_cons_of_mem _ hu)
    rw [← h2] at this ⊢
    rw [List.length_cons, show M + F * ((b.length + 1 : Nat) : Int) = M + F + F * b.length by rw [Int.natCast_add, Int.mul_add]; omega]
    exact this
theorem plusL_len {k : Int} : ∀ {b acc : List (Int × List Nat × Int)}, (plusL k acc b).length ≤ acc.length + b.length
  | [], acc => by simp [plusL]
  | t :: b, acc => by
    have h1 := addT_len (n := t.1) (m := t.2.1) (f := k * t.2.2) (ts := acc)
    have h2 := plusL_len (k := k) (b := b) (acc := addT t.1 t.2.1 (k * t.2.2) acc)
    have h3 : plusL k acc (t :: b) = plusL k (addT t.1 t.2.1 (k * t.2.2) acc) b := rfl
    rw [h3, List.length_cons]; omega
theorem sum_nil {n : Int} : SumT n 0 [] := ⟨(fun t h => by cases h), (fun t h => by cases h), (fun t h => by cases h), .nil⟩
theorem sum_apart {n M : Int} {S : List (Int × List Nat × Int)} (h : SumT n M S) : (S.map txt).Nodup := by
  unfold List.Nodup
  rw [List.pairwise_map]
  refine List.Pairwise.imp_of_mem ?_ h.one
  intro a b ha hb hne e
  unfold txt at e
  have h1 := h.dia a ha
  have h2 := h.dia b hb
  rw [h1.1, h2.1] at e
  exact hne (text_inj h1.2 h2.2 (h.ok a ha).1 (h.ok b hb).1 e).2
theorem sum_sz {n M p : Int} {S : List (Int × List Nat × Int)} (hn : 0 ≤ n ∧ n ≤ 8) (h : SumT n M S) : (0 ≤ szOf S ∧ szOf S ≤ 8) ∧ (∀ t ∈ S, t.1 = szOf S) ∧ (if restT p S = [] then n else szOf S) = n := by
  match S, h with
  | [], h => exact ⟨by simp [szOf], by simp, by simp [restT]⟩
  | t :: l, h =>
    have e : szOf (t :: l) = n := (h.dia t (List.mem_cons_self ..)).1
    rw [e]
    exact ⟨hn, fun u hu => (h.dia u hu).1, by split <;> rfl⟩
theorem B37_i_Element_with_G8 : B37 113 = some (g_with) := rfl
def a_i_plus_t1 : AT := (.one ⟨some 20, none, .op (.mov (.t 7))⟩
         (.one ⟨some 21, none, .op (.faddr 0 (.t 9))⟩
         (.one ⟨some 22, none, .op (.loadN 17 (.t 21))⟩
         (.one ⟨some 24, none, .op (.faddr 17 (.t 9))⟩
         (.one ⟨some 25, none, .op (.load1 (.t 24))⟩
         (.alt ⟨some 23, none, .op (.lookup [.int, .int, .int, .int, .int, .int, .int, .int, .int, .int, .int, .int, .int, .int, .int, .int, .int] true (.int .i64 0) false (.t 20) (.t 22))⟩
         (.one ⟨some 26, none, .op (.bin .add (.t 23) (.t 25))⟩
          (.one ⟨some 27, none, .op (.mapent [.int, .int, .int, .int, .int, .int, .int, .int, .int, .int, .int, .int, .int, .int, .int, .int, .int] true (.int .i64 0) (.t 20) (.t 22))⟩
          (.one ⟨some 28, none, .op (.ext 1 (.t 27))⟩
          (.one ⟨none, none, .op (.entst (.t 20) (.t 28) (.t 26))⟩
          (.nil)))))
         (.alt ⟨some 27, none, .op (.mapent [.int, .int, .int, .int, .int, .int, .int, .int, .int, .int, .int, .int, .int, .int, .int, .int, .int] true (.int .i64 0) (.t 20) (.t 22))⟩
         (.one ⟨some 23, none, .op (.lookup [.int, .int, .int, .int, .int, .int, .int, .int, .int, .int, .int, .int, .int, .int, .int, .int, .int] true (.int .i64 0) false (.t 20) (.t 22))⟩
          (.one ⟨some 26, none, .op (.bin .add (.t 23) (.t 25))⟩
          (.one ⟨some 28, none, .op (.ext 1 (.t 27))⟩
          (.one ⟨none, none, .op (.entst (.t 20) (.t 28) (.t 26))⟩
          (.nil)))))
         (.none))))))))
def a_i_plus_k1 : AC := .region [⟨some 29, none, .op (.bin .add (.t 16) (.c (.int .i64 1)))⟩,
       ⟨some 16, none, .op (.mov (.t 29))⟩]
def a_i_plus_l1 : AC := .seq (.region [⟨some 17, none, .op (.bin .lss (.t 16) (.t 15))⟩]) (.seq (.cond 17 .skip (.exit 0)) (.seq (.block 1 (.seq (.region [⟨some 18, none, .op (.iaddrS 18 (.t 14) (.t 16))⟩,
          ⟨some 19, none, .op (.loadN 18 (.t 18))⟩,
          ⟨some 9, none, .op (.alloc [(.int .i64 0), (.int .u8 0), (.int .u8 0), (.int .u8 0), (.int .u8 0), (.int .u8 0), (.int .u8 0), (.int .u8 0), (.int .u8 0), (.int .u8 0), (.int .u8 0), (.int .u8 0), (.int .u8 0), (.int .u8 0), (.int .u8 0), (.int .u8 0), (.int .u8 0), (.int .i64 0)])⟩,
          ⟨none, none, .op (.storeN 18 (.t 9) (.t 19))⟩]) (.tree false a_i_plus_t1))) a_i_plus_k1))
def a_i_plus_t2 : AT := (.one ⟨some 37, none, .op (.mov (.t 7))⟩
         (.one ⟨some 38, none, .op (.faddr 0 (.t 11))⟩
         (.one ⟨some 39, none, .op (.loadN 17 (.t 38))⟩
         (.one ⟨some 41, none, .op (.mov (.t 2))⟩
         (.one ⟨some 42, none, .op (.faddr 17 (.t 11))⟩
         (.one ⟨some 43, none, .op (.load1 (.t 42))⟩
         (.one ⟨some 44, none, .op (.bin .mul (.t 41) (.t 43))⟩
         (.alt ⟨some 40, none, .op (.lookup [.int, .int, .int, .int, .int, .int, .int, .int, .int, .int, .int, .int, .int, .int, .int, .int, .int] true (.int .i64 0) false (.t 37) (.t 39))⟩
         (.one ⟨some 45, none, .op (.bin .add (.t 40) (.t 44))⟩
          (.one ⟨some 46, none, .op (.mapent [.int, .int, .int, .int, .int, .int, .int, .int, .int, .int, .int, .int, .int, .int, .int, .int, .int] true (.int .i64 0) (.t 37) (.t 39))⟩
          (.one ⟨some 47, none, .op (.ext 1 (.t 46))⟩
          (.one ⟨none, none, .op (.entst (.t 37) (.t 47) (.t 45))⟩
          (.nil)))))
         (.alt ⟨some 46, none, .op (.mapent [.int, .int, .int, .int, .int, .int, .int, .int, .int, .int, .int, .int, .int, .int, .int, .int, .int] true (.int .i64 0) (.t 37) (.t 39))⟩
         (.one ⟨some 40, none, .op (.lookup [.int, .int, .int, .int, .int, .int, .int, .int, .int, .int, .int, .int, .int, .int, .int, .int, .int] true (.int .i64 0) false (.t 37) (.t 39))⟩
          (.one ⟨some 45, none, .op (.bin .add (.t 40) (.t 44))⟩
          (.one ⟨some 47, none, .op (.ext 1 (.t 46))⟩
          (.one ⟨none, none, .op (.entst (.t 37) (.t 47) (.t 45))⟩
          (.nil)))))
         (.none))))))))))
def a_i_plus_k2 : AC := .region [⟨some 48, none, .op (.bin .add (.t 33) (.c (.int .i64 1)))⟩,
       ⟨some 33, none, .op (.mov (.t 48))⟩]
def a_i_plus_l2 : AC := .seq (.region [⟨some 34, none, .op (.bin .lss (.t 33) (.t 32))⟩]) (.seq (.cond 34 .skip (.exit 2)) (.seq (.block 3 (.seq (.region [⟨some 35, none, .op (.iaddrS 18 (.t 31) (.t 33))⟩,
          ⟨some 36, none, .op (.loadN 18 (.t 35))⟩,
          ⟨some 11, none, .op (.alloc [(.int .i64 0), (.int .u8 0), (.int .u8 0), (.int .u8 0), (.int .u8 0), (.int .u8 0), (.int .u8 0), (.int .u8 0), (.int .u8 0), (.int .u8 0), (.int .u8 0), (.int .u8 0), (.int .u8 0), (.int .u8 0), (.int .u8 0), (.int .u8 0), (.int .u8 0), (.int .i64 0)])⟩,
          ⟨none, none, .op (.storeN 18 (.t 11) (.t 36))⟩]) (.tree false a_i_plus_t2))) a_i_plus_k2))
def a_i_plus_k3 : AC := .seq (.region [⟨some 49, none, .op (.mov (.t 7))⟩,
     ⟨some 50, none, .call (.c (.fn 113 [] [])) [(.t 3), (.t 49)]⟩,
     ⟨none, none, .op (.storeN 4 (.t 6) (.t 50))⟩]) .ret
def a_i_plus_k4 : AC := .seq (.seq (.region [⟨some 30, none, .op (.faddr 3 (.t 4))⟩,
      ⟨some 31, none, .op (.load1 (.t 30))⟩,
      ⟨some 32, none, .op (.len .slc (.t 31))⟩,
      ⟨some 33, none, .op (.mov (.c (.int .i64 0)))⟩]) (.block 2 (.loop a_i_plus_l2))) a_i_plus_k3
def a_i_plus : AC := .seq (.region [⟨some 3, none, .op (.box (.t 0))⟩,
     ⟨some 4, none, .op (.box (.t 1))⟩,
     ⟨some 6, none, .op (.alloc [(.int .i64 0), (.int .i64 0), (.int .i64 0), (.v (.slice none 0 0))])⟩]) (.seq (.region [⟨some 12, none, .op (.mkmap)⟩,
     ⟨some 7, none, .op (.mov (.t 12))⟩]) (.seq (.seq (.region [⟨some 13, none, .op (.faddr 3 (.t 3))⟩,
      ⟨some 14, none, .op (.load1 (.t 13))⟩,
      ⟨some 15, none, .op (.len .slc (.t 14))⟩,
      ⟨some 16, none, .op (.mov (.c (.int .i64 0)))⟩]) (.block 0 (.loop a_i_plus_l1))) a_i_plus_k4))
theorem r_i_plus : readF Try.prog 71 = some ⟨51, a_i_plus, [.cellN 6 4]⟩ := by kernel_rfl
theorem c_i_plus (p c n p' c' k : Int) (a b : List (Int × List Nat × Int)) (hp : 2 ≤ p ∧ p ≤ 97) (hn : 0 ≤ n ∧ n ≤ 8) (ha : GoodT p n a) (hb : GoodT p n b) (hl : a.length ≤ 100000 ∧ b.length ≤ 100000) (hk : -1000001 ≤ k ∧ k ≤ 1000001) :
    Am.Fn Try.prog 71 [elemV p c n 0 a.length, elemV p' c' n 1 b.length, .int .i64 k] [.ro (trms a), .ro (trms b)] (fun v H' => v = elemV p c n 2 (restT p (plusL k (plusL 1 [] a) b)).length ∧ H' = [.ro (trms a), .ro (trms b), .vec 18 (trms (sortT (restT p (plusL k (plusL 1 [] a) b))))]) := by
  refine Am.Fn.ofB B37_ok mixed r_i_plus (by simp [elemV, AV.unders, AV.under]) (ro_under2 (scals_trms _) (scals_trms _)) ?_
  have hal := trms_length ha.ok
  have hbl := trms_length hb.ok
  simp (maxSteps := 3000000) only [over4E, heapL, fillA, rd, wrt, wrl, AO.withl, a_i_plus, B37_i_Element_with_G8, g_with, elemV, hal, Nat.le_refl, Int.reduceEq, Int.reduceNe, Int.reduceBEq, Int.reduceBNe, Int.reduceLT, Int.reduceLE, Int.reduceAdd, Int.reduceSub, Int.reduceMul, idX_eq, wbE, ↓symP, symE, listE, AK.isCall, enumE, ev, putE, abin, aun, AV.cells, ↓reduceIte, reduceCtorEq, Nat.reduceAdd, Nat.reduceMul, Nat.reduceSub, Nat.reduceEqDiff, Nat.reduceLT, Nat.reduceLeDiff, implies_true, Back, retv, retV, AV.scal, AV.scals]; try simp only [idX_eq, ite_both, pickP_both, not_not_eq, Bool.not_eq_false, Bool.not_eq_true]
  have hsum1 : ∀ i : Nat, i ≤ a.length → SumT n (100 * i) (plusL 1 [] (a.take i)) ∧ (plusL 1 [] (a.take i)).length ≤ i := fun i hi => by
    have h1 := plusL_sum (n := n) (F := 100) (k := 1) (by omega) (b := a.take i) (acc := []) (M := 0) (by omega) sum_nil fun t ht => by
      have hm := List.mem_of_mem_take ht
      have h2 := ha.fac t hm
      exact ⟨ha.ok t hm, (ha.dia t hm).1, (ha.dia t hm).2, by omega, by omega⟩
    have h2 := plusL_len (k := 1) (acc := []) (b := a.take i)
    rw [List.length_take, Nat.min_eq_left hi] at h1 h2
    exact ⟨by simpa using h1, by simpa using h2⟩
  refine WA.loopB B37_ok (fun s => ∃ (i : Nat), i ≤ a.length ∧
      s = ⟨[(16, .int .i64 i), (15, .int .i64 a.length), (14, .slc 0 0 a.length false 0), (7, .map 5), (6, .ptr 4 0), (4, .ptr 3 0), (3, .ptr 2 0), (2, .int .i64 k)], [.ro (trms a), .ro (trms b), .cells [.int .i64 p, .int .i64 c, .int .i64 n, .slc 0 0 a.length false 0],
        .cells [.int .i64 p', .int .i64 c', .int .i64 n, .slc 1 0 b.length false 0], .cells [.int .i64 0, .int .i64 0, .int .i64 0, .v (.slice none 0 0)], mapT (plusL 1 [] (a.take i))]⟩)
    (fun s => match get s.env 16 with | .int _ x => a.length - x.toNat | _ => 0) ⟨_, Weak.slots [16, 15, 14, 7, 6, 4, 3, 2], 0, by omega, rfl⟩ ?_
  rintro s ⟨i, hi, rfl⟩
  obtain ⟨hS, hSl⟩ := hsum1 i hi
  by_cases hlt : i < a.length
  · have hli : (i : Int) < a.length := by omega
    have hli' : (0 : Int) ≤ i := by omega
    have hw : wrapK .i64 ((i : Int) + 1) = ((i + 1 : Nat) : Int) := by rw [wrap64 (by omega) (by omega)]; rfl
    have hd := trms_dia17 ha.ok hlt
    have hf := trms_fac ha.ok hlt
    have hg := trms_get ha.ok hlt
    have hok := ha.ok _ (List.getElem_mem hlt)
    have hsz := ha.dia _ (List.getElem_mem hlt)
    have hfc := ha.fac _ (List.getElem_mem hlt)
    have hb1 : i * 18 < a.length * 18 := by omega
    have hb2 : i * 18 + 18 ≤ a.length * 18 := by omega
    have hb3 : i * 18 + 17 < a.length * 18 := by omega
    have hn1 := plusL_succ (k := 1) (a := []) hlt
    obtain ⟨t, ht⟩ : ∃ t, t = a[i] := ⟨_, rfl⟩
    rw [← ht] at hd hf hg hok hsz hfc hn1
    clear ht
    obtain ⟨tn, m, f⟩ := t
    simp only at hd hf hg hok hsz hfc hn1
    obtain ⟨hsz1, hs⟩ := hsz
    have hsz1 := hsz1.symm
    subst hsz1
    have hov := over_trm (t := (0, List.replicate 16 0, 0)) (u := (n, m, f)) (by simp) hok.1
    have htl := trm_length (t := (n, m, f)) hok
    have htd := trm_dia' (t := (n, m, f)) hok
    have htf := trm_factor (t := (n, m, f)) hok
    simp (maxSteps := 3000000) only [over4E, heapL, fillA, rd, wrt, wrl, AO.withl, a_i_plus_l1, B37_i_Element_with_G8, g_with, hli, hli', hal, hb1, hb2, hb3, hw, hg, ones_trm, htl, trm_zero, trm_zero_len, hov, Int.reduceEq, Int.reduceNe, Int.reduceBEq, Int.reduceBNe, Int.reduceLT, Int.reduceLE, Int.reduceAdd, Int.reduceSub, Int.reduceMul, idX_eq, wbE, ↓symP, symE, listE, AK.isCall, enumE, ev, putE, abin, aun, AV.cells, ↓reduceIte, reduceCtorEq, Nat.reduceAdd, Nat.reduceMul, Nat.reduceSub, Nat.reduceEqDiff, Nat.reduceLT, Nat.reduceLeDiff, implies_true, Back, retv, retV, AV.scal, AV.scals]; try simp only [idX_eq, ite_both, pickP_both, not_not_eq, Bool.not_eq_false, Bool.not_eq_true]
    refine WA.treeB B37_ok (fun s => s = ⟨[(16, .int .i64 i), (15, .int .i64 a.length), (14, .slc 0 0 a.length false 0), (7, .map 5), (6, .ptr 4 0), (4, .ptr 3 0), (3, .ptr 2 0), (2, .int .i64 k)], [.ro (trms a), .ro (trms b), .cells [.int .i64 p, .int .i64 c, .int .i64 n, .slc 0 0 a.length false 0],
        .cells [.int .i64 p', .int .i64 c', .int .i64 n, .slc 1 0 b.length false 0], .cells [.int .i64 0, .int .i64 0, .int .i64 0, .v (.slice none 0 0)], mapT (plusL 1 [] (a.take (i + 1)))]⟩) ?_ ?_
    · rw [hn1, Int.one_mul]
      generalize plusL 1 [] (a.take i) = S at hS hSl
      have hmT : mapT S = .map (esT 0 S) S.length := rfl
      have hkok : kok KD true (.agg (dia n m)) = true := kok_dia hok.1
      cases hix : idxT n m S with
      | none =>
        obtain ⟨f1, f2, f3, f4, f5⟩ := mapF_none hok hS.ok hix
        have hw0 : wrapK .i64 (0 + f) = f := by rw [wrap64 (by omega) (by omega)]; omega
        unfold a_i_plus_t1
        simp (maxSteps := 3000000) only [over4E, heapL, fillA, rd, wrt, wrl, AO.withl, B37_i_Element_with_G8, g_with, wbTT_alt, wbTT_no, hmT, hkok, f1, f2, f3, f4, htl, htd, htf, hw0, noTopB, Int.reduceEq, Int.reduceNe, Int.reduceBEq, Int.reduceBNe, Int.reduceLT, Int.reduceLE, Int.reduceAdd, Int.reduceSub, Int.reduceMul, idX_eq, wbE, ↓symP, symE, listE, AK.isCall, enumE, ev, putE, abin, aun, AV.cells, ↓reduceIte, reduceCtorEq, Nat.reduceAdd, Nat.reduceMul, Nat.reduceSub, Nat.reduceEqDiff, Nat.reduceLT, Nat.reduceLeDiff, implies_true, Back, retv, retV, AV.scal, AV.scals]; try simp only [idX_eq, ite_both, pickP_both, not_not_eq, Bool.not_eq_false, Bool.not_eq_true]
        refine ⟨⟨_, Weak.keep [0, 1, 2, 3, 4, 5] [16, 15, 14, 7, 6, 4, 3, 2] ⟨by decide, ?_⟩ ?_, ?_⟩, _, Weak.keep [0, 1, 2, 3, 4, 5] [16, 15, 14, 7, 6, 4, 3, 2] ⟨by decide, ?_⟩ ?_, ?_⟩
        · simp only [withins_scal _ _ (scals_trms _), ↓esT_within, keepW, keepL, AV.within, AV.withins, ↓reduceIte, reduceCtorEq, Nat.reduceEqDiff, Nat.reduceBEq, implies_true, Nat.reduceAdd]
        · simp only [withins_scal _ _ (scals_trms _), ↓esT_within, keepW, keepL, AV.within, AV.withins, ↓reduceIte, reduceCtorEq, Nat.reduceEqDiff, Nat.reduceBEq, implies_true, Nat.reduceAdd]
        · simp only [rens_scal _ _ (scals_trms _), ↓esT_ren, keptL, keptW, keptE, kepts, slots, ↓reduceIte, reduceCtorEq, Nat.reduceEqDiff, AV.ren, AV.rens, pos, Nat.reduceAdd]
          rw [mapT, f5]
        · simp only [withins_scal _ _ (scals_trms _), ↓esT_within, keepW, keepL, AV.within, AV.withins, ↓reduceIte, reduceCtorEq, Nat.reduceEqDiff, Nat.reduceBEq, implies_true, Nat.reduceAdd]
        · simp only [withins_scal _ _ (scals_trms _), ↓esT_within, keepW, keepL, AV.within, AV.withins, ↓reduceIte, reduceCtorEq, Nat.reduceEqDiff, Nat.reduceBEq, implies_true, Nat.reduceAdd]
        · simp only [rens_scal _ _ (scals_trms _), ↓esT_ren, keptL, keptW, keptE, kepts, slots, ↓reduceIte, reduceCtorEq, Nat.reduceEqDiff, AV.ren, AV.rens, pos, Nat.reduceAdd]
          rw [mapT, f5]
      | some j =>
        obtain ⟨f1, f2, f3, f4, f5⟩ := mapF_some hok.1 hS.ok hix
        have hj := idxT_lt hix
        have hfj := hS.fac _ (show S.getD j zT ∈ S by rw [getD_at hj.1]; exact List.getElem_mem _)
        have hw0 : wrapK .i64 ((S.getD j zT).2.2 + f) = (S.getD j zT).2.2 + f := wrap64 (by omega) (by omega)
        unfold a_i_plus_t1
        simp (maxSteps := 3000000) only [over4E, heapL, fillA, rd, wrt, wrl, AO.withl, B37_i_Element_with_G8, g_with, wbTT_alt, wbTT_no, hmT, hkok, f1, f2, f3, f4, htl, htd, htf, hw0, noTopB, Int.reduceEq, Int.reduceNe, Int.reduceBEq, Int.reduceBNe, Int.reduceLT, Int.reduceLE, Int.reduceAdd, Int.reduceSub, Int.reduceMul, idX_eq, wbE, ↓symP, symE, listE, AK.isCall, enumE, ev, putE, abin, aun, AV.cells, ↓reduceIte, reduceCtorEq, Nat.reduceAdd, Nat.reduceMul, Nat.reduceSub, Nat.reduceEqDiff, Nat.reduceLT, Nat.reduceLeDiff, implies_true, Back, retv, retV, AV.scal, AV.scals]; try simp only [idX_eq, ite_both, pickP_both, not_not_eq, Bool.not_eq_false, Bool.not_eq_true]
        refine ⟨⟨_, Weak.keep [0, 1, 2, 3, 4, 5] [16, 15, 14, 7, 6, 4, 3, 2] ⟨by decide, ?_⟩ ?_, ?_⟩, _, Weak.keep [0, 1, 2, 3, 4, 5] [16, 15, 14, 7, 6, 4, 3, 2] ⟨by decide, ?_⟩ ?_, ?_⟩
        · simp only [withins_scal _ _ (scals_trms _), ↓esT_within, keepW, keepL, AV.within, AV.withins, ↓reduceIte, reduceCtorEq, Nat.reduceEqDiff, Nat.reduceBEq, implies_true, Nat.reduceAdd]
        · simp only [withins_scal _ _ (scals_trms _), ↓esT_within, keepW, keepL, AV.within, AV.withins, ↓reduceIte, reduceCtorEq, Nat.reduceEqDiff, Nat.reduceBEq, implies_true, Nat.reduceAdd]
        · simp only [rens_scal _ _ (scals_trms _), ↓esT_ren, keptL, keptW, keptE, kepts, slots, ↓reduceIte, reduceCtorEq, Nat.reduceEqDiff, AV.ren, AV.rens, pos, Nat.reduceAdd]
          rw [mapT, f5]
        · simp only [withins_scal _ _ (scals_trms _), ↓esT_within, keepW, keepL, AV.within, AV.withins, ↓reduceIte, reduceCtorEq, Nat.reduceEqDiff, Nat.reduceBEq, implies_true, Nat.reduceAdd]
        · simp only [withins_scal _ _ (scals_trms _), ↓esT_within, keepW, keepL, AV.within, AV.withins, ↓reduceIte, reduceCtorEq, Nat.reduceEqDiff, Nat.reduceBEq, implies_true, Nat.reduceAdd]
        · simp only [rens_scal _ _ (scals_trms _), ↓esT_ren, keptL, keptW, keptE, kepts, slots, ↓reduceIte, reduceCtorEq, Nat.reduceEqDiff, AV.ren, AV.rens, pos, Nat.reduceAdd]
          rw [mapT, f5]
    · rintro s rfl
      simp (maxSteps := 3000000) only [over4E, heapL, fillA, rd, wrt, wrl, AO.withl, a_i_plus_k1, B37_i_Element_with_G8, g_with, hw, Int.reduceEq, Int.reduceNe, Int.reduceBEq, Int.reduceBNe, Int.reduceLT, Int.reduceLE, Int.reduceAdd, Int.reduceSub, Int.reduceMul, idX_eq, wbE, ↓symP, symE, listE, AK.isCall, enumE, ev, putE, abin, aun, AV.cells, ↓reduceIte, reduceCtorEq, Nat.reduceAdd, Nat.reduceMul, Nat.reduceSub, Nat.reduceEqDiff, Nat.reduceLT, Nat.reduceLeDiff, implies_true, Back, retv, retV, AV.scal, AV.scals]; try simp only [idX_eq, ite_both, pickP_both, not_not_eq, Bool.not_eq_false, Bool.not_eq_true]
      refine ⟨_, Weak.slots [16, 15, 14, 7, 6, 4, 3, 2], ⟨i + 1, by omega, rfl⟩, ?_⟩
      simp only [keptL, keptW, keptE, kepts, slots, ↓reduceIte, reduceCtorEq, Nat.reduceEqDiff, AV.ren, AV.rens, pos, Nat.reduceAdd]; omega
  have hli : ¬ ((i : Int) < a.length) := by omega
  obtain rfl : i = a.length := by omega
  have htk : a.take a.length = a := List.take_length
  rw [htk] at hS hSl
  have hmT : mapT (plusL 1 [] (a.take a.length)) = mapT (plusL 1 [] a) := by rw [htk]
  simp (maxSteps := 3000000) only [over4E, heapL, fillA, rd, wrt, wrl, AO.withl, a_i_plus_l1, a_i_plus_k4, B37_i_Element_with_G8, g_with, hli, hmT, Int.lt_irrefl, hbl, Int.reduceEq, Int.reduceNe, Int.reduceBEq, Int.reduceBNe, Int.reduceLT, Int.reduceLE, Int.reduceAdd, Int.reduceSub, Int.reduceMul, idX_eq, wbE, ↓symP, symE, listE, AK.isCall, enumE, ev, putE, abin, aun, AV.cells, ↓reduceIte, reduceCtorEq, Nat.reduceAdd, Nat.reduceMul, Nat.reduceSub, Nat.reduceEqDiff, Nat.reduceLT, Nat.reduceLeDiff, implies_true, Back, retv, retV, AV.scal, AV.scals]; try simp only [idX_eq, ite_both, pickP_both, not_not_eq, Bool.not_eq_false, Bool.not_eq_true]
  have hsum2 : ∀ i : Nat, i ≤ b.length → SumT n (10000000 + 100000000 * i) (plusL k (plusL 1 [] a) (b.take i)) ∧ (plusL k (plusL 1 [] a) (b.take i)).length ≤ a.length + i := fun i hi => by
    have h1 := plusL_sum (n := n) (F := 100000000) (k := k) (by omega) (b := b.take i) (acc := plusL 1 [] a) (M := 100 * a.length) (by omega) hS fun t ht => by
      have hm := List.mem_of_mem_take ht
      have h2 := hb.fac t hm
      have h3 : -1000001 * t.2.2 ≤ k * t.2.2 := Int.mul_le_mul_of_nonneg_right (by omega) (by omega)
      have h4 : k * t.2.2 ≤ 1000001 * t.2.2 := Int.mul_le_mul_of_nonneg_right (by omega) (by omega)
      generalize k * t.2.2 = q at h3 h4 ⊢
      exact ⟨hb.ok t hm, (hb.dia t hm).1, (hb.dia t hm).2, by omega, by omega⟩
    have h2 := plusL_len (k := k) (acc := plusL 1 [] a) (b := b.take i)
    rw [List.length_take, Nat.min_eq_left hi] at h1 h2
    exact ⟨⟨h1.ok, h1.dia, fun t ht => by have := h1.fac t ht; omega, h1.one⟩, by omega⟩
  refine WA.loopB B37_ok (fun s => ∃ (i : Nat), i ≤ b.length ∧
      s = ⟨[(33, .int .i64 i), (32, .int .i64 b.length), (31, .slc 1 0 b.length false 0), (7, .map 5), (6, .ptr 4 0), (3, .ptr 2 0), (2, .int .i64 k)], [.ro (trms a), .ro (trms b), .cells [.int .i64 p, .int .i64 c, .int .i64 n, .slc 0 0 a.length false 0],
        .cells [.int .i64 p', .int .i64 c', .int .i64 n, .slc 1 0 b.length false 0], .cells [.int .i64 0, .int .i64 0, .int .i64 0, .v (.slice none 0 0)], mapT (plusL k (plusL 1 [] a) (b.take i))]⟩)
    (fun s => match get s.env 33 with | .int _ x => b.length - x.toNat | _ => 0) ⟨_, Weak.slots [33, 32, 31, 7, 6, 3, 2], 0, by omega, rfl⟩ ?_
  clear hS hSl hmT htk hi hlt hli
  rintro s ⟨i, hi, rfl⟩
  obtain ⟨hS, hSl⟩ := hsum2 i hi
  by_cases hlt : i < b.length
  · have hli : (i : Int) < b.length := by omega
    have hli' : (0 : Int) ≤ i := by omega
    have hw : wrapK .i64 ((i : Int) + 1) = ((i + 1 : Nat) : Int) := by rw [wrap64 (by omega) (by omega)]; rfl
    have hd := trms_dia17 hb.ok hlt
    have hf := trms_fac hb.ok hlt
    have hg := trms_get hb.ok hlt
    have hok := hb.ok _ (List.getElem_mem hlt)
    have hsz := hb.dia _ (List.getElem_mem hlt)
    have hfc := hb.fac _ (List.getElem_mem hlt)
    have hb1 : i * 18 < b.length * 18 := by omega
    have hb2 : i * 18 + 18 ≤ b.length * 18 := by omega
    have hn1 := plusL_succ (k := k) (a := plusL 1 [] a) hlt
    obtain ⟨t, ht⟩ : ∃ t, t = b[i] := ⟨_, rfl⟩
    rw [← ht] at hd hf hg hok hsz hfc hn1
    clear ht
    obtain ⟨tn, m, f⟩ := t
    simp only at hd hf hg hok hsz hfc hn1
    obtain ⟨hsz1, hs⟩ := hsz
    have hsz1 := hsz1.symm
    subst hsz1
    have hov := over_trm (t := (0, List.replicate 16 0, 0)) (u := (n, m, f)) (by simp) hok.1
    have htl := trm_length (t := (n, m, f)) hok
    have htd := trm_dia' (t := (n, m, f)) hok
    have htf := trm_factor (t := (n, m, f)) hok
    have hkf : -100000000 ≤ k * f ∧ k * f ≤ 100000000 := by
      have h1 : -1000001 * f ≤ k * f := Int.mul_le_mul_of_nonneg_right (by omega) (by omega)
      have h2 : k * f ≤ 1000001 * f := Int.mul_le_mul_of_nonneg_right (by omega) (by omega)
      generalize k * f = q at h1 h2 ⊢
      omega
    obtain ⟨kf, hkfe⟩ : ∃ kf, kf = k * f := ⟨_, rfl⟩
    have hwk : wrapK .i64 (k * f) = kf := by rw [hkfe]; exact wrap64 (by omega) (by omega)
    rw [← hkfe] at hkf hn1
    simp (maxSteps := 3000000) only [over4E, heapL, fillA, rd, wrt, wrl, AO.withl, a_i_plus_l2, B37_i_Element_with_G8, g_with, hli, hli', hbl, hb1, hb2, hw, hg, ones_trm, htl, trm_zero, trm_zero_len, hov, Int.reduceEq, Int.reduceNe, Int.reduceBEq, Int.reduceBNe, Int.reduceLT, Int.reduceLE, Int.reduceAdd, Int.reduceSub, Int.reduceMul, idX_eq, wbE, ↓symP, symE, listE, AK.isCall, enumE, ev, putE, abin, aun, AV.cells, ↓reduceIte, reduceCtorEq, Nat.reduceAdd, Nat.reduceMul, Nat.reduceSub, Nat.reduceEqDiff, Nat.reduceLT, Nat.reduceLeDiff, implies_true, Back, retv, retV, AV.scal, AV.scals]; try simp only [idX_eq, ite_both, pickP_both, not_not_eq, Bool.not_eq_false, Bool.not_eq_true]
    refine WA.treeB B37_ok (fun s => s = ⟨[(33, .int .i64 i), (32, .int .i64 b.length), (31, .slc 1 0 b.length false 0), (7, .map 5), (6, .ptr 4 0), (3, .ptr 2 0), (2, .int .i64 k)], [.ro (trms a), .ro (trms b), .cells [.int .i64 p, .int .i64 c, .int .i64 n, .slc 0 0 a.length false 0],
        .cells [.int .i64 p', .int .i64 c', .int .i64 n, .slc 1 0 b.length false 0], .cells [.int .i64 0, .int .i64 0, .int .i64 0, .v (.slice none 0 0)], mapT (plusL k (plusL 1 [] a) (b.take (i + 1)))]⟩) ?_ ?_
    · rw [hn1]
      generalize plusL k (plusL 1 [] a) (b.take i) = S at hS hSl
      have hmT : mapT S = .map (esT 0 S) S.length := rfl
      have hkok : kok KD true (.agg (dia n m)) = true := kok_dia hok.1
      cases hix : idxT n m S with
      | none =>
        obtain ⟨f1, f2, f3, f4, f5⟩ := mapF_none hok hS.ok hix
        have hw0 : wrapK .i64 (0 + kf) = kf := by rw [wrap64 (by omega) (by omega)]; omega
        unfold a_i_plus_t2
        simp (maxSteps := 3000000) only [over4E, heapL, fillA, rd, wrt, wrl, AO.withl, B37_i_Element_with_G8, g_with, wbTT_alt, wbTT_no, hmT, hkok, f1, f2, f3, f4, htl, htd, htf, hw0, hwk, noTopB, Int.reduceEq, Int.reduceNe, Int.reduceBEq, Int.reduceBNe, Int.reduceLT, Int.reduceLE, Int.reduceAdd, Int.reduceSub, Int.reduceMul, idX_eq, wbE, ↓symP, symE, listE, AK.isCall, enumE, ev, putE, abin, aun, AV.cells, ↓reduceIte, reduceCtorEq, Nat.reduceAdd, Nat.reduceMul, Nat.reduceSub, Nat.reduceEqDiff, Nat.reduceLT, Nat.reduceLeDiff, implies_true, Back, retv, retV, AV.scal, AV.scals]; try simp only [idX_eq, ite_both, pickP_both, not_not_eq, Bool.not_eq_false, Bool.not_eq_true]
        refine ⟨⟨_, Weak.keep [0, 1, 2, 3, 4, 5] [33, 32, 31, 7, 6, 3, 2] ⟨by decide, ?_⟩ ?_, ?_⟩, _, Weak.keep [0, 1, 2, 3, 4, 5] [33, 32, 31, 7, 6, 3, 2] ⟨by decide, ?_⟩ ?_, ?_⟩
        · simp only [withins_scal _ _ (scals_trms _), ↓esT_within, keepW, keepL, AV.within, AV.withins, ↓reduceIte, reduceCtorEq, Nat.reduceEqDiff, Nat.reduceBEq, implies_true, Nat.reduceAdd]
        · simp only [withins_scal _ _ (scals_trms _), ↓esT_within, keepW, keepL, AV.within, AV.withins, ↓reduceIte, reduceCtorEq, Nat.reduceEqDiff, Nat.reduceBEq, implies_true, Nat.reduceAdd]
        · simp only [rens_scal _ _ (scals_trms _), ↓esT_ren, keptL, keptW, keptE, kepts, slots, ↓reduceIte, reduceCtorEq, Nat.reduceEqDiff, AV.ren, AV.rens, pos, Nat.reduceAdd]
          rw [mapT, f5]
        · simp only [withins_scal _ _ (scals_trms _), ↓esT_within, keepW, keepL, AV.within, AV.withins, ↓reduceIte, reduceCtorEq, Nat.reduceEqDiff, Nat.reduceBEq, implies_true, Nat.reduceAdd]
        · simp only [withins_scal _ _ (scals_trms _), ↓esT_within, keepW, keepL, AV.within, AV.withins, ↓reduceIte, reduceCtorEq, Nat.reduceEqDiff, Nat.reduceBEq, implies_true, Nat.reduceAdd]
        · simp only [rens_scal _ _ (scals_trms _), ↓esT_ren, keptL, keptW, keptE, kepts, slots, ↓reduceIte, reduceCtorEq, Nat.reduceEqDiff, AV.ren, AV.rens, pos, Nat.reduceAdd]
          rw [mapT, f5]
      | some j =>
        obtain ⟨f1, f2, f3, f4, f5⟩ := mapF_some hok.1 hS.ok hix
        have hj := idxT_lt hix
        have hfj := hS.fac _ (show S.getD j zT ∈ S by rw [getD_at hj.1]; exact List.getElem_mem _)
        have hw0 : wrapK .i64 ((S.getD j zT).2.2 + kf) = (S.getD j zT).2.2 + kf := wrap64 (by omega) (by omega)
        unfold a_i_plus_t2
        simp (maxSteps := 3000000) only [over4E, heapL, fillA, rd, wrt, wrl, AO.withl, B37_i_Element_with_G8, g_with, wbTT_alt, wbTT_no, hmT, hkok, f1, f2, f3, f4, htl, htd, htf, hw0, hwk, noTopB, Int.reduceEq, Int.reduceNe, Int.reduceBEq, Int.reduceBNe, Int.reduceLT, Int.reduceLE, Int.reduceAdd, Int.reduceSub, Int.reduceMul, idX_eq, wbE, ↓symP, symE, listE, AK.isCall, enumE, ev, putE, abin, aun, AV.cells, ↓reduceIte, reduceCtorEq, Nat.reduceAdd, Nat.reduceMul, Nat.reduceSub, Nat.reduceEqDiff, Nat.reduceLT, Nat.reduceLeDiff, implies_true, Back, retv, retV, AV.scal, AV.scals]; try simp only [idX_eq, ite_both, pickP_both, not_not_eq, Bool.not_eq_false, Bool.not_eq_true]
        refine ⟨⟨_, Weak.keep [0, 1, 2, 3, 4, 5] [33, 32, 31, 7, 6, 3, 2] ⟨by decide, ?_⟩ ?_, ?_⟩, _, Weak.keep [0, 1, 2, 3, 4, 5] [33, 32, 31, 7, 6, 3, 2] ⟨by decide, ?_⟩ ?_, ?_⟩
        · simp only [withins_scal _ _ (scals_trms _), ↓esT_within, keepW, keepL, AV.within, AV.withins, ↓reduceIte, reduceCtorEq, Nat.reduceEqDiff, Nat.reduceBEq, implies_true, Nat.reduceAdd]
        · simp only [withins_scal _ _ (scals_trms _), ↓esT_within, keepW, keepL, AV.within, AV.withins, ↓reduceIte, reduceCtorEq, Nat.reduceEqDiff, Nat.reduceBEq, implies_true, Nat.reduceAdd]
        · simp only [rens_scal _ _ (scals_trms _), ↓esT_ren, keptL, keptW, keptE, kepts, slots, ↓reduceIte, reduceCtorEq, Nat.reduceEqDiff, AV.ren, AV.rens, pos, Nat.reduceAdd]
          rw [mapT, f5]
        · simp only [withins_scal _ _ (scals_trms _), ↓esT_within, keepW, keepL, AV.within, AV.withins, ↓reduceIte, reduceCtorEq, Nat.reduceEqDiff, Nat.reduceBEq, implies_true, Nat.reduceAdd]
        · simp only [withins_scal _ _ (scals_trms _), ↓esT_within, keepW, keepL, AV.within, AV.withins, ↓reduceIte, reduceCtorEq, Nat.reduceEqDiff, Nat.reduceBEq, implies_true, Nat.reduceAdd]
        · simp only [rens_scal _ _ (scals_trms _), ↓esT_ren, keptL, keptW, keptE, kepts, slots, ↓reduceIte, reduceCtorEq, Nat.reduceEqDiff, AV.ren, AV.rens, pos, Nat.reduceAdd]
          rw [mapT, f5]
    · rintro s rfl
      simp (maxSteps := 3000000) only [over4E, heapL, fillA, rd, wrt, wrl, AO.withl, a_i_plus_k2, B37_i_Element_with_G8, g_with, hw, Int.reduceEq, Int.reduceNe, Int.reduceBEq, Int.reduceBNe, Int.reduceLT, Int.reduceLE, Int.reduceAdd, Int.reduceSub, Int.reduceMul, idX_eq, wbE, ↓symP, symE, listE, AK.isCall, enumE, ev, putE, abin, aun, AV.cells, ↓reduceIte, reduceCtorEq, Nat.reduceAdd, Nat.reduceMul, Nat.reduceSub, Nat.reduceEqDiff, Nat.reduceLT, Nat.reduceLeDiff, implies_true, Back, retv, retV, AV.scal, AV.scals]; try simp only [idX_eq, ite_both, pickP_both, not_not_eq, Bool.not_eq_false, Bool.not_eq_true]
      refine ⟨_, Weak.slots [33, 32, 31, 7, 6, 3, 2], ⟨i + 1, by omega, rfl⟩, ?_⟩
      simp only [keptL, keptW, keptE, kepts, slots, ↓reduceIte, reduceCtorEq, Nat.reduceEqDiff, AV.ren, AV.rens, pos, Nat.reduceAdd]; omega
  have hli : ¬ ((i : Int) < b.length) := by omega
  obtain rfl : i = b.length := by omega
  have htk : b.take b.length = b := List.take_length
  rw [htk] at hS hSl ⊢
  have hap := sum_apart hS
  obtain ⟨hz1, hz2, hz3⟩ := sum_sz (p := p) hn hS
  have hSo := hS.ok
  generalize plusL k (plusL 1 [] a) b = S at *
  have hmT : mapT S = .map (esT 0 S) S.length := rfl
  have hts := tsE_esT (ts := S) (k := 0) hSo
  have hSl' : S.length ≤ 1000000 := by omega
  have hpp : 0 < p ∧ p ≤ 1000000 := by omega
  simp (maxSteps := 3000000) only [over4E, heapL, fillA, rd, wrt, wrl, AO.withl, a_i_plus_l2, a_i_plus_k3, B37_i_Element_with_G8, g_with, hli, hmT, Int.lt_irrefl, hts, hpp, hSl', hz1, hz2, hz3, hap, and_self, elemV, Int.reduceEq, Int.reduceNe, Int.reduceBEq, Int.reduceBNe, Int.reduceLT, Int.reduceLE, Int.reduceAdd, Int.reduceSub, Int.reduceMul, idX_eq, wbE, ↓symP, symE, listE, AK.isCall, enumE, ev, putE, abin, aun, AV.cells, ↓reduceIte, reduceCtorEq, Nat.reduceAdd, Nat.reduceMul, Nat.reduceSub, Nat.reduceEqDiff, Nat.reduceLT, Nat.reduceLeDiff, implies_true, Back, retv, retV, AV.scal, AV.scals]; try simp only [idX_eq, ite_both, pickP_both, not_not_eq, Bool.not_eq_false, Bool.not_eq_true]
  refine ⟨hz2, rfl, ?_⟩
  refine Ret.keep [0, 1, 6] ⟨⟨by simp, rfl, by decide⟩, ?_⟩ (rs := [.agg [.int .i64 p, .int .i64 c, .int .i64 n, .slc 6 0 (restT p S).length false 0]]) rfl rfl (by simp [retV]) ?_ ⟨?_, ?_⟩
  · simp only [withins_scal _ _ (scals_trms _), ↓esT_within, keepW, keepL, AV.within, AV.withins, ↓reduceIte, reduceCtorEq, Nat.reduceEqDiff, Nat.reduceBEq, implies_true, Nat.reduceAdd]
  · intro j l; match j with
    | 0 => simp [kepts, AO.ren]
    | 1 => simp [kepts, AO.ren]
    | 2 => simp [kepts, AO.ren]
    | j + 3 => simp [kepts]
  · simp only [retV]
    simp only [keptL, keptW, keptE, kepts, slots, ↓reduceIte, reduceCtorEq, Nat.reduceEqDiff, AV.ren, AV.rens, pos, Nat.reduceAdd]
  · simp only [rens_scal _ _ (scals_trms _), keptL, keptW, keptE, kepts, slots, ↓reduceIte, reduceCtorEq, Nat.reduceEqDiff, AV.ren, AV.rens, pos, Nat.reduceAdd]

theorem cf_plusL {n k : Int} {m : List Nat} : ∀ {b acc : List (Int × List Nat × Int)}, (∀ t ∈ acc, t.1 = n) → (∀ t ∈ b, t.1 = n) → cf m (plusL k acc b) = cf m acc + k * cf m b ∧ ∀ t ∈ plusL k acc b, t.1 = n
  | [], acc, h, _ => ⟨by simp [plusL, cf], h⟩
  | t :: b, acc, h, hb => by
    have h0 := hb t (List.mem_cons_self ..)
    have h1 : ∀ u ∈ addT t.1 t.2.1 (k * t.2.2) acc, u.1 = n := fun u hu => by
      rcases addT_mem hu with ⟨v, hv, e, _⟩ | ⟨rfl, _⟩
      · rw [e]; exact h v hv
      · exact h0
    have ih := cf_plusL (k := k) (m := m) (b := b) h1 fun u hu => hb u (List.mem_cons_of_mem _ hu)
    have e : plusL k acc (t :: b) = plusL k (addT t.1 t.2.1 (k * t.2.2) acc) b := rfl
    rw [e]
    refine ⟨?_, ih.2⟩
    have h2 := cf_addT (f := k * t.2.2) (m := m) (m' := t.2.1) h
    rw [← h0] at h2
    rw [ih.1, h2, cf, Int.mul_add]
    split
    · omega
    · rw [Int.mul_zero]; omega
theorem putT_sz {p n k : Int} {m : List Nat} {ts : List (Int × List Nat × Int)} (h : ∀ t ∈ ts, t.1 = n) : ∀ t ∈ putT p ts n m k, t.1 = n := fun t ht => by
  rw [putT_eq] at ht
  split at ht
  · exact h t ht
  · rcases putL_mem ht with h1 | ⟨h1, _⟩
    · exact h t h1
    · exact h1
theorem cf_sumL {p n k : Int} {m : List Nat} : ∀ {b acc : List (Int × List Nat × Int)}, (∀ t ∈ acc, t.1 = n) → p ∣ cf m (sumL p n k acc b) - (cf m acc + k * cf m b)
  | [], acc, h => by simp [sumL, cf]
  | t :: b, acc, h => by
    have ih := cf_sumL (p := p) (k := k) (m := m) (b := b) (putT_sz (p := p) (m := t.2.1) (k := k * t.2.2) h)
    have h1 := cf_putT (p := p) (k := k * t.2.2) (m := m) (m' := t.2.1) h
    have e : sumL p n k acc (t :: b) = sumL p n k (putT p acc n t.2.1 (k * t.2.2)) b := rfl
    rw [e]
    refine dv_add ih h1 ?_
    rw [cf, Int.mul_add]
    split
    · omega
    · rw [Int.mul_zero]; omega
/-- The two ways to a sum are one. -/
theorem plus_law {p n k M : Int} {a b : List (Int × List Nat × Int)} (hp : 0 < p) (ha : GoodT p n a) (hb : GoodT p n b) (h : SumT n M (plusL k (plusL 1 [] a) b)) : sortT (restT p (plusL k (plusL 1 [] a) b)) = sumL p n k a b := by
  have ha' : ∀ t ∈ a, t.1 = n := fun t ht => (ha.dia t ht).1
  have hb' : ∀ t ∈ b, t.1 = n := fun t ht => (hb.dia t ht).1
  refine good_unique hp (sum_good hp h) (sumL_good hp ha hb).1 fun m => ?_
  have h1 := cf_plusL (n := n) (k := 1) (m := m) (acc := []) (b := a) (by simp) ha'
  have h2 := cf_plusL (k := k) (m := m) h1.2 hb'
  have h3 := cf_with (p := p) (m := m) (S := plusL k (plusL 1 [] a) b)
  have h4 := cf_sumL (p := p) (k := k) (m := m) (b := b) ha'
  refine dv_sub h3 h4 ?_
  rw [h2.1, h1.1]
  simp only [cf]; omega
/-- A multiple of a sum. -/
theorem scale_law {p n k : Int} {a : List (Int × List Nat × Int)} (hp : 0 < p) (ha : GoodT p n a) : sumL p n (k - 1) a a = sumL p n k [] a := by
  have ha' : ∀ t ∈ a, t.1 = n := fun t ht => (ha.dia t ht).1
  have h0 : GoodT p n [] := ⟨(fun t h => by cases h), (fun t h => by cases h), (fun t h => by cases h), .nil⟩
  refine good_unique hp (sumL_good hp ha ha).1 (sumL_good hp h0 ha).1 fun m => ?_
  have h1 := cf_sumL (p := p) (k := k - 1) (m := m) (b := a) ha'
  have h2 := cf_sumL (p := p) (n := n) (k := k) (m := m) (b := a) (acc := []) (by simp)
  refine dv_sub h1 h2 ?_
  simp only [cf]
  rw [Int.sub_mul]; omega

theorem plus_sum {p n k : Int} {a b : List (Int × List Nat × Int)} (hp : 2 ≤ p ∧ p ≤ 97) (ha : GoodT p n a) (hb : GoodT p n b) (hk : -1000001 ≤ k ∧ k ≤ 1000001) : ∃ M, SumT n M (plusL k (plusL 1 [] a) b) := by
  have h1 := plusL_sum (n := n) (F := 100) (k := 1) (by omega) (b := a) (acc := []) (M := 0) (by omega) sum_nil fun t hm => by
    have h2 := ha.fac t hm
    exact ⟨ha.ok t hm, (ha.dia t hm).1, (ha.dia t hm).2, by omega, by omega⟩
  exact ⟨_, plusL_sum (n := n) (F := 100000000) (k := k) (by omega) (b := b) (by omega) h1 fun t hm => by
    have h2 := hb.fac t hm
    have h3 : -1000001 * t.2.2 ≤ k * t.2.2 := Int.mul_le_mul_of_nonneg_right (by omega) (by omega)
    have h4 : k * t.2.2 ≤ 1000001 * t.2.2 := Int.mul_le_mul_of_nonneg_right (by omega) (by omega)
    generalize k * t.2.2 = q at h3 h4 ⊢
    exact ⟨hb.ok t hm, (hb.dia t hm).1, (hb.dia t hm).2, by omega, by omega⟩⟩
def g_plus : BE := fun hp xs => match xs with
  | [.agg [.int .i64 p, .int .i64 c, .int .i64 n, .slc b 0 la false 0], .agg [.int .i64 p', .int .i64 c', .int .i64 n', .slc b' 0 lb false 0], .int .i64 k] => match rd hp b, rd hp b' with
    | some L, some L' => match tsOf la L, tsOf lb L' with
      | some ta, some tb => chk ((((2 ≤ p ∧ p ≤ 97) ∧ (0 ≤ n ∧ n ≤ 8) ∧ n' = n) ∧ goodT p n ta ∧ goodT p n tb) ∧ (ta.length ≤ 100000 ∧ tb.length ≤ 100000) ∧ (-1000001 ≤ k ∧ k ≤ 1000001)) (some (elemV p c n hp.length (sumL p n k ta tb).length, hp ++ [.vec 18 (trms (sumL p n k ta tb))]))
      | _, _ => none
    | _, _ => none
  | _ => none
theorem k_plus : Am.Callee Try.prog 71 g_plus := Callee.fp fun hp xs v hp' he => by
  unfold g_plus at he
  split at he
  · rename_i p c n b la p' c' n' b' lb k
    split at he
    · rename_i L L' hL hL'
      split at he
      · rename_i ta tb h1 h1'
        obtain ⟨⟨⟨⟨a1, a2, a3⟩, a4, a5⟩, a6, a7⟩, he2⟩ := chk_some he
        simp only [Option.some.injEq, Prod.mk.injEq] at he2
        obtain ⟨rfl, rfl⟩ := he2
        obtain ⟨e1, e2, e3, e4⟩ := tsOf_some h1
        obtain ⟨f1, f2, f3, f4⟩ := tsOf_some h1'
        have g1 := trms_length e2
        have g2 := trms_length f2
        subst a3
        have hfn := c_i_plus p c n' p' c' k ta tb a1 a2 (a4.good e2) (a5.good f2) a6 a7
        obtain ⟨M, hM⟩ := plus_sum a1 (a4.good e2) (a5.good f2) a7
        have hlaw := plus_law (by omega) (a4.good e2) (a5.good f2) hM
        have hlen : (restT p (plusL k (plusL 1 [] ta) tb)).length = (sumL p n' k ta tb).length := by rw [← hlaw]; exact (sortT_perm _).length_eq.symm
        rw [hlaw, hlen] at hfn
        refine ⟨[(b, 0), (b', 0)], [elemV p c n' 0 ta.length, elemV p' c' n' 1 tb.length, .int .i64 k], _, _, _, hfn, by simp [elemV, AV.ren, AV.rens, ofL, e1, f1], rfl,
          ⟨⟨L, hL, by omega, by rw [List.drop_zero, rens_scal _ _ (scals_trms _), g1, e1]; exact e3⟩, ⟨L', hL', by omega, by rw [List.drop_zero, rens_scal _ _ (scals_trms _), g2, f1]; exact f3⟩, trivial⟩, rfl,
          ⟨unders_scal _ _ (scals_trms _), unders_scal _ _ (scals_trms _), trivial⟩, ⟨⟨trivial, trivial, trivial, by simp [AV.under], trivial⟩, ⟨trivial, trivial, trivial, by simp [AV.under], trivial⟩, trivial, trivial⟩, by simp [elemV, AV.ren, AV.rens, Ren.ext], ?_⟩
        simp [after, upd, AO.wr, AO.ren, rens_scal _ _ (scals_trms _)]
      · cases he
    · cases he
  · cases he
def B38 : Book := (B37.put 71 (g_plus))
theorem B38_ok : BookOk Try.prog B38 := (B37_ok.put (k_plus))

end Go.Proofs.Ytkgoadglalpbfaa

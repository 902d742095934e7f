/- The abstract machine run by itself: what a closed call comes to is reckoned. -/
import Derived.Test.YtabenjpidndpeaaAmCode
namespace Go.Am
set_option linter.unusedVariables false
set_option linter.unusedSimpArgs false

def vEq : Value → Value → Bool
  | .pointer none, .pointer none => true
  | .slice none a b, .slice none c d => a == c && b == d
  | .map none, .map none => true
  | .nilFunc, .nilFunc => true
  | .nilIface, .nilIface => true
  | .tuple a, .tuple b => a.size == 0 && b.size == 0
  | _, _ => false

mutual
def AV.eqv : AV → AV → Bool
  | .top, .top => true
  | .int k n, .int k' n' => decide (k = k') && n == n'
  | .bool b, .bool b' => b == b'
  | .str s, .str s' => s == s'
  | .v x, .v y => vEq x y
  | .ptr b o, .ptr b' o' => b == b' && o == o'
  | .slc b o l e c, .slc b' o' l' e' c' => b == b' && o == o' && l == l' && e == e' && c == c'
  | .map b, .map b' => b == b'
  | .fn f a b, .fn f' a' b' => decide (f = f') && AV.eqvs a a' && AV.eqvs b b'
  | .agg l, .agg l' => AV.eqvs l l'
  | .tup l, .tup l' => AV.eqvs l l'
  | _, _ => false
def AV.eqvs : List AV → List AV → Bool
  | [], [] => true
  | a :: l, b :: l' => AV.eqv a b && AV.eqvs l l'
  | _, _ => false
end

theorem vEq_eq {x y : Value} (h : vEq x y = true) : x = y := by
  unfold vEq at h
  split at h <;> simp_all [Array.eq_empty_of_size_eq_zero]

mutual
theorem eqv_eq : (a b : AV) → a.eqv b = true → a = b
  | .top, b, h => by cases b <;> simp_all [AV.eqv]
  | .int _ _, b, h => by cases b <;> simp_all [AV.eqv]
  | .bool _, b, h => by cases b <;> simp_all [AV.eqv]
  | .str _, b, h => by cases b <;> simp_all [AV.eqv]
  | .v x, b, h => by cases b <;> simp only [AV.eqv, Bool.false_eq_true] at h; rw [vEq_eq h]
  | .ptr _ _, b, h => by cases b <;> simp_all [AV.eqv]
  | .slc _ _ _ _ _, b, h => by cases b <;> simp_all [AV.eqv]
  | .map _, b, h => by cases b <;> simp_all [AV.eqv]
  | .fn f a c, b, h => by
    cases b <;> simp only [AV.eqv, Bool.false_eq_true, Bool.and_eq_true, decide_eq_true_eq] at h
    obtain ⟨⟨rfl, h1⟩, h2⟩ := h
    rw [eqvs_eq _ _ h1, eqvs_eq _ _ h2]
  | .agg l, b, h => by cases b <;> simp only [AV.eqv, Bool.false_eq_true] at h; rw [eqvs_eq _ _ h]
  | .tup l, b, h => by cases b <;> simp only [AV.eqv, Bool.false_eq_true] at h; rw [eqvs_eq _ _ h]
theorem eqvs_eq : (a b : List AV) → AV.eqvs a b = true → a = b
  | [], b, h => by cases b <;> simp_all [AV.eqvs]
  | x :: a, b, h => by
    cases b with
    | nil => simp [AV.eqvs] at h
    | cons y b => simp only [AV.eqvs, Bool.and_eq_true] at h; rw [eqv_eq _ _ h.1, eqvs_eq _ _ h.2]
end

def esEq : List AE → List AE → Bool
  | [], [] => true
  | a :: l, b :: l' => a.key.eqv b.key && a.val.eqv b.val && a.born == b.born && esEq l l'
  | _, _ => false
theorem esEq_eq : ∀ (a b : List AE), esEq a b = true → a = b
  | [], b, h => by cases b <;> simp_all [esEq]
  | ⟨k, v, n⟩ :: a, b, h => by
    cases b with
    | nil => simp [esEq] at h
    | cons y b =>
      obtain ⟨k', v', n'⟩ := y
      simp only [esEq, Bool.and_eq_true, beq_iff_eq] at h
      rw [eqv_eq _ _ h.1.1.1, eqv_eq _ _ h.1.1.2, h.1.2, esEq_eq _ _ h.2]

def AO.eqv : AO → AO → Bool
  | .cells l, .cells l' => AV.eqvs l l'
  | .vec n l, .vec n' l' => n == n' && AV.eqvs l l'
  | .ro l, .ro l' => AV.eqvs l l'
  | .map es c, .map es' c' => esEq es es' && c == c'
  | .miter m a b c, .miter m' a' b' c' => decide (m = m') && decide (a = a') && decide (b = b') && decide (c = c')
  | .dead, .dead => true
  | _, _ => false
theorem AO.eqv_eq {a b : AO} (h : a.eqv b = true) : a = b := by
  cases a <;> cases b <;> simp only [AO.eqv, Bool.false_eq_true, Bool.and_eq_true, decide_eq_true_eq, beq_iff_eq] at h
  · rw [eqvs_eq _ _ h]
  · rw [h.1, eqvs_eq _ _ h.2]
  · rw [eqvs_eq _ _ h]
  · rw [esEq_eq _ _ h.1, h.2]
  · obtain ⟨⟨⟨rfl, rfl⟩, rfl⟩, rfl⟩ := h; rfl
  · rfl

/-- Whether the second list goes on from the first. -/
def goesOn : List AO → List AO → Bool
  | [], _ => true
  | a :: l, b :: l' => a.eqv b && goesOn l l'
  | _, _ => false
theorem goesOn_ex : ∀ (l l' : List AO), goesOn l l' = true → ∃ x, l' = l ++ x
  | [], l', _ => ⟨l', rfl⟩
  | a :: l, [], h => by simp [goesOn] at h
  | a :: l, b :: l', h => by
    simp only [goesOn, Bool.and_eq_true] at h
    obtain ⟨x, rfl⟩ := goesOn_ex l l' h.2
    exact ⟨x, by rw [AO.eqv_eq h.1]; rfl⟩

mutual
def AV.underB (n : Nat) : AV → Bool
  | .ptr b _ => decide (b < n)
  | .slc b _ _ _ _ => decide (b < n)
  | .map b => decide (b < n)
  | .fn _ a b => AV.undersB n a && AV.undersB n b
  | .agg l => AV.undersB n l
  | .tup l => AV.undersB n l
  | _ => true
def AV.undersB (n : Nat) : List AV → Bool
  | [] => true
  | a :: l => AV.underB n a && AV.undersB n l
end
mutual
theorem underB_ok (n : Nat) : (a : AV) → a.underB n = true → a.under n
  | .top, _ => trivial
  | .int _ _, _ => trivial
  | .bool _, _ => trivial
  | .str _, _ => trivial
  | .v _, _ => trivial
  | .ptr b _, h => by simp only [AV.underB, decide_eq_true_eq] at h; exact h
  | .slc b _ _ _ _, h => by simp only [AV.underB, decide_eq_true_eq] at h; exact h
  | .map b, h => by simp only [AV.underB, decide_eq_true_eq] at h; exact h
  | .fn _ a b, h => by simp only [AV.underB, Bool.and_eq_true] at h; exact ⟨undersB_ok n a h.1, undersB_ok n b h.2⟩
  | .agg l, h => undersB_ok n l h
  | .tup l, h => undersB_ok n l h
theorem undersB_ok (n : Nat) : (a : List AV) → AV.undersB n a = true → AV.unders n a
  | [], _ => trivial
  | a :: l, h => by simp only [AV.undersB, Bool.and_eq_true] at h; exact ⟨underB_ok n a h.1, undersB_ok n l h.2⟩
end

def AO.underB (n : Nat) : AO → Bool
  | .cells l | .vec _ l | .ro l => AV.undersB n l
  | .map es _ => es.all fun e => e.key.underB n && e.val.underB n
  | .miter (some m) _ _ _ => decide (m < n)
  | _ => true
theorem AO.underB_ok {n : Nat} {o : AO} (h : o.underB n = true) : o.under n := by
  cases o with
  | cells l => exact undersB_ok n l h
  | vec s l => exact undersB_ok n l h
  | ro l => exact undersB_ok n l h
  | map es c =>
    intro e he
    have := List.all_eq_true.1 h e he
    simp only [Bool.and_eq_true] at this
    exact ⟨Am.underB_ok n _ this.1, Am.underB_ok n _ this.2⟩
  | miter m a b c =>
    intro j hj
    subst hj
    exact of_decide_eq_true h
  | siter _ _ => trivial
  | dead => trivial

def allUnder (hp : List AO) : Bool := hp.all (AO.underB hp.length)
theorem allUnder_ok {hp : List AO} (h : allUnder hp = true) (j : Nat) (o : AO) (hj : hp[j]? = some o) : o.under hp.length :=
  AO.underB_ok (List.all_eq_true.1 h o (List.mem_of_getElem? hj))

def idR (n : Nat) : Ren := fun j => if j < n then some (j, 0) else none
def idB (n : Nat) : List (Nat × Nat) := (List.range n).map fun j => (j, 0)

mutual
theorem ren_idR (n : Nat) : (a : AV) → a.under n → a.ren (idR n) = a
  | .top, _ => rfl
  | .int _ _, _ => rfl
  | .bool _, _ => rfl
  | .str _, _ => rfl
  | .v _, _ => rfl
  | .ptr b o, h => by have h : b < n := h; simp [AV.ren, idR, h]
  | .slc b o l e c, h => by
    have h' : b < n := h
    have e' : idR n b = some (b, 0) := by simp [idR, h']
    simp only [AV.ren, e']; simp
  | .map b, h => by have h : b < n := h; simp [AV.ren, idR, h]
  | .fn f a b, h => by simp only [AV.ren, rens_idR n a h.1, rens_idR n b h.2]
  | .agg l, h => by simp only [AV.ren, rens_idR n l h]
  | .tup l, h => by simp only [AV.ren, rens_idR n l h]
theorem rens_idR (n : Nat) : (a : List AV) → AV.unders n a → AV.rens (idR n) a = a
  | [], _ => rfl
  | a :: l, h => by simp only [AV.rens, ren_idR n a h.1, rens_idR n l h.2]
end

theorem AO.ren_idR {n : Nat} {o : AO} (h : o.under n) : o.ren (idR n) = o := by
  cases o with
  | cells l => simp only [AO.ren, rens_idR n l h]
  | vec s l => simp only [AO.ren, rens_idR n l h]
  | ro l => simp only [AO.ren, rens_idR n l h]
  | map es c =>
    simp only [AO.ren]
    congr 1
    conv => rhs; rw [← List.map_id es]
    refine List.map_congr_left fun e he => ?_
    obtain ⟨k, v, b⟩ := e
    simp only [AE.ren, Am.ren_idR n k (h _ he).1, Am.ren_idR n v (h _ he).2, id]
  | miter m a b c =>
    cases m with
    | none => rfl
    | some j => have : j < n := h j rfl; simp [AO.ren, idR, this]
  | siter _ _ => rfl
  | dead => rfl

theorem foot_id {hp : List AO} (h : allUnder hp = true) : Foot hp (idR hp.length) (idB hp.length) hp := by
  have hget : ∀ j, j < hp.length → (idB hp.length)[j]? = some (j, 0) := fun j hj => by simp [idB, hj]
  refine ⟨fun j hj => by rw [hget j hj]; simp [idR, hj], by simp [idB], fun j o b ho hb => ?_, fun j k bj bk oj ok hj hk hoj hok _ _ e => ?_⟩
  · have hj : j < hp.length := (List.getElem?_eq_some_iff.1 ho).1
    rw [hget j hj] at hb; cases hb
    have hu := allUnder_ok h j o ho
    cases o with
    | dead => exact hj
    | ro l =>
      refine ⟨l, by simp [rd, ho], by simp, ?_⟩
      rw [rens_idR _ l hu]; simp
    | _ => exact ⟨rfl, by rw [AO.ren_idR hu]; exact ho⟩
  · have hj' : j < hp.length := (List.getElem?_eq_some_iff.1 hoj).1
    have hk' : k < hp.length := (List.getElem?_eq_some_iff.1 hok).1
    rw [hget j hj'] at hj; rw [hget k hk'] at hk
    cases hj; cases hk; exact e

end Go.Am

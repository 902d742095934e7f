/- The abstract machine, part 3: AmSort AmDia AmArg AmBun AmCan AmApp. -/
import Derived.Test.YtfhckbbgmblhbaaAmB
import Derived.Shelf.SlSortCmp.NoneTotal
import Derived.ReadAgain
import Derived.OpenShut
namespace Go.Am
set_option linter.unusedVariables false
set_option linter.unusedSimpArgs false
theorem qmo {α : Type} (ι : Nat → Loc) (enc : α → List AV) (d : List α) : qx ι (d.flatMap enc) = d.flatMap fun x => qx ι (enc x) := by
  induction d with
  | nil => rfl
  | cons a d ih => simp only [List.flatMap_cons, yu, ih]
theorem qdf : ∀ (a b : List AV), AV.ze (a ++ b) = (AV.ze a && AV.ze b)
  | [], b => by simp [AV.ze]
  | x :: a, b => by simp only [List.cons_append, AV.ze, qdf a b, Bool.and_assoc]
theorem qsz {α : Type} [Inhabited α] (enc : α → List Value) (k : Nat) (hk : ∀ x, (enc x).length = k) (d : List α) : (Go.Sort.flatK enc k d.toArray).toList = d.flatMap enc := by
  have hlen : ∀ d : List α, (d.flatMap enc).length = d.length * k := by
    intro d; induction d with
    | nil => simp
    | cons a d ih => simp only [List.flatMap_cons, List.length_append, List.length_cons, hk, ih, Nat.add_mul, Nat.one_mul]; omega
  apply List.ext_getElem?
  intro t
  by_cases ht : t < d.length * k
  · have h1 := Go.Sort.get_flatK enc k d.toArray t (by simpa using ht)
    have hs : t < (Go.Sort.flatK enc k d.toArray).size := by simpa using ht
    rw [getElem!_pos _ t hs] at h1
    rw [Array.getElem?_toList, Array.getElem?_eq_getElem hs, h1]
    have k0 : 0 < k := by rcases Nat.eq_zero_or_pos k with h | h; · subst h; simp at ht
                          · exact h
    have key : ∀ (d : List α) (t : Nat), t < d.length * k → (d.flatMap enc)[t]? = some (enc d.toArray[t / k]!)[t % k]! := by
      intro d
      induction d with
      | nil => intro t ht; simp at ht
      | cons a d ih =>
        intro t ht
        simp only [List.flatMap_cons, List.length_cons] at ht ⊢
        by_cases h : t < k
        · rw [List.getElem?_append_left (by rw [hk]; exact h), Nat.div_eq_of_lt h, Nat.mod_eq_of_lt h]
          have e : ((a :: d).toArray[0]! : α) = a := by simp
          rw [e, getElem!_pos (enc a) t (by rw [hk]; exact h), List.getElem?_eq_getElem (by rw [hk]; exact h)]
        · obtain ⟨u, rfl⟩ : ∃ u, t = u + k := ⟨t - k, by omega⟩
          rw [List.getElem?_append_right (by rw [hk]; omega), hk, Nat.add_sub_cancel, ih u (by rw [Nat.add_mul, Nat.one_mul] at ht; omega), Nat.add_mod_right, Nat.add_div_right _ k0]
          simp
    exact (key d t ht).symm
  · rw [List.getElem?_eq_none (by simpa using ht), List.getElem?_eq_none (by rw [hlen]; omega)]
theorem qkj (d c : Array Value) (a b ex : List Value) (hc : c.toList = a ++ ex) (hd : d.toList = b) (hl : b.length = a.length) : (Go.Sort.putCells id 0 d c).toList = b ++ ex := by
  have hs : d.size = a.length := by rw [← hl, ← hd, Array.length_toList]
  apply List.ext_getElem?
  intro t
  have h1 : c[t]? = (a ++ ex)[t]? := by rw [← hc, Array.getElem?_toList]
  simp only [Go.Sort.putCells, Array.getElem?_toList, Array.getElem?_mapIdx, h1, Nat.zero_le, true_and, Nat.zero_add, Nat.sub_zero, hs]
  by_cases ht : t < a.length
  · rw [List.getElem?_append_left ht, List.getElem?_append_left (by omega), List.getElem?_eq_getElem ht, Option.map_some, if_pos ht, getElem!_pos d t (by omega)]
    simp only [id, ← hd, Array.getElem?_toList]
    rw [Array.getElem?_eq_getElem (by omega)]
  · rw [List.getElem?_append_right (by omega), List.getElem?_append_right (by omega), hl]
    simp only [ht, if_false]
    cases ex[t - a.length]? <;> rfl
theorem q0a {w w' : World} (hfr : ∀ b, b < w.heap.size → w'.heap[b]? = w.heap[b]?) (hg : w.heap.size ≤ w'.heap.size) (h1 : w'.os = w.os) (h2 : w'.output = w.output) (h3 : Vl w w') :
    ∃ q os', w' = Go.Sort.grow (w.drewN q) os' := by
  refine ⟨w'.drawn - w.drawn, w'.heap.extract w.heap.size w'.heap.size, ?_⟩
  have hh : w'.heap = w.heap ++ w'.heap.extract w.heap.size w'.heap.size := by
    apply Array.ext_getElem?
    intro i
    rw [Array.getElem?_append]
    split
    · rename_i hi; exact hfr i hi
    · rename_i hi
      rw [Array.getElem?_extract]
      by_cases h : i < w'.heap.size
      · rw [if_pos (by omega)]; congr 1; omega
      · rw [Array.getElem?_eq_none (by omega), if_neg (by omega)]
  obtain ⟨e1, e2⟩ := h3
  cases w; cases w'
  simp only [Go.Sort.grow, World.drewN] at *
  subst h1; subst h2; subst e1
  congr 1
  omega
theorem qrj {P : Program} {g : FuncId} (h : qpa P g) : ∀ args w, (callFunc g args).run P w = .ok (.enter g args) w := by
  obtain ⟨fn, h1, h2, h3⟩ := h
  obtain ⟨c, hc⟩ := Option.isSome_iff_exists.1 h2
  exact Go.Proofs.enters_of h1 h3 hc
theorem qos {P : Program} {f : FuncId} {args : List AV} {v : AV} (eE : qpa P f) (hs : AV.ze args = true) (hv : v.zo = true)
    (h : ∀ w, Calls P f (qx (fun _ => Loc.nil) args).toArray w fun e w' => e = .returned (gam (fun _ => Loc.nil) v) ∧ w' = w) : Fn P f args [] (fun v' H' => v' = v ∧ H' = []) := by
  refine ⟨eE, fun ι w hok hu => ?_⟩
  rw [vh (ι' := fun _ => Loc.nil) (fun j hj => absurd hj (Nat.not_lt_zero j)) args (qj _ _ hs)]
  refine Calls.mono (h w) ?_
  rintro e w' ⟨rfl, rfl⟩
  exact ⟨v, [], ι, by rw [J3 (ι := ι) (ι' := fun _ => Loc.nil) (n := 0) (fun j hj => absurd hj (Nat.not_lt_zero j)) v (Uv _ _ hv)], ⟨rfl, rfl⟩, qoe hv, Uv _ _ hv, hok, Nat.le_refl _, fun _ _ => rfl, fun j b h => .inl ⟨j, h⟩, fun j l h => ⟨l, h⟩, fun _ _ _ => rfl, Nat.le_refl _, rfl, rfl, Vl.refl _⟩
theorem q2x {P : Program} {ρ : Go.Shelf.Ren} (L : Go.Proofs.SlLaysF0.n6 P ρ) (k : Nat) (hk0 : 0 < k) (aE : ∀ w, (isAgg (ρ.t 24)).run P w = .ok true w) (zE : ∀ w, (Go.sizeOf (ρ.t 24)).run P w = .ok k w)
    {α : Type} [Inhabited α] (enc : α → List AV) (hk : ∀ x, (enc x).length = k) (h1 : ∀ x, ∀ a ∈ enc x, a.one = true) (hsc : ∀ x, AV.ze (enc x) = true) (cf : α → α → Int) (hO : Go.Sort.SWO (Go.Proofs.ltOf cf))
    (eS : qpa P (ρ.f 6)) (g : FuncId) (eg : qpa P g) (hc : ∀ x y, Fn P g [.agg (enc x), .agg (enc y)] [] (fun v H' => v = .int .i64 (cf x y) ∧ H' = []))
    (d : List α) (hsz : d.length < 4611686018427387904) :
    Fn P (ρ.f 6) [.slc 0 0 d.length false 0, .fn g [] []] [.vec k (d.flatMap enc)] (fun v H' => v = .tup [] ∧ ∃ d' : List α, d'.Perm d ∧ d'.Pairwise (fun x y => Go.Proofs.ltOf cf y x = false) ∧ H' = [.vec k (d'.flatMap enc)]) := by
  refine ⟨eS, fun ι w hok hu => ?_⟩
  have scflat : ∀ d : List α, AV.ze (d.flatMap enc) = true := by
    intro d; induction d with
    | nil => rfl
    | cons a d ih => rw [List.flatMap_cons, qdf, hsc, ih]; rfl
  have lnflat : ∀ d : List α, (d.flatMap enc).length = d.length * k := by
    intro d; induction d with
    | nil => simp
    | cons a d ih => simp only [List.flatMap_cons, List.length_append, List.length_cons, hk, ih, Nat.add_mul, Nat.one_mul]; omega
  obtain ⟨-, hrel⟩ := hok.rel 0 _ rfl
  rcases hrel with ⟨hn, hcap, hl⟩ | ⟨hn, blk, c, ty, fz, ex, ha, hh, hcl, hcalm, hcs⟩
  ·
    have hd : d = [] := by
      cases d with
      | nil => rfl
      | cons a d => exfalso; rw [List.flatMap_cons] at hl; have := congrArg List.length hl; simp [hk] at this; omega
    subst hd
    have := Go.Proofs.AnyF.slices_SortFunc_none L none ((ι 0).cap - 0) (gam ι (.fn g [] [])) w
    simp only [qx, gam, hn, cond_true, cond_false, List.length_nil]
    refine Calls.mono this ?_
    rintro e w' ⟨rfl, rfl⟩
    exact ⟨.tup [], _, ι, rfl, ⟨rfl, [], .refl _, .nil, rfl⟩, by simp, trivial, hok, Nat.le_refl _, fun _ _ => rfl, fun j b h => .inl ⟨j, h⟩, fun j l h => ⟨l, h⟩, fun _ _ _ => rfl, Nat.le_refl _, rfl, rfl, Vl.refl _⟩
  · have hlen' : ∀ x, (qx ι (enc x)).length = k := fun x => by rw [q8, hk]
    have hfl : ∀ d : List α, (Go.Sort.flatK (fun x => qx ι (enc x)) k d.toArray).toList = qx ι (d.flatMap enc) := fun d => by rw [qsz _ _ hlen', qmo]
    have hblk : blk < w.heap.size := (Array.getElem?_eq_some_iff.1 hh).1
    have hH : Go.Sort.HoldsK (fun x => qx ι (enc x)) k w blk 0 d.toArray := by
      intro t ht
      have ht' : t < (qx ι (d.flatMap enc)).length := by rw [← hfl d, Array.length_toList]; exact ht
      have hct : c[t]? = some (Go.Sort.flatK (fun x => qx ι (enc x)) k d.toArray)[t]! := by
        rw [← Array.getElem?_toList, hcl, List.getElem?_append_left ht', ← hfl d, Array.getElem?_toList, Array.getElem?_eq_getElem ht, getElem!_pos _ t ht]
      have hlt : t < c.size := (Array.getElem?_eq_some_iff.1 hct).1
      refine ⟨?_, ?_⟩
      · rw [Nat.zero_add, cell_of (heap := #[]) hh, hct]; rfl
      · rw [Nat.zero_add]
        have := hcalm t hlt
        simp only [World.frozen?, hh]
        obtain ⟨lo, hi⟩ := fz
        simp only [Bool.and_eq_false_iff, decide_eq_false_iff_not]
        by_cases hlo : lo ≤ t
        · exact .inr fun hhi => this ⟨hlo, hhi⟩
        · exact .inl hlo
    have hcmp : Go.Proofs.CmpLays P g #[] (fun x => qx ι (enc x)) k cf blk 0 d.toArray.size w := by
      intro m os dk hdk x y
      have hc2 := (hc x y).2 ι (Go.Proofs.sortWorldK (fun x => qx ι (enc x)) k w blk 0 m dk os) ⟨fun j o h => by simp at h, fun i j b h => by obtain ⟨o, h, _⟩ := h; simp at h⟩
        ⟨qj _ _ (hsc x), qj _ _ (hsc y), trivial⟩
      refine Calls.mono hc2 ?_
      rintro e w' ⟨v, H', ι', rfl, ⟨rfl, rfl⟩, _, _, _, _, _, _, _, hfr, hgr, ho1, ho2, hla⟩
      exact ⟨rfl, q0a (fun b hb => hfr b hb (fun ⟨i, o, h, _⟩ => by simp at h)) hgr ho1 ho2 hla⟩
    have := Go.Proofs.AnyQ.slices_SortFunc L k aE zE (fun x => qx ι (enc x)) hlen' (fun x v hv => by
      rw [bo] at hv
      obtain ⟨a, ha, rfl⟩ := List.mem_map.1 hv
      exact AV.qgp (h1 x a ha)) cf hO g #[] blk 0 ((ι 0).cap - 0) d.toArray w (qrj eg) hcmp hH hblk (by simpa using hsz)
    simp only [qx, gam, hn, cond_false, ha]
    refine Calls.mono this ?_
    rintro e w' ⟨rfl, da, n, os, hpm, hsd, rfl⟩
    obtain ⟨d', rfl⟩ : ∃ d' : List α, da = d'.toArray := ⟨da.toList, by simp⟩
    have hdl : d'.length = d.length := by simpa using hpm.1
    have hperm : d'.Perm d := by
      have := hpm.2.2
      simpa [hdl, List.take_of_length_le (Nat.le_of_eq hdl)] using this
    have hpair : d'.Pairwise (fun x y => Go.Proofs.ltOf cf y x = false) := by
      rw [List.pairwise_iff_getElem]
      intro i j hi hj hij
      have := hsd i j (Nat.zero_le _) hij (by simp only [List.size_toArray] at *; omega)
      rw [getElem!_pos _ i (by simpa using hi), getElem!_pos _ j (by simpa using hj)] at this
      simpa using this
    generalize hF : Go.Sort.flatK (fun x => qx ι (enc x)) k d'.toArray = F
    have hFl : F.toList = qx ι (d'.flatMap enc) := by rw [← hF]; exact hfl d'
    have hheap : (Go.Proofs.sortWorldK (fun x => qx ι (enc x)) k w blk 0 n d'.toArray os).heap = w.heap.modify blk (Go.Sort.onCells (Go.Sort.putCells id 0 F)) ++ os := by rw [← hF]; rfl
    have hbk : (Go.Proofs.sortWorldK (fun x => qx ι (enc x)) k w blk 0 n d'.toArray os).heap[blk]? = some (.cells (Go.Sort.putCells id 0 F c) ty fz) := by
      rw [hheap, Array.getElem?_append_left (by simpa using hblk), Array.getElem?_modify, if_pos rfl, hh]; rfl
    have hsz' : (Go.Sort.putCells id 0 F c).size = c.size := by simp [Go.Sort.putCells]
    have hat : AtW ι [.vec k (d.flatMap enc)] 0 blk := ⟨_, rfl, rfl, hn, by rw [ha]⟩
    have one : ∀ {H : List AO} {o : AO} {j : Nat} {b : Nat}, AtW ι [o] j b → j = 0 ∧ b = blk := by
      rintro H o j b ⟨o', h, _, _, hb⟩
      cases j with
      | zero => exact ⟨rfl, by rw [← hb, ha]⟩
      | succ j => simp at h
    have one' : ∀ {o : AO} {j : Nat} {b : Nat}, At ι [o] j b → j = 0 ∧ b = blk := by
      rintro o j b ⟨o', h, _, _, hb⟩
      cases j with
      | zero => exact ⟨rfl, by rw [← hb, ha]⟩
      | succ j => simp at h
    refine ⟨.tup [], [.vec k (d'.flatMap enc)], ι, rfl, ⟨rfl, d', hperm, hpair, rfl⟩, by simp, trivial, ⟨fun j o ho => ?_, fun i j b h1 h2 => ?_⟩, Nat.le_refl _, fun _ _ => rfl, fun j b h => .inl ⟨0, ?_⟩, fun j l h => ?_, fun b hb hno => ?_, ?_, rfl, rfl, ⟨rfl, Nat.le_add_right _ _⟩⟩
    · cases j with
      | succ j => simp at ho
      | zero =>
        cases ho
        refine ⟨qj _ _ (scflat d'), .inr ⟨hn, blk, _, ty, fz, ex, ha, hbk, ?_, ?_, by rw [hsz']; exact hcs⟩⟩
        · exact qkj F c _ _ ex hcl hFl (by rw [q8, q8, lnflat, lnflat, hdl])
        · rw [hsz']; exact hcalm
    · rw [(one (H := []) h1).1, (one' h2).1]
    · rw [(one (H := []) h).2]; exact hat
    · cases j with
      | succ j => simp at h
      | zero => cases h
    · have : b ≠ blk := fun e => hno ⟨0, e ▸ hat⟩
      rw [hheap, Array.getElem?_append_left (by simpa using hb), Array.getElem?_modify, if_neg (Ne.symm this)]
    · rw [hheap]; simp
end Go.Am
namespace Go.Dia
def place (n i : Nat) : Nat := if i < n then i else 3 * n - 1 - i
theorem q7 {n i : Nat} (h : i < 2 * n) : place n i < 2 * n := by unfold place; split <;> omega
theorem zd {n i : Nat} (h : i < 2 * n) : place n (place n i) = i := by
  unfold place; by_cases h1 : i < n <;> by_cases h2 : 3 * n - 1 - i < n <;> simp [h1, h2] <;> omega
def j5 (n : Nat) (m : List Nat) : List UInt8 :=
  (List.range (2 * n)).map fun k => if k < place n (m.getD (place n k) 0) then 40 else 41
def parts (s : List UInt8) : Nat → Option (List Nat × List Nat)
  | 0 => some (List.replicate s.length 0, [])
  | k + 1 => match parts s k with
    | none => none
    | some (out, st) => if s.getD k 0 = 40 then some (out, k :: st) else if s.getD k 0 = 41 then (match st with
      | [] => none
      | i :: st' => some ((out.set i k).set k i, st')) else none
def ud (n : Nat) (out : List Nat) : Nat → List Nat
  | 0 => List.replicate 16 0
  | k + 1 => (ud n out k).set (place n k) (place n (out.getD k 0))
def q3t (n : Nat) (m : List Nat) : Bool := (List.range 16).all fun i => if 2 * n ≤ i then m.getD i 0 == 0 else decide (m.getD i 0 < 2 * n)
def Yv (s : List UInt8) : Option (Nat × List Nat) :=
  if s.length % 2 = 0 ∧ 2 ≤ s.length ∧ s.length ≤ 16 then
    match parts s s.length with
    | some (out, []) => some (s.length / 2, ud (s.length / 2) out s.length)
    | _ => none
  else none
def isI (n : Nat) (m : List Nat) : Bool := decide (1 ≤ n ∧ n ≤ 8) && (q3t n m && (Yv (j5 n m) == some (n, m)))
def Wv (n : Nat) (m : List Nat) (i : Nat) : Nat := min (place n i) (place n (m.getD i 0))
def Wo (n : Nat) (m : List Nat) (i : Nat) : Nat := max (place n i) (place n (m.getD i 0))
def qx2 (n : Nat) (m : List Nat) : Bool := (List.range 16).all fun i => if 2 * n ≤ i then m.getD i 0 == 0 else decide (m.getD i 0 < 2 * n ∧ m.getD i 0 ≠ i ∧ m.getD (m.getD i 0) 0 = i)
def qvh (n : Nat) (m : List Nat) : Bool := (List.range (2 * n)).all fun i => (List.range (2 * n)).all fun k =>
  !decide (Wv n m i < Wv n m k ∧ Wv n m k < Wo n m i ∧ Wo n m i < Wo n m k)
def isS (n : Nat) (m : List Nat) : Bool := decide (1 ≤ n ∧ n ≤ 8) && (qx2 n m && qvh n m)
theorem ji {l : List Nat} {i j x : Nat} : (l.set i x).getD j 0 = if i = j ∧ j < l.length then x else l.getD j 0 := by
  simp only [List.getD_eq_getElem?_getD, List.getElem?_set]
  split
  · rename_i h; subst h
    split
    · rename_i h; simp [h]
    · rename_i h; simp [h]
  · rename_i h; simp [h]
theorem gz (n : Nat) (m : List Nat) : (j5 n m).length = 2 * n := by simp [j5]
theorem qtm {n k : Nat} {m : List Nat} (h : k < 2 * n) : (j5 n m).getD k 0 = if k < place n (m.getD (place n k) 0) then 40 else 41 := by
  simp [j5, List.getD_eq_getElem?_getD, h]
theorem qh0 {L : Nat} {s : List UInt8} {F : Nat → Nat} (hL : s.length = L) (hlt : ∀ k, k < L → F k < L) (hinv : ∀ k, k < L → F (F k) = k) (hfix : ∀ k, k < L → F k ≠ k)
    (hcross : ∀ j l, j < L → l < L → ¬(j < l ∧ l < F j ∧ F j < F l)) (hs : ∀ k, k < L → s.getD k 0 = if k < F k then 40 else 41) :
    ∀ k, k ≤ L → ∃ out st, parts s k = some (out, st) ∧ out.length = L ∧ st.Pairwise (· > ·) ∧ (∀ i, i ∈ st ↔ i < k ∧ k ≤ F i) ∧ ∀ i, i < k → F i < k → out.getD i 0 = F i
  | 0, _ => ⟨_, _, rfl, by simp [hL], List.Pairwise.nil, by simp, by omega⟩
  | k + 1, hk => by
    obtain ⟨out, st, h1, h2, h3, h4, h5⟩ := qh0 hL hlt hinv hfix hcross hs k (by omega)
    have hkL : k < L := by omega
    have hne := hfix k hkL
    simp only [parts, h1, hs k hkL]
    by_cases hc : k < F k
    · simp only [hc, if_true]
      refine ⟨_, _, rfl, h2, List.pairwise_cons.2 ⟨fun i hi => ((h4 i).1 hi).1, h3⟩, fun i => ?_, fun i hi hF => ?_⟩
      · rw [List.mem_cons, h4]
        constructor
        · rintro (rfl | ⟨h6, h7⟩)
          · omega
          · have : F i ≠ k := fun e => by have := hinv i (by omega); rw [e] at this; omega
            omega
        · rintro ⟨h6, h7⟩
          by_cases e : i = k
          · exact .inl e
          · exact .inr ⟨by omega, by omega⟩
      · have h6 : i ≠ k := by rintro rfl; omega
        have : F i ≠ k := fun e => by have := hinv i (by omega); rw [e] at this; omega
        exact h5 i (by omega) (by omega)
    · have hFk : F k < k := by omega
      have hj := hinv k hkL
      have hmem : F k ∈ st := (h4 _).2 ⟨hFk, by omega⟩
      simp only [hc, if_false]
      rw [if_neg (by decide), if_pos trivial]
      cases st with
      | nil => simp at hmem
      | cons t st' =>
        have hp := List.pairwise_cons.1 h3
        have ht : t < k ∧ k ≤ F t := (h4 t).1 (by simp)
        have htj : t = F k := by
          rcases List.mem_cons.1 hmem with h6 | h6
          · exact h6.symm
          · exfalso
            have h7 := hp.1 _ h6
            have h8 : F t ≠ k := fun e => by have := hinv t (by omega); rw [e] at this; omega
            exact hcross (F k) t (by omega) (by omega) ⟨h7, by rw [hj]; exact ht.1, by rw [hj]; omega⟩
        subst htj
        refine ⟨_, _, rfl, by simp [h2], hp.2, fun i => ?_, fun i hi hF => ?_⟩
        · constructor
          · intro h6
            have h7 := hp.1 i h6
            have h8 := (h4 i).1 (List.mem_cons_of_mem _ h6)
            have : F i ≠ k := fun e => by have := hinv i (by omega); rw [e] at this; omega
            omega
          · rintro ⟨h6, h7⟩
            have h8 : i ≠ k := by rintro rfl; omega
            have h9 := (h4 i).2 ⟨by omega, by omega⟩
            rcases List.mem_cons.1 h9 with rfl | h9
            · omega
            · exact h9
        · simp only [ji, List.length_set, h2]
          by_cases e1 : k = i
          · subst e1; simp [hkL]
          · by_cases e2 : F k = i
            · subst e2; rw [if_neg (by omega), if_pos ⟨rfl, by omega⟩, hj]
            · rw [if_neg (by omega), if_neg (by omega)]
              have : F i ≠ k := fun e => by have := hinv i (by omega); rw [e] at this; omega
              exact h5 i (by omega) (by omega)
theorem qh9 {s : List UInt8} : ∀ k out st, k ≤ s.length → parts s k = some (out, st) → out.length = s.length ∧ st.Pairwise (· > ·) ∧ (∀ i, i ∈ st → i < k) ∧
    (∀ i, i < k → i ∉ st → out.getD i 0 < k ∧ out.getD i 0 ≠ i ∧ out.getD i 0 ∉ st ∧ out.getD (out.getD i 0) 0 = i) ∧
    (∀ i j, i < k → j < k → i ∉ st → j ∉ st → ¬(i < j ∧ j < out.getD i 0 ∧ out.getD i 0 < out.getD j 0)) ∧
    (∀ i t, i < k → i ∉ st → t ∈ st → ¬(i < t ∧ t < out.getD i 0)) ∧ (∀ i, i < k → (s.getD i 0 = 40 ↔ (i ∈ st ∨ i < out.getD i 0)) ∧ (s.getD i 0 = 40 ∨ s.getD i 0 = 41))
  | 0, out, st, _, h => by
    simp only [parts, Option.some.injEq, Prod.mk.injEq] at h
    obtain ⟨rfl, rfl⟩ := h
    simp
  | k + 1, out, st, hk, h => by
    simp only [parts] at h
    split at h
    · cases h
    rename_i out0 st0 h0
    obtain ⟨h1, h2, h3, h4, h5, h6, h7⟩ := qh9 k out0 st0 (by omega) h0
    split at h
    · rename_i hc
      simp only [Option.some.injEq, Prod.mk.injEq] at h
      obtain ⟨rfl, rfl⟩ := h
      refine ⟨h1, List.pairwise_cons.2 ⟨fun i hi => h3 i hi, h2⟩, ?_, ?_, ?_, ?_, ?_⟩
      · intro i hi
        rcases List.mem_cons.1 hi with rfl | hi
        · omega
        · have := h3 i hi; omega
      · intro i hi hn
        simp only [List.mem_cons, not_or] at hn
        obtain ⟨a1, a2, a3, a4⟩ := h4 i (by omega) hn.2
        refine ⟨by omega, a2, ?_, a4⟩
        simp only [List.mem_cons, not_or]
        exact ⟨by omega, a3⟩
      · intro i j hi hj hni hnj
        simp only [List.mem_cons, not_or] at hni hnj
        exact h5 i j (by omega) (by omega) hni.2 hnj.2
      · intro i t hi hni ht
        simp only [List.mem_cons, not_or] at hni
        rcases List.mem_cons.1 ht with rfl | ht
        · have := (h4 i (by omega) hni.2).1; omega
        · exact h6 i t (by omega) hni.2 ht
      · intro i hi
        by_cases e : i = k
        · subst e; exact ⟨⟨fun _ => .inl (by simp), fun _ => hc⟩, .inl hc⟩
        · have := h7 i (by omega)
          simp only [List.mem_cons, e, false_or]; exact this
    · rename_i hc
      split at h
      · rename_i hc2
        split at h
        · cases h
        rename_i t st'
        simp only [Option.some.injEq, Prod.mk.injEq] at h
        obtain ⟨rfl, rfl⟩ := h
        have hp := List.pairwise_cons.1 h2
        have htk := h3 t (by simp)
        have hts : t ∉ st' := fun hm => by have := hp.1 t hm; omega
        have hks : k ∉ st' := fun hm => by have := h3 k (List.mem_cons_of_mem _ hm); omega
        have gk : ((out0.set t k).set k t).getD k 0 = t := by rw [ji, if_pos ⟨rfl, by rw [List.length_set]; omega⟩]
        have gt : ((out0.set t k).set k t).getD t 0 = k := by rw [ji, if_neg (by omega), ji, if_pos ⟨rfl, by omega⟩]
        have go : ∀ i, i ≠ k → i ≠ t → ((out0.set t k).set k t).getD i 0 = out0.getD i 0 := fun i a b => by
          simp only [ji, List.length_set]; rw [if_neg (by omega), if_neg (by omega)]
        have old : ∀ i, i < k + 1 → i ∉ st' → i ≠ k → i ≠ t → i < k ∧ i ∉ t :: st' := fun i a b c d => ⟨by omega, by simp [d, b]⟩
        refine ⟨by simp [h1], hp.2, fun i hi => by have := h3 i (List.mem_cons_of_mem _ hi); omega, ?_, ?_, ?_, ?_⟩
        · intro i hi hn
          by_cases e1 : i = k
          · subst e1; rw [gk, gt]; exact ⟨by omega, by omega, hts, rfl⟩
          · by_cases e2 : i = t
            · subst e2; rw [gt, gk]; exact ⟨by omega, by omega, hks, rfl⟩
            · obtain ⟨a, b⟩ := old i hi hn e1 e2
              obtain ⟨a1, a2, a3, a4⟩ := h4 i a b
              simp only [List.mem_cons, not_or] at a3
              rw [go i e1 e2, go _ (by omega) a3.1]
              exact ⟨by omega, a2, a3.2, a4⟩
        · intro i j hi hj hni hnj ⟨b1, b2, b3⟩
          have hout : ∀ i, i < k + 1 → i ∉ st' → ((out0.set t k).set k t).getD i 0 ≤ k := by
            intro i hi hni
            by_cases e1 : i = k
            · subst e1; rw [gk]; omega
            · by_cases e2 : i = t
              · subst e2; rw [gt]; omega
              · obtain ⟨a, b⟩ := old i hi hni e1 e2
                rw [go i e1 e2]; have := (h4 i a b).1; omega
          have b4 := hout i hi hni
          have b5 := hout j hj hnj
          have e1 : i ≠ k := by omega
          have e2 : j ≠ k := by omega
          by_cases e3 : i = t
          · subst e3; rw [gt] at b3; omega
          · obtain ⟨a, b⟩ := old i hi hni e1 e3
            rw [go i e1 e3] at b2 b3
            by_cases e4 : j = t
            · subst e4; exact h6 i j a b (by simp) ⟨b1, b2⟩
            · obtain ⟨a', b'⟩ := old j hj hnj e2 e4
              rw [go j e2 e4] at b3
              exact h5 i j a a' b b' ⟨b1, b2, b3⟩
        · intro i t' hi hni ht' ⟨b1, b2⟩
          have hb := h3 t' (List.mem_cons_of_mem _ ht')
          have hb2 := hp.1 t' ht'
          by_cases e1 : i = k
          · omega
          · by_cases e2 : i = t
            · omega
            · obtain ⟨a, b⟩ := old i hi hni e1 e2
              rw [go i e1 e2] at b2
              exact h6 i t' a b (List.mem_cons_of_mem _ ht') ⟨b1, b2⟩
        · intro i hi
          by_cases e1 : i = k
          · subst e1
            refine ⟨⟨fun h => absurd h hc, fun h => ?_⟩, .inr hc2⟩
            rcases h with h | h
            · exact absurd h hks
            · rw [gk] at h; omega
          · have h8 := h7 i (by omega)
            refine ⟨?_, h8.2⟩
            rw [h8.1]
            by_cases e2 : i = t
            · subst e2; rw [gt]; simp [htk]
            · rw [go i e1 e2]; simp [e2]
      · cases h
theorem X4 (n : Nat) (out : List Nat) : ∀ k, (ud n out k).length = 16
  | 0 => by simp [ud]
  | k + 1 => by simp [ud, X4 n out k]
theorem U7 {n : Nat} {out : List Nat} (hn : n ≤ 8) : ∀ k, k ≤ 2 * n → ∀ i, i < 2 * n → (ud n out k).getD (place n i) 0 = if i < k then place n (out.getD i 0) else 0
  | 0, _, i, hi => by
    have := q7 hi
    simp only [ud, List.getD_eq_getElem?_getD, List.getElem?_replicate]
    split <;> simp
  | k + 1, hk, i, hi => by
    simp only [ud, ji, X4]
    have h1 := q7 hi
    by_cases e : i = k
    · subst e
      rw [if_pos ⟨rfl, by omega⟩, if_pos (by omega)]
    · have h2 : place n k ≠ place n i := fun h => e (by rw [← zd hi, ← h, zd (by omega)])
      rw [if_neg (fun h => h2 h.1), U7 hn k (by omega) i hi]
      by_cases h3 : i < k
      · rw [if_pos h3, if_pos (by omega)]
      · rw [if_neg h3, if_neg (by omega)]
theorem qax {n : Nat} {out : List Nat} : ∀ k, k ≤ 2 * n → ∀ i, 2 * n ≤ i → (ud n out k).getD i 0 = 0
  | 0, _, i, hi => by
    simp only [ud, List.getD_eq_getElem?_getD, List.getElem?_replicate]
    split <;> simp
  | k + 1, hk, i, hi => by
    have := q7 (n := n) (i := k) (by omega)
    simp only [ud, ji]
    rw [if_neg (by omega), qax k (by omega) i hi]
theorem qma {l m : List Nat} (hl : l.length = 16) (hm : m.length = 16) (h : ∀ i, i < 16 → l.getD i 0 = m.getD i 0) : l = m := by
  refine List.ext_getElem (by omega) fun i h1 h2 => ?_
  have := h i (by omega)
  simpa [List.getD_eq_getElem?_getD, h1, h2] using this
theorem Vx (n : Nat) (m : List Nat) (hm : m.length = 16) : isS n m = isI n m := by
  unfold isS isI
  by_cases hn : 1 ≤ n ∧ n ≤ 8
  case neg => simp [hn]
  simp only [hn, decide_true, Bool.true_and, and_self]
  obtain ⟨hn1, hn8⟩ := hn
  have hcond : 2 * n % 2 = 0 ∧ 2 ≤ 2 * n ∧ 2 * n ≤ 16 := ⟨by omega, by omega, by omega⟩
  have hhalf : 2 * n / 2 = n := by omega
  refine Bool.eq_iff_iff.2 ⟨fun h => ?_, fun h => ?_⟩
  · simp only [Bool.and_eq_true] at h ⊢
    obtain ⟨hp, hc⟩ := h
    have hp' : ∀ i, i < 2 * n → m.getD i 0 < 2 * n ∧ m.getD i 0 ≠ i ∧ m.getD (m.getD i 0) 0 = i := fun i hi => by
      have := List.all_eq_true.1 hp i (List.mem_range.2 (by omega))
      rw [if_neg (by omega)] at this
      simpa using this
    have hz : ∀ i, 2 * n ≤ i → i < 16 → m.getD i 0 = 0 := fun i hi hi' => by
      have := List.all_eq_true.1 hp i (List.mem_range.2 hi')
      rw [if_pos hi] at this
      simpa using this
    refine ⟨?_, ?_⟩
    · refine List.all_eq_true.2 fun i hi => ?_
      have hi' := List.mem_range.1 hi
      split
      · rename_i h1; simpa using hz i h1 hi'
      · rename_i h1; simpa using (hp' i (by omega)).1
    · let F : Nat → Nat := fun k => place n (m.getD (place n k) 0)
      have hF : ∀ k, k < 2 * n → F k < 2 * n := fun k hk => q7 (hp' _ (q7 hk)).1
      have hinv : ∀ k, k < 2 * n → F (F k) = k := fun k hk => by
        show place n (m.getD (place n (place n (m.getD (place n k) 0))) 0) = k
        rw [zd (hp' _ (q7 hk)).1, (hp' _ (q7 hk)).2.2, zd hk]
      have hfix : ∀ k, k < 2 * n → F k ≠ k := fun k hk e => by
        have h1 := (hp' _ (q7 hk)).2.1
        apply h1
        rw [← zd (hp' _ (q7 hk)).1]
        show place n (F k) = place n k
        rw [e]
      have hcross : ∀ j l, j < 2 * n → l < 2 * n → ¬(j < l ∧ l < F j ∧ F j < F l) := by
        rintro j l hj hl ⟨b1, b2, b3⟩
        have h1 := List.all_eq_true.1 (List.all_eq_true.1 hc (place n j) (List.mem_range.2 (q7 hj))) (place n l) (List.mem_range.2 (q7 hl))
        simp only [Wv, Wo, zd hj, zd hl, Bool.not_eq_true', decide_eq_false_iff_not] at h1
        apply h1
        show min j (F j) < min l (F l) ∧ min l (F l) < max j (F j) ∧ max j (F j) < max l (F l)
        omega
      obtain ⟨out, st, h1, h2, h3, h4, h5⟩ := qh0 (s := j5 n m) (F := F) (gz n m) hF hinv hfix hcross (fun k hk => qtm hk) (2 * n) (Nat.le_refl _)
      have hst : st = [] := by
        cases st with
        | nil => rfl
        | cons t st' =>
          have := (h4 t).1 (by simp)
          have := hF t this.1
          omega
      subst hst
      have : ud n out (2 * n) = m := by
        refine qma (X4 _ _ _) hm fun i hi => ?_
        by_cases h6 : i < 2 * n
        · have h7 := U7 (out := out) hn8 (2 * n) (Nat.le_refl _) (place n i) (q7 h6)
          rw [zd h6, if_pos (q7 h6), h5 _ (q7 h6) (hF _ (q7 h6))] at h7
          rw [h7]
          show place n (place n (m.getD (place n (place n i)) 0)) = _
          rw [zd h6, zd (hp' i h6).1]
        · rw [qax _ (Nat.le_refl _) i (by omega), hz i (by omega) hi]
      simp only [Yv, gz, hcond, and_self, if_true, h1, hhalf, this, beq_self_eq_true]
  · simp only [Bool.and_eq_true] at h ⊢
    obtain ⟨hr, he⟩ := h
    have hr' : ∀ i, i < 2 * n → m.getD i 0 < 2 * n := fun i hi => by
      have := List.all_eq_true.1 hr i (List.mem_range.2 (by omega))
      rw [if_neg (by omega)] at this
      simpa using this
    have hz : ∀ i, 2 * n ≤ i → i < 16 → m.getD i 0 = 0 := fun i hi hi' => by
      have := List.all_eq_true.1 hr i (List.mem_range.2 hi')
      rw [if_pos hi] at this
      simpa using this
    simp only [Yv, gz, hcond, and_self, if_true, hhalf] at he
    split at he
    · rename_i out hout
      simp only [beq_iff_eq, Option.some.injEq, Prod.mk.injEq, true_and] at he
      obtain ⟨h1, h2, h3, h4, h5, h6, h7⟩ := qh9 (2 * n) out [] (by rw [gz]; omega) hout
      have ho : ∀ k, k < 2 * n → out.getD k 0 < 2 * n ∧ out.getD k 0 ≠ k ∧ out.getD (out.getD k 0) 0 = k := fun k hk => by
        obtain ⟨a, b, _, d⟩ := h4 k hk (by simp)
        exact ⟨a, b, d⟩
      have hmo : ∀ k, k < 2 * n → m.getD (place n k) 0 = place n (out.getD k 0) := fun k hk => by
        rw [← he, U7 hn8 (2 * n) (Nat.le_refl _) k hk, if_pos hk]
      have hmo' : ∀ i, i < 2 * n → m.getD i 0 = place n (out.getD (place n i) 0) := fun i hi => by
        have := hmo (place n i) (q7 hi)
        rwa [zd hi] at this
      refine ⟨?_, ?_⟩
      · refine List.all_eq_true.2 fun i hi => ?_
        have hi' := List.mem_range.1 hi
        split
        · rename_i g1; simpa using hz i g1 hi'
        · rename_i g1
          have hi2 : i < 2 * n := by omega
          obtain ⟨a, b, c⟩ := ho (place n i) (q7 hi2)
          simp only [decide_eq_true_eq]
          refine ⟨hr' i hi2, fun e => ?_, ?_⟩
          · apply b
            rw [hmo' i hi2] at e
            rw [← zd a, e]
          · rw [hmo' i hi2, hmo _ a, c, zd hi2]
      · refine List.all_eq_true.2 fun i hi => List.all_eq_true.2 fun k hk => ?_
        have hi' := List.mem_range.1 hi
        have hk' := List.mem_range.1 hk
        obtain ⟨a, b, c⟩ := ho (place n i) (q7 hi')
        obtain ⟨a', b', c'⟩ := ho (place n k) (q7 hk')
        have e1 : place n (m.getD i 0) = out.getD (place n i) 0 := by rw [hmo' i hi', zd a]
        have e2 : place n (m.getD k 0) = out.getD (place n k) 0 := by rw [hmo' k hk', zd a']
        simp only [Wv, Wo, e1, e2, Bool.not_eq_true', decide_eq_false_iff_not]
        rintro ⟨b1, b2, b3⟩
        have hx := q7 hi'
        have hy := q7 hk'
        generalize hxe : place n i = x at *
        generalize hye : place n k = y at *
        have key : ∀ u v, u < 2 * n → v < 2 * n → ¬(u < v ∧ v < out.getD u 0 ∧ out.getD u 0 < out.getD v 0) := fun u v hu hv => h5 u v hu hv (by simp) (by simp)
        have k1 := key x y hx hy
        have k2 := key x (out.getD y 0) hx a'
        have k3 := key (out.getD x 0) y a hy
        have k4 := key (out.getD x 0) (out.getD y 0) a a'
        rw [c'] at k2
        rw [c] at k3
        rw [c, c'] at k4
        omega
    · simp at he
end Go.Dia
namespace Go.Am
open Go.ChangeShapes Go.WideShapes Go.ChangeAt Go.RowKit
set_option linter.unusedVariables false
set_option linter.unusedSimpArgs false
theorem qxe {P : Program} {f : FuncId} {xs : List AV} {H : List AO} (h : Fn P f xs H fun v _ => v = .bool true) (hro : ∀ o ∈ H, o.wr = false) {ι : Nat → Loc} {w : World} (hok : HOk ι H w.heap)
    (hu : AV.qu H.length xs) : Calls P f (qx ι xs).toArray w fun e w' => e = .returned (.bool true) ∧ w.keptBut w' (fun _ => False) ∧ ∀ b, b < w.heap.size → w'.heap[b]? = w.heap[b]? := by
  refine (h.2 ι w hok hu).mono ?_
  rintro e w' ⟨v, H', ι', rfl, hv, _, _, _, _, _, _, _, hfr, hgrow, hos, hout, htape⟩
  subst hv
  have hold : ∀ b, b < w.heap.size → w'.heap[b]? = w.heap[b]? := fun i hi => hfr i hi fun ⟨j, o, hj, hw, _⟩ => by rw [hro o (List.mem_of_getElem? hj)] at hw; cases hw
  exact ⟨rfl, World.keptBut_none_iff.2 ⟨hos, hout, hold⟩, hold⟩
theorem qa9 {P : Program} {H : Type} {enc : TypeId × Value → H} {W W' : World} (hl : laidOutB P = true) (hz : ∀ t e, t < P.types.size → P.underlying t = some (.slice e) → 0 < P.cellsOf e)
    (hh : ∀ b, b < W.heap.size → W'.heap[b]? = W.heap[b]?) : ∀ {ts : List TypeId} {vs : List Value} {ds : List (DataW H)} {ps : List MemPlace}, (∀ t ∈ ts, P.readableRec t = true ∧ t < P.types.size) →
    DataW.TrodAll enc P W 0 (fun _ => true) true ts vs ds ps → DataW.TrodAll enc P W' 0 (fun b => decide (b < W.heap.size)) true ts vs ds ps
  | [], [], [], _, _, h => h
  | t :: ts, v :: vs, d :: ds, _, hT, ⟨p, q, ⟨n, h1⟩, h2, e⟩ => by
    refine ⟨p, q, ⟨n, ?_⟩, qa9 hl hz hh (fun u hu => hT u (List.mem_cons_of_mem _ hu)) h2, e⟩
    obtain ⟨hr, hs⟩ := hT t (List.mem_cons_self ..)
    have hlt := DataW.trod_lt n t _ _ h1
    have h3 := DataW.trod_respare (spare' := fun b => decide (b < W.heap.size)) (kids_book hl hr) (fun t e ht => hz t e ht.1) n t _ _ ⟨hs, book_self t⟩ h1 (fun p hp => decide_eq_true (hlt p hp))
    refine DataW.trod_carry n t _ _ h3 fun x hx => ?_
    have := hlt x hx
    cases x with
    | cell b off =>
      simp only [World.sameAt, World.cell?]
      rw [hh b this]
    | map b => exact hh b this
theorem qzu {P : Program} {H : Type} {enc : TypeId × Value → H} {f : Func} {s : ChangeSpec} {W W' : World} {args : Array Value} {ds gs : List (DataW H)} {before : List MemPlace} {t : TypeId}
    (hW : DataW.Whole enc P f.params.toList s.vars false W args.toList ds gs before) (hv : s.vars = []) (hf : (s.fn H (ds ++ gs)).results = [.lit (.bool true)] ∧ (s.fn H (ds ++ gs)).args = ds ∧ (s.fn H (ds ++ gs)).vars = [])
    (ht : f.resultTypes = #[t]) (hb : P.underlying t = some .bool) (hl : laidOutB P = true) (hz : ∀ t e, t < P.types.size → P.underlying t = some (.slice e) → 0 < P.cellsOf e)
    (hT : ∀ t ∈ f.params.toList, P.readableRec t = true ∧ t < P.types.size) (hk : W.keptBut W' (fun _ => False)) (hh : ∀ b, b < W.heap.size → W'.heap[b]? = W.heap[b]?) :
    s.post enc P f false true false false W args (.bool true) W' := by
  have hW' := hW
  obtain ⟨p, q, hA, hV, rfl, hfz, hnd⟩ := hW
  refine ⟨ds, gs, _, [], p, [], hW', ?_, ?_, ?_, World.keptBut_mono (fun _ h => h.elim) hk, fun h => by cases h⟩
  · rw [hf.1, ht]
    exact trodAll_cons_mk (shut_bool hb _) trodAll_mk0
  · rw [hf.2.1]; exact qa9 hl hz hh hT hA
  · rw [hf.2.2, hv]; rfl
section
variable {H : Type} {enc : TypeId × Value → H} {P : Program} {w : World} {base : Nat} {spare : Nat → Bool} {held : Bool}
end
end Go.Am
namespace Go.Am
set_option linter.unusedVariables false
set_option linter.defProp false
def qp := And.intro @qr2 <| And.intro @qvn <| And.intro @qws <| And.intro @qtx <| And.intro @qxj <| And.intro @qr5 <| And.intro @qtz <| And.intro @qhl <| And.intro @qez <| And.intro @qwx <| And.intro @qwl <| And.intro @q0b <| And.intro @qzj <| And.intro @qvz <| And.intro @qz0 <| And.intro @qxi <| And.intro @qwj <| And.intro @qr3 <| And.intro @q4v <| And.intro @qz6 <| And.intro @q3f <| And.intro @q7r <| And.intro @qw8 <| And.intro @q5a <| And.intro @qw4 <| And.intro @qwy <| And.intro @qxu <| And.intro @qvv <| And.intro @qsj <| And.intro @qtv <| And.intro @q1x <| And.intro @qv6 <| And.intro @qr1 <| And.intro @qtc <| And.intro @qv2 <| And.intro @qt0 <| And.intro @q23 <| And.intro @qs1 <| And.intro @qzk <| And.intro @q10 <| And.intro @qzr <| And.intro @qsb <| And.intro @qyz <| And.intro @q2b <| And.intro @qte <| And.intro @qw1 <| And.intro @q3m <| And.intro @qwk <| And.intro @q4n <| And.intro @q35 <| And.intro @qon <| And.intro @q1h <| And.intro @qth <| And.intro @jh <| @q6
def q99 := And.intro @qhl <| And.intro @qez <| And.intro @Int.toNat_natCast <| And.intro @Nat.mul_one <| And.intro @zp <| And.intro @qpl <| And.intro @qp6 <| And.intro @qpu <| And.intro @zg <| And.intro @zh <| And.intro @q1v <| And.intro @Nat.zero_add <| And.intro @Nat.add_zero <| And.intro @true_and <| And.intro @and_true <| And.intro @Bool.not_true <| And.intro @Bool.not_false <| And.intro @true_implies <| And.intro @false_implies <| And.intro @decide_true <| And.intro @decide_false <| And.intro @true_or <| And.intro @or_true <| And.intro @or_false <| And.intro @false_or <| And.intro @not_true_eq_false <| And.intro @AV.bool.injEq <| And.intro @Bool.and_self <| And.intro @Bool.not_eq_true' <| And.intro @Bool.not_eq_false' <| @not_false_eq_true
def q8x := And.intro @qyk <| And.intro @q7q <| And.intro @q9u <| And.intro @q70 <| And.intro @q2l <| And.intro @qyn <| And.intro @q20 <| And.intro (fun ids n m => qd ids _ (qg n m)) <| And.intro (fun ids l => qd ids _ (yf l)) <| And.intro (fun ids l => qd ids _ (qz l)) <| (fun ids l => qd ids _ (Z7 l))
def q8c := And.intro @qje <| And.intro @ku <| And.intro @q5l <| And.intro @q6d <| And.intro @q0z <| And.intro @qyd <| And.intro @q3l <| And.intro @q13 <| And.intro (fun ρ n m => qb ρ _ (qg n m)) <| And.intro (fun ρ l => qb ρ _ (yf l)) <| And.intro (fun ρ l => qb ρ _ (qz l)) <| (fun ρ l => qb ρ _ (Z7 l))
def q87 := And.intro @List.length_nil.{0} <| And.intro @List.length_cons.{0} <| And.intro @List.map_cons.{0,0} <| And.intro @List.map_nil.{0,0} <| And.intro @List.append_nil.{0} <| And.intro @List.nil_append.{0} <| And.intro @List.cons_append.{0} <| And.intro @List.nil_eq.{0} <| And.intro @beq_iff_eq.{0} <| And.intro @beq_eq_false_iff_ne.{0} <| And.intro @bne_iff_ne.{0} <| And.intro @bne_eq_false_iff_eq.{0} <| And.intro @eq_self.{1} <| And.intro @ne_eq.{1} <| And.intro @cond_true.{1} <| And.intro @cond_false.{1} <| And.intro @exists_eq'.{1} <| And.intro @decide_eq_true_eq <| @decide_eq_false_iff_not
def q5q := And.intro @List.mem_cons.{0} <| And.intro @List.not_mem_nil.{0} <| And.intro @or_false <| And.intro @forall_eq_or_imp.{1} <| And.intro @forall_eq.{1} <| And.intro @List.getElem?_cons_zero.{0} <| And.intro @List.getElem?_cons_succ.{0} <| And.intro @List.getElem?_nil.{0} <| And.intro @List.contains_cons.{0} <| And.intro @List.contains_nil.{0} <| And.intro @zp <| And.intro @beq_self_eq_true.{0} <| And.intro @Bool.or_true <| And.intro @Bool.true_or <| And.intro @Bool.or_false <| And.intro @Bool.false_or <| And.intro @Bool.and_self <| And.intro @Bool.and_true <| And.intro @Bool.true_and <| And.intro @and_self <| And.intro @and_true <| And.intro @true_and <| And.intro @List.cons_append.{0} <| And.intro @List.nil_append.{0} <| And.intro @List.set_cons_zero.{0} <| @List.set_cons_succ.{0}
def q88 := And.intro @Option.bind_some.{0,0} <| And.intro @Option.map_some.{0,0} <| And.intro @zp <| And.intro @List.map_cons.{0,0} <| And.intro @List.map_nil.{0,0} <| And.intro @List.getElem?_cons_zero.{0} <| And.intro @List.getElem?_cons_succ.{0} <| And.intro @List.getElem?_nil.{0} <| And.intro @Nat.add_zero <| And.intro @Nat.zero_add <| And.intro @List.cons_append.{0} <| And.intro @List.nil_append.{0} <| And.intro @List.set_cons_zero.{0} <| @List.set_cons_succ.{0}
def q8y := And.intro @List.getElem?_cons_zero.{0} <| And.intro @List.getElem?_cons_succ.{0} <| And.intro @List.getElem?_nil.{0} <| And.intro @List.set_cons_zero.{0} <| And.intro @List.set_cons_succ.{0} <| And.intro @List.drop_zero.{0} <| And.intro @List.drop_succ_cons.{0} <| And.intro @List.take_zero.{0} <| @List.take_succ_cons.{0}
def zH := And.intro q8y <| And.intro @gi.eq_1 <| And.intro @gi.eq_2 <| And.intro @rd.eq_1 <| And.intro @wrt.eq_1 <| And.intro @wrl.eq_1 <| And.intro @AO.Ya.eq_1 <| And.intro @AO.Ya.eq_2 <| @AO.Ya.eq_3
def zZ := And.intro wbE <| And.intro q99 <| And.intro q87 <| And.intro @Ud.eq_1 <| And.intro @Ud.eq_2 <| And.intro @implies_true.{1} <| And.intro @AK.W5.eq_1 <| And.intro @AK.W5.eq_2 <| And.intro @AK.W5.eq_3 <| And.intro @ev.eq_1 <| And.intro @ev.eq_2 <| And.intro @xh.eq_1 <| And.intro @xh.eq_2 <| And.intro @kq.eq_1 <| And.intro @kq.eq_2 <| And.intro @kq.eq_3 <| And.intro @kq.eq_4 <| And.intro @kq.eq_5 <| And.intro @kq.eq_6 <| And.intro @kq.eq_7 <| And.intro @kq.eq_8 <| And.intro @kq.eq_9 <| And.intro @kq.eq_10 <| And.intro @kq.eq_11 <| And.intro @kq.eq_12 <| And.intro @kq.eq_13 <| And.intro @kq.eq_14 <| And.intro @kq.eq_15 <| And.intro @kq.eq_16 <| And.intro @kq.eq_17 <| And.intro @kq.eq_18 <| And.intro @kq.eq_19 <| And.intro @kq.eq_20 <| And.intro @kq.eq_21 <| And.intro @kq.eq_22 <| And.intro @aun.eq_1 <| And.intro @aun.eq_2 <| And.intro @aun.eq_3 <| And.intro @AV.cells.eq_1 <| And.intro @AV.cells.eq_2 <| And.intro @AV.cells.eq_3 <| And.intro @AV.cells.eq_4 <| And.intro @AV.cells.eq_5 <| And.intro @q4u.eq_1 <| And.intro @Vk.eq_1 <| And.intro @Vk.eq_2 <| And.intro @Vk.eq_3 <| And.intro @Vk.eq_4 <| And.intro @xl.eq_1 <| And.intro @xl.eq_2 <| And.intro @AV.zo.eq_1 <| And.intro @AV.zo.eq_2 <| And.intro @AV.zo.eq_3 <| And.intro @AV.zo.eq_4 <| And.intro @AV.zo.eq_5 <| And.intro @AV.zo.eq_6 <| And.intro @AV.zo.eq_7 <| And.intro @AV.ze.eq_1 <| @AV.ze.eq_2
def zK := And.intro q8x <| And.intro q5q <| And.intro @AV.within.eq_1 <| And.intro @AV.within.eq_2 <| And.intro @AV.within.eq_3 <| And.intro @AV.within.eq_4 <| And.intro @AV.within.eq_5 <| And.intro @AV.within.eq_6 <| And.intro @AV.within.eq_7 <| And.intro @AV.xd.eq_1 <| And.intro @AV.xd.eq_2 <| @implies_true.{1}
def zL := And.intro q8c <| And.intro q88 <| And.intro @Gg.eq_1 <| And.intro @zn.eq_1 <| And.intro @qv.eq_1 <| And.intro @qv.eq_2 <| And.intro @AV.ren.eq_1 <| And.intro @AV.ren.eq_2 <| And.intro @AV.ren.eq_3 <| And.intro @AV.ren.eq_4 <| And.intro @AV.ren.eq_5 <| And.intro @AV.ren.eq_6 <| And.intro @AV.ren.eq_7 <| And.intro @AV.ren.eq_8 <| And.intro @AV.ren.eq_9 <| And.intro @AV.ren.eq_10 <| And.intro @AV.ren.eq_11 <| And.intro @AV.zk.eq_1 <| And.intro @AV.zk.eq_2 <| And.intro @pos.eq_1 <| @pos.eq_2
def zV := And.intro @List.map_cons.{0,0} <| And.intro @List.map_nil.{0,0} <| And.intro @List.set_cons_zero.{0} <| And.intro @List.set_cons_succ.{0} <| And.intro @List.getElem?_cons_zero.{0} <| And.intro @List.getElem?_cons_succ.{0} <| And.intro @and_self <| And.intro @false_and <| And.intro @and_false <| And.intro @List.all_cons.{0} <| And.intro @List.all_nil.{0} <| And.intro @Bool.and_self <| And.intro @Bool.and_true <| And.intro @Bool.or_true <| And.intro @Bool.or_false <| And.intro @beq_self_eq_true.{0} <| And.intro @Bool.not_true <| And.intro @Bool.not_false <| And.intro @List.cons_append.{0} <| And.intro @List.nil_append.{0} <| And.intro (fun b n m d => vp b n _ (qg m d)) <| And.intro (fun b n l => vp b n _ (yf l)) <| And.intro (fun b n l => vp b n _ (qz l)) <| And.intro (fun b n l => vp b n _ (Z7 l)) <| And.intro (fun b m d => vo b _ (qg m d)) <| And.intro (fun b l => vo b _ (yf l)) <| And.intro (fun b l => vo b _ (qz l)) <| And.intro (fun b l => vo b _ (Z7 l)) <| And.intro @qam.eq_1 <| And.intro @AV.xe.eq_1 <| And.intro @AV.xe.eq_2 <| And.intro @AV.xe.eq_3 <| And.intro @AV.xe.eq_4 <| And.intro @AV.xe.eq_5 <| And.intro @AV.xe.eq_6 <| And.intro @AV.xe.eq_7 <| And.intro @AV.xe.eq_8 <| And.intro @AV.xe.eq_9 <| And.intro @AV.xe.eq_10 <| And.intro @AV.xe.eq_11 <| And.intro @AO.xe.eq_1 <| And.intro @AO.xe.eq_2 <| And.intro @AO.xe.eq_3 <| And.intro @AO.xe.eq_4 <| And.intro @AO.xe.eq_5 <| And.intro @AO.xe.eq_6 <| And.intro @AO.xe.eq_7 <| And.intro @AV.bc.eq_1 <| And.intro @AV.bc.eq_2 <| And.intro @AV.exact.eq_1 <| And.intro @AV.exact.eq_2 <| And.intro @AV.exact.eq_3 <| And.intro @AV.exact.eq_4 <| And.intro @AV.exact.eq_5 <| And.intro @AV.Qo.eq_1 <| And.intro @AV.Qo.eq_2 <| And.intro @AO.exact.eq_1 <| And.intro @AO.exact.eq_2 <| And.intro @AO.exact.eq_3 <| And.intro @AO.exact.eq_4 <| @AO.exact.eq_5
def zY := And.intro @q0v <| And.intro @qru <| And.intro @not_not_eq <| And.intro @Bool.not_eq_false @Bool.not_eq_true
abbrev o0 (d : Nat) (x : AOp) : AI := ⟨some d, none, .op x⟩
abbrev oG (d g : Nat) (b : Bool) (x : AOp) : AI := ⟨some d, some (g, b), .op x⟩
abbrev oM (d a : Nat) : AI := ⟨some d, none, .op (.mov (.t a))⟩
abbrev oI (d : Nat) (n : Int) : AI := ⟨some d, none, .op (.mov (.c (.int .i64 n)))⟩
abbrev oB (d : Nat) (b : Bool) : AI := ⟨some d, none, .op (.mov (.c (.bool b)))⟩
abbrev oL (d a : Nat) : AI := ⟨some d, none, .op (.Wg (.t a))⟩
abbrev oN (d n a : Nat) : AI := ⟨some d, none, .op (.Yb n (.t a))⟩
abbrev oS (n a x : Nat) : AI := ⟨none, none, .op (.qb1 n (.t a) (.t x))⟩
abbrev oT (a x : Nat) : AI := ⟨none, none, .op (.Zj (.t a) (.t x))⟩
abbrev oF (d k a : Nat) : AI := ⟨some d, none, .op (.qaz k (.t a))⟩
abbrev oX (d n a i : Nat) : AI := ⟨some d, none, .op (.W4 n (.t a) (.t i))⟩
abbrev oE (d i a : Nat) : AI := ⟨some d, none, .op (.ext i (.t a))⟩
abbrev oC (d f : Nat) (l : List Opd) : AI := ⟨some d, none, .call (.c (.fn f [] [])) l⟩
abbrev oP (d : Nat) (o : BinOp) (a b : Nat) : AI := ⟨some d, none, .op (.bin o (.t a) (.t b))⟩
abbrev oK (d : Nat) (o : BinOp) (a : Nat) (n : Int) : AI := ⟨some d, none, .op (.bin o (.t a) (.c (.int .i64 n)))⟩
abbrev oZ (d : Nat) : AI := ⟨some d, none, .op (.alloc [.int .i64 0, .int .i64 0, .int .i64 0, .v (.slice none 0 0)])⟩
abbrev oD (d : Nat) : AI := ⟨some d, none, .op (.alloc [.int .i64 0, .int .u8 0, .int .u8 0, .int .u8 0, .int .u8 0, .int .u8 0, .int .u8 0, .int .u8 0, .int .u8 0, .int .u8 0, .int .u8 0, .int .u8 0, .int .u8 0, .int .u8 0, .int .u8 0, .int .u8 0, .int .u8 0])⟩
end Go.Am
namespace Go.Am
set_option linter.unusedVariables false
set_option linter.unusedSimpArgs false
set_option linter.defProp false
mutual
def AV.refs : AV → List Nat
  | .ptr b _ => [b]
  | .slc b _ _ _ _ => [b]
  | .map b => [b]
  | .fn _ first caps => AV.gh first ++ AV.gh caps
  | .agg l => AV.gh l
  | .tup l => AV.gh l
  | _ => []
def AV.gh : List AV → List Nat
  | [] => []
  | a :: l => AV.refs a ++ AV.gh l
end
mutual
theorem qxa : (a : AV) → a.zo = true → a.refs = []
  | .int _ _, _ => rfl
  | .bool _, _ => rfl
  | .str _, _ => rfl
  | .agg l, h => by simp only [AV.zo] at h; exact zy l h
  | .tup l, h => by simp only [AV.zo] at h; exact zy l h
  | .top, h => by simp [AV.zo] at h
  | .v _, h => by simp [AV.zo] at h
  | .ptr _ _, h => by simp [AV.zo] at h
  | .slc _ _ _ _ _, h => by simp [AV.zo] at h
  | .map _, h => by simp [AV.zo] at h
  | .fn _ a b, h => by simp only [AV.zo, Bool.and_eq_true] at h; simp only [AV.refs, zy a h.1, zy b h.2, List.append_nil]
theorem zy : (l : List AV) → AV.ze l = true → AV.gh l = []
  | [], _ => rfl
  | a :: l, h => by simp only [AV.ze, Bool.and_eq_true] at h; simp only [AV.gh, qxa a h.1, zy l h.2, List.append_nil]
end
mutual
theorem j6 {ids : List Nat} : (a : AV) → (∀ b ∈ a.refs, b ∈ ids) → a.within ids = true
  | .int _ _, _ => rfl
  | .bool _, _ => rfl
  | .str _, _ => rfl
  | .top, _ => rfl
  | .v _, _ => rfl
  | .ptr b _, h => by simpa [AV.within] using h b (by simp [AV.refs])
  | .slc b _ _ _ _, h => by simpa [AV.within] using h b (by simp [AV.refs])
  | .map b, h => by simpa [AV.within] using h b (by simp [AV.refs])
  | .agg l, h => wo l h
  | .tup l, h => wo l h
  | .fn _ a b, h => by
    simp only [AV.within, Bool.and_eq_true]
    exact ⟨wo a fun x hx => h x (List.mem_append_left _ hx), wo b fun x hx => h x (List.mem_append_right _ hx)⟩
theorem wo {ids : List Nat} : (l : List AV) → (∀ b ∈ AV.gh l, b ∈ ids) → AV.xd ids l = true
  | [], _ => rfl
  | a :: l, h => by
    simp only [AV.xd, Bool.and_eq_true]
    exact ⟨j6 a fun x hx => h x (List.mem_append_left _ hx), wo l fun x hx => h x (List.mem_append_right _ hx)⟩
end
def AE.gh : List AE → List Nat
  | [] => []
  | e :: l => e.key.refs ++ (e.val.refs ++ AE.gh l)
def AO.refs : AO → List Nat
  | .cells l => AV.gh l
  | .vec _ l => AV.gh l
  | .ro l => AV.gh l
  | .map es _ => AE.gh es
  | .xp (some b) _ _ _ => [b]
  | .xp none _ _ _ => []
  | .ug _ _ => []
  | .dead => []
theorem AE.Yr : ∀ (l : List AE) (e : AE), e ∈ l → ∀ b, b ∈ e.key.refs ∨ b ∈ e.val.refs → b ∈ AE.gh l
  | [], e, h, b, _ => by cases h
  | x :: l, e, h, b, hb => by
    simp only [AE.gh, List.mem_append]
    rcases List.mem_cons.1 h with rfl | h
    · rcases hb with h | h
      · exact .inl h
      · exact .inr (.inl h)
    · exact .inr (.inr (AE.Yr l e h b hb))
theorem AO.j6 {ids : List Nat} (o : AO) (h : ∀ b ∈ o.refs, b ∈ ids) : o.within ids = true := by
  cases o with
  | cells l => exact wo l h
  | vec s l => exact wo l h
  | ro l => exact wo l h
  | map es c =>
    simp only [AO.within, List.all_eq_true, Bool.and_eq_true]
    intro e he
    exact ⟨Am.j6 _ fun b hb => h b (AE.Yr es e he b (.inl hb)), Am.j6 _ fun b hb => h b (AE.Yr es e he b (.inr hb))⟩
  | xp m a b c => cases m with
    | none => rfl
    | some m => simpa [AO.within] using h m (by simp [AO.refs])
  | ug s p => rfl
  | dead => rfl
def reach (hp : List AO) : Nat → List Nat → List Nat → Option (List Nat)
  | 0, _, _ => none
  | _ + 1, [], acc => some acc
  | f + 1, b :: l, acc => if acc.contains b then reach hp f l acc else match hp[b]? with
    | some o => reach hp f (o.refs ++ l) (acc ++ [b])
    | none => none
def qel (hp : List AO) : Nat → List Nat
  | 0 => []
  | n + 1 => qel hp n ++ (match hp[n]? with | some o => o.refs | none => [])
def Yk (e : Env) : List Nat → List Nat
  | [] => []
  | t :: ts => (get e t).refs ++ Yk e ts
def qr9 (n0 : Nat) (ts : List Nat) (e : Env) (hp : List AO) : Option (List Nat) := if n0 ≤ hp.length then reach hp 200 (qel hp n0 ++ Yk e ts) (List.range n0) else none
theorem qjm {hp : List AO} {n0 : Nat} : ∀ (f : Nat) (todo acc ids : List Nat), reach hp f todo acc = some ids → acc.Nodup → (∀ b ∈ acc, b < hp.length) → acc.take n0 = List.range n0 → n0 ≤ acc.length →
    (∀ b ∈ acc, ∀ o, hp[b]? = some o → ∀ r ∈ o.refs, r ∈ acc ∨ r ∈ todo) →
    ((n0 ≤ ids.length ∧ ids.take n0 = List.range n0 ∧ ids.Nodup) ∧ (∀ b ∈ ids, b < hp.length) ∧ (∀ b ∈ ids, ∀ o, hp[b]? = some o → ∀ r ∈ o.refs, r ∈ ids) ∧ ∀ b, b ∈ acc ∨ b ∈ todo → b ∈ ids)
  | 0, _, _, _, h, _, _, _, _, _ => by simp [reach] at h
  | f + 1, [], acc, ids, h, h1, h2, h3, h4, h5 => by
    simp only [reach, Option.some.injEq] at h
    subst h
    exact ⟨⟨h4, h3, h1⟩, h2, fun b hb o ho r hr => by simpa using h5 b hb o ho r hr, fun b hb => by simpa using hb⟩
  | f + 1, b :: l, acc, ids, h, h1, h2, h3, h4, h5 => by
    simp only [reach] at h
    split at h
    · rename_i hc
      have hc : b ∈ acc := by simpa using hc
      obtain ⟨a1, a2, a3, a4⟩ := qjm f l acc ids h h1 h2 h3 h4 fun x hx o ho r hr => by
        rcases h5 x hx o ho r hr with h | h
        · exact .inl h
        · rcases List.mem_cons.1 h with rfl | h
          · exact .inl hc
          · exact .inr h
      refine ⟨a1, a2, a3, fun x hx => ?_⟩
      rcases hx with hx | hx
      · exact a4 x (.inl hx)
      · rcases List.mem_cons.1 hx with rfl | hx
        · exact a4 _ (.inl hc)
        · exact a4 x (.inr hx)
    · rename_i hc
      have hc : b ∉ acc := by simpa using hc
      split at h
      · rename_i o ho
        have hb : b < hp.length := (List.getElem?_eq_some_iff.1 ho).1
        obtain ⟨a1, a2, a3, a4⟩ := qjm f (o.refs ++ l) (acc ++ [b]) ids h
          (List.nodup_append.2 ⟨h1, by simp, fun x hx y hy e => by simp at hy; subst hy; subst e; exact hc hx⟩)
          (fun x hx => by
            rcases List.mem_append.1 hx with hx | hx
            · exact h2 x hx
            · simp at hx; subst hx; exact hb)
          (by rw [List.take_append_of_le_length h4]; exact h3) (by simp; omega)
          (fun x hx o' ho' r hr => by
            rcases List.mem_append.1 hx with hx | hx
            · rcases h5 x hx o' ho' r hr with h | h
              · exact .inl (List.mem_append_left _ h)
              · rcases List.mem_cons.1 h with rfl | h
                · exact .inl (List.mem_append_right _ (by simp))
                · exact .inr (List.mem_append_right _ h)
            · simp at hx; subst hx
              rw [ho] at ho'; cases ho'
              exact .inr (List.mem_append_left _ hr))
        refine ⟨a1, a2, a3, fun x hx => ?_⟩
        rcases hx with hx | hx
        · exact a4 x (.inl (List.mem_append_left _ hx))
        · rcases List.mem_cons.1 hx with rfl | hx
          · exact a4 _ (.inl (List.mem_append_right _ (by simp)))
          · exact a4 x (.inr (List.mem_append_right _ hx))
      · cases h
theorem qhx {hp : List AO} : ∀ (n : Nat) (b : Nat) (o : AO), b < n → hp[b]? = some o → ∀ r ∈ o.refs, r ∈ qel hp n
  | 0, b, o, h, _, _, _ => by omega
  | n + 1, b, o, h, ho, r, hr => by
    simp only [qel, List.mem_append]
    by_cases e : b = n
    · subst e; right; rw [ho]; exact hr
    · exact .inl (qhx n b o (by omega) ho r hr)
theorem qde {e : Env} : ∀ (ts : List Nat) (t : Nat), t ∈ ts → ∀ r ∈ (get e t).refs, r ∈ Yk e ts
  | [], t, h, _, _ => by cases h
  | u :: ts, t, h, r, hr => by
    simp only [Yk, List.mem_append]
    rcases List.mem_cons.1 h with rfl | h
    · exact .inl hr
    · exact .inr (qde ts t h r hr)
theorem qt.can {n0 : Nat} {e : Env} {hp : List AO} (ts : List Nat) {ids : List Nat} (h : qr9 n0 ts e hp = some ids) : qt n0 ⟨e, hp⟩ ⟨Gg ids e ts, zn ids hp⟩ := by
  unfold qr9 at h
  split at h
  · rename_i hn
    obtain ⟨a1, a2, a3, a4⟩ := qjm (n0 := n0) 200 _ _ ids h List.nodup_range (fun b hb => by simp at hb; omega) (by simp) (by simp) (fun b hb o ho r hr => .inr (List.mem_append_left _ (qhx n0 b o (by simpa using hb) ho r hr)))
    refine qt.sim (Sim.xv ⟨a1, fun i hi => ?_⟩ fun t ht => j6 _ fun b hb => a4 b (.inr (List.mem_append_right _ (qde ts t ht b hb))))
    have hlt := a2 i hi
    rw [List.getElem?_eq_getElem hlt]
    exact AO.j6 _ fun b hb => a3 i hi _ (List.getElem?_eq_getElem hlt) b hb
  · cases h
def zC := And.intro @qr9.eq_1 <| And.intro @reach.eq_1 <| And.intro @reach.eq_2 <| And.intro @reach.eq_3 <| And.intro @qel.eq_1 <| And.intro @qel.eq_2 <| And.intro @Yk.eq_1 <| And.intro @Yk.eq_2 <| And.intro @AO.refs.eq_1 <| And.intro @AO.refs.eq_2 <| And.intro @AO.refs.eq_3 <| And.intro @AO.refs.eq_4 <| And.intro @AO.refs.eq_5 <| And.intro @AO.refs.eq_6 <| And.intro @AO.refs.eq_7 <| And.intro @AO.refs.eq_8 <| And.intro @AE.gh.eq_1 <| And.intro @AE.gh.eq_2 <| And.intro @AV.gh.eq_1 <| And.intro @AV.gh.eq_2 <| And.intro @AV.refs.eq_1 <| And.intro @AV.refs.eq_2 <| And.intro @AV.refs.eq_3 <| And.intro @AV.refs.eq_4 <| And.intro @AV.refs.eq_5 <| And.intro @AV.refs.eq_6 <| And.intro @AV.refs.eq_7 <| And.intro @List.append_nil.{0} <| And.intro @List.nil_append.{0} <| And.intro @List.cons_append.{0} <| And.intro @List.getElem?_cons_zero.{0} <| And.intro @List.getElem?_cons_succ.{0} <| And.intro @List.contains_cons.{0} <| And.intro @List.contains_nil.{0} <| And.intro @beq_self_eq_true.{0} <| And.intro @Bool.or_true <| And.intro @Bool.true_or <| And.intro @Bool.or_false <| And.intro @List.length_cons.{0} <| And.intro @List.length_nil.{0} <| And.intro @Nat.zero_add <| And.intro @Nat.zero_le <| And.intro @zp <| And.intro @List.range_zero <| And.intro @List.range_succ <| And.intro (fun n m => zy _ (qg n m)) <| And.intro (fun l => zy _ (yf l)) <| And.intro (fun l => zy _ (qz l)) (fun l => zy _ (Z7 l))
end Go.Am
namespace Go.Am
set_option linter.unusedVariables false
set_option linter.unusedSimpArgs false
set_option linter.defProp false
theorem q9f {L r : List AO} {j : Nat} : (L ++ r)[L.length + j]? = r[j]? := by rw [List.getElem?_append_right (by omega)]; congr 1; omega
mutual
theorem Vd {ρ : Ren} : (a : AV) → (∀ b ∈ a.refs, ρ b = some (b, 0)) → a.ren ρ = a
  | .int _ _, _ => rfl
  | .bool _, _ => rfl
  | .str _, _ => rfl
  | .top, _ => rfl
  | .v _, _ => rfl
  | .ptr b _, h => by simp only [AV.ren, h b (by simp [AV.refs]), Nat.zero_add]
  | .slc b _ _ _ _, h => by simp only [AV.ren, h b (by simp [AV.refs]), Nat.zero_add]
  | .map b, h => by simp only [AV.ren, h b (by simp [AV.refs])]
  | .agg l, h => by simp only [AV.ren, Qm l h]
  | .tup l, h => by simp only [AV.ren, Qm l h]
  | .fn _ a b, h => by simp only [AV.ren, Qm a fun x hx => h x (List.mem_append_left _ hx), Qm b fun x hx => h x (List.mem_append_right _ hx)]
theorem Qm {ρ : Ren} : (l : List AV) → (∀ b ∈ AV.gh l, ρ b = some (b, 0)) → AV.zk ρ l = l
  | [], _ => rfl
  | a :: l, h => by simp only [AV.zk, Vd a fun x hx => h x (List.mem_append_left _ hx), Qm l fun x hx => h x (List.mem_append_right _ hx)]
end
theorem AO.Vd {ρ : Ren} (o : AO) (h : ∀ b ∈ o.refs, ρ b = some (b, 0)) : o.ren ρ = o := by
  cases o with
  | cells l => simp only [AO.ren, Qm l h]
  | vec s l => simp only [AO.ren, Qm l h]
  | ro l => simp only [AO.ren, Qm l h]
  | map es c =>
    simp only [AO.ren, AO.map.injEq, and_true]
    conv => rhs; rw [← List.map_id es]
    refine List.map_congr_left fun e he => ?_
    simp only [AE.ren, id, Am.Vd e.key fun b hb => h b (AE.Yr es e he b (.inl hb)), Am.Vd e.val fun b hb => h b (AE.Yr es e he b (.inr hb))]
  | xp m a b c => cases m with
    | none => rfl
    | some m => simp only [AO.ren, Option.bind_some, h m (by simp [AO.refs]), Option.map_some]
  | ug s p => rfl
  | dead => rfl
def Lok (L : List AO) : Prop := ∀ o, o ∈ L → ∀ b ∈ o.refs, b < L.length
def inL (n : Nat) (ids : List Nat) (b : Nat) : Bool := decide (b < n) || ids.contains (b - n)
def q5c (n : Nat) (ids : List Nat) (rest : List AO) : List Nat → Bool
  | [] => true
  | j :: l => (match rest[j]? with | some o => o.refs.all (inL n ids) | none => false) && q5c n ids rest l
def q3e (n : Nat) (ids : List Nat) (e : Env) : List Nat → Bool
  | [] => true
  | t :: l => (get e t).refs.all (inL n ids) && q3e n ids e l
def q3n : List Nat → Bool
  | [] => true
  | a :: l => !l.contains a && q3n l
def okL (n : Nat) (ids : List Nat) (rest : List AO) (e : Env) (ts : List Nat) : Bool := q3n ids && q5c n ids rest ids && q3e n ids e ts
def qfo (n : Nat) (ids : List Nat) : Ren := fun b => if b < n then some (b, 0) else match pos ids (b - n) 0 with | some k => some (n + k, 0) | none => none
def qti (n : Nat) (ids : List Nat) (rest : List AO) : List AO := ids.map fun i => match rest[i]? with | some o => o.ren (qfo n ids) | none => .dead
def qtt (n : Nat) (ids : List Nat) (e : Env) (ts : List Nat) : Env := ts.map fun t => (t, (get e t).ren (qfo n ids))
theorem qqz {n : Nat} {ids : List Nat} {rest : List AO} : ∀ (l : List Nat), q5c n ids rest l = true → ∀ j ∈ l, ∃ o, rest[j]? = some o ∧ ∀ b ∈ o.refs, inL n ids b = true
  | [], _, j, h => by cases h
  | i :: l, h, j, hj => by
    simp only [q5c, Bool.and_eq_true] at h
    rcases List.mem_cons.1 hj with rfl | hj
    · have h1 := h.1
      split at h1
      · rename_i o ho
        exact ⟨o, ho, List.all_eq_true.1 h1⟩
      · cases h1
    · exact qqz l h.2 j hj
theorem qra {n : Nat} {ids : List Nat} {e : Env} : ∀ (l : List Nat), q3e n ids e l = true → ∀ t ∈ l, ∀ b ∈ (get e t).refs, inL n ids b = true
  | [], _, j, h => by cases h
  | i :: l, h, j, hj => by
    simp only [q3e, Bool.and_eq_true] at h
    rcases List.mem_cons.1 hj with rfl | hj
    · exact List.all_eq_true.1 h.1
    · exact qra l h.2 j hj
theorem qve : ∀ (l : List Nat), q3n l = true → l.Nodup
  | [], _ => List.nodup_nil
  | a :: l, h => by
    simp only [q3n, Bool.and_eq_true, Bool.not_eq_true', List.contains_eq_mem, decide_eq_false_iff_not] at h
    exact List.nodup_cons.2 ⟨h.1, qve l h.2⟩
theorem quk {n : Nat} {ids : List Nat} {b : Nat} (h : inL n ids b = true) : b ∈ List.range n ++ ids.map (n + ·) := by
  simp only [inL, Bool.or_eq_true, decide_eq_true_eq, List.contains_iff_mem] at h
  simp only [List.mem_append, List.mem_range, List.mem_map]
  rcases h with h | h
  · exact .inl h
  · by_cases hb : b < n
    · exact .inl hb
    · exact .inr ⟨b - n, h, by omega⟩
theorem qay (n : Nat) : ∀ (ids : List Nat) (j : Nat), (ids.map (n + ·)).idxOf (n + j) = ids.idxOf j
  | [], j => rfl
  | i :: l, j => by
    rw [List.map_cons, List.idxOf_cons, List.idxOf_cons, qay n l j, show (n + i == n + j) = (i == j) from by rw [Bool.eq_iff_iff]; simp]
theorem qqr {n b : Nat} (h : b < n) : (List.range n).idxOf b = b := by
  have h1 : b ∈ List.range n := List.mem_range.2 h
  have h2 := List.idxOf_lt_length_of_mem h1
  have h3 : (List.range n)[(List.range n).idxOf b] = b := List.getElem_idxOf h2
  rwa [List.getElem_range] at h3
theorem qhs (n : Nat) (ids : List Nat) : yr (List.range n ++ ids.map (n + ·)) = qfo n ids := by
  funext b
  unfold yr qfo
  by_cases hb : b < n
  · rw [if_pos (List.mem_append_left _ (List.mem_range.2 hb)), if_pos hb, List.idxOf_append, if_pos (List.mem_range.2 hb), qqr hb]
  · rw [if_neg hb, pos_eq]
    by_cases hm : b - n ∈ ids
    · rw [if_pos hm, if_pos (List.mem_append_right _ (List.mem_map.2 ⟨b - n, hm, by omega⟩)), List.idxOf_append, if_neg (by simpa using hb)]
      have := qay n ids (b - n)
      rw [show n + (b - n) = b by omega] at this
      simp only [this, List.length_range, Nat.zero_add]
      rw [Nat.add_comm]
    · rw [if_neg hm, if_neg]
      intro h
      rcases List.mem_append.1 h with h | h
      · exact hb (List.mem_range.1 h)
      · obtain ⟨j, hj, e⟩ := List.mem_map.1 h
        have : b - n = j := by omega
        exact hm (this ▸ hj)
theorem qt.q5q {n0 : Nat} {e : Env} {L rest : List AO} (hL : Lok L) (h0 : n0 ≤ L.length) (ids ts : List Nat) (h : okL L.length ids rest e ts = true) : qt n0 ⟨e, L ++ rest⟩ ⟨qtt L.length ids e ts, L ++ qti L.length ids rest⟩ := by
  simp only [okL, Bool.and_eq_true] at h
  obtain ⟨⟨h1, h2⟩, h3⟩ := h
  have hk : qmn n0 (List.range L.length ++ ids.map (L.length + ·)) (L ++ rest) := by
    refine ⟨⟨by simp; omega, ?_, ?_⟩, ?_⟩
    · rw [List.take_append_of_le_length (by simpa using h0), List.take_range, Nat.min_eq_left h0]
    · refine List.nodup_append.2 ⟨List.nodup_range, ?_, ?_⟩
      · exact List.pairwise_map.2 ((qve ids h1).imp fun h e => h (by omega))
      · intro x hx y hy e
        subst e
        obtain ⟨j, _, e⟩ := List.mem_map.1 hy
        have := List.mem_range.1 hx
        omega
    · intro i hi
      rcases List.mem_append.1 hi with hi | hi
      · have hi := List.mem_range.1 hi
        rw [List.getElem?_append_left hi, List.getElem?_eq_getElem hi]
        exact AO.j6 _ fun b hb => List.mem_append_left _ (List.mem_range.2 (hL _ (List.getElem_mem hi) b hb))
      · obtain ⟨j, hj, rfl⟩ := List.mem_map.1 hi
        obtain ⟨o, ho, hr⟩ := qqz ids h2 j hj
        rw [q9f, ho]
        exact AO.j6 _ fun b hb => quk (hr b hb)
  have hw := qt.sim (Sim.xv (e := e) (ts := ts) hk fun t ht => j6 _ fun b hb => quk (qra ts h3 t ht b hb))
  have e1 : Gg (List.range L.length ++ ids.map (L.length + ·)) e ts = qtt L.length ids e ts := by unfold Gg qtt; rw [qhs]
  have e2 : zn (List.range L.length ++ ids.map (L.length + ·)) (L ++ rest) = L ++ qti L.length ids rest := by
    unfold zn qti
    rw [qhs, List.map_append, List.map_map]
    congr 1
    · refine List.ext_getElem (by simp) fun i hi hi2 => ?_
      simp only [List.getElem_map, List.getElem_range]
      rw [List.getElem?_append_left hi2, List.getElem?_eq_getElem hi2]
      exact AO.Vd _ fun b hb => by have := hL _ (List.getElem_mem hi2) b hb; simp only [qfo, if_pos this]
    · refine List.map_congr_left fun j _ => ?_
      show (match (L ++ rest)[L.length + j]? with | some o => AO.ren (qfo L.length ids) o | none => AO.dead) = _
      rw [q9f]
  rw [e1, e2] at hw
  exact hw
theorem qlt {n b : Nat} {ids : List Nat} (h : b < n) : qfo n ids b = some (b, 0) := if_pos h
theorem Ret.all {ars : List AR} {H : List AO} {R : AV → List AO → Prop} {s : St} {rs : List AV} (hL : Lok s.hp) (h0 : H.length ≤ s.hp.length) (hr : Vk s ars = some rs) (hw : ∀ b ∈ (xl rs).refs, b < s.hp.length) (ht : xl rs ≠ .top)
    (hro : ∀ (j : Nat) (l : List AV), s.hp[j]? = some (AO.ro l) → ∃ l', H[j]? = some (AO.ro l')) (h : R (xl rs) s.hp) : Ret ars H R s := by
  have e0 : yr (List.range s.hp.length) = qfo s.hp.length [] := by have := qhs s.hp.length []; simpa using this
  have hk : zn (List.range s.hp.length) s.hp = s.hp := by
    unfold zn
    refine List.ext_getElem (by simp) fun i hi hi2 => ?_
    simp only [List.getElem_map, List.getElem_range]
    rw [List.getElem?_eq_getElem hi2, e0]
    exact AO.Vd _ fun b hb => qlt (hL _ (List.getElem_mem hi2) b hb)
  have hv : (xl rs).ren (yr (List.range s.hp.length)) = xl rs := by rw [e0]; exact Vd _ fun b hb => qlt (hw b hb)
  refine Ret.xv (List.range s.hp.length) ⟨⟨by simpa using h0, by rw [List.take_range, Nat.min_eq_left h0], List.nodup_range⟩, ?_⟩ hr (j6 _ fun b hb => List.mem_range.2 (hw b hb)) ht ?_ ?_
  · intro i hi
    have hi := List.mem_range.1 hi
    rw [List.getElem?_eq_getElem hi]
    exact AO.j6 _ fun b hb => List.mem_range.2 (hL _ (List.getElem_mem hi) b hb)
  · rw [hk]; exact hro
  · rw [hk, hv]; exact h
end Go.Am

/- The abstract machine, part 3: AmSort AmDia AmArg AmBun AmCan AmApp. -/
import Derived.Test.YtfhckbbgmblhbaaAmB
import Derived.Shelf.SlSortCmp.NoneTotal
import Derived.ReadAgain
import Derived.OpenShut
namespace Go.Am
set_option linter.unusedVariables false
set_option linter.unusedSimpArgs false
theorem qiy {α : Type} (ι : Nat → Loc) (enc : α → List AV) (d : List α) : qv ι (d.flatMap enc) = d.flatMap fun x => qv ι (enc x) := by
  induction d with
  | nil => rfl
  | cons a d ih => simp only [List.flatMap_cons, wi, ih]
theorem qaa : ∀ (a b : List AV), AV.zb (a ++ b) = (AV.zb a && AV.zb b)
  | [], b => by simp [AV.zb]
  | x :: a, b => by simp only [List.cons_append, AV.zb, qaa a b, Bool.and_assoc]
theorem qo9 {α : Type} [Inhabited α] (enc : α → List Value) (k : Nat) (hk : ∀ x, (enc x).length = k) (d : List α) : (Go.Sort.flatK enc k d.toArray).toList = d.flatMap enc := by
  have hlen : ∀ d : List α, (d.flatMap enc).length = d.length * k := by
    intro d; induction d with
    | nil => simp
    | cons a d ih => simp only [List.flatMap_cons, List.length_append, List.length_cons, hk, ih, Nat.add_mul, Nat.one_mul]; omega
  apply List.ext_getElem?
  intro t
  by_cases ht : t < d.length * k
  · have h1 := Go.Sort.get_flatK enc k d.toArray t (by simpa using ht)
    have hs : t < (Go.Sort.flatK enc k d.toArray).size := by simpa using ht
    rw [getElem!_pos _ t hs] at h1
    rw [Array.getElem?_toList, Array.getElem?_eq_getElem hs, h1]
    have k0 : 0 < k := by rcases Nat.eq_zero_or_pos k with h | h; · subst h; simp at ht
                          · exact h
    have key : ∀ (d : List α) (t : Nat), t < d.length * k → (d.flatMap enc)[t]? = some (enc d.toArray[t / k]!)[t % k]! := by
      intro d
      induction d with
      | nil => intro t ht; simp at ht
      | cons a d ih =>
        intro t ht
        simp only [List.flatMap_cons, List.length_cons] at ht ⊢
        by_cases h : t < k
        · rw [List.getElem?_append_left (by rw [hk]; exact h), Nat.div_eq_of_lt h, Nat.mod_eq_of_lt h]
          have e : ((a :: d).toArray[0]! : α) = a := by simp
          rw [e, getElem!_pos (enc a) t (by rw [hk]; exact h), List.getElem?_eq_getElem (by rw [hk]; exact h)]
        · obtain ⟨u, rfl⟩ : ∃ u, t = u + k := ⟨t - k, by omega⟩
          rw [List.getElem?_append_right (by rw [hk]; omega), hk, Nat.add_sub_cancel, ih u (by rw [Nat.add_mul, Nat.one_mul] at ht; omega), Nat.add_mod_right, Nat.add_div_right _ k0]
          simp
    exact (key d t ht).symm
  · rw [List.getElem?_eq_none (by simpa using ht), List.getElem?_eq_none (by rw [hlen]; omega)]
theorem qgz (d c : Array Value) (a b ex : List Value) (hc : c.toList = a ++ ex) (hd : d.toList = b) (hl : b.length = a.length) : (Go.Sort.putCells id 0 d c).toList = b ++ ex := by
  have hs : d.size = a.length := by rw [← hl, ← hd, Array.length_toList]
  apply List.ext_getElem?
  intro t
  have h1 : c[t]? = (a ++ ex)[t]? := by rw [← hc, Array.getElem?_toList]
  simp only [Go.Sort.putCells, Array.getElem?_toList, Array.getElem?_mapIdx, h1, Nat.zero_le, true_and, Nat.zero_add, Nat.sub_zero, hs]
  by_cases ht : t < a.length
  · rw [List.getElem?_append_left ht, List.getElem?_append_left (by omega), List.getElem?_eq_getElem ht, Option.map_some, if_pos ht, getElem!_pos d t (by omega)]
    simp only [id, ← hd, Array.getElem?_toList]
    rw [Array.getElem?_eq_getElem (by omega)]
  · rw [List.getElem?_append_right (by omega), List.getElem?_append_right (by omega), hl]
    simp only [ht, if_false]
    cases ex[t - a.length]? <;> rfl
theorem qx5 {w w' : World} (hfr : ∀ b, b < w.heap.size → w'.heap[b]? = w.heap[b]?) (hg : w.heap.size ≤ w'.heap.size) (h1 : w'.os = w.os) (h2 : w'.output = w.output) (h3 : Vc w w') :
    ∃ q os', w' = Go.Sort.grow (w.drewN q) os' := by
  refine ⟨w'.drawn - w.drawn, w'.heap.extract w.heap.size w'.heap.size, ?_⟩
  have hh : w'.heap = w.heap ++ w'.heap.extract w.heap.size w'.heap.size := by
    apply Array.ext_getElem?
    intro i
    rw [Array.getElem?_append]
    split
    · rename_i hi; exact hfr i hi
    · rename_i hi
      rw [Array.getElem?_extract]
      by_cases h : i < w'.heap.size
      · rw [if_pos (by omega)]; congr 1; omega
      · rw [Array.getElem?_eq_none (by omega), if_neg (by omega)]
  obtain ⟨e1, e2⟩ := h3
  cases w; cases w'
  simp only [Go.Sort.grow, World.drewN] at *
  subst h1; subst h2; subst e1
  congr 1
  omega
theorem qmb {P : Program} {g : FuncId} (h : qk3 P g) : ∀ args w, (callFunc g args).run P w = .ok (.enter g args) w := by
  obtain ⟨fn, h1, h2, h3⟩ := h
  obtain ⟨c, hc⟩ := Option.isSome_iff_exists.1 h2
  exact Go.Proofs.enters_of h1 h3 hc
theorem qmx {P : Program} {f : FuncId} {args : List AV} {v : AV} (eE : qk3 P f) (hs : AV.zb args = true) (hv : v.zl = true)
    (h : ∀ w, Calls P f (qv (fun _ => Loc.nil) args).toArray w fun e w' => e = .returned (gam (fun _ => Loc.nil) v) ∧ w' = w) : Fn P f args [] (fun v' H' => v' = v ∧ H' = []) := by
  refine ⟨eE, fun ι w hok hu => ?_⟩
  rw [vd (ι' := fun _ => Loc.nil) (fun j hj => absurd hj (Nat.not_lt_zero j)) args (qh _ _ hs)]
  refine Calls.mono (h w) ?_
  rintro e w' ⟨rfl, rfl⟩
  exact ⟨v, [], ι, by rw [Jg (ι := ι) (ι' := fun _ => Loc.nil) (n := 0) (fun j hj => absurd hj (Nat.not_lt_zero j)) v (Yh _ _ hv)], ⟨rfl, rfl⟩, qld hv, Yh _ _ hv, hok, Nat.le_refl _, fun _ _ => rfl, fun j b h => .inl ⟨j, h⟩, fun j l h => ⟨l, h⟩, fun _ _ _ => rfl, Nat.le_refl _, rfl, rfl, Vc.refl _⟩
theorem qz1 {P : Program} {ρ : Go.Shelf.Ren} (L : Go.Proofs.SlLaysF0.n6 P ρ) (k : Nat) (hk0 : 0 < k) (aE : ∀ w, (isAgg (ρ.t 24)).run P w = .ok true w) (zE : ∀ w, (Go.sizeOf (ρ.t 24)).run P w = .ok k w)
    {α : Type} [Inhabited α] (enc : α → List AV) (hk : ∀ x, (enc x).length = k) (h1 : ∀ x, ∀ a ∈ enc x, a.one = true) (hsc : ∀ x, AV.zb (enc x) = true) (cf : α → α → Int) (hO : Go.Sort.SWO (Go.Proofs.ltOf cf))
    (eS : qk3 P (ρ.f 6)) (g : FuncId) (eg : qk3 P g) (hc : ∀ x y, Fn P g [.agg (enc x), .agg (enc y)] [] (fun v H' => v = .int .i64 (cf x y) ∧ H' = []))
    (d : List α) (hsz : d.length < 4611686018427387904) :
    Fn P (ρ.f 6) [.slc 0 0 d.length false 0, .fn g [] []] [.vec k (d.flatMap enc)] (fun v H' => v = .tup [] ∧ ∃ d' : List α, d'.Perm d ∧ d'.Pairwise (fun x y => Go.Proofs.ltOf cf y x = false) ∧ H' = [.vec k (d'.flatMap enc)]) := by
  refine ⟨eS, fun ι w hok hu => ?_⟩
  have scflat : ∀ d : List α, AV.zb (d.flatMap enc) = true := by
    intro d; induction d with
    | nil => rfl
    | cons a d ih => rw [List.flatMap_cons, qaa, hsc, ih]; rfl
  have lnflat : ∀ d : List α, (d.flatMap enc).length = d.length * k := by
    intro d; induction d with
    | nil => simp
    | cons a d ih => simp only [List.flatMap_cons, List.length_append, List.length_cons, hk, ih, Nat.add_mul, Nat.one_mul]; omega
  obtain ⟨-, hrel⟩ := hok.rel 0 _ rfl
  rcases hrel with ⟨hn, hcap, hl⟩ | ⟨hn, blk, c, ty, fz, ex, ha, hh, hcl, hcalm, hcs⟩
  ·
    have hd : d = [] := by
      cases d with
      | nil => rfl
      | cons a d => exfalso; rw [List.flatMap_cons] at hl; have := congrArg List.length hl; simp [hk] at this; omega
    subst hd
    have := Go.Proofs.AnyF.slices_SortFunc_none L none ((ι 0).cap - 0) (gam ι (.fn g [] [])) w
    simp only [qv, gam, hn, cond_true, cond_false, List.length_nil]
    refine Calls.mono this ?_
    rintro e w' ⟨rfl, rfl⟩
    exact ⟨.tup [], _, ι, rfl, ⟨rfl, [], .refl _, .nil, rfl⟩, by simp, trivial, hok, Nat.le_refl _, fun _ _ => rfl, fun j b h => .inl ⟨j, h⟩, fun j l h => ⟨l, h⟩, fun _ _ _ => rfl, Nat.le_refl _, rfl, rfl, Vc.refl _⟩
  · have hlen' : ∀ x, (qv ι (enc x)).length = k := fun x => by rw [q6, hk]
    have hfl : ∀ d : List α, (Go.Sort.flatK (fun x => qv ι (enc x)) k d.toArray).toList = qv ι (d.flatMap enc) := fun d => by rw [qo9 _ _ hlen', qiy]
    have hblk : blk < w.heap.size := (Array.getElem?_eq_some_iff.1 hh).1
    have hH : Go.Sort.HoldsK (fun x => qv ι (enc x)) k w blk 0 d.toArray := by
      intro t ht
      have ht' : t < (qv ι (d.flatMap enc)).length := by rw [← hfl d, Array.length_toList]; exact ht
      have hct : c[t]? = some (Go.Sort.flatK (fun x => qv ι (enc x)) k d.toArray)[t]! := by
        rw [← Array.getElem?_toList, hcl, List.getElem?_append_left ht', ← hfl d, Array.getElem?_toList, Array.getElem?_eq_getElem ht, getElem!_pos _ t ht]
      have hlt : t < c.size := (Array.getElem?_eq_some_iff.1 hct).1
      refine ⟨?_, ?_⟩
      · rw [Nat.zero_add, cell_of (heap := #[]) hh, hct]; rfl
      · rw [Nat.zero_add]
        have := hcalm t hlt
        simp only [World.frozen?, hh]
        obtain ⟨lo, hi⟩ := fz
        simp only [Bool.and_eq_false_iff, decide_eq_false_iff_not]
        by_cases hlo : lo ≤ t
        · exact .inr fun hhi => this ⟨hlo, hhi⟩
        · exact .inl hlo
    have hcmp : Go.Proofs.CmpLays P g #[] (fun x => qv ι (enc x)) k cf blk 0 d.toArray.size w := by
      intro m os dk hdk x y
      have hc2 := (hc x y).2 ι (Go.Proofs.sortWorldK (fun x => qv ι (enc x)) k w blk 0 m dk os) ⟨fun j o h => by simp at h, fun i j b h => by obtain ⟨o, h, _⟩ := h; simp at h⟩
        ⟨qh _ _ (hsc x), qh _ _ (hsc y), trivial⟩
      refine Calls.mono hc2 ?_
      rintro e w' ⟨v, H', ι', rfl, ⟨rfl, rfl⟩, _, _, _, _, _, _, _, hfr, hgr, ho1, ho2, hla⟩
      exact ⟨rfl, qx5 (fun b hb => hfr b hb (fun ⟨i, o, h, _⟩ => by simp at h)) hgr ho1 ho2 hla⟩
    have := Go.Proofs.AnyQ.slices_SortFunc L k aE zE (fun x => qv ι (enc x)) hlen' (fun x v hv => by
      rw [gw] at hv
      obtain ⟨a, ha, rfl⟩ := List.mem_map.1 hv
      exact AV.qeh (h1 x a ha)) cf hO g #[] blk 0 ((ι 0).cap - 0) d.toArray w (qmb eg) hcmp hH hblk (by simpa using hsz)
    simp only [qv, gam, hn, cond_false, ha]
    refine Calls.mono this ?_
    rintro e w' ⟨rfl, da, n, os, hpm, hsd, rfl⟩
    obtain ⟨d', rfl⟩ : ∃ d' : List α, da = d'.toArray := ⟨da.toList, by simp⟩
    have hdl : d'.length = d.length := by simpa using hpm.1
    have hperm : d'.Perm d := by
      have := hpm.2.2
      simpa [hdl, List.take_of_length_le (Nat.le_of_eq hdl)] using this
    have hpair : d'.Pairwise (fun x y => Go.Proofs.ltOf cf y x = false) := by
      rw [List.pairwise_iff_getElem]
      intro i j hi hj hij
      have := hsd i j (Nat.zero_le _) hij (by simp only [List.size_toArray] at *; omega)
      rw [getElem!_pos _ i (by simpa using hi), getElem!_pos _ j (by simpa using hj)] at this
      simpa using this
    generalize hF : Go.Sort.flatK (fun x => qv ι (enc x)) k d'.toArray = F
    have hFl : F.toList = qv ι (d'.flatMap enc) := by rw [← hF]; exact hfl d'
    have hheap : (Go.Proofs.sortWorldK (fun x => qv ι (enc x)) k w blk 0 n d'.toArray os).heap = w.heap.modify blk (Go.Sort.onCells (Go.Sort.putCells id 0 F)) ++ os := by rw [← hF]; rfl
    have hbk : (Go.Proofs.sortWorldK (fun x => qv ι (enc x)) k w blk 0 n d'.toArray os).heap[blk]? = some (.cells (Go.Sort.putCells id 0 F c) ty fz) := by
      rw [hheap, Array.getElem?_append_left (by simpa using hblk), Array.getElem?_modify, if_pos rfl, hh]; rfl
    have hsz' : (Go.Sort.putCells id 0 F c).size = c.size := by simp [Go.Sort.putCells]
    have hat : AtW ι [.vec k (d.flatMap enc)] 0 blk := ⟨_, rfl, rfl, hn, by rw [ha]⟩
    have one : ∀ {H : List AO} {o : AO} {j : Nat} {b : Nat}, AtW ι [o] j b → j = 0 ∧ b = blk := by
      rintro H o j b ⟨o', h, _, _, hb⟩
      cases j with
      | zero => exact ⟨rfl, by rw [← hb, ha]⟩
      | succ j => simp at h
    have one' : ∀ {o : AO} {j : Nat} {b : Nat}, At ι [o] j b → j = 0 ∧ b = blk := by
      rintro o j b ⟨o', h, _, _, hb⟩
      cases j with
      | zero => exact ⟨rfl, by rw [← hb, ha]⟩
      | succ j => simp at h
    refine ⟨.tup [], [.vec k (d'.flatMap enc)], ι, rfl, ⟨rfl, d', hperm, hpair, rfl⟩, by simp, trivial, ⟨fun j o ho => ?_, fun i j b h1 h2 => ?_⟩, Nat.le_refl _, fun _ _ => rfl, fun j b h => .inl ⟨0, ?_⟩, fun j l h => ?_, fun b hb hno => ?_, ?_, rfl, rfl, ⟨rfl, Nat.le_add_right _ _⟩⟩
    · cases j with
      | succ j => simp at ho
      | zero =>
        cases ho
        refine ⟨qh _ _ (scflat d'), .inr ⟨hn, blk, _, ty, fz, ex, ha, hbk, ?_, ?_, by rw [hsz']; exact hcs⟩⟩
        · exact qgz F c _ _ ex hcl hFl (by rw [q6, q6, lnflat, lnflat, hdl])
        · rw [hsz']; exact hcalm
    · rw [(one (H := []) h1).1, (one' h2).1]
    · rw [(one (H := []) h).2]; exact hat
    · cases j with
      | succ j => simp at h
      | zero => cases h
    · have : b ≠ blk := fun e => hno ⟨0, e ▸ hat⟩
      rw [hheap, Array.getElem?_append_left (by simpa using hb), Array.getElem?_modify, if_neg (Ne.symm this)]
    · rw [hheap]; simp
end Go.Am
namespace Go.Dia
def place (n i : Nat) : Nat := if i < n then i else 3 * n - 1 - i
theorem q9 {n i : Nat} (h : i < 2 * n) : place n i < 2 * n := by unfold place; split <;> omega
theorem zd {n i : Nat} (h : i < 2 * n) : place n (place n i) = i := by
  unfold place; by_cases h1 : i < n <;> by_cases h2 : 3 * n - 1 - i < n <;> simp [h1, h2] <;> omega
def xm (n : Nat) (m : List Nat) : List UInt8 :=
  (List.range (2 * n)).map fun k => if k < place n (m.getD (place n k) 0) then 40 else 41
def parts (s : List UInt8) : Nat → Option (List Nat × List Nat)
  | 0 => some (List.replicate s.length 0, [])
  | k + 1 => match parts s k with
    | none => none
    | some (out, st) => if s.getD k 0 = 40 then some (out, k :: st) else if s.getD k 0 = 41 then (match st with
      | [] => none
      | i :: st' => some ((out.set i k).set k i, st')) else none
def vz (n : Nat) (out : List Nat) : Nat → List Nat
  | 0 => List.replicate 16 0
  | k + 1 => (vz n out k).set (place n k) (place n (out.getD k 0))
def qj8 (n : Nat) (m : List Nat) : Bool := (List.range 16).all fun i => if 2 * n ≤ i then m.getD i 0 == 0 else decide (m.getD i 0 < 2 * n)
def vk (s : List UInt8) : Option (Nat × List Nat) :=
  if s.length % 2 = 0 ∧ 2 ≤ s.length ∧ s.length ≤ 16 then
    match parts s s.length with
    | some (out, []) => some (s.length / 2, vz (s.length / 2) out s.length)
    | _ => none
  else none
def isI (n : Nat) (m : List Nat) : Bool := decide (1 ≤ n ∧ n ≤ 8) && (qj8 n m && (vk (xm n m) == some (n, m)))
def Vp (n : Nat) (m : List Nat) (i : Nat) : Nat := min (place n i) (place n (m.getD i 0))
def Vu (n : Nat) (m : List Nat) (i : Nat) : Nat := max (place n i) (place n (m.getD i 0))
def qx0 (n : Nat) (m : List Nat) : Bool := (List.range 16).all fun i => if 2 * n ≤ i then m.getD i 0 == 0 else decide (m.getD i 0 < 2 * n ∧ m.getD i 0 ≠ i ∧ m.getD (m.getD i 0) 0 = i)
def qq5 (n : Nat) (m : List Nat) : Bool := (List.range (2 * n)).all fun i => (List.range (2 * n)).all fun k =>
  !decide (Vp n m i < Vp n m k ∧ Vp n m k < Vu n m i ∧ Vu n m i < Vu n m k)
def isS (n : Nat) (m : List Nat) : Bool := decide (1 ≤ n ∧ n ≤ 8) && (qx0 n m && qq5 n m)
theorem Zb {l : List Nat} {i j x : Nat} : (l.set i x).getD j 0 = if i = j ∧ j < l.length then x else l.getD j 0 := by
  simp only [List.getD_eq_getElem?_getD, List.getElem?_set]
  split
  · rename_i h; subst h
    split
    · rename_i h; simp [h]
    · rename_i h; simp [h]
  · rename_i h; simp [h]
theorem bo (n : Nat) (m : List Nat) : (xm n m).length = 2 * n := by simp [xm]
theorem qo2 {n k : Nat} {m : List Nat} (h : k < 2 * n) : (xm n m).getD k 0 = if k < place n (m.getD (place n k) 0) then 40 else 41 := by
  simp [xm, List.getD_eq_getElem?_getD, h]
theorem qfv {L : Nat} {s : List UInt8} {F : Nat → Nat} (hL : s.length = L) (hlt : ∀ k, k < L → F k < L) (hinv : ∀ k, k < L → F (F k) = k) (hfix : ∀ k, k < L → F k ≠ k)
    (hcross : ∀ j l, j < L → l < L → ¬(j < l ∧ l < F j ∧ F j < F l)) (hs : ∀ k, k < L → s.getD k 0 = if k < F k then 40 else 41) :
    ∀ k, k ≤ L → ∃ out st, parts s k = some (out, st) ∧ out.length = L ∧ st.Pairwise (· > ·) ∧ (∀ i, i ∈ st ↔ i < k ∧ k ≤ F i) ∧ ∀ i, i < k → F i < k → out.getD i 0 = F i
  | 0, _ => ⟨_, _, rfl, by simp [hL], List.Pairwise.nil, by simp, by omega⟩
  | k + 1, hk => by
    obtain ⟨out, st, h1, h2, h3, h4, h5⟩ := qfv hL hlt hinv hfix hcross hs k (by omega)
    have hkL : k < L := by omega
    have hne := hfix k hkL
    simp only [parts, h1, hs k hkL]
    by_cases hc : k < F k
    · simp only [hc, if_true]
      refine ⟨_, _, rfl, h2, List.pairwise_cons.2 ⟨fun i hi => ((h4 i).1 hi).1, h3⟩, fun i => ?_, fun i hi hF => ?_⟩
      · rw [List.mem_cons, h4]
        constructor
        · rintro (rfl | ⟨h6, h7⟩)
          · omega
          · have : F i ≠ k := fun e => by have := hinv i (by omega); rw [e] at this; omega
            omega
        · rintro ⟨h6, h7⟩
          by_cases e : i = k
          · exact .inl e
          · exact .inr ⟨by omega, by omega⟩
      · have h6 : i ≠ k := by rintro rfl; omega
        have : F i ≠ k := fun e => by have := hinv i (by omega); rw [e] at this; omega
        exact h5 i (by omega) (by omega)
    · have hFk : F k < k := by omega
      have hj := hinv k hkL
      have hmem : F k ∈ st := (h4 _).2 ⟨hFk, by omega⟩
      simp only [hc, if_false]
      rw [if_neg (by decide), if_pos trivial]
      cases st with
      | nil => simp at hmem
      | cons t st' =>
        have hp := List.pairwise_cons.1 h3
        have ht : t < k ∧ k ≤ F t := (h4 t).1 (by simp)
        have htj : t = F k := by
          rcases List.mem_cons.1 hmem with h6 | h6
          · exact h6.symm
          · exfalso
            have h7 := hp.1 _ h6
            have h8 : F t ≠ k := fun e => by have := hinv t (by omega); rw [e] at this; omega
            exact hcross (F k) t (by omega) (by omega) ⟨h7, by rw [hj]; exact ht.1, by rw [hj]; omega⟩
        subst htj
        refine ⟨_, _, rfl, by simp [h2], hp.2, fun i => ?_, fun i hi hF => ?_⟩
        · constructor
          · intro h6
            have h7 := hp.1 i h6
            have h8 := (h4 i).1 (List.mem_cons_of_mem _ h6)
            have : F i ≠ k := fun e => by have := hinv i (by omega); rw [e] at this; omega
            omega
          · rintro ⟨h6, h7⟩
            have h8 : i ≠ k := by rintro rfl; omega
            have h9 := (h4 i).2 ⟨by omega, by omega⟩
            rcases List.mem_cons.1 h9 with rfl | h9
            · omega
            · exact h9
        · simp only [Zb, List.length_set, h2]
          by_cases e1 : k = i
          · subst e1; simp [hkL]
          · by_cases e2 : F k = i
            · subst e2; rw [if_neg (by omega), if_pos ⟨rfl, by omega⟩, hj]
            · rw [if_neg (by omega), if_neg (by omega)]
              have : F i ≠ k := fun e => by have := hinv i (by omega); rw [e] at this; omega
              exact h5 i (by omega) (by omega)
theorem Jx {s : List UInt8} : ∀ k out st, k ≤ s.length → parts s k = some (out, st) → out.length = s.length ∧ st.Pairwise (· > ·) ∧ (∀ i, i ∈ st → i < k) ∧
    (∀ i, i < k → i ∉ st → out.getD i 0 < k ∧ out.getD i 0 ≠ i ∧ out.getD i 0 ∉ st ∧ out.getD (out.getD i 0) 0 = i) ∧
    (∀ i j, i < k → j < k → i ∉ st → j ∉ st → ¬(i < j ∧ j < out.getD i 0 ∧ out.getD i 0 < out.getD j 0)) ∧
    (∀ i t, i < k → i ∉ st → t ∈ st → ¬(i < t ∧ t < out.getD i 0)) ∧ (∀ i, i < k → (s.getD i 0 = 40 ↔ (i ∈ st ∨ i < out.getD i 0)) ∧ (s.getD i 0 = 40 ∨ s.getD i 0 = 41))
  | 0, out, st, _, h => by
    simp only [parts, Option.some.injEq, Prod.mk.injEq] at h
    obtain ⟨rfl, rfl⟩ := h
    simp
  | k + 1, out, st, hk, h => by
    simp only [parts] at h
    split at h
    · cases h
    rename_i out0 st0 h0
    obtain ⟨h1, h2, h3, h4, h5, h6, h7⟩ := Jx k out0 st0 (by omega) h0
    split at h
    · rename_i hc
      simp only [Option.some.injEq, Prod.mk.injEq] at h
      obtain ⟨rfl, rfl⟩ := h
      refine ⟨h1, List.pairwise_cons.2 ⟨fun i hi => h3 i hi, h2⟩, ?_, ?_, ?_, ?_, ?_⟩
      · intro i hi
        rcases List.mem_cons.1 hi with rfl | hi
        · omega
        · have := h3 i hi; omega
      · intro i hi hn
        simp only [List.mem_cons, not_or] at hn
        obtain ⟨a1, a2, a3, a4⟩ := h4 i (by omega) hn.2
        refine ⟨by omega, a2, ?_, a4⟩
        simp only [List.mem_cons, not_or]
        exact ⟨by omega, a3⟩
      · intro i j hi hj hni hnj
        simp only [List.mem_cons, not_or] at hni hnj
        exact h5 i j (by omega) (by omega) hni.2 hnj.2
      · intro i t hi hni ht
        simp only [List.mem_cons, not_or] at hni
        rcases List.mem_cons.1 ht with rfl | ht
        · have := (h4 i (by omega) hni.2).1; omega
        · exact h6 i t (by omega) hni.2 ht
      · intro i hi
        by_cases e : i = k
        · subst e; exact ⟨⟨fun _ => .inl (by simp), fun _ => hc⟩, .inl hc⟩
        · have := h7 i (by omega)
          simp only [List.mem_cons, e, false_or]; exact this
    · rename_i hc
      split at h
      · rename_i hc2
        split at h
        · cases h
        rename_i t st'
        simp only [Option.some.injEq, Prod.mk.injEq] at h
        obtain ⟨rfl, rfl⟩ := h
        have hp := List.pairwise_cons.1 h2
        have htk := h3 t (by simp)
        have hts : t ∉ st' := fun hm => by have := hp.1 t hm; omega
        have hks : k ∉ st' := fun hm => by have := h3 k (List.mem_cons_of_mem _ hm); omega
        have gk : ((out0.set t k).set k t).getD k 0 = t := by rw [Zb, if_pos ⟨rfl, by rw [List.length_set]; omega⟩]
        have gt : ((out0.set t k).set k t).getD t 0 = k := by rw [Zb, if_neg (by omega), Zb, if_pos ⟨rfl, by omega⟩]
        have go : ∀ i, i ≠ k → i ≠ t → ((out0.set t k).set k t).getD i 0 = out0.getD i 0 := fun i a b => by
          simp only [Zb, List.length_set]; rw [if_neg (by omega), if_neg (by omega)]
        have old : ∀ i, i < k + 1 → i ∉ st' → i ≠ k → i ≠ t → i < k ∧ i ∉ t :: st' := fun i a b c d => ⟨by omega, by simp [d, b]⟩
        refine ⟨by simp [h1], hp.2, fun i hi => by have := h3 i (List.mem_cons_of_mem _ hi); omega, ?_, ?_, ?_, ?_⟩
        · intro i hi hn
          by_cases e1 : i = k
          · subst e1; rw [gk, gt]; exact ⟨by omega, by omega, hts, rfl⟩
          · by_cases e2 : i = t
            · subst e2; rw [gt, gk]; exact ⟨by omega, by omega, hks, rfl⟩
            · obtain ⟨a, b⟩ := old i hi hn e1 e2
              obtain ⟨a1, a2, a3, a4⟩ := h4 i a b
              simp only [List.mem_cons, not_or] at a3
              rw [go i e1 e2, go _ (by omega) a3.1]
              exact ⟨by omega, a2, a3.2, a4⟩
        · intro i j hi hj hni hnj ⟨b1, b2, b3⟩
          have hout : ∀ i, i < k + 1 → i ∉ st' → ((out0.set t k).set k t).getD i 0 ≤ k := by
            intro i hi hni
            by_cases e1 : i = k
            · subst e1; rw [gk]; omega
            · by_cases e2 : i = t
              · subst e2; rw [gt]; omega
              · obtain ⟨a, b⟩ := old i hi hni e1 e2
                rw [go i e1 e2]; have := (h4 i a b).1; omega
          have b4 := hout i hi hni
          have b5 := hout j hj hnj
          have e1 : i ≠ k := by omega
          have e2 : j ≠ k := by omega
          by_cases e3 : i = t
          · subst e3; rw [gt] at b3; omega
          · obtain ⟨a, b⟩ := old i hi hni e1 e3
            rw [go i e1 e3] at b2 b3
            by_cases e4 : j = t
            · subst e4; exact h6 i j a b (by simp) ⟨b1, b2⟩
            · obtain ⟨a', b'⟩ := old j hj hnj e2 e4
              rw [go j e2 e4] at b3
              exact h5 i j a a' b b' ⟨b1, b2, b3⟩
        · intro i t' hi hni ht' ⟨b1, b2⟩
          have hb := h3 t' (List.mem_cons_of_mem _ ht')
          have hb2 := hp.1 t' ht'
          by_cases e1 : i = k
          · omega
          · by_cases e2 : i = t
            · omega
            · obtain ⟨a, b⟩ := old i hi hni e1 e2
              rw [go i e1 e2] at b2
              exact h6 i t' a b (List.mem_cons_of_mem _ ht') ⟨b1, b2⟩
        · intro i hi
          by_cases e1 : i = k
          · subst e1
            refine ⟨⟨fun h => absurd h hc, fun h => ?_⟩, .inr hc2⟩
            rcases h with h | h
            · exact absurd h hks
            · rw [gk] at h; omega
          · have h8 := h7 i (by omega)
            refine ⟨?_, h8.2⟩
            rw [h8.1]
            by_cases e2 : i = t
            · subst e2; rw [gt]; simp [htk]
            · rw [go i e1 e2]; simp [e2]
      · cases h
theorem yb (n : Nat) (out : List Nat) : ∀ k, (vz n out k).length = 16
  | 0 => by simp [vz]
  | k + 1 => by simp [vz, yb n out k]
theorem W6 {n : Nat} {out : List Nat} (hn : n ≤ 8) : ∀ k, k ≤ 2 * n → ∀ i, i < 2 * n → (vz n out k).getD (place n i) 0 = if i < k then place n (out.getD i 0) else 0
  | 0, _, i, hi => by
    have := q9 hi
    simp only [vz, List.getD_eq_getElem?_getD, List.getElem?_replicate]
    split <;> simp
  | k + 1, hk, i, hi => by
    simp only [vz, Zb, yb]
    have h1 := q9 hi
    by_cases e : i = k
    · subst e
      rw [if_pos ⟨rfl, by omega⟩, if_pos (by omega)]
    · have h2 : place n k ≠ place n i := fun h => e (by rw [← zd hi, ← h, zd (by omega)])
      rw [if_neg (fun h => h2 h.1), W6 hn k (by omega) i hi]
      by_cases h3 : i < k
      · rw [if_pos h3, if_pos (by omega)]
      · rw [if_neg h3, if_neg (by omega)]
theorem Gy {n : Nat} {out : List Nat} : ∀ k, k ≤ 2 * n → ∀ i, 2 * n ≤ i → (vz n out k).getD i 0 = 0
  | 0, _, i, hi => by
    simp only [vz, List.getD_eq_getElem?_getD, List.getElem?_replicate]
    split <;> simp
  | k + 1, hk, i, hi => by
    have := q9 (n := n) (i := k) (by omega)
    simp only [vz, Zb]
    rw [if_neg (by omega), Gy k (by omega) i hi]
theorem qx4 {l m : List Nat} (hl : l.length = 16) (hm : m.length = 16) (h : ∀ i, i < 16 → l.getD i 0 = m.getD i 0) : l = m := by
  refine List.ext_getElem (by omega) fun i h1 h2 => ?_
  have := h i (by omega)
  simpa [List.getD_eq_getElem?_getD, h1, h2] using this
theorem Zr (n : Nat) (m : List Nat) (hm : m.length = 16) : isS n m = isI n m := by
  unfold isS isI
  by_cases hn : 1 ≤ n ∧ n ≤ 8
  case neg => simp [hn]
  simp only [hn, decide_true, Bool.true_and, and_self]
  obtain ⟨hn1, hn8⟩ := hn
  have hcond : 2 * n % 2 = 0 ∧ 2 ≤ 2 * n ∧ 2 * n ≤ 16 := ⟨by omega, by omega, by omega⟩
  have hhalf : 2 * n / 2 = n := by omega
  refine Bool.eq_iff_iff.2 ⟨fun h => ?_, fun h => ?_⟩
  · simp only [Bool.and_eq_true] at h ⊢
    obtain ⟨hp, hc⟩ := h
    have hp' : ∀ i, i < 2 * n → m.getD i 0 < 2 * n ∧ m.getD i 0 ≠ i ∧ m.getD (m.getD i 0) 0 = i := fun i hi => by
      have := List.all_eq_true.1 hp i (List.mem_range.2 (by omega))
      rw [if_neg (by omega)] at this
      simpa using this
    have hz : ∀ i, 2 * n ≤ i → i < 16 → m.getD i 0 = 0 := fun i hi hi' => by
      have := List.all_eq_true.1 hp i (List.mem_range.2 hi')
      rw [if_pos hi] at this
      simpa using this
    refine ⟨?_, ?_⟩
    · refine List.all_eq_true.2 fun i hi => ?_
      have hi' := List.mem_range.1 hi
      split
      · rename_i h1; simpa using hz i h1 hi'
      · rename_i h1; simpa using (hp' i (by omega)).1
    · let F : Nat → Nat := fun k => place n (m.getD (place n k) 0)
      have hF : ∀ k, k < 2 * n → F k < 2 * n := fun k hk => q9 (hp' _ (q9 hk)).1
      have hinv : ∀ k, k < 2 * n → F (F k) = k := fun k hk => by
        show place n (m.getD (place n (place n (m.getD (place n k) 0))) 0) = k
        rw [zd (hp' _ (q9 hk)).1, (hp' _ (q9 hk)).2.2, zd hk]
      have hfix : ∀ k, k < 2 * n → F k ≠ k := fun k hk e => by
        have h1 := (hp' _ (q9 hk)).2.1
        apply h1
        rw [← zd (hp' _ (q9 hk)).1]
        show place n (F k) = place n k
        rw [e]
      have hcross : ∀ j l, j < 2 * n → l < 2 * n → ¬(j < l ∧ l < F j ∧ F j < F l) := by
        rintro j l hj hl ⟨b1, b2, b3⟩
        have h1 := List.all_eq_true.1 (List.all_eq_true.1 hc (place n j) (List.mem_range.2 (q9 hj))) (place n l) (List.mem_range.2 (q9 hl))
        simp only [Vp, Vu, zd hj, zd hl, Bool.not_eq_true', decide_eq_false_iff_not] at h1
        apply h1
        show min j (F j) < min l (F l) ∧ min l (F l) < max j (F j) ∧ max j (F j) < max l (F l)
        omega
      obtain ⟨out, st, h1, h2, h3, h4, h5⟩ := qfv (s := xm n m) (F := F) (bo n m) hF hinv hfix hcross (fun k hk => qo2 hk) (2 * n) (Nat.le_refl _)
      have hst : st = [] := by
        cases st with
        | nil => rfl
        | cons t st' =>
          have := (h4 t).1 (by simp)
          have := hF t this.1
          omega
      subst hst
      have : vz n out (2 * n) = m := by
        refine qx4 (yb _ _ _) hm fun i hi => ?_
        by_cases h6 : i < 2 * n
        · have h7 := W6 (out := out) hn8 (2 * n) (Nat.le_refl _) (place n i) (q9 h6)
          rw [zd h6, if_pos (q9 h6), h5 _ (q9 h6) (hF _ (q9 h6))] at h7
          rw [h7]
          show place n (place n (m.getD (place n (place n i)) 0)) = _
          rw [zd h6, zd (hp' i h6).1]
        · rw [Gy _ (Nat.le_refl _) i (by omega), hz i (by omega) hi]
      simp only [vk, bo, hcond, and_self, if_true, h1, hhalf, this, beq_self_eq_true]
  · simp only [Bool.and_eq_true] at h ⊢
    obtain ⟨hr, he⟩ := h
    have hr' : ∀ i, i < 2 * n → m.getD i 0 < 2 * n := fun i hi => by
      have := List.all_eq_true.1 hr i (List.mem_range.2 (by omega))
      rw [if_neg (by omega)] at this
      simpa using this
    have hz : ∀ i, 2 * n ≤ i → i < 16 → m.getD i 0 = 0 := fun i hi hi' => by
      have := List.all_eq_true.1 hr i (List.mem_range.2 hi')
      rw [if_pos hi] at this
      simpa using this
    simp only [vk, bo, hcond, and_self, if_true, hhalf] at he
    split at he
    · rename_i out hout
      simp only [beq_iff_eq, Option.some.injEq, Prod.mk.injEq, true_and] at he
      obtain ⟨h1, h2, h3, h4, h5, h6, h7⟩ := Jx (2 * n) out [] (by rw [bo]; omega) hout
      have ho : ∀ k, k < 2 * n → out.getD k 0 < 2 * n ∧ out.getD k 0 ≠ k ∧ out.getD (out.getD k 0) 0 = k := fun k hk => by
        obtain ⟨a, b, _, d⟩ := h4 k hk (by simp)
        exact ⟨a, b, d⟩
      have hmo : ∀ k, k < 2 * n → m.getD (place n k) 0 = place n (out.getD k 0) := fun k hk => by
        rw [← he, W6 hn8 (2 * n) (Nat.le_refl _) k hk, if_pos hk]
      have hmo' : ∀ i, i < 2 * n → m.getD i 0 = place n (out.getD (place n i) 0) := fun i hi => by
        have := hmo (place n i) (q9 hi)
        rwa [zd hi] at this
      refine ⟨?_, ?_⟩
      · refine List.all_eq_true.2 fun i hi => ?_
        have hi' := List.mem_range.1 hi
        split
        · rename_i g1; simpa using hz i g1 hi'
        · rename_i g1
          have hi2 : i < 2 * n := by omega
          obtain ⟨a, b, c⟩ := ho (place n i) (q9 hi2)
          simp only [decide_eq_true_eq]
          refine ⟨hr' i hi2, fun e => ?_, ?_⟩
          · apply b
            rw [hmo' i hi2] at e
            rw [← zd a, e]
          · rw [hmo' i hi2, hmo _ a, c, zd hi2]
      · refine List.all_eq_true.2 fun i hi => List.all_eq_true.2 fun k hk => ?_
        have hi' := List.mem_range.1 hi
        have hk' := List.mem_range.1 hk
        obtain ⟨a, b, c⟩ := ho (place n i) (q9 hi')
        obtain ⟨a', b', c'⟩ := ho (place n k) (q9 hk')
        have e1 : place n (m.getD i 0) = out.getD (place n i) 0 := by rw [hmo' i hi', zd a]
        have e2 : place n (m.getD k 0) = out.getD (place n k) 0 := by rw [hmo' k hk', zd a']
        simp only [Vp, Vu, e1, e2, Bool.not_eq_true', decide_eq_false_iff_not]
        rintro ⟨b1, b2, b3⟩
        have hx := q9 hi'
        have hy := q9 hk'
        generalize hxe : place n i = x at *
        generalize hye : place n k = y at *
        have key : ∀ u v, u < 2 * n → v < 2 * n → ¬(u < v ∧ v < out.getD u 0 ∧ out.getD u 0 < out.getD v 0) := fun u v hu hv => h5 u v hu hv (by simp) (by simp)
        have k1 := key x y hx hy
        have k2 := key x (out.getD y 0) hx a'
        have k3 := key (out.getD x 0) y a hy
        have k4 := key (out.getD x 0) (out.getD y 0) a a'
        rw [c'] at k2
        rw [c] at k3
        rw [c, c'] at k4
        omega
    · simp at he
end Go.Dia
namespace Go.Am
open Go.ChangeShapes Go.WideShapes Go.ChangeAt Go.RowKit
set_option linter.unusedVariables false
set_option linter.unusedSimpArgs false
theorem qsm {P : Program} {f : FuncId} {xs : List AV} {H : List AO} (h : Fn P f xs H fun v _ => v = .bool true) (hro : ∀ o ∈ H, o.wr = false) {ι : Nat → Loc} {w : World} (hok : HOk ι H w.heap)
    (hu : AV.qy H.length xs) : Calls P f (qv ι xs).toArray w fun e w' => e = .returned (.bool true) ∧ w.keptBut w' (fun _ => False) ∧ ∀ b, b < w.heap.size → w'.heap[b]? = w.heap[b]? := by
  refine (h.2 ι w hok hu).mono ?_
  rintro e w' ⟨v, H', ι', rfl, hv, _, _, _, _, _, _, _, hfr, hgrow, hos, hout, htape⟩
  subst hv
  have hold : ∀ b, b < w.heap.size → w'.heap[b]? = w.heap[b]? := fun i hi => hfr i hi fun ⟨j, o, hj, hw, _⟩ => by rw [hro o (List.mem_of_getElem? hj)] at hw; cases hw
  exact ⟨rfl, World.keptBut_none_iff.2 ⟨hos, hout, hold⟩, hold⟩
theorem G2 {P : Program} {H : Type} {enc : TypeId × Value → H} {W W' : World} (hl : laidOutB P = true) (hz : ∀ t e, t < P.types.size → P.underlying t = some (.slice e) → 0 < P.cellsOf e)
    (hh : ∀ b, b < W.heap.size → W'.heap[b]? = W.heap[b]?) : ∀ {ts : List TypeId} {vs : List Value} {ds : List (DataW H)} {ps : List MemPlace}, (∀ t ∈ ts, P.readableRec t = true ∧ t < P.types.size) →
    DataW.TrodAll enc P W 0 (fun _ => true) true ts vs ds ps → DataW.TrodAll enc P W' 0 (fun b => decide (b < W.heap.size)) true ts vs ds ps
  | [], [], [], _, _, h => h
  | t :: ts, v :: vs, d :: ds, _, hT, ⟨p, q, ⟨n, h1⟩, h2, e⟩ => by
    refine ⟨p, q, ⟨n, ?_⟩, G2 hl hz hh (fun u hu => hT u (List.mem_cons_of_mem _ hu)) h2, e⟩
    obtain ⟨hr, hs⟩ := hT t (List.mem_cons_self ..)
    have hlt := DataW.trod_lt n t _ _ h1
    have h3 := DataW.trod_respare (spare' := fun b => decide (b < W.heap.size)) (kids_book hl hr) (fun t e ht => hz t e ht.1) n t _ _ ⟨hs, book_self t⟩ h1 (fun p hp => decide_eq_true (hlt p hp))
    refine DataW.trod_carry n t _ _ h3 fun x hx => ?_
    have := hlt x hx
    cases x with
    | cell b off =>
      simp only [World.sameAt, World.cell?]
      rw [hh b this]
    | map b => exact hh b this
theorem quk {P : Program} {H : Type} {enc : TypeId × Value → H} {f : Func} {s : ChangeSpec} {W W' : World} {args : Array Value} {ds gs : List (DataW H)} {before : List MemPlace} {t : TypeId}
    (hW : DataW.Whole enc P f.params.toList s.vars false W args.toList ds gs before) (hv : s.vars = []) (hf : (s.fn H (ds ++ gs)).results = [.lit (.bool true)] ∧ (s.fn H (ds ++ gs)).args = ds ∧ (s.fn H (ds ++ gs)).vars = [])
    (ht : f.resultTypes = #[t]) (hb : P.underlying t = some .bool) (hl : laidOutB P = true) (hz : ∀ t e, t < P.types.size → P.underlying t = some (.slice e) → 0 < P.cellsOf e)
    (hT : ∀ t ∈ f.params.toList, P.readableRec t = true ∧ t < P.types.size) (hk : W.keptBut W' (fun _ => False)) (hh : ∀ b, b < W.heap.size → W'.heap[b]? = W.heap[b]?) :
    s.post enc P f false true false false W args (.bool true) W' := by
  have hW' := hW
  obtain ⟨p, q, hA, hV, rfl, hfz, hnd⟩ := hW
  refine ⟨ds, gs, _, [], p, [], hW', ?_, ?_, ?_, World.keptBut_mono (fun _ h => h.elim) hk, fun h => by cases h⟩
  · rw [hf.1, ht]
    exact trodAll_cons_mk (shut_bool hb _) trodAll_mk0
  · rw [hf.2.1]; exact G2 hl hz hh hT hA
  · rw [hf.2.2, hv]; rfl
section
variable {H : Type} {enc : TypeId × Value → H} {P : Program} {w : World} {base : Nat} {spare : Nat → Bool} {held : Bool}
theorem qup (ι : Nat → Loc) (m : List Nat) : qv ι (u8s m) = m.map fun (x : Nat) => .int .u8 (x : Int) := by
  induction m with
  | nil => rfl
  | cons a m ih => simp only [u8s, List.map_cons, qv, gam]; rw [← ih]; rfl
theorem qok {t e : TypeId} {n fuel : Nat} {cs : List Value} {x : DataW H × List MemPlace} (ht : P.underlying t = some (.array n e)) (he : P.underlying e = some (.int .u8)) (hce : P.cellsOf e = 1) (hct : P.cellsOf t = n)
    (h : DataW.trod enc P w base spare held fuel t cs = some x) : ∃ m : List Nat, m.length = n ∧ (∀ y ∈ m, y < 256) ∧ cs = m.map fun (x : Nat) => .int .u8 (x : Int) := by
  obtain ⟨xs, k, rfl, rfl, hl, hxl, hi⟩ := DataW.trod_array ht h
  rw [hct] at hl
  have key : ∀ i, i < n → ∃ y : Nat, y < 256 ∧ cs[i]? = some (.int .u8 (y : Int)) := by
    intro i hi'
    have h1 := hi i hi'
    rw [hce, Nat.mul_one, List.getElem?_eq_getElem (by omega)] at h1
    obtain ⟨z, h2, _, hw⟩ := DataW.trod_int he h1
    have h3 : cs[i]? = some (.int .u8 z) := by
      have := congrArg List.head? h2
      simpa [List.head?_take, List.head?_drop] using this
    have hb := bounds_u8 hw
    exact ⟨z.toNat, by omega, by rw [h3, Int.toNat_of_nonneg hb.1]⟩
  refine ⟨cs.map fun v => match v with | .int _ z => z.toNat | _ => 0, by simp [hl], ?_, ?_⟩
  · intro y hy
    obtain ⟨v, hv, rfl⟩ := List.mem_map.1 hy
    obtain ⟨i, hi', hv'⟩ := List.getElem_of_mem hv
    obtain ⟨z, hz, h1⟩ := key i (by omega)
    rw [List.getElem?_eq_getElem hi', hv'] at h1
    cases h1
    simpa using hz
  · rw [List.map_map]
    apply List.ext_getElem?
    intro i
    by_cases hi' : i < n
    · obtain ⟨z, hz, h1⟩ := key i hi'
      rw [List.getElem?_map, h1]; simp
    · rw [List.getElem?_eq_none (by omega), List.getElem?_eq_none (by simp; omega)]
theorem qs8 {t e8 : TypeId} {f0 f1 : Field} {fuel : Nat} {cs : List Value} {x : DataW H × List MemPlace} (ht : P.underlying t = some (.struct #[f0, f1])) (h0 : P.underlying f0.type = some (.int .i64))
    (h1 : P.underlying f1.type = some (.array 16 e8)) (h8 : P.underlying e8 = some (.int .u8)) (o0 : f0.offset = 0) (o1 : f1.offset = 1) (c0 : P.cellsOf f0.type = 1) (c1 : P.cellsOf f1.type = 16) (c8 : P.cellsOf e8 = 1) (ct : P.cellsOf t = 17)
    (h : DataW.trod enc P w base spare held fuel t cs = some x) : ∃ (n : Int) (m : List Nat), m.length = 16 ∧ (∀ y ∈ m, y < 256) ∧ cs = qv (fun _ => Loc.nil) (dia n m) ∧ x.2 = [] ∧ -9223372036854775808 ≤ n ∧ n ≤ 9223372036854775807 := by
  obtain ⟨y0, y1, k, rfl, hl, a0, a1⟩ := trod_struct2 ht h
  rw [o0, c0] at a0
  rw [o1, c1] at a1
  obtain ⟨n, hn, rfl, hw⟩ := DataW.trod_int h0 a0
  obtain ⟨m, hm, hb, hcs⟩ := qok h1 h8 c8 c1 a1
  rw [ct] at hl
  have hnb := bounds_i64 hw
  have hp : y1.2 = [] := by
    obtain ⟨xs, k', rfl, rfl, _, hxl, hi⟩ := DataW.trod_array h1 a1
    simp only [List.flatMap_eq_nil_iff]
    intro y hy
    obtain ⟨i, hi', rfl⟩ := List.getElem_of_mem hy
    have h2 := hi i (by omega)
    rw [List.getElem?_eq_getElem hi'] at h2
    obtain ⟨z, _, e, _⟩ := DataW.trod_int h8 h2
    rw [e]
  refine ⟨n, m, hm, hb, ?_, by simp [hp], hnb.1, hnb.2⟩
  simp only [dia, qv, gam, qup, ← hcs]
  have e1 : cs.take 1 = [.int .i64 n] := by simpa using hn
  have e2 : (cs.drop 1).take 16 = cs.drop 1 := List.take_of_length_le (by simp; omega)
  rw [e2]
  conv => lhs; rw [← List.take_append_drop 1 cs, e1]
  rfl
theorem qsx {v : Value} {l : List Value} (h : v.cells.toList = l) (hl : l.length ≠ 1) : v = .agg l.toArray := by
  cases v <;> simp_all [Value.cells]
  all_goals first
    | (subst h; simp)
    | (subst h; simp at hl)
end
end Go.Am
namespace Go.Am
set_option linter.unusedVariables false
set_option linter.defProp false
def qo := And.intro @qon <| And.intro @qsd <| And.intro @qsr <| And.intro @qo1 <| And.intro @qr4 <| And.intro @qpf <| And.intro @qn7 <| And.intro @qfj <| And.intro @qcv <| And.intro @qt5 <| And.intro @qte <| And.intro @qwp <| And.intro @qwu <| And.intro @qsb <| And.intro @qyd <| And.intro @qs3 <| And.intro @qtk <| And.intro @qom <| And.intro @q05 <| And.intro @qvo <| And.intro @qzb <| And.intro @q3z <| And.intro @qr7 <| And.intro @qzp <| And.intro @qt2 <| And.intro @qtl <| And.intro @qsi <| And.intro @qr5 <| And.intro @qpm <| And.intro @qp8 <| And.intro @qxt <| And.intro @qr3 <| And.intro @qpo <| And.intro @qpq <| And.intro @qt0 <| And.intro @qpe <| And.intro @qza <| And.intro @qo5 <| And.intro @quq <| And.intro @qwl <| And.intro @qxr <| And.intro @qow <| And.intro @quy <| And.intro @qw1 <| And.intro @qob <| And.intro @qs7 <| And.intro @q1m <| And.intro @qua <| And.intro @qzw <| And.intro @q02 <| And.intro @qls <| And.intro @qv6 <| And.intro @qps <| And.intro @jz <| @q7
def q52 := And.intro @qfj <| And.intro @qcv <| And.intro @Int.toNat_natCast <| And.intro @Nat.mul_one <| And.intro @zj <| And.intro @qmd <| And.intro @qlb <| And.intro @qw3 <| And.intro @zc <| And.intro @zf <| And.intro @qyk <| And.intro @Nat.zero_add <| And.intro @Nat.add_zero <| And.intro @true_and <| And.intro @and_true <| And.intro @Bool.not_true <| And.intro @Bool.not_false <| And.intro @true_implies <| And.intro @false_implies <| And.intro @decide_true <| And.intro @decide_false <| And.intro @true_or <| And.intro @or_true <| And.intro @or_false <| And.intro @false_or <| And.intro @not_true_eq_false <| And.intro @AV.bool.injEq <| And.intro @Bool.and_self <| And.intro @Bool.not_eq_true' <| And.intro @Bool.not_eq_false' <| @not_false_eq_true
def q45 := And.intro @qvs <| And.intro @q3f <| And.intro @q4f <| And.intro @q3e <| And.intro @qxj <| And.intro @qwf <| And.intro @q0f <| And.intro (fun ids n m => qk ids _ (qe n m)) <| And.intro (fun ids l => qk ids _ (uj l)) <| And.intro (fun ids l => qk ids _ (xc l)) <| (fun ids l => qk ids _ (yo l))
def q46 := And.intro @qgh <| And.intro @U5 <| And.intro @q13 <| And.intro @q2m <| And.intro @qxs <| And.intro @qyr <| And.intro @qzh <| And.intro @qv1 <| And.intro (fun ρ n m => qc ρ _ (qe n m)) <| And.intro (fun ρ l => qc ρ _ (uj l)) <| And.intro (fun ρ l => qc ρ _ (xc l)) <| (fun ρ l => qc ρ _ (yo l))
def q48 := And.intro @List.length_nil.{0} <| And.intro @List.length_cons.{0} <| And.intro @List.map_cons.{0,0} <| And.intro @List.map_nil.{0,0} <| And.intro @List.append_nil.{0} <| And.intro @List.nil_append.{0} <| And.intro @List.cons_append.{0} <| And.intro @List.nil_eq.{0} <| And.intro @beq_iff_eq.{0} <| And.intro @beq_eq_false_iff_ne.{0} <| And.intro @bne_iff_ne.{0} <| And.intro @bne_eq_false_iff_eq.{0} <| And.intro @eq_self.{1} <| And.intro @ne_eq.{1} <| And.intro @cond_true.{1} <| And.intro @cond_false.{1} <| And.intro @exists_eq'.{1} <| And.intro @decide_eq_true_eq <| @decide_eq_false_iff_not
def qq9 := And.intro @List.mem_cons.{0} <| And.intro @List.not_mem_nil.{0} <| And.intro @or_false <| And.intro @forall_eq_or_imp.{1} <| And.intro @forall_eq.{1} <| And.intro @List.getElem?_cons_zero.{0} <| And.intro @List.getElem?_cons_succ.{0} <| And.intro @List.getElem?_nil.{0} <| And.intro @List.contains_cons.{0} <| And.intro @List.contains_nil.{0} <| And.intro @zj <| And.intro @beq_self_eq_true.{0} <| And.intro @Bool.or_true <| And.intro @Bool.true_or <| And.intro @Bool.or_false <| And.intro @Bool.false_or <| And.intro @Bool.and_self <| And.intro @Bool.and_true <| And.intro @Bool.true_and <| And.intro @and_self <| And.intro @and_true <| And.intro @true_and <| And.intro @List.cons_append.{0} <| And.intro @List.nil_append.{0} <| And.intro @List.set_cons_zero.{0} <| @List.set_cons_succ.{0}
def q5u := And.intro @Option.bind_some.{0,0} <| And.intro @Option.map_some.{0,0} <| And.intro @zj <| And.intro @List.map_cons.{0,0} <| And.intro @List.map_nil.{0,0} <| And.intro @List.getElem?_cons_zero.{0} <| And.intro @List.getElem?_cons_succ.{0} <| And.intro @List.getElem?_nil.{0} <| And.intro @Nat.add_zero <| And.intro @Nat.zero_add <| And.intro @List.cons_append.{0} <| And.intro @List.nil_append.{0} <| And.intro @List.set_cons_zero.{0} <| @List.set_cons_succ.{0}
def q4y := And.intro @List.getElem?_cons_zero.{0} <| And.intro @List.getElem?_cons_succ.{0} <| And.intro @List.getElem?_nil.{0} <| And.intro @List.set_cons_zero.{0} <| And.intro @List.set_cons_succ.{0} <| And.intro @List.drop_zero.{0} <| And.intro @List.drop_succ_cons.{0} <| And.intro @List.take_zero.{0} <| @List.take_succ_cons.{0}
def zH := And.intro q4y <| And.intro @vx.eq_1 <| And.intro @vx.eq_2 <| And.intro @rd.eq_1 <| And.intro @wrt.eq_1 <| And.intro @wrl.eq_1 <| And.intro @AO.b8.eq_1 <| And.intro @AO.b8.eq_2 <| @AO.b8.eq_3
def zZ := And.intro wbE <| And.intro q52 <| And.intro q48 <| And.intro @Wa.eq_1 <| And.intro @Wa.eq_2 <| And.intro @implies_true.{1} <| And.intro @AK.Vx.eq_1 <| And.intro @AK.Vx.eq_2 <| And.intro @AK.Vx.eq_3 <| And.intro @ev.eq_1 <| And.intro @ev.eq_2 <| And.intro @xu.eq_1 <| And.intro @xu.eq_2 <| And.intro @Qg.eq_1 <| And.intro @Qg.eq_2 <| And.intro @Qg.eq_3 <| And.intro @Qg.eq_4 <| And.intro @Qg.eq_5 <| And.intro @Qg.eq_6 <| And.intro @Qg.eq_7 <| And.intro @Qg.eq_8 <| And.intro @Qg.eq_9 <| And.intro @Qg.eq_10 <| And.intro @Qg.eq_11 <| And.intro @Qg.eq_12 <| And.intro @Qg.eq_13 <| And.intro @Qg.eq_14 <| And.intro @Qg.eq_15 <| And.intro @Qg.eq_16 <| And.intro @Qg.eq_17 <| And.intro @Qg.eq_18 <| And.intro @Qg.eq_19 <| And.intro @Qg.eq_20 <| And.intro @Qg.eq_21 <| And.intro @Qg.eq_22 <| And.intro @aun.eq_1 <| And.intro @aun.eq_2 <| And.intro @aun.eq_3 <| And.intro @AV.cells.eq_1 <| And.intro @AV.cells.eq_2 <| And.intro @AV.cells.eq_3 <| And.intro @AV.cells.eq_4 <| And.intro @AV.cells.eq_5 <| And.intro @qz3.eq_1 <| And.intro @Vd.eq_1 <| And.intro @Vd.eq_2 <| And.intro @Vd.eq_3 <| And.intro @Vd.eq_4 <| And.intro @xw.eq_1 <| And.intro @xw.eq_2 <| And.intro @AV.zl.eq_1 <| And.intro @AV.zl.eq_2 <| And.intro @AV.zl.eq_3 <| And.intro @AV.zl.eq_4 <| And.intro @AV.zl.eq_5 <| And.intro @AV.zl.eq_6 <| And.intro @AV.zl.eq_7 <| And.intro @AV.zb.eq_1 <| @AV.zb.eq_2
def zK := And.intro q45 <| And.intro qq9 <| And.intro @AV.within.eq_1 <| And.intro @AV.within.eq_2 <| And.intro @AV.within.eq_3 <| And.intro @AV.within.eq_4 <| And.intro @AV.within.eq_5 <| And.intro @AV.within.eq_6 <| And.intro @AV.within.eq_7 <| And.intro @AV.xr.eq_1 <| And.intro @AV.xr.eq_2 <| @implies_true.{1}
def zL := And.intro q46 <| And.intro q5u <| And.intro @Us.eq_1 <| And.intro @zi.eq_1 <| And.intro @qx.eq_1 <| And.intro @qx.eq_2 <| And.intro @AV.ren.eq_1 <| And.intro @AV.ren.eq_2 <| And.intro @AV.ren.eq_3 <| And.intro @AV.ren.eq_4 <| And.intro @AV.ren.eq_5 <| And.intro @AV.ren.eq_6 <| And.intro @AV.ren.eq_7 <| And.intro @AV.ren.eq_8 <| And.intro @AV.ren.eq_9 <| And.intro @AV.ren.eq_10 <| And.intro @AV.ren.eq_11 <| And.intro @AV.zh.eq_1 <| And.intro @AV.zh.eq_2 <| And.intro @pos.eq_1 <| @pos.eq_2
def zV := And.intro @List.map_cons.{0,0} <| And.intro @List.map_nil.{0,0} <| And.intro @List.set_cons_zero.{0} <| And.intro @List.set_cons_succ.{0} <| And.intro @List.getElem?_cons_zero.{0} <| And.intro @List.getElem?_cons_succ.{0} <| And.intro @and_self <| And.intro @false_and <| And.intro @and_false <| And.intro @List.all_cons.{0} <| And.intro @List.all_nil.{0} <| And.intro @Bool.and_self <| And.intro @Bool.and_true <| And.intro @Bool.or_true <| And.intro @Bool.or_false <| And.intro @beq_self_eq_true.{0} <| And.intro @Bool.not_true <| And.intro @Bool.not_false <| And.intro @List.cons_append.{0} <| And.intro @List.nil_append.{0} <| And.intro (fun b n m d => j5 b n _ (qe m d)) <| And.intro (fun b n l => j5 b n _ (uj l)) <| And.intro (fun b n l => j5 b n _ (xc l)) <| And.intro (fun b n l => j5 b n _ (yo l)) <| And.intro (fun b m d => vn b _ (qe m d)) <| And.intro (fun b l => vn b _ (uj l)) <| And.intro (fun b l => vn b _ (xc l)) <| And.intro (fun b l => vn b _ (yo l)) <| And.intro @Wu.eq_1 <| And.intro @AV.xe.eq_1 <| And.intro @AV.xe.eq_2 <| And.intro @AV.xe.eq_3 <| And.intro @AV.xe.eq_4 <| And.intro @AV.xe.eq_5 <| And.intro @AV.xe.eq_6 <| And.intro @AV.xe.eq_7 <| And.intro @AV.xe.eq_8 <| And.intro @AV.xe.eq_9 <| And.intro @AV.xe.eq_10 <| And.intro @AV.xe.eq_11 <| And.intro @AO.xe.eq_1 <| And.intro @AO.xe.eq_2 <| And.intro @AO.xe.eq_3 <| And.intro @AO.xe.eq_4 <| And.intro @AO.xe.eq_5 <| And.intro @AO.xe.eq_6 <| And.intro @AO.xe.eq_7 <| And.intro @AV.gq.eq_1 <| And.intro @AV.gq.eq_2 <| And.intro @AV.exact.eq_1 <| And.intro @AV.exact.eq_2 <| And.intro @AV.exact.eq_3 <| And.intro @AV.exact.eq_4 <| And.intro @AV.exact.eq_5 <| And.intro @AV.Zh.eq_1 <| And.intro @AV.Zh.eq_2 <| And.intro @AO.exact.eq_1 <| And.intro @AO.exact.eq_2 <| And.intro @AO.exact.eq_3 <| And.intro @AO.exact.eq_4 <| @AO.exact.eq_5
def zY := And.intro @qyu <| And.intro @qpp <| And.intro @not_not_eq <| And.intro @Bool.not_eq_false @Bool.not_eq_true
abbrev o0 (d : Nat) (x : AOp) : AI := ⟨some d, none, .op x⟩
abbrev oG (d g : Nat) (b : Bool) (x : AOp) : AI := ⟨some d, some (g, b), .op x⟩
abbrev oM (d a : Nat) : AI := ⟨some d, none, .op (.mov (.t a))⟩
abbrev oI (d : Nat) (n : Int) : AI := ⟨some d, none, .op (.mov (.c (.int .i64 n)))⟩
abbrev oB (d : Nat) (b : Bool) : AI := ⟨some d, none, .op (.mov (.c (.bool b)))⟩
abbrev oL (d a : Nat) : AI := ⟨some d, none, .op (.wy (.t a))⟩
abbrev oN (d n a : Nat) : AI := ⟨some d, none, .op (.Qq n (.t a))⟩
abbrev oS (n a x : Nat) : AI := ⟨none, none, .op (.Kk n (.t a) (.t x))⟩
abbrev oT (a x : Nat) : AI := ⟨none, none, .op (.Qz (.t a) (.t x))⟩
abbrev oF (d k a : Nat) : AI := ⟨some d, none, .op (.ym k (.t a))⟩
abbrev oX (d n a i : Nat) : AI := ⟨some d, none, .op (.Q9 n (.t a) (.t i))⟩
abbrev oE (d i a : Nat) : AI := ⟨some d, none, .op (.ext i (.t a))⟩
abbrev oC (d f : Nat) (l : List Opd) : AI := ⟨some d, none, .call (.c (.fn f [] [])) l⟩
abbrev oP (d : Nat) (o : BinOp) (a b : Nat) : AI := ⟨some d, none, .op (.bin o (.t a) (.t b))⟩
abbrev oK (d : Nat) (o : BinOp) (a : Nat) (n : Int) : AI := ⟨some d, none, .op (.bin o (.t a) (.c (.int .i64 n)))⟩
abbrev oZ (d : Nat) : AI := ⟨some d, none, .op (.alloc [.int .i64 0, .int .i64 0, .int .i64 0, .v (.slice none 0 0)])⟩
abbrev oD (d : Nat) : AI := ⟨some d, none, .op (.alloc [.int .i64 0, .int .u8 0, .int .u8 0, .int .u8 0, .int .u8 0, .int .u8 0, .int .u8 0, .int .u8 0, .int .u8 0, .int .u8 0, .int .u8 0, .int .u8 0, .int .u8 0, .int .u8 0, .int .u8 0, .int .u8 0, .int .u8 0])⟩
end Go.Am
namespace Go.Am
set_option linter.unusedVariables false
set_option linter.unusedSimpArgs false
set_option linter.defProp false
mutual
def AV.refs : AV → List Nat
  | .ptr b _ => [b]
  | .slc b _ _ _ _ => [b]
  | .map b => [b]
  | .fn _ first caps => AV.wv first ++ AV.wv caps
  | .agg l => AV.wv l
  | .tup l => AV.wv l
  | _ => []
def AV.wv : List AV → List Nat
  | [] => []
  | a :: l => AV.refs a ++ AV.wv l
end
mutual
theorem qsk : (a : AV) → a.zl = true → a.refs = []
  | .int _ _, _ => rfl
  | .bool _, _ => rfl
  | .str _, _ => rfl
  | .agg l, h => by simp only [AV.zl] at h; exact z6 l h
  | .tup l, h => by simp only [AV.zl] at h; exact z6 l h
  | .top, h => by simp [AV.zl] at h
  | .v _, h => by simp [AV.zl] at h
  | .ptr _ _, h => by simp [AV.zl] at h
  | .slc _ _ _ _ _, h => by simp [AV.zl] at h
  | .map _, h => by simp [AV.zl] at h
  | .fn _ a b, h => by simp only [AV.zl, Bool.and_eq_true] at h; simp only [AV.refs, z6 a h.1, z6 b h.2, List.append_nil]
theorem z6 : (l : List AV) → AV.zb l = true → AV.wv l = []
  | [], _ => rfl
  | a :: l, h => by simp only [AV.zb, Bool.and_eq_true] at h; simp only [AV.wv, qsk a h.1, z6 l h.2, List.append_nil]
end
mutual
theorem vi {ids : List Nat} : (a : AV) → (∀ b ∈ a.refs, b ∈ ids) → a.within ids = true
  | .int _ _, _ => rfl
  | .bool _, _ => rfl
  | .str _, _ => rfl
  | .top, _ => rfl
  | .v _, _ => rfl
  | .ptr b _, h => by simpa [AV.within] using h b (by simp [AV.refs])
  | .slc b _ _ _ _, h => by simpa [AV.within] using h b (by simp [AV.refs])
  | .map b, h => by simpa [AV.within] using h b (by simp [AV.refs])
  | .agg l, h => yd l h
  | .tup l, h => yd l h
  | .fn _ a b, h => by
    simp only [AV.within, Bool.and_eq_true]
    exact ⟨yd a fun x hx => h x (List.mem_append_left _ hx), yd b fun x hx => h x (List.mem_append_right _ hx)⟩
theorem yd {ids : List Nat} : (l : List AV) → (∀ b ∈ AV.wv l, b ∈ ids) → AV.xr ids l = true
  | [], _ => rfl
  | a :: l, h => by
    simp only [AV.xr, Bool.and_eq_true]
    exact ⟨vi a fun x hx => h x (List.mem_append_left _ hx), yd l fun x hx => h x (List.mem_append_right _ hx)⟩
end
def AE.wv : List AE → List Nat
  | [] => []
  | e :: l => e.key.refs ++ (e.val.refs ++ AE.wv l)
def AO.refs : AO → List Nat
  | .cells l => AV.wv l
  | .vec _ l => AV.wv l
  | .ro l => AV.wv l
  | .map es _ => AE.wv es
  | .x6 (some b) _ _ _ => [b]
  | .x6 none _ _ _ => []
  | .bg _ _ => []
  | .dead => []
theorem AE.Wj : ∀ (l : List AE) (e : AE), e ∈ l → ∀ b, b ∈ e.key.refs ∨ b ∈ e.val.refs → b ∈ AE.wv l
  | [], e, h, b, _ => by cases h
  | x :: l, e, h, b, hb => by
    simp only [AE.wv, List.mem_append]
    rcases List.mem_cons.1 h with rfl | h
    · rcases hb with h | h
      · exact .inl h
      · exact .inr (.inl h)
    · exact .inr (.inr (AE.Wj l e h b hb))
theorem AO.vi {ids : List Nat} (o : AO) (h : ∀ b ∈ o.refs, b ∈ ids) : o.within ids = true := by
  cases o with
  | cells l => exact yd l h
  | vec s l => exact yd l h
  | ro l => exact yd l h
  | map es c =>
    simp only [AO.within, List.all_eq_true, Bool.and_eq_true]
    intro e he
    exact ⟨Am.vi _ fun b hb => h b (AE.Wj es e he b (.inl hb)), Am.vi _ fun b hb => h b (AE.Wj es e he b (.inr hb))⟩
  | x6 m a b c => cases m with
    | none => rfl
    | some m => simpa [AO.within] using h m (by simp [AO.refs])
  | bg s p => rfl
  | dead => rfl
def reach (hp : List AO) : Nat → List Nat → List Nat → Option (List Nat)
  | 0, _, _ => none
  | _ + 1, [], acc => some acc
  | f + 1, b :: l, acc => if acc.contains b then reach hp f l acc else match hp[b]? with
    | some o => reach hp f (o.refs ++ l) (acc ++ [b])
    | none => none
def qcj (hp : List AO) : Nat → List Nat
  | 0 => []
  | n + 1 => qcj hp n ++ (match hp[n]? with | some o => o.refs | none => [])
def Jr (e : Env) : List Nat → List Nat
  | [] => []
  | t :: ts => (get e t).refs ++ Jr e ts
def qqa (n0 : Nat) (ts : List Nat) (e : Env) (hp : List AO) : Option (List Nat) := if n0 ≤ hp.length then reach hp 200 (qcj hp n0 ++ Jr e ts) (List.range n0) else none
theorem qfz {hp : List AO} {n0 : Nat} : ∀ (f : Nat) (todo acc ids : List Nat), reach hp f todo acc = some ids → acc.Nodup → (∀ b ∈ acc, b < hp.length) → acc.take n0 = List.range n0 → n0 ≤ acc.length →
    (∀ b ∈ acc, ∀ o, hp[b]? = some o → ∀ r ∈ o.refs, r ∈ acc ∨ r ∈ todo) →
    ((n0 ≤ ids.length ∧ ids.take n0 = List.range n0 ∧ ids.Nodup) ∧ (∀ b ∈ ids, b < hp.length) ∧ (∀ b ∈ ids, ∀ o, hp[b]? = some o → ∀ r ∈ o.refs, r ∈ ids) ∧ ∀ b, b ∈ acc ∨ b ∈ todo → b ∈ ids)
  | 0, _, _, _, h, _, _, _, _, _ => by simp [reach] at h
  | f + 1, [], acc, ids, h, h1, h2, h3, h4, h5 => by
    simp only [reach, Option.some.injEq] at h
    subst h
    exact ⟨⟨h4, h3, h1⟩, h2, fun b hb o ho r hr => by simpa using h5 b hb o ho r hr, fun b hb => by simpa using hb⟩
  | f + 1, b :: l, acc, ids, h, h1, h2, h3, h4, h5 => by
    simp only [reach] at h
    split at h
    · rename_i hc
      have hc : b ∈ acc := by simpa using hc
      obtain ⟨a1, a2, a3, a4⟩ := qfz f l acc ids h h1 h2 h3 h4 fun x hx o ho r hr => by
        rcases h5 x hx o ho r hr with h | h
        · exact .inl h
        · rcases List.mem_cons.1 h with rfl | h
          · exact .inl hc
          · exact .inr h
      refine ⟨a1, a2, a3, fun x hx => ?_⟩
      rcases hx with hx | hx
      · exact a4 x (.inl hx)
      · rcases List.mem_cons.1 hx with rfl | hx
        · exact a4 _ (.inl hc)
        · exact a4 x (.inr hx)
    · rename_i hc
      have hc : b ∉ acc := by simpa using hc
      split at h
      · rename_i o ho
        have hb : b < hp.length := (List.getElem?_eq_some_iff.1 ho).1
        obtain ⟨a1, a2, a3, a4⟩ := qfz f (o.refs ++ l) (acc ++ [b]) ids h
          (List.nodup_append.2 ⟨h1, by simp, fun x hx y hy e => by simp at hy; subst hy; subst e; exact hc hx⟩)
          (fun x hx => by
            rcases List.mem_append.1 hx with hx | hx
            · exact h2 x hx
            · simp at hx; subst hx; exact hb)
          (by rw [List.take_append_of_le_length h4]; exact h3) (by simp; omega)
          (fun x hx o' ho' r hr => by
            rcases List.mem_append.1 hx with hx | hx
            · rcases h5 x hx o' ho' r hr with h | h
              · exact .inl (List.mem_append_left _ h)
              · rcases List.mem_cons.1 h with rfl | h
                · exact .inl (List.mem_append_right _ (by simp))
                · exact .inr (List.mem_append_right _ h)
            · simp at hx; subst hx
              rw [ho] at ho'; cases ho'
              exact .inr (List.mem_append_left _ hr))
        refine ⟨a1, a2, a3, fun x hx => ?_⟩
        rcases hx with hx | hx
        · exact a4 x (.inl (List.mem_append_left _ hx))
        · rcases List.mem_cons.1 hx with rfl | hx
          · exact a4 _ (.inl (List.mem_append_right _ (by simp)))
          · exact a4 x (.inr (List.mem_append_right _ hx))
      · cases h
theorem qe6 {hp : List AO} : ∀ (n : Nat) (b : Nat) (o : AO), b < n → hp[b]? = some o → ∀ r ∈ o.refs, r ∈ qcj hp n
  | 0, b, o, h, _, _, _ => by omega
  | n + 1, b, o, h, ho, r, hr => by
    simp only [qcj, List.mem_append]
    by_cases e : b = n
    · subst e; right; rw [ho]; exact hr
    · exact .inl (qe6 n b o (by omega) ho r hr)
theorem qbb {e : Env} : ∀ (ts : List Nat) (t : Nat), t ∈ ts → ∀ r ∈ (get e t).refs, r ∈ Jr e ts
  | [], t, h, _, _ => by cases h
  | u :: ts, t, h, r, hr => by
    simp only [Jr, List.mem_append]
    rcases List.mem_cons.1 h with rfl | h
    · exact .inl hr
    · exact .inr (qbb ts t h r hr)
theorem qz.can {n0 : Nat} {e : Env} {hp : List AO} (ts : List Nat) {ids : List Nat} (h : qqa n0 ts e hp = some ids) : qz n0 ⟨e, hp⟩ ⟨Us ids e ts, zi ids hp⟩ := by
  unfold qqa at h
  split at h
  · rename_i hn
    obtain ⟨a1, a2, a3, a4⟩ := qfz (n0 := n0) 200 _ _ ids h List.nodup_range (fun b hb => by simp at hb; omega) (by simp) (by simp) (fun b hb o ho r hr => .inr (List.mem_append_left _ (qe6 n0 b o (by simpa using hb) ho r hr)))
    refine qz.sim (Sim.ve ⟨a1, fun i hi => ?_⟩ fun t ht => vi _ fun b hb => a4 b (.inr (List.mem_append_right _ (qbb ts t ht b hb))))
    have hlt := a2 i hi
    rw [List.getElem?_eq_getElem hlt]
    exact AO.vi _ fun b hb => a3 i hi _ (List.getElem?_eq_getElem hlt) b hb
  · cases h
def zC := And.intro @qqa.eq_1 <| And.intro @reach.eq_1 <| And.intro @reach.eq_2 <| And.intro @reach.eq_3 <| And.intro @qcj.eq_1 <| And.intro @qcj.eq_2 <| And.intro @Jr.eq_1 <| And.intro @Jr.eq_2 <| And.intro @AO.refs.eq_1 <| And.intro @AO.refs.eq_2 <| And.intro @AO.refs.eq_3 <| And.intro @AO.refs.eq_4 <| And.intro @AO.refs.eq_5 <| And.intro @AO.refs.eq_6 <| And.intro @AO.refs.eq_7 <| And.intro @AO.refs.eq_8 <| And.intro @AE.wv.eq_1 <| And.intro @AE.wv.eq_2 <| And.intro @AV.wv.eq_1 <| And.intro @AV.wv.eq_2 <| And.intro @AV.refs.eq_1 <| And.intro @AV.refs.eq_2 <| And.intro @AV.refs.eq_3 <| And.intro @AV.refs.eq_4 <| And.intro @AV.refs.eq_5 <| And.intro @AV.refs.eq_6 <| And.intro @AV.refs.eq_7 <| And.intro @List.append_nil.{0} <| And.intro @List.nil_append.{0} <| And.intro @List.cons_append.{0} <| And.intro @List.getElem?_cons_zero.{0} <| And.intro @List.getElem?_cons_succ.{0} <| And.intro @List.contains_cons.{0} <| And.intro @List.contains_nil.{0} <| And.intro @beq_self_eq_true.{0} <| And.intro @Bool.or_true <| And.intro @Bool.true_or <| And.intro @Bool.or_false <| And.intro @List.length_cons.{0} <| And.intro @List.length_nil.{0} <| And.intro @Nat.zero_add <| And.intro @Nat.zero_le <| And.intro @zj <| And.intro @List.range_zero <| And.intro @List.range_succ <| And.intro (fun n m => z6 _ (qe n m)) <| And.intro (fun l => z6 _ (uj l)) <| And.intro (fun l => z6 _ (xc l)) (fun l => z6 _ (yo l))
end Go.Am
namespace Go.Am
set_option linter.unusedVariables false
set_option linter.unusedSimpArgs false
set_option linter.defProp false
theorem q2z {L r : List AO} {j : Nat} : (L ++ r)[L.length + j]? = r[j]? := by rw [List.getElem?_append_right (by omega)]; congr 1; omega
theorem q49 {L r : List AO} : (L ++ r)[L.length]? = r[0]? := by rw [List.getElem?_append_right (by omega)]; congr 1; omega
theorem q59 {L r : List AO} {j : Nat} {x : AO} : (L ++ r).set (L.length + j) x = L ++ r.set j x := by rw [List.set_append_right _ _ (by omega)]; congr 2; omega
theorem q4m {L r : List AO} {x : AO} : (L ++ r).set L.length x = L ++ r.set 0 x := by rw [List.set_append_right _ _ (by omega)]; congr 2; omega
theorem q6f {L r r' : List AO} : (L ++ r = L ++ r') = (r = r') := propext ⟨List.append_cancel_left, fun h => by rw [h]⟩
theorem ltA {n j : Nat} : decide (n + j < n) = false := decide_eq_false (by omega)
theorem q6c {n : Nat} : decide (n < n) = false := decide_eq_false (by omega)
theorem q2q {n j : Nat} : n + j - n = j := by omega
mutual
theorem Jn {ρ : Ren} : (a : AV) → (∀ b ∈ a.refs, ρ b = some (b, 0)) → a.ren ρ = a
  | .int _ _, _ => rfl
  | .bool _, _ => rfl
  | .str _, _ => rfl
  | .top, _ => rfl
  | .v _, _ => rfl
  | .ptr b _, h => by simp only [AV.ren, h b (by simp [AV.refs]), Nat.zero_add]
  | .slc b _ _ _ _, h => by simp only [AV.ren, h b (by simp [AV.refs]), Nat.zero_add]
  | .map b, h => by simp only [AV.ren, h b (by simp [AV.refs])]
  | .agg l, h => by simp only [AV.ren, kf l h]
  | .tup l, h => by simp only [AV.ren, kf l h]
  | .fn _ a b, h => by simp only [AV.ren, kf a fun x hx => h x (List.mem_append_left _ hx), kf b fun x hx => h x (List.mem_append_right _ hx)]
theorem kf {ρ : Ren} : (l : List AV) → (∀ b ∈ AV.wv l, ρ b = some (b, 0)) → AV.zh ρ l = l
  | [], _ => rfl
  | a :: l, h => by simp only [AV.zh, Jn a fun x hx => h x (List.mem_append_left _ hx), kf l fun x hx => h x (List.mem_append_right _ hx)]
end
theorem AO.Jn {ρ : Ren} (o : AO) (h : ∀ b ∈ o.refs, ρ b = some (b, 0)) : o.ren ρ = o := by
  cases o with
  | cells l => simp only [AO.ren, kf l h]
  | vec s l => simp only [AO.ren, kf l h]
  | ro l => simp only [AO.ren, kf l h]
  | map es c =>
    simp only [AO.ren, AO.map.injEq, and_true]
    conv => rhs; rw [← List.map_id es]
    refine List.map_congr_left fun e he => ?_
    simp only [AE.ren, id, Am.Jn e.key fun b hb => h b (AE.Wj es e he b (.inl hb)), Am.Jn e.val fun b hb => h b (AE.Wj es e he b (.inr hb))]
  | x6 m a b c => cases m with
    | none => rfl
    | some m => simp only [AO.ren, Option.bind_some, h m (by simp [AO.refs]), Option.map_some]
  | bg s p => rfl
  | dead => rfl
theorem Ya : ∀ (a b : List AV), AV.wv (a ++ b) = AV.wv a ++ AV.wv b
  | [], b => rfl
  | x :: a, b => by simp only [List.cons_append, AV.wv, Ya a b, List.append_assoc]
theorem Bs (ρ : Ren) : ∀ (a b : List AV), AV.zh ρ (a ++ b) = AV.zh ρ a ++ AV.zh ρ b
  | [], b => rfl
  | x :: a, b => by simp only [List.cons_append, AV.zh, Bs ρ a b]
def Lok (L : List AO) : Prop := ∀ o, o ∈ L → ∀ b ∈ o.refs, b < L.length
def inL (n : Nat) (ids : List Nat) (b : Nat) : Bool := decide (b < n) || ids.contains (b - n)
def qt3 (n : Nat) (ids : List Nat) (rest : List AO) : List Nat → Bool
  | [] => true
  | j :: l => (match rest[j]? with | some o => o.refs.all (inL n ids) | none => false) && qt3 n ids rest l
def qtq (n : Nat) (ids : List Nat) (e : Env) : List Nat → Bool
  | [] => true
  | t :: l => (get e t).refs.all (inL n ids) && qtq n ids e l
def qtg : List Nat → Bool
  | [] => true
  | a :: l => !l.contains a && qtg l
def okL (n : Nat) (ids : List Nat) (rest : List AO) (e : Env) (ts : List Nat) : Bool := qtg ids && qt3 n ids rest ids && qtq n ids e ts
def Wp (n : Nat) (ids : List Nat) : Ren := fun b => if b < n then some (b, 0) else match pos ids (b - n) 0 with | some k => some (n + k, 0) | none => none
def qew (n : Nat) (ids : List Nat) (rest : List AO) : List AO := ids.map fun i => match rest[i]? with | some o => o.ren (Wp n ids) | none => .dead
def qgc (n : Nat) (ids : List Nat) (e : Env) (ts : List Nat) : Env := ts.map fun t => (t, (get e t).ren (Wp n ids))
theorem qlp {n : Nat} {ids : List Nat} {rest : List AO} : ∀ (l : List Nat), qt3 n ids rest l = true → ∀ j ∈ l, ∃ o, rest[j]? = some o ∧ ∀ b ∈ o.refs, inL n ids b = true
  | [], _, j, h => by cases h
  | i :: l, h, j, hj => by
    simp only [qt3, Bool.and_eq_true] at h
    rcases List.mem_cons.1 hj with rfl | hj
    · have h1 := h.1
      split at h1
      · rename_i o ho
        exact ⟨o, ho, List.all_eq_true.1 h1⟩
      · cases h1
    · exact qlp l h.2 j hj
theorem qli {n : Nat} {ids : List Nat} {e : Env} : ∀ (l : List Nat), qtq n ids e l = true → ∀ t ∈ l, ∀ b ∈ (get e t).refs, inL n ids b = true
  | [], _, j, h => by cases h
  | i :: l, h, j, hj => by
    simp only [qtq, Bool.and_eq_true] at h
    rcases List.mem_cons.1 hj with rfl | hj
    · exact List.all_eq_true.1 h.1
    · exact qli l h.2 j hj
theorem qqp : ∀ (l : List Nat), qtg l = true → l.Nodup
  | [], _ => List.nodup_nil
  | a :: l, h => by
    simp only [qtg, Bool.and_eq_true, Bool.not_eq_true', List.contains_eq_mem, decide_eq_false_iff_not] at h
    exact List.nodup_cons.2 ⟨h.1, qqp l h.2⟩
theorem qqq {n : Nat} {ids : List Nat} {b : Nat} (h : inL n ids b = true) : b ∈ List.range n ++ ids.map (n + ·) := by
  simp only [inL, Bool.or_eq_true, decide_eq_true_eq, List.contains_iff_mem] at h
  simp only [List.mem_append, List.mem_range, List.mem_map]
  rcases h with h | h
  · exact .inl h
  · by_cases hb : b < n
    · exact .inl hb
    · exact .inr ⟨b - n, h, by omega⟩
theorem Gt (n : Nat) : ∀ (ids : List Nat) (j : Nat), (ids.map (n + ·)).idxOf (n + j) = ids.idxOf j
  | [], j => rfl
  | i :: l, j => by
    rw [List.map_cons, List.idxOf_cons, List.idxOf_cons, Gt n l j, show (n + i == n + j) = (i == j) from by rw [Bool.eq_iff_iff]; simp]
theorem qmz {n b : Nat} (h : b < n) : (List.range n).idxOf b = b := by
  have h1 : b ∈ List.range n := List.mem_range.2 h
  have h2 := List.idxOf_lt_length_of_mem h1
  have h3 : (List.range n)[(List.range n).idxOf b] = b := List.getElem_idxOf h2
  rwa [List.getElem_range] at h3
theorem qe5 (n : Nat) (ids : List Nat) : uy (List.range n ++ ids.map (n + ·)) = Wp n ids := by
  funext b
  unfold uy Wp
  by_cases hb : b < n
  · rw [if_pos (List.mem_append_left _ (List.mem_range.2 hb)), if_pos hb, List.idxOf_append, if_pos (List.mem_range.2 hb), qmz hb]
  · rw [if_neg hb, pos_eq]
    by_cases hm : b - n ∈ ids
    · rw [if_pos hm, if_pos (List.mem_append_right _ (List.mem_map.2 ⟨b - n, hm, by omega⟩)), List.idxOf_append, if_neg (by simpa using hb)]
      have := Gt n ids (b - n)
      rw [show n + (b - n) = b by omega] at this
      simp only [this, List.length_range, Nat.zero_add]
      rw [Nat.add_comm]
    · rw [if_neg hm, if_neg]
      intro h
      rcases List.mem_append.1 h with h | h
      · exact hb (List.mem_range.1 h)
      · obtain ⟨j, hj, e⟩ := List.mem_map.1 h
        have : b - n = j := by omega
        exact hm (this ▸ hj)
theorem qz.qq9 {n0 : Nat} {e : Env} {L rest : List AO} (hL : Lok L) (h0 : n0 ≤ L.length) (ids ts : List Nat) (h : okL L.length ids rest e ts = true) : qz n0 ⟨e, L ++ rest⟩ ⟨qgc L.length ids e ts, L ++ qew L.length ids rest⟩ := by
  simp only [okL, Bool.and_eq_true] at h
  obtain ⟨⟨h1, h2⟩, h3⟩ := h
  have hk : qf8 n0 (List.range L.length ++ ids.map (L.length + ·)) (L ++ rest) := by
    refine ⟨⟨by simp; omega, ?_, ?_⟩, ?_⟩
    · rw [List.take_append_of_le_length (by simpa using h0), List.take_range, Nat.min_eq_left h0]
    · refine List.nodup_append.2 ⟨List.nodup_range, ?_, ?_⟩
      · exact List.pairwise_map.2 ((qqp ids h1).imp fun h e => h (by omega))
      · intro x hx y hy e
        subst e
        obtain ⟨j, _, e⟩ := List.mem_map.1 hy
        have := List.mem_range.1 hx
        omega
    · intro i hi
      rcases List.mem_append.1 hi with hi | hi
      · have hi := List.mem_range.1 hi
        rw [List.getElem?_append_left hi, List.getElem?_eq_getElem hi]
        exact AO.vi _ fun b hb => List.mem_append_left _ (List.mem_range.2 (hL _ (List.getElem_mem hi) b hb))
      · obtain ⟨j, hj, rfl⟩ := List.mem_map.1 hi
        obtain ⟨o, ho, hr⟩ := qlp ids h2 j hj
        rw [q2z, ho]
        exact AO.vi _ fun b hb => qqq (hr b hb)
  have hw := qz.sim (Sim.ve (e := e) (ts := ts) hk fun t ht => vi _ fun b hb => qqq (qli ts h3 t ht b hb))
  have e1 : Us (List.range L.length ++ ids.map (L.length + ·)) e ts = qgc L.length ids e ts := by unfold Us qgc; rw [qe5]
  have e2 : zi (List.range L.length ++ ids.map (L.length + ·)) (L ++ rest) = L ++ qew L.length ids rest := by
    unfold zi qew
    rw [qe5, List.map_append, List.map_map]
    congr 1
    · refine List.ext_getElem (by simp) fun i hi hi2 => ?_
      simp only [List.getElem_map, List.getElem_range]
      rw [List.getElem?_append_left hi2, List.getElem?_eq_getElem hi2]
      exact AO.Jn _ fun b hb => by have := hL _ (List.getElem_mem hi2) b hb; simp only [Wp, if_pos this]
    · refine List.map_congr_left fun j _ => ?_
      show (match (L ++ rest)[L.length + j]? with | some o => AO.ren (Wp L.length ids) o | none => AO.dead) = _
      rw [q2z]
  rw [e1, e2] at hw
  exact hw
def qb1 (n : Nat) (rest : List AO) : Nat → List Nat → List Nat → Option (List Nat)
  | 0, _, _ => none
  | _ + 1, [], acc => some acc
  | f + 1, b :: l, acc => if inL n acc b then qb1 n rest f l acc else match rest[b - n]? with
    | some o => qb1 n rest f (o.refs ++ l) (acc ++ [b - n])
    | none => none
theorem qz.q50 {n0 : Nat} {e : Env} {L rest : List AO} (hL : Lok L) (h0 : n0 ≤ L.length) (ts : List Nat) {ids : List Nat} (hr : qb1 L.length rest 200 (Jr e ts) [] = some ids) (h : okL L.length ids rest e ts = true) : qz n0 ⟨e, L ++ rest⟩ ⟨qgc L.length ids e ts, L ++ qew L.length ids rest⟩ := qz.qq9 hL h0 ids ts h
theorem qsf {n j : Nat} {ids : List Nat} : Wp n ids (n + j) = match pos ids j 0 with | some k => some (n + k, 0) | none => none := by
  unfold Wp; rw [if_neg (by omega), q2q]
theorem qo3 {n : Nat} {ids : List Nat} : Wp n ids n = match pos ids 0 0 with | some k => some (n + k, 0) | none => none := by
  unfold Wp; rw [if_neg (by omega), Nat.sub_self]
theorem Jj {n b : Nat} {ids : List Nat} (h : b < n) : Wp n ids b = some (b, 0) := if_pos h
theorem Ret.all {ars : List AR} {H : List AO} {R : AV → List AO → Prop} {s : St} {rs : List AV} (hL : Lok s.hp) (h0 : H.length ≤ s.hp.length) (hr : Vd s ars = some rs) (hw : ∀ b ∈ (xw rs).refs, b < s.hp.length) (ht : xw rs ≠ .top)
    (hro : ∀ (j : Nat) (l : List AV), s.hp[j]? = some (AO.ro l) → ∃ l', H[j]? = some (AO.ro l')) (h : R (xw rs) s.hp) : Ret ars H R s := by
  have e0 : uy (List.range s.hp.length) = Wp s.hp.length [] := by have := qe5 s.hp.length []; simpa using this
  have hk : zi (List.range s.hp.length) s.hp = s.hp := by
    unfold zi
    refine List.ext_getElem (by simp) fun i hi hi2 => ?_
    simp only [List.getElem_map, List.getElem_range]
    rw [List.getElem?_eq_getElem hi2, e0]
    exact AO.Jn _ fun b hb => Jj (hL _ (List.getElem_mem hi2) b hb)
  have hv : (xw rs).ren (uy (List.range s.hp.length)) = xw rs := by rw [e0]; exact Jn _ fun b hb => Jj (hw b hb)
  refine Ret.ve (List.range s.hp.length) ⟨⟨by simpa using h0, by rw [List.take_range, Nat.min_eq_left h0], List.nodup_range⟩, ?_⟩ hr (vi _ fun b hb => List.mem_range.2 (hw b hb)) ht ?_ ?_
  · intro i hi
    have hi := List.mem_range.1 hi
    rw [List.getElem?_eq_getElem hi]
    exact AO.vi _ fun b hb => List.mem_range.2 (hL _ (List.getElem_mem hi) b hb)
  · rw [hk]; exact hro
  · rw [hk, hv]; exact h
def zA := And.intro @q2z <| And.intro @q49 <| And.intro @q59 <| And.intro @q4m <| And.intro @q6f <| And.intro @List.append_assoc.{0} <| And.intro @List.length_append.{0} <| And.intro @Nat.left_eq_add <| And.intro @Nat.add_eq_left @q2q
def zN := And.intro @okL.eq_1 <| And.intro @qt3.eq_1 <| And.intro @qt3.eq_2 <| And.intro @qtq.eq_1 <| And.intro @qtq.eq_2 <| And.intro @qtg.eq_1 <| And.intro @qtg.eq_2 <| And.intro @inL.eq_1 <| And.intro @qb1.eq_1 <| And.intro @qb1.eq_2 <| And.intro @qb1.eq_3 <| And.intro @ltA <| And.intro @q6c <| And.intro @q2q <| And.intro @Nat.sub_self <| And.intro @List.all_cons.{0} <| And.intro @List.all_nil.{0} <| And.intro @Bool.and_true <| And.intro @Bool.true_and <| And.intro @Bool.or_true <| And.intro @Bool.true_or <| And.intro @Bool.false_or <| And.intro @Bool.not_false <| And.intro @Nat.left_eq_add <| And.intro @decide_true <| And.intro @Ya @List.all_append.{0}
def zM := And.intro @qew.eq_1 <| And.intro @qgc.eq_1 <| And.intro @qsf <| And.intro @qo3 <| And.intro @Bs @Nat.add_zero
end Go.Am

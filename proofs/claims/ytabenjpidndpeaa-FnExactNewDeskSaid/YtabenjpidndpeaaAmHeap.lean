/- The abstract machine: what a store, a new block, and a load are to the memory of the model. -/
import Derived.Test.YtabenjpidndpeaaAmCore
namespace Go.Am
set_option linter.unusedVariables false

theorem gams_get (ι : Nat → Loc) (l : List AV) (i : Nat) : (gams ι l)[i]? = (l[i]?).map (gam ι) := by
  rw [gams_map, List.getElem?_map]
theorem gams_length (ι : Nat → Loc) (l : List AV) : (gams ι l).length = l.length := by rw [gams_map, List.length_map]
theorem gams_append (ι : Nat → Loc) (a b : List AV) : gams ι (a ++ b) = gams ι a ++ gams ι b := by simp [gams_map]
theorem gams_take (ι : Nat → Loc) (l : List AV) (n : Nat) : gams ι (l.take n) = (gams ι l).take n := by simp [gams_map]
theorem gams_drop (ι : Nat → Loc) (l : List AV) (n : Nat) : gams ι (l.drop n) = (gams ι l).drop n := by simp [gams_map]
theorem gams_set (ι : Nat → Loc) (l : List AV) (n : Nat) (v : AV) : gams ι (l.set n v) = (gams ι l).set n (gam ι v) := by simp [gams_map, List.map_set]

theorem unders_append {n : Nat} {a b : List AV} : AV.unders n (a ++ b) ↔ AV.unders n a ∧ AV.unders n b := by
  simp only [unders_iff, List.mem_append]
  exact ⟨fun h => ⟨fun x hx => h x (.inl hx), fun x hx => h x (.inr hx)⟩, fun h x hx => hx.elim (h.1 x) (h.2 x)⟩
theorem unders_take {n k : Nat} {l : List AV} (h : AV.unders n l) : AV.unders n (l.take k) := by
  rw [unders_iff] at *; exact fun a ha => h a (List.mem_of_mem_take ha)
theorem unders_drop {n k : Nat} {l : List AV} (h : AV.unders n l) : AV.unders n (l.drop k) := by
  rw [unders_iff] at *; exact fun a ha => h a (List.mem_of_mem_drop ha)
theorem unders_get {n i : Nat} {l : List AV} {v : AV} (h : AV.unders n l) (hv : l[i]? = some v) : v.under n := by
  rw [unders_iff] at h; exact h v (List.mem_of_getElem? hv)
theorem unders_set {n i : Nat} {l : List AV} {v : AV} (h : AV.unders n l) (hv : v.under n) : AV.unders n (l.set i v) := by
  rw [unders_iff] at *
  intro a ha
  rcases List.mem_or_eq_of_mem_set ha with h1 | h1
  · exact h a h1
  · exact h1 ▸ hv

/-- The cells that can be read of a block. -/
def rd (hp : List AO) (b : Nat) : Option (List AV) :=
  match hp[b]? with
  | some (.cells l) => some l
  | some (.vec _ l) => some l
  | some (.ro l) => some l
  | _ => none

/-- The block with other cells. -/
def AO.withl (o : AO) (l : List AV) : AO :=
  match o with
  | .cells _ => .cells l
  | .vec sz _ => .vec sz l
  | o => o
def wrt (hp : List AO) (b : Nat) : Option (List AV) :=
  match hp[b]? with
  | some (.cells l) => some l
  | some (.vec _ l) => some l
  | _ => none
def wrl (hp : List AO) (b : Nat) (l : List AV) : List AO :=
  match hp[b]? with
  | some o => hp.set b (o.withl l)
  | none => hp

section
variable {ι : Nat → Loc} {hp : List AO} {w : World}

theorem cell_of {heap : Array Obj} {blk : Nat} {c : Array Value} {ty : TypeId} {fz : Nat × Nat} (h : w.heap[blk]? = some (.cells c ty fz)) (o : Nat) :
    w.cell? ⟨blk, o, none⟩ = c[o]? := by simp [World.cell?, h]

theorem rd_cell (h : HOk ι hp w.heap) {b : Nat} {l : List AV} (hr : rd hp b = some l) {i : Nat} {v : AV} (hv : l[i]? = some v) :
    (ι b).null = false ∧ v.under hp.length ∧ w.cell? ((ι b).addr.add i) = some (gam ι v) := by
  unfold rd at hr
  have hg := gams_get ι l i
  rw [hv] at hg
  simp only [Option.map_some] at hg
  split at hr <;> simp only [Option.some.injEq, reduceCtorEq] at hr <;> subst hr <;> rename_i hb
  · obtain ⟨hu, hn, blk, c, ty, fz, ha, hh, hc, _⟩ := h.rel _ _ hb
    refine ⟨hn, unders_get hu hv, ?_⟩
    rw [ha, Addr.add_base, cell_of (heap := w.heap) hh, ← Array.getElem?_toList, hc, hg]
  · obtain ⟨hu, h2⟩ := h.rel _ _ hb
    rcases h2 with ⟨_, _, rfl⟩ | ⟨hn, blk, c, ty, fz, ex, ha, hh, hc, _⟩
    · simp at hv
    refine ⟨hn, unders_get hu hv, ?_⟩
    rw [ha, Addr.add_base, cell_of (heap := w.heap) hh, ← Array.getElem?_toList, hc, List.getElem?_append_left, hg]
    rw [gams_length]; exact (List.getElem?_eq_some_iff.1 hv).1
  · obtain ⟨hu, h2⟩ := h.rel _ _ hb
    rcases h2 with ⟨_, rfl⟩ | ⟨hn, blk, o, c, ty, fz, pre, ex, ha, hh, hp, hc⟩
    · simp at hv
    refine ⟨hn, unders_get hu hv, ?_⟩
    rw [ha, Addr.add_plain, cell_of (heap := w.heap) hh, ← Array.getElem?_toList, hc, List.append_assoc, ← hp, List.getElem?_append_right (by omega), Nat.add_sub_cancel_left,
      List.getElem?_append_left, hg]
    rw [gams_length]; exact (List.getElem?_eq_some_iff.1 hv).1

theorem rd_under (h : HOk ι hp w.heap) {b : Nat} {l : List AV} (hr : rd hp b = some l) : AV.unders hp.length l := by
  unfold rd at hr
  split at hr <;> simp only [Option.some.injEq, reduceCtorEq] at hr <;> subst hr <;> rename_i hb <;> exact (h.rel _ _ hb).1

/-- The world with another block in a place. -/
def setBlk (w : World) (b : Nat) (o : Obj) : World := { w with heap := w.heap.setIfInBounds b o }

theorem setBlk_get {w : World} {b : Nat} {o x : Obj} (h : w.heap[b]? = some x) : (setBlk w b o).heap[b]? = some o := by
  have := (Array.getElem?_eq_some_iff.1 h).1
  simp [setBlk, this]
theorem setBlk_other {w : World} {b b' : Nat} {o : Obj} (h : b' ≠ b) : (setBlk w b o).heap[b']? = w.heap[b']? := by
  simp only [setBlk]; rw [Array.getElem?_setIfInBounds_ne]; exact fun e => h e.symm
theorem setBlk_size {w : World} {b : Nat} {o : Obj} : (setBlk w b o).heap.size = w.heap.size := by simp [setBlk]
theorem setBlk_setBlk {w : World} {b : Nat} {o o' : Obj} : setBlk (setBlk w b o) b o' = setBlk w b o' := by
  simp [setBlk]

theorem setCell_eq {w : World} {blk o : Nat} {c : Array Value} {ty : TypeId} {fz : Nat × Nat} (h : w.heap[blk]? = some (.cells c ty fz)) (v : Value) :
    w.setCell ⟨blk, o, none⟩ v = setBlk w blk (.cells (c.setIfInBounds o v) ty fz) := by
  unfold World.setCell setBlk
  congr 1
  apply Array.ext_getElem?
  intro i
  rw [Array.getElem?_modify, Array.getElem?_setIfInBounds]
  by_cases hi : blk = i
  · subst hi
    have := (Array.getElem?_eq_some_iff.1 h).1
    simp only [if_true]
    rw [h]
    simp [this]
  · simp [hi]

/-- Stores of a row of values of one cell each. -/
theorem run_storeCells {P : Program} {blk : Nat} {ty : TypeId} {fz : Nat × Nat} : ∀ (vs : List Value) (w : World) (c : Array Value) (o i : Nat),
    w.heap[blk]? = some (.cells c ty fz) → calm fz c.size → (∀ v ∈ vs, v.oneCell' = true) → o + i + vs.length ≤ c.size →
    (storeCells ⟨blk, o, none⟩ vs i).run P w = .ok () (if vs = [] then w else setBlk w blk (.cells (c.toList.take (o + i) ++ vs ++ c.toList.drop (o + i + vs.length)).toArray ty fz))
  | [], w, c, o, i, h, hc, hv, hl => rfl
  | v :: vs, w, c, o, i, h, hc, hv, hl => by
    have hlt : o + i < c.size := by simp only [List.length_cons] at hl; omega
    have hs : w.cell? ⟨blk, o + i, none⟩ = some (c[o + i]) := by simp [World.cell?, h, hlt]
    have hf : w.frozen? ⟨blk, o + i, none⟩ = false := by
      have := hc (o + i) hlt
      unfold World.frozen?
      simp only [h, Bool.and_eq_false_iff, decide_eq_false_iff_not]
      rcases Nat.lt_or_ge (o + i) fz.1 with h1 | h1
      · exact .inl (by omega)
      · exact .inr (fun h2 => this ⟨h1, h2⟩)
    unfold storeCells
    rw [Sem.run_bind, run_store P w _ v _ (hv v (by simp)), Addr.add_plain, hs]
    simp only [hf, Bool.false_eq_true, if_false, Result.andThen_ok, setCell_eq h]
    have hb : (setBlk w blk (.cells (c.setIfInBounds (o + i) v) ty fz)).heap[blk]? = some (.cells (c.setIfInBounds (o + i) v) ty fz) := setBlk_get h
    rw [run_storeCells vs _ (c.setIfInBounds (o + i) v) o (i + 1) hb (by simpa using hc) (fun x hx => hv x (by simp [hx])) (by simp at hl ⊢; omega)]
    have e : (c.setIfInBounds (o + i) v).toList = c.toList.take (o + i) ++ v :: c.toList.drop (o + i + 1) := by
      rw [Array.toList_setIfInBounds, List.set_eq_take_append_cons_drop, if_pos (by simpa using hlt)]
    by_cases hn : vs = []
    · subst hn
      simp only [if_true, List.cons_ne_nil, if_false, List.length_cons, List.length_nil, Nat.zero_add]
      congr 3
      rw [← Array.toList_inj, e]; simp
    · simp only [hn, if_false, List.cons_ne_nil, setBlk_setBlk]
      congr 4
      rw [e]
      have hlen : (c.toList.take (o + i)).length = o + i := by simp; omega
      have t1 : (c.toList.take (o + i) ++ v :: c.toList.drop (o + i + 1)).take (o + (i + 1)) = c.toList.take (o + i) ++ [v] := by
        rw [show o + (i + 1) = (c.toList.take (o + i)).length + 1 from by rw [hlen]; omega, List.take_length_add_append]; rfl
      have t2 : (c.toList.take (o + i) ++ v :: c.toList.drop (o + i + 1)).drop (o + (i + 1) + vs.length) = c.toList.drop (o + i + (v :: vs).length) := by
        rw [show o + (i + 1) + vs.length = (c.toList.take (o + i)).length + (vs.length + 1) from by rw [hlen]; omega, List.drop_length_add_append]
        simp only [List.drop_succ_cons, List.drop_drop, List.length_cons]
        congr 1; omega
      rw [t1, t2]
      simp only [List.append_assoc, List.cons_append, List.nil_append]

theorem run_loadCellsFrom {P : Program} {w : World} {a : Addr} : ∀ (n i : Nat) (vs : List Value) (acc : Array Value), vs.length = n →
    (∀ j v, vs[j]? = some v → w.cell? (a.add (i + j)) = some v) → (loadCellsFrom a i n acc).run P w = .ok (acc ++ vs.toArray) w
  | 0, i, vs, acc, hl, hc => by
    have : vs = [] := List.length_eq_zero_iff.1 hl
    subst this; simp [loadCellsFrom]
  | n + 1, i, [], acc, hl, hc => by simp at hl
  | n + 1, i, v :: vs, acc, hl, hc => by
    have h0 := hc 0 v rfl
    simp only [loadCellsFrom, Sem.run_bind, run_load]
    rw [Nat.add_zero] at h0
    rw [h0]
    simp only [Result.andThen_ok]
    rw [run_loadCellsFrom n (i + 1) vs (acc.push v) (by simpa using hl) (fun j u hu => by have := hc (j + 1) u (by simpa using hu); rwa [show i + (j + 1) = i + 1 + j from by omega] at this)]
    simp

theorem run_loadCells {P : Program} {w : World} {a : Addr} {vs : List Value} (hc : ∀ j v, vs[j]? = some v → w.cell? (a.add j) = some v) :
    (loadCells a vs.length).run P w = .ok vs.toArray w := by
  unfold loadCells
  rw [run_loadCellsFrom vs.length 0 vs #[] rfl (fun j v hv => by rw [Nat.zero_add]; exact hc j v hv)]
  simp

end

/-- A block gets other contents; the others stay. -/
theorem HOk.set {ι : Nat → Loc} {hp : List AO} {heap heap' : Array Obj} (h : HOk ι hp heap) {j : Nat} {o o' : AO} (ho : hp[j]? = some o) (hw : o.wr = true)
    (hu : o'.under hp.length) (hr : ORel ι heap' (ι j) o') (hs : ∀ b, b ≠ (ι j).addr.block → heap'[b]? = heap[b]?) (hn : (ι j).null = false) : HOk ι (hp.set j o') heap' := by
  have hj : j < hp.length := (List.getElem?_eq_some_iff.1 ho).1
  have at_of : ∀ i b, At ι (hp.set j o') i b → At ι hp i b := by
    rintro i b ⟨x, hx, hl, hn', hb⟩
    by_cases e : j = i
    · subst e; exact ⟨o, ho, AO.live_of_wr hw, hn', hb⟩
    · rw [List.getElem?_set_ne e] at hx; exact ⟨x, hx, hl, hn', hb⟩
  refine ⟨fun i x hx => ?_, fun i k b hi hk => ?_⟩
  · rw [List.length_set]
    by_cases e : j = i
    · subst e
      rw [List.getElem?_set_self hj] at hx
      cases hx; exact ⟨hu, hr⟩
    · rw [List.getElem?_set_ne e] at hx
      obtain ⟨h1, h2⟩ := h.rel i x hx
      refine ⟨h1, h2.keep h1 (fun _ _ => rfl) fun hl hn' => hs _ fun eb => ?_⟩
      exact e (h.inj j i _ ⟨o, ho, hw, hn, rfl⟩ ⟨x, hx, hl, hn', eb⟩)
  · refine h.inj i k b ?_ (at_of k b hk)
    obtain ⟨x, hx, hl, hn', hb⟩ := hi
    by_cases e : j = i
    · subst e; exact ⟨o, ho, hw, hn', hb⟩
    · rw [List.getElem?_set_ne e] at hx; exact ⟨x, hx, hl, hn', hb⟩

/-- Places with one more. -/
def put (ι : Nat → Loc) (n : Nat) (l : Loc) : Nat → Loc := fun j => if j = n then l else ι j

theorem put_lt {ι : Nat → Loc} {n : Nat} {l : Loc} : ∀ j, j < n → ι j = put ι n l j := fun j hj => by simp [put, Nat.ne_of_lt hj]
theorem put_self {ι : Nat → Loc} {n : Nat} {l : Loc} : put ι n l n = l := by simp [put]

/-- A new block. -/
theorem HOk.push {ι : Nat → Loc} {hp : List AO} {heap heap' : Array Obj} (h : HOk ι hp heap) {o : AO} {l : Loc} (hs : ∀ b, b < heap.size → heap'[b]? = heap[b]?)
    (hl : l.null = false → heap.size ≤ l.addr.block) (hu : o.under (hp.length + 1)) (hr : ORel (put ι hp.length l) heap' l o) : HOk (put ι hp.length l) (hp ++ [o]) heap' := by
  have old : ∀ i b, At (put ι hp.length l) (hp ++ [o]) i b → (i < hp.length ∧ At ι hp i b) ∨ (i = hp.length ∧ heap.size ≤ b) := by
    rintro i b ⟨x, hx, hlv, hn, hb⟩
    rcases Nat.lt_or_ge i hp.length with hi | hi
    · rw [List.getElem?_append_left hi] at hx
      rw [← put_lt i hi] at hn hb
      exact .inl ⟨hi, x, hx, hlv, hn, hb⟩
    · have : i = hp.length := by
        have := (List.getElem?_eq_some_iff.1 hx).1
        simp at this; omega
      subst this
      rw [put_self] at hn hb
      exact .inr ⟨rfl, hb ▸ hl hn⟩
  refine ⟨fun i x hx => ?_, fun i k b hi hk => ?_⟩
  · rw [List.length_append, List.length_singleton]
    rcases Nat.lt_or_ge i hp.length with hi | hi
    · rw [List.getElem?_append_left hi] at hx
      obtain ⟨h1, h2⟩ := h.rel i x hx
      rw [← put_lt i hi]
      exact ⟨AO.under_mono (by omega) _ h1, h2.keep h1 put_lt fun hlv hn => hs _ (h2.lt hlv hn)⟩
    · have : i = hp.length := by
        have := (List.getElem?_eq_some_iff.1 hx).1
        simp at this; omega
      subst this
      rw [List.getElem?_concat_length] at hx
      cases hx
      rw [put_self]; exact ⟨hu, hr⟩
  · rcases old i b hi.at_ with ⟨h1, h2⟩ | ⟨rfl, h2⟩ <;> rcases old k b hk with ⟨h3, h4⟩ | ⟨rfl, h4⟩
    · refine h.inj i k b ?_ h4
      obtain ⟨x, hx, hlv, hn, hb⟩ := hi
      rw [List.getElem?_append_left h1] at hx
      rw [← put_lt i h1] at hn hb
      exact ⟨x, hx, hlv, hn, hb⟩
    · have := h.lt h2; omega
    · have := h.lt h4; omega
    · rfl

section
variable {X : Ctx} {ι : Nat → Loc} {s : St} {a : Act} {w : World}

theorem get_put (env : Env) (d t : Nat) (v : AV) : get ((d, v) :: env) t = if d = t then v else get env t := rfl

/-- A slot is written. -/
theorem Ok.put (h : Ok X ι s a w) {d : Nat} (hd : d < X.nt) {v : AV} {v' : Value} (hv : v ≠ .top → v.under s.hp.length ∧ v' = gam ι v) :
    Ok X ι ⟨(d, v) :: s.env, s.hp⟩ (a.put (some d) v') w where
  size := by simp [Act.put, h.size]
  defers := by simp [Act.put, h.defers]
  env := fun t => by
    simp only [get_put, Act.put]
    by_cases e : d = t
    · subst e
      intro ht
      simp only [if_true] at ht ⊢
      obtain ⟨h1, h2⟩ := hv ht
      exact ⟨h1, by rw [Array.getElem?_setIfInBounds_self_of_lt (by rw [h.size]; exact hd), h2]⟩
    · simp only [e, if_false]
      intro ht
      obtain ⟨h1, h2⟩ := h.env t ht
      exact ⟨h1, by rw [Array.getElem?_setIfInBounds_ne e, h2]⟩
  heap := h.heap
  dom := h.dom
  base := h.base
  len := h.len
  fresh := h.fresh
  world := h.world

theorem WOk.step {X : Ctx} {w w' : World} (h : WOk X w) (hf : ∀ b, b < w.heap.size → ¬ X.D b → w'.heap[b]? = w.heap[b]?) (hg : w.heap.size ≤ w'.heap.size)
    (h1 : w'.os = w.os) (h2 : w'.output = w.output) (h3 : w'.tape = w.tape) : WOk X w' :=
  ⟨fun b hb hd => (hf b (by have := h.grow; omega) hd).trans (h.frame b hb hd), by have := h.grow; omega, h1.trans h.os, h2.trans h.out, h3.trans h.tape⟩

/-- The memory changes, the blocks that are told keep their places. -/
theorem Ok.mem (h : Ok X ι s a w) {ι' : Nat → Loc} {hp' : List AO} {w' : World} (hag : ∀ j, j < s.hp.length → ι j = ι' j) (hlen : s.hp.length ≤ hp'.length)
    (hheap : HOk ι' hp' w'.heap) (hdom : ∀ j b, AtW ι' hp' j b → X.D b) (hw : WOk X w') : Ok X ι' ⟨s.env, hp'⟩ a w' where
  size := h.size
  defers := h.defers
  env := fun t ht => by
    obtain ⟨h1, h2⟩ := h.env t ht
    exact ⟨under_mono hlen _ h1, by rw [h2, gam_agree hag _ h1]⟩
  heap := hheap
  dom := hdom
  base := fun j hj => by rw [← hag j (by have := h.len; omega)]; exact h.base j hj
  len := by have := h.len; exact Nat.le_trans this hlen
  fresh := h.fresh
  world := hw

/-- A new block is laid. -/
theorem Ok.alloc (h : Ok X ι s a w) (o : AO) (ob : Obj) (cap : Nat) (hu : o.under (s.hp.length + 1))
    (hr : ORel (Am.put ι s.hp.length ⟨⟨w.heap.size, 0, none⟩, false, cap⟩) (w.alloc ob).heap ⟨⟨w.heap.size, 0, none⟩, false, cap⟩ o) :
    Ok X (Am.put ι s.hp.length ⟨⟨w.heap.size, 0, none⟩, false, cap⟩) ⟨s.env, s.hp ++ [o]⟩ a (w.alloc ob) := by
  refine h.mem put_lt (by simp) (h.heap.push ?_ (fun _ => Nat.le_refl _) hu hr) ?_ (h.world.step ?_ (by simp) rfl rfl rfl)
  · intro b hb; show (w.heap.push ob)[b]? = _; rw [Array.getElem?_push, if_neg (Nat.ne_of_lt hb)]
  · rintro j b ⟨x, hx, hw, hn, hb⟩
    rcases Nat.lt_or_ge j s.hp.length with hj | hj
    · rw [List.getElem?_append_left hj] at hx
      rw [← put_lt j hj] at hn hb
      exact h.dom j b ⟨x, hx, hw, hn, hb⟩
    · have : j = s.hp.length := by
        have := (List.getElem?_eq_some_iff.1 hx).1
        simp at this; omega
      subst this
      rw [put_self] at hb
      subst hb
      exact h.fresh _ h.world.grow
  · intro b hb _; show (w.heap.push ob)[b]? = _; rw [Array.getElem?_push, if_neg (Nat.ne_of_lt hb)]

/-- Nothing more is told of a block. -/
theorem Ok.kill (h : Ok X ι s a w) (b : Nat) : Ok X ι ⟨s.env, s.hp.set b .dead⟩ a w := by
  have old : ∀ {j : Nat} {o : AO}, (s.hp.set b .dead)[j]? = some o → o.live = true → s.hp[j]? = some o := by
    intro j o ho hl
    by_cases e : b = j
    · subst e
      rw [List.getElem?_set] at ho
      simp only [if_true] at ho
      split at ho
      · cases ho; cases hl
      · cases ho
    · rwa [List.getElem?_set_ne e] at ho
  refine h.mem (fun _ _ => rfl) (by simp) ⟨fun j o ho => ?_, fun i j c hi hj => ?_⟩ ?_ h.world
  · rw [List.length_set]
    by_cases hl : o.live = true
    · exact h.heap.rel j o (old ho hl)
    · cases o <;> first | exact ⟨trivial, trivial⟩ | exact absurd rfl hl
  · obtain ⟨o, ho, hw, hn, hb⟩ := hi
    obtain ⟨o2, ho2, hl2, hn2, hb2⟩ := hj
    exact h.heap.inj i j c ⟨o, old ho (AO.live_of_wr hw), hw, hn, hb⟩ ⟨o2, old ho2 hl2, hl2, hn2, hb2⟩
  · rintro j c ⟨o, ho, hw, hn, hb⟩
    exact h.dom j c ⟨o, old ho (AO.live_of_wr hw), hw, hn, hb⟩

/-- A value of no block: behind a nil slice. -/
theorem Ok.null (h : Ok X ι s a w) (sz : Nat) : Ok X (Am.put ι s.hp.length .nil) ⟨s.env, s.hp ++ [.vec sz []]⟩ a w := by
  refine h.mem put_lt (by simp) (h.heap.push (fun _ _ => rfl) (fun h => by cases h) trivial (.inl ⟨rfl, rfl, rfl⟩)) ?_ h.world
  rintro j b ⟨x, hx, hw, hn, hb⟩
  rcases Nat.lt_or_ge j s.hp.length with hj | hj
  · rw [List.getElem?_append_left hj] at hx
    rw [← put_lt j hj] at hn hb
    exact h.dom j b ⟨x, hx, hw, hn, hb⟩
  · have : j = s.hp.length := by
      have := (List.getElem?_eq_some_iff.1 hx).1
      simp at this; omega
    subst this
    rw [put_self] at hn; cases hn

/-- A block that may be written gets a new number (the old one is told no more). -/
theorem Ok.move (h : Ok X ι s a w) {b : Nat} {o o' : AO} {l : Loc} (ho : s.hp[b]? = some o) (hw : o.wr = true) (hu : o'.under (s.hp.length + 1)) (ha : l.addr = (ι b).addr) (hn : l.null = (ι b).null)
    (hr : ORel (Am.put ι s.hp.length l) w.heap l o') : Ok X (Am.put ι s.hp.length l) ⟨s.env, s.hp.set b .dead ++ [o']⟩ a w := by
  have hb : b < s.hp.length := (List.getElem?_eq_some_iff.1 ho).1
  have hk := h.kill b
  have split : ∀ i, (i < s.hp.length ∧ (s.hp.set b .dead ++ [o'])[i]? = (s.hp.set b .dead)[i]?) ∨ (i = s.hp.length ∧ (s.hp.set b .dead ++ [o'])[i]? = some o') ∨ (s.hp.set b .dead ++ [o'])[i]? = none := by
    intro i
    rcases Nat.lt_trichotomy i s.hp.length with hi | hi | hi
    · exact .inl ⟨hi, List.getElem?_append_left (by simpa using hi)⟩
    · refine .inr (.inl ⟨hi, ?_⟩)
      subst hi
      simp
    · exact .inr (.inr (List.getElem?_eq_none (by simp; omega)))
  have dead : ∀ j c, At ι (s.hp.set b .dead) j c → j ≠ b := by
    rintro j c ⟨x, hx, hl, _⟩ rfl
    rw [List.getElem?_set_self hb] at hx
    cases hx; cases hl
  have old : ∀ j c, At ι (s.hp.set b .dead) j c → At ι s.hp j c := by
    intro j c hj
    have := dead j c hj
    obtain ⟨x, hx, hl, hn, hc⟩ := hj
    rw [List.getElem?_set_ne (fun e => this e.symm)] at hx
    exact ⟨x, hx, hl, hn, hc⟩
  refine h.mem put_lt (by simp) ⟨fun j x hx => ?_, fun i j c hi hj => ?_⟩ ?_ h.world
  · have e : (s.hp.set b .dead ++ [o']).length = s.hp.length + 1 := by simp
    rw [e]
    rcases split j with ⟨hj, e1⟩ | ⟨rfl, e1⟩ | e1
    · rw [e1] at hx
      obtain ⟨h1, h2⟩ := hk.heap.rel j x hx
      simp only [List.length_set] at h1
      rw [← put_lt j hj]
      exact ⟨AO.under_mono (by omega) _ h1, h2.keep h1 put_lt fun _ _ => rfl⟩
    · rw [e1] at hx; cases hx
      rw [put_self]; exact ⟨hu, hr⟩
    · rw [e1] at hx; cases hx
  · have atcase : ∀ k, At (Am.put ι s.hp.length l) (s.hp.set b .dead ++ [o']) k c → (k < s.hp.length ∧ At ι (s.hp.set b .dead) k c) ∨ (k = s.hp.length ∧ (ι b).null = false ∧ (ι b).addr.block = c) := by
      rintro k ⟨x, hx, hl, hn', hc⟩
      rcases split k with ⟨hk', e1⟩ | ⟨rfl, e1⟩ | e1
      · rw [e1] at hx; rw [← put_lt k hk'] at hn' hc; exact .inl ⟨hk', x, hx, hl, hn', hc⟩
      · rw [put_self] at hn' hc; exact .inr ⟨rfl, by rw [← hn]; exact hn', by rw [← ha]; exact hc⟩
      · rw [e1] at hx; cases hx
    rcases atcase i hi.at_ with ⟨h1, h2⟩ | ⟨rfl, h2, h3⟩ <;> rcases atcase j hj with ⟨h4, h5⟩ | ⟨rfl, h5, h6⟩
    · refine hk.heap.inj i j c ?_ h5
      obtain ⟨x, hx, hw', hn', hc⟩ := hi
      rcases split i with ⟨hk', e1⟩ | ⟨e0, e1⟩ | e1
      · rw [e1] at hx; rw [← put_lt i hk'] at hn' hc; exact ⟨x, hx, hw', hn', hc⟩
      · omega
      · rw [e1] at hx; cases hx
    · exact absurd (h.heap.inj b i c ⟨o, ho, hw, h5, h6⟩ (old i c h2)).symm (dead i c h2)
    · exact absurd (h.heap.inj b j c ⟨o, ho, hw, h2, h3⟩ (old j c h5)).symm (dead j c h5)
    · rfl
  · rintro j c ⟨x, hx, hw', hn', hc⟩
    rcases split j with ⟨hj, e1⟩ | ⟨rfl, e1⟩ | e1
    · rw [e1] at hx; rw [← put_lt j hj] at hn' hc
      exact hk.dom j c ⟨x, hx, hw', hn', hc⟩
    · rw [put_self] at hn' hc
      exact h.dom b c ⟨o, ho, hw, by rw [← hn]; exact hn', by rw [← ha]; exact hc⟩
    · rw [e1] at hx; cases hx

theorem Ok.drew (h : Ok X ι s a w) : Ok X ι s a w.drew :=
  ⟨h.size, h.defers, h.env, h.heap, h.dom, h.base, h.len, h.fresh, ⟨h.world.frame, h.world.grow, h.world.os, h.world.out, h.world.tape⟩⟩

/-- A block is written. -/
theorem Ok.set (h : Ok X ι s a w) {j : Nat} {o o' : AO} {ob : Obj} (ho : s.hp[j]? = some o) (hw : o.wr = true) (hn : (ι j).null = false) (hu : o'.under s.hp.length)
    (hr : ORel ι (setBlk w (ι j).addr.block ob).heap (ι j) o') : Ok X ι ⟨s.env, s.hp.set j o'⟩ a (setBlk w (ι j).addr.block ob) := by
  have hd : X.D (ι j).addr.block := h.dom j _ ⟨o, ho, hw, hn, rfl⟩
  refine h.mem (fun _ _ => rfl) (by simp) (h.heap.set ho hw hu hr (fun b hb => setBlk_other hb) hn) ?_ (h.world.step ?_ (by rw [setBlk_size]; exact Nat.le_refl _) rfl rfl rfl)
  · rintro i b ⟨x, hx, hwx, hnx, hb⟩
    by_cases e : j = i
    · subst e; exact hb ▸ hd
    · rw [List.getElem?_set_ne e] at hx; exact h.dom i b ⟨x, hx, hwx, hnx, hb⟩
  · intro b _ hb
    exact setBlk_other fun e => hb (e ▸ hd)

end
end Go.Am

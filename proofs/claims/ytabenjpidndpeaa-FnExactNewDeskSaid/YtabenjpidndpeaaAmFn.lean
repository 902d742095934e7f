/- The abstract machine: a call by the callee's contract; a function's contract from its body. -/
import Derived.Test.YtabenjpidndpeaaAmCall
namespace Go.Am
set_option linter.unusedVariables false
set_option linter.unusedSimpArgs false

/-- Where the blocks of a callee lie among the caller's: the first 'n' as told, the others behind all that there are. -/
def Ren.ext (ρ : Ren) (n m : Nat) : Ren := fun j => if j < n then ρ j else some (m + (j - n), 0)

/-- The caller's blocks behind a call. -/
def upd (ρ' : Ren) : List AO → List (Nat × Nat) → List AO → List AO → List AO
  | hp, (b, _) :: bs, o :: H, o' :: H' => upd ρ' (if o.wr = true then hp.set b (o'.ren ρ') else hp) bs H H'
  | hp, _, _, _ => hp

/-- A block of the caller's is what the callee is told of it. -/
def Fits (hp : List AO) (ρ : Ren) (b off : Nat) (o : AO) : Prop :=
  match o with
  | .dead => b < hp.length
  | .ro l => ∃ L, rd hp b = some L ∧ off + l.length ≤ L.length ∧ (L.drop off).take l.length = AV.rens ρ l
  | o => off = 0 ∧ hp[b]? = some (o.ren ρ)

mutual
theorem under_ren {ρ : Ren} {n m : Nat} (h : ∀ j, j < n → ∃ b o, ρ j = some (b, o) ∧ b < m) : (a : AV) → a.under n → (a.ren ρ).under m
  | .top, _ => trivial
  | .int _ _, _ => trivial
  | .bool _, _ => trivial
  | .str _, _ => trivial
  | .v _, _ => trivial
  | .ptr b _, hb => by obtain ⟨b', o, h1, h2⟩ := h b hb; simp only [AV.ren, h1]; exact h2
  | .slc b _ _ _ _, hb => by obtain ⟨b', o, h1, h2⟩ := h b hb; simp only [AV.ren, h1]; exact h2
  | .map b, hb => by obtain ⟨b', o, h1, h2⟩ := h b hb; simp only [AV.ren, h1]; exact h2
  | .fn _ a b, hb => ⟨unders_ren h a hb.1, unders_ren h b hb.2⟩
  | .agg l, hb => unders_ren h l hb
  | .tup l, hb => unders_ren h l hb
theorem unders_ren {ρ : Ren} {n m : Nat} (h : ∀ j, j < n → ∃ b o, ρ j = some (b, o) ∧ b < m) : (l : List AV) → AV.unders n l → AV.unders m (AV.rens ρ l)
  | [], _ => trivial
  | a :: l, hb => ⟨under_ren h a hb.1, unders_ren h l hb.2⟩
end

theorem AO.under_ren {ρ : Ren} {n m : Nat} (h : ∀ j, j < n → ∃ b o, ρ j = some (b, o) ∧ b < m) (o : AO) (hu : o.under n) : (o.ren ρ).under m := by
  cases o with
  | cells l => exact unders_ren h l hu
  | vec s l => exact unders_ren h l hu
  | ro l => exact unders_ren h l hu
  | map es c =>
    intro e he
    obtain ⟨e', he', rfl⟩ := List.mem_map.1 he
    exact ⟨Am.under_ren h _ (hu e' he').1, Am.under_ren h _ (hu e' he').2⟩
  | miter m' a b c =>
    intro b' hb'
    cases m' with
    | none => simp [AO.ren] at hb'
    | some j =>
      obtain ⟨b2, o2, h1, h2⟩ := h j (hu j rfl)
      simp only [Option.bind_some, h1, Option.map_some, Option.some.injEq] at hb'
      omega
  | siter _ _ => trivial
  | dead => trivial

/-- The relation over the renamed places is that of the renamed block. -/
theorem ORel.ren_mk {ι : Nat → Loc} {ρ : Ren} {heap : Array Obj} {loc : Loc} {o : AO} {n : Nat} (h : ORel (ρ.loc ι) heap loc o) (hu : o.under n) (hn : ∀ j, j < n → ∃ b o, ρ j = some (b, o)) : ORel ι heap loc (o.ren ρ) := by
  cases o with
  | cells l => obtain ⟨hn, blk, c, ty, fz, ha, h1, h2, h3⟩ := h; exact ⟨hn, blk, c, ty, fz, ha, h1, by rw [h2, gams_ren], h3⟩
  | vec sz l =>
    rcases h with ⟨h1, h2, rfl⟩ | ⟨hn, blk, c, ty, fz, ex, ha, h1, h2, h3, h4⟩
    · exact .inl ⟨h1, h2, rfl⟩
    · exact .inr ⟨hn, blk, c, ty, fz, ex, ha, h1, by rw [h2, gams_ren], h3, h4⟩
  | ro l =>
    rcases h with ⟨h1, rfl⟩ | ⟨hn, blk, o, c, ty, fz, pre, ex, ha, h1, h2, h3⟩
    · exact .inl ⟨h1, rfl⟩
    · exact .inr ⟨hn, blk, o, c, ty, fz, pre, ex, ha, h1, h2, by rw [h3, gams_ren]⟩
  | map es ck =>
    obtain ⟨hn, blk, ha, h1⟩ := h
    refine ⟨hn, blk, ha, h1.trans ?_⟩
    have : (es.map (AE.ren ρ)).map (gamE ι) = es.map (gamE (ρ.loc ι)) := by
      rw [List.map_map]
      apply List.map_congr_left
      intro e _
      simp only [Function.comp, gamE, AE.ren, gam_ren]
    rw [this]
  | miter m a b c =>
    obtain ⟨hn', blk, ha, h1⟩ := h
    refine ⟨hn', blk, ha, h1.trans ?_⟩
    cases m with
    | none => rfl
    | some j =>
      obtain ⟨b', o', hj⟩ := hn j (hu j rfl)
      simp only [Option.bind_some, hj, Option.map_some, Ren.loc, Loc.shift, Addr.add_block]
  | siter s p => exact h
  | dead => trivial

theorem upd_length (ρ' : Ren) : ∀ (bs : List (Nat × Nat)) (H H' hp : List AO), (upd ρ' hp bs H H').length = hp.length
  | [], H, H', hp => by cases H <;> cases H' <;> rfl
  | _ :: _, [], _, _ => rfl
  | _ :: _, _ :: _, [], _ => rfl
  | (b, o) :: bs, x :: H, y :: H', hp => by
    simp only [upd]
    rw [upd_length ρ' bs H H']
    split
    · simp
    · rfl

/-- A block behind a call: one of the callee's that may be written, or as it was. -/
theorem upd_get (ρ' : Ren) : ∀ (bs : List (Nat × Nat)) (H H' hp : List AO) (i : Nat), bs.length = H.length → H.length ≤ H'.length →
    (∀ (j k : Nat) (bj bk : Nat × Nat) (oj ok : AO), bs[j]? = some bj → bs[k]? = some bk → H[j]? = some oj → H[k]? = some ok → oj.wr = true → ok.wr = true → bj.1 = bk.1 → j = k) → (∀ (j : Nat) (b : Nat × Nat), bs[j]? = some b → b.1 < hp.length) →
    (∃ (j : Nat) (b : Nat × Nat) (o o' : AO), bs[j]? = some b ∧ b.1 = i ∧ H[j]? = some o ∧ o.wr = true ∧ H'[j]? = some o' ∧ (upd ρ' hp bs H H')[i]? = some (o'.ren ρ')) ∨
      ((upd ρ' hp bs H H')[i]? = hp[i]? ∧ ∀ (j : Nat) (b : Nat × Nat) (o : AO), bs[j]? = some b → H[j]? = some o → o.wr = true → b.1 ≠ i)
  | [], [], H', hp, i, _, _, _, _ => .inr ⟨by cases H' <;> rfl, fun j b o h => by simp at h⟩
  | [], _ :: _, _, _, _, h, _, _, _ => by simp at h
  | _ :: _, [], _, _, _, h, _, _, _ => by simp at h
  | _ :: _, _ :: _, [], _, _, _, h, _, _ => by simp at h
  | (b, off) :: bs, o :: H, o' :: H', hp, i, hl, hl', hinj, hlt => by
    simp only [upd]
    have hb : b < hp.length := hlt 0 (b, off) rfl
    have hinj' : ∀ (j k : Nat) (bj bk : Nat × Nat) (oj ok : AO), bs[j]? = some bj → bs[k]? = some bk → H[j]? = some oj → H[k]? = some ok → oj.wr = true → ok.wr = true → bj.1 = bk.1 → j = k := by
      intro j k bj bk oj ok h1 h2 h3 h4 h5 h6 h7
      have := hinj (j + 1) (k + 1) bj bk oj ok (by simpa using h1) (by simpa using h2) (by simpa using h3) (by simpa using h4) h5 h6 h7
      omega
    generalize hhp : (if o.wr = true then hp.set b (o'.ren ρ') else hp) = hp1
    have hlen1 : hp1.length = hp.length := by rw [← hhp]; split <;> simp
    rcases upd_get ρ' bs H H' hp1 i (by simpa using hl) (by simpa using hl') hinj' (fun j b' h => by rw [hlen1]; exact hlt (j + 1) b' (by simpa using h)) with ⟨j, b1, o1, o2, h1, h2, h3, h4, h5, h6⟩ | ⟨h1, h2⟩
    · exact .inl ⟨j + 1, b1, o1, o2, by simpa using h1, h2, by simpa using h3, h4, by simpa using h5, h6⟩
    · by_cases hw : o.wr = true
      · by_cases hi : b = i
        · refine .inl ⟨0, (b, off), o, o', rfl, hi, rfl, hw, rfl, ?_⟩
          rw [h1, ← hhp, if_pos hw, ← hi, List.getElem?_set_self hb]
        · refine .inr ⟨?_, ?_⟩
          · rw [h1, ← hhp, if_pos hw, List.getElem?_set_ne hi]
          · intro j b2 o2 h3 h4 h5
            cases j with
            | zero => simp at h3 h4; rw [← h3]; exact hi
            | succ j => exact h2 j b2 o2 (by simpa using h3) (by simpa using h4) h5
      · refine .inr ⟨?_, ?_⟩
        · rw [h1, ← hhp, if_neg hw]
        · intro j b2 o2 h3 h4 h5
          cases j with
          | zero => simp at h3 h4; rw [← h4] at h5; exact absurd h5 hw
          | succ j => exact h2 j b2 o2 (by simpa using h3) (by simpa using h4) h5

/-- The footprint of a call among the caller's blocks. -/
structure Foot (hp : List AO) (ρ : Ren) (bs : List (Nat × Nat)) (H : List AO) : Prop where
  ren : ∀ j, j < H.length → ρ j = bs[j]?
  len : bs.length = H.length
  fits : ∀ (j : Nat) (o : AO) (b : Nat × Nat), H[j]? = some o → bs[j]? = some b → Fits hp ρ b.1 b.2 o
  inj : ∀ (j k : Nat) (bj bk : Nat × Nat) (oj ok : AO), bs[j]? = some bj → bs[k]? = some bk → H[j]? = some oj → H[k]? = some ok → oj.wr = true → ok.live = true → bj.1 = bk.1 → j = k

section
variable {P : Program} {X : Ctx} {ι : Nat → Loc} {s : St} {a : Act} {w : World}

theorem Foot.lt {hp : List AO} {ρ : Ren} {bs : List (Nat × Nat)} {H : List AO} (h : Foot hp ρ bs H) {j : Nat} {b : Nat × Nat} (hb : bs[j]? = some b) : b.1 < hp.length := by
  have hj : j < H.length := by rw [← h.len]; exact (List.getElem?_eq_some_iff.1 hb).1
  have := h.fits j _ b (List.getElem?_eq_getElem hj) hb
  revert this
  generalize H[j] = o
  intro hf
  cases o with
  | dead => exact hf
  | ro l =>
    obtain ⟨L, hL, _⟩ := hf
    unfold rd at hL
    split at hL
    · rename_i e; exact (List.getElem?_eq_some_iff.1 e).1
    · rename_i e; exact (List.getElem?_eq_some_iff.1 e).1
    · rename_i e; exact (List.getElem?_eq_some_iff.1 e).1
    · cases hL
  | cells l => exact (List.getElem?_eq_some_iff.1 hf.2).1
  | vec s l => exact (List.getElem?_eq_some_iff.1 hf.2).1
  | map s l => exact (List.getElem?_eq_some_iff.1 hf.2).1
  | miter m a b c => exact (List.getElem?_eq_some_iff.1 hf.2).1
  | siter a b => exact (List.getElem?_eq_some_iff.1 hf.2).1

theorem rd_at {ι : Nat → Loc} {hp : List AO} {heap : Array Obj} (h : HOk ι hp heap) {b : Nat} {L : List AV} (hL : rd hp b = some L) :
    ((ι b).null = true ∧ L = []) ∨ ((ι b).null = false ∧ ∃ o blk off c ty fz pre ex, hp[b]? = some o ∧ o.live = true ∧ (ι b).addr = ⟨blk, off, none⟩ ∧ heap[blk]? = some (.cells c ty fz) ∧ pre.length = off ∧ c.toList = pre ++ gams ι L ++ ex) := by
  unfold rd at hL
  split at hL <;> simp only [Option.some.injEq, reduceCtorEq] at hL <;> subst hL <;> rename_i hb
  · obtain ⟨_, hn, blk, c, ty, fz, ha, hh, hc, _⟩ := h.rel _ _ hb
    exact .inr ⟨hn, _, blk, 0, c, ty, fz, [], [], hb, rfl, ha, hh, rfl, by simp [hc]⟩
  · rcases (h.rel _ _ hb).2 with ⟨h1, _, h2⟩ | ⟨hn, blk, c, ty, fz, ex, ha, hh, hc, _⟩
    · exact .inl ⟨h1, h2⟩
    · exact .inr ⟨hn, _, blk, 0, c, ty, fz, [], ex, hb, rfl, ha, hh, rfl, by simp [hc]⟩
  · rcases (h.rel _ _ hb).2 with ⟨h1, h2⟩ | ⟨hn, blk, o, c, ty, fz, pre, ex, ha, hh, hp, hc⟩
    · exact .inl ⟨h1, h2⟩
    · exact .inr ⟨hn, _, blk, o, c, ty, fz, pre, ex, hb, rfl, ha, hh, hp, hc⟩

/-- What the callee is told holds. -/
theorem Foot.hok (hok : Ok X ι s a w) {ρ : Ren} {bs : List (Nat × Nat)} {H : List AO} (h : Foot s.hp ρ bs H) (hu : ∀ (j : Nat) (o : AO), H[j]? = some o → o.under H.length) :
    HOk (ρ.loc ι) H w.heap ∧ ∀ j b, At (ρ.loc ι) H j b → ∃ p, bs[j]? = some p ∧ At ι s.hp p.1 b ∧ (∀ (o : AO), H[j]? = some o → o.wr = true → AtW ι s.hp p.1 b) := by
  have get : ∀ (j : Nat) (o : AO), H[j]? = some o → ∃ p, bs[j]? = some p ∧ ρ j = some p := by
    intro j o ho
    have hj := (List.getElem?_eq_some_iff.1 ho).1
    have hb : bs[j]? = some (bs[j]'(by rw [h.len]; exact hj)) := List.getElem?_eq_getElem _
    exact ⟨_, hb, by rw [h.ren j hj, hb]⟩
  have all : ∀ j, j < H.length → ∃ b o, ρ j = some (b, o) := by
    intro j hj
    obtain ⟨p, _, h2⟩ := get j _ (List.getElem?_eq_getElem hj)
    exact ⟨p.1, p.2, h2⟩
  have atd : ∀ j b, At (ρ.loc ι) H j b → ∃ p, bs[j]? = some p ∧ At ι s.hp p.1 b ∧ (∀ (o : AO), H[j]? = some o → o.wr = true → AtW ι s.hp p.1 b) := by
    rintro j b ⟨o, ho, hl, hn, hb⟩
    obtain ⟨p, hp, hr⟩ := get j o ho
    refine ⟨p, hp, ?_⟩
    have hf := h.fits j o p ho hp
    simp only [Ren.loc, hr, Loc.shift, Addr.add_block] at hn hb
    have wcase : ∀ (hw : o.wr = true), p.2 = 0 ∧ s.hp[p.1]? = some (o.ren ρ) → At ι s.hp p.1 b ∧ (∀ (o : AO), H[j]? = some o → o.wr = true → AtW ι s.hp p.1 b) := by
      intro hw hq
      have : AtW ι s.hp p.1 b := ⟨_, hq.2, by rw [AO.wr_ren]; exact hw, hn, hb⟩
      exact ⟨this.at_, fun _ _ _ => this⟩
    cases o with
    | dead => cases hl
    | ro l =>
      obtain ⟨L, hL, h1, h2⟩ := hf
      rcases rd_at hok.heap hL with ⟨hnn, _⟩ | ⟨_, o2, blk, off, c, ty, fz, pre, ex, ho2, hl2, _⟩
      · rw [hnn] at hn; cases hn
      · refine ⟨⟨o2, ho2, hl2, hn, hb⟩, fun o' ho' hw => ?_⟩
        rw [ho] at ho'; cases ho'; cases hw
    | cells l => exact wcase rfl hf
    | vec sz l => exact wcase rfl hf
    | map es c => exact wcase rfl hf
    | miter m a b c => exact wcase rfl hf
    | siter x y => exact wcase rfl hf
  refine ⟨⟨fun j o ho => ⟨hu j o ho, ?_⟩, fun i j b hi hj => ?_⟩, atd⟩
  · obtain ⟨p, hp, hr⟩ := get j o ho
    have hf := h.fits j o p ho hp
    have loc : ρ.loc ι j = (ι p.1).shift p.2 := by simp [Ren.loc, hr]
    have wcase : (∀ (m a : Nat) (b : List Nat) (c : Nat), o = AO.miter (some m) a b c → ∃ j, ρ m = some (j, 0)) → p.2 = 0 ∧ s.hp[p.1]? = some (o.ren ρ) → ORel (ρ.loc ι) w.heap (ρ.loc ι j) o := by
      intro hm hq
      rw [loc, hq.1, Loc.shift_zero]
      exact ORel.ren (hok.heap.rel _ _ hq.2).2 hm
    cases o with
    | dead => trivial
    | ro l =>
      obtain ⟨L, hL, h1, h2⟩ := hf
      rcases rd_at hok.heap hL with ⟨hn, rfl⟩ | ⟨hn, o2, blk, off, c, ty, fz, pre, ex, ho2, hl2, ha, hh, hpre, hc⟩
      · refine .inl ⟨by rw [loc]; exact hn, ?_⟩
        simp only [List.length_nil] at h1
        exact List.length_eq_zero_iff.1 (by omega)
      · refine .inr ⟨by rw [loc]; exact hn, blk, off + p.2, c, ty, fz, pre ++ gams ι (L.take p.2), gams ι ((L.drop p.2).drop l.length) ++ ex, ?_, hh, ?_, ?_⟩
        · rw [loc]; simp only [Loc.shift, ha, Addr.add_plain]
        · rw [List.length_append, gams_length, List.length_take, hpre]; omega
        · rw [hc, ← gams_ren, ← h2]
          have : gams ι L = gams ι (L.take p.2) ++ gams ι ((L.drop p.2).take l.length) ++ gams ι ((L.drop p.2).drop l.length) := by
            rw [List.append_assoc, ← gams_append, List.take_append_drop, ← gams_append, List.take_append_drop]
          rw [this]
          simp only [List.append_assoc]
    | cells l => exact wcase (fun _ _ _ _ h => by cases h) hf
    | vec sz l => exact wcase (fun _ _ _ _ h => by cases h) hf
    | map es c => exact wcase (fun _ _ _ _ h => by cases h) hf
    | miter m x y z =>
      have hq := hf
      rw [loc, hq.1, Loc.shift_zero]
      obtain ⟨hn, blk, ha, h1⟩ := (hok.heap.rel _ _ hq.2).2
      refine ⟨hn, blk, ha, h1.trans ?_⟩
      cases m with
      | none => rfl
      | some m =>
        obtain ⟨b', o', hm⟩ := all m (hu j _ ho m rfl)
        simp only [Option.bind_some, hm, Option.map_some, Ren.loc, Loc.shift, Addr.add_block]
    | siter x y => exact wcase (fun _ _ _ _ h => by cases h) hf
  · obtain ⟨p, hp, hpi, hpw⟩ := atd i b hi.at_
    obtain ⟨q, hq, hqj, _⟩ := atd j b hj
    obtain ⟨o, ho, hw, _⟩ := hi
    obtain ⟨o2, ho2, hl2, _⟩ := hj
    have := hok.heap.inj p.1 q.1 b (hpw o ho hw) hqj
    exact h.inj i j p q o o2 hp hq ho ho2 hw hl2 this


/-- The caller's state behind a call. -/
def after (s : St) (ρ : Ren) (bs : List (Nat × Nat)) (H H' : List AO) : List AO :=
  upd (ρ.ext H.length s.hp.length) s.hp bs H H' ++ (H'.drop H.length).map (AO.ren (ρ.ext H.length s.hp.length))

theorem Foot.back (hok : Ok X ι s a w) {ρ : Ren} {bs : List (Nat × Nat)} {H : List AO} (h : Foot s.hp ρ bs H) (hu : ∀ (j : Nat) (o : AO), H[j]? = some o → o.under H.length)
    {w' : World} {R : AV → List AO → Prop} {e : Ending} (hp : Post (ρ.loc ι) H w R e w') :
    ∃ v H' ι', e = .returned (gam ι' (v.ren (ρ.ext H.length s.hp.length))) ∧ R v H' ∧ v ≠ .top ∧ (v.ren (ρ.ext H.length s.hp.length)).under (after s ρ bs H H').length ∧ Ok X ι' ⟨s.env, after s ρ bs H H'⟩ a w' := by
  obtain ⟨v, H', ι', he, hR, hvt, hvu, hh', hlen, hag, hdom, hro, hfr, hgrow, hos, hout, htape⟩ := hp
  obtain ⟨hh, hat⟩ := h.hok hok hu
  refine ⟨v, H', fun i => if i < s.hp.length then ι i else ι' (H.length + (i - s.hp.length)), ?_⟩
  generalize hρ' : ρ.ext H.length s.hp.length = ρ'
  generalize hιn : (fun i => if i < s.hp.length then ι i else ι' (H.length + (i - s.hp.length))) = ιn
  have hιlt : ∀ i, i < s.hp.length → ι i = ιn i := fun i hi => by rw [← hιn]; simp [hi]
  have hafter : after s ρ bs H H' = upd ρ' s.hp bs H H' ++ (H'.drop H.length).map (AO.ren ρ') := by rw [after, hρ']
  have hal : (after s ρ bs H H').length = s.hp.length + (H'.length - H.length) := by rw [hafter, List.length_append, upd_length, List.length_map, List.length_drop]
  -- the renamed places are the callee's
  have all : ∀ j, j < H'.length → ∃ b o, ρ' j = some (b, o) ∧ b < (after s ρ bs H H').length ∧ ρ'.loc ιn j = ι' j := by
    intro j hj
    by_cases hjl : j < H.length
    · obtain ⟨p, hbj⟩ : ∃ p, bs[j]? = some p := ⟨_, List.getElem?_eq_getElem (by rw [h.len]; exact hjl)⟩
      have hr : ρ j = some p := by rw [h.ren j hjl, hbj]
      have hlt := h.lt hbj
      refine ⟨_, _, by rw [← hρ', Ren.ext, if_pos hjl]; exact hr, by rw [hal]; omega, ?_⟩
      rw [hag j hjl]
      have e1 : ρ' j = some p := by rw [← hρ', Ren.ext, if_pos hjl]; exact hr
      simp only [Ren.loc, e1, hr, hιlt _ hlt]
    · have e1 : ρ' j = some (s.hp.length + (j - H.length), 0) := by rw [← hρ', Ren.ext, if_neg hjl]
      refine ⟨_, _, e1, by rw [hal]; omega, ?_⟩
      simp only [Ren.loc, e1, Loc.shift_zero, ← hιn]
      rw [if_neg (by omega)]
      congr 1; omega
  have all2 : ∀ j, j < H'.length → ∃ b o, ρ' j = some (b, o) ∧ b < (after s ρ bs H H').length := fun j hj => let ⟨b, o, h1, h2, _⟩ := all j hj; ⟨b, o, h1, h2⟩
  have all3 : ∀ j, j < H'.length → ∃ b o, ρ' j = some (b, o) := fun j hj => let ⟨b, o, h1, _⟩ := all j hj; ⟨b, o, h1⟩
  have hloc : ∀ j, j < H'.length → ι' j = ρ'.loc ιn j := fun j hj => let ⟨_, _, _, _, h3⟩ := all j hj; h3.symm
  have hgam : ∀ a : AV, a.under H'.length → gam ιn (a.ren ρ') = gam ι' a := fun a ha => by rw [gam_ren]; exact (gam_agree hloc a ha).symm
  -- one of the callee's blocks, as the caller has it
  have orel : ∀ j o, H'[j]? = some o → ∀ i, ιn i = ι' j → (o.ren ρ').under (after s ρ bs H H').length ∧ ORel ιn w'.heap (ιn i) (o.ren ρ') := by
    intro j o ho i hi
    obtain ⟨h1, h2⟩ := hh'.rel j o ho
    refine ⟨AO.under_ren all2 o h1, ?_⟩
    rw [hi]
    exact ORel.ren_mk (h2.keep h1 hloc fun _ _ => rfl) h1 all3
  -- the three makes of a block behind the call
  have injw : ∀ (j k : Nat) (bj bk : Nat × Nat) (oj ok : AO), bs[j]? = some bj → bs[k]? = some bk → H[j]? = some oj → H[k]? = some ok → oj.wr = true → ok.wr = true → bj.1 = bk.1 → j = k :=
    fun j k bj bk oj ok h1 h2 h3 h4 h5 h6 h7 => h.inj j k bj bk oj ok h1 h2 h3 h4 h5 (AO.live_of_wr h6) h7
  have kinds : ∀ i, (∃ (j : Nat) (o' : AO), H'[j]? = some o' ∧ (after s ρ bs H H')[i]? = some (o'.ren ρ') ∧ ιn i = ι' j ∧ ρ' j = some (i, 0) ∧ ((∃ o, H[j]? = some o ∧ o.wr = true) ∨ H.length ≤ j)) ∨
      (i < s.hp.length ∧ (after s ρ bs H H')[i]? = s.hp[i]? ∧ ∀ (j : Nat) (b : Nat × Nat) (o : AO), bs[j]? = some b → H[j]? = some o → o.wr = true → b.1 ≠ i) ∨ (after s ρ bs H H')[i]? = none := by
    intro i
    rcases Nat.lt_or_ge i s.hp.length with hi | hi
    · have e0 : (after s ρ bs H H')[i]? = (upd ρ' s.hp bs H H')[i]? := by rw [hafter, List.getElem?_append_left (by rw [upd_length]; exact hi)]
      rcases upd_get ρ' bs H H' s.hp i h.len hlen injw (fun j b hb => h.lt hb) with ⟨j, b, o, o', h1, h2, h3, h4, h5, h6⟩ | ⟨h1, h2⟩
      · have hjl := (List.getElem?_eq_some_iff.1 h3).1
        have hf := h.fits j o b h3 h1
        have hoff : b.2 = 0 := by cases o <;> first | exact hf.1 | cases h4
        have hr : ρ j = some b := by rw [h.ren j hjl, h1]
        refine .inl ⟨j, o', h5, e0.trans h6, ?_, ?_, .inl ⟨o, h3, h4⟩⟩
        · rw [← hιlt i hi, hag j hjl]
          simp only [Ren.loc, hr, hoff, Loc.shift_zero, h2]
        · rw [← hρ', Ren.ext, if_pos hjl, hr, ← h2, ← hoff]
      · exact .inr (.inl ⟨hi, e0.trans h1, h2⟩)
    · have e0 : (after s ρ bs H H')[i]? = ((H'.drop H.length).map (AO.ren ρ'))[i - s.hp.length]? := by
        rw [hafter, List.getElem?_append_right (by rw [upd_length]; exact hi), upd_length]
      rw [List.getElem?_map, List.getElem?_drop] at e0
      cases hq : H'[H.length + (i - s.hp.length)]? with
      | none => rw [hq] at e0; exact .inr (.inr e0)
      | some o' =>
        rw [hq] at e0
        refine .inl ⟨_, o', hq, e0, ?_, ?_, .inr (by omega)⟩
        · rw [← hιn]; simp only; rw [if_neg (by omega)]
        · rw [← hρ', Ren.ext, if_neg (by omega)]; congr 2; omega
  -- the callee's live blocks may all be written
  have callee_wr : ∀ j o', H'[j]? = some o' → ((∃ o, H[j]? = some o ∧ o.wr = true) ∨ H.length ≤ j) → o'.live = true → o'.wr = true := by
    intro j o' ho' hj hl
    cases o' <;> first | rfl | cases hl | skip
    obtain ⟨l', hl'⟩ := hro j _ ho'
    rcases hj with ⟨o, ho, hw⟩ | hj
    · rw [hl'] at ho; cases ho; cases hw
    · have := (List.getElem?_eq_some_iff.1 hl').1; omega
  -- live blocks behind the call
  have lives : ∀ i b, At ιn (after s ρ bs H H') i b → (∃ j o', H'[j]? = some o' ∧ o'.wr = true ∧ AtW ι' H' j b ∧ ρ' j = some (i, 0)) ∨
      (i < s.hp.length ∧ At ι s.hp i b ∧ (AtW ιn (after s ρ bs H H') i b → AtW ι s.hp i b) ∧ ∀ (j : Nat) (b : Nat × Nat) (o : AO), bs[j]? = some b → H[j]? = some o → o.wr = true → b.1 ≠ i) := by
    rintro i b ⟨o, ho, hl, hn, hb⟩
    rcases kinds i with ⟨j, o', h1, h2, h3, h4, h5⟩ | ⟨h1, h2, h3⟩ | h1
    · rw [h2] at ho; cases ho
      rw [AO.live_ren] at hl
      have hw := callee_wr j o' h1 h5 hl
      exact .inl ⟨j, o', h1, hw, ⟨o', h1, hw, by rw [← h3]; exact hn, by rw [← h3]; exact hb⟩, h4⟩
    · rw [h2] at ho
      rw [← hιlt i h1] at hn hb
      refine .inr ⟨h1, ⟨o, ho, hl, hn, hb⟩, ?_, h3⟩
      rintro ⟨o2, ho2, hw, _, _⟩
      rw [h2, ho] at ho2; cases ho2
      exact ⟨o, ho, hw, hn, hb⟩
    · rw [h1] at ho; cases ho
  -- a block of the callee's lies apart from the caller's others
  have apart : ∀ {i j b : Nat}, AtW ι' H' j b → At ι s.hp i b → (∀ (j : Nat) (b : Nat × Nat) (o : AO), bs[j]? = some b → H[j]? = some o → o.wr = true → b.1 ≠ i) → False := by
    intro i j b hj hi hne
    rcases hdom j b hj with ⟨k, hk⟩ | hk
    · obtain ⟨p, hp1, _, hp3⟩ := hat k b hk.at_
      obtain ⟨o, ho, hw, _⟩ := hk
      exact hne k p o hp1 ho hw (hok.heap.inj p.1 i b (hp3 o ho hw) hi)
    · have := hok.heap.lt hi; omega
  have frame : ∀ b, b < w.heap.size → (∀ i, AtW ι s.hp i b → False) → w'.heap[b]? = w.heap[b]? := by
    intro b hb hno
    refine hfr b hb ?_
    rintro ⟨k, hk⟩
    obtain ⟨p, _, _, hp3⟩ := hat k b hk.at_
    obtain ⟨o, ho, hw, _⟩ := hk
    exact hno p.1 (hp3 o ho hw)
  refine ⟨by rw [hgam v hvu]; exact he, hR, hvt, under_ren all2 v hvu, ?_⟩
  refine hok.mem hιlt (by rw [hal]; omega) ⟨fun i o ho => ?_, fun i k b hi hk => ?_⟩ ?_ (hok.world.step ?_ hgrow hos hout htape)
  · rcases kinds i with ⟨j, o', h1, h2, h3, _, _⟩ | ⟨h1, h2, h3⟩ | h1
    · rw [h2] at ho; cases ho
      exact orel j o' h1 i h3
    · rw [h2] at ho
      obtain ⟨h4, h5⟩ := hok.heap.rel i o ho
      rw [← hιlt i h1]
      refine ⟨AO.under_mono (by rw [hal]; omega) _ h4, h5.keep h4 hιlt fun hl hn => ?_⟩
      refine hfr _ (h5.lt hl hn) ?_
      rintro ⟨k, hk⟩
      obtain ⟨p, hp1, _, hp3⟩ := hat k _ hk.at_
      obtain ⟨o2, ho2, hw, _⟩ := hk
      exact h3 k p o2 hp1 ho2 hw (hok.heap.inj p.1 i _ (hp3 o2 ho2 hw) ⟨o, ho, hl, hn, rfl⟩)
    · rw [h1] at ho; cases ho
  · rcases lives i b hi.at_ with ⟨j, oj, h1, h2, h3, h4⟩ | ⟨h1, h2, h3, h4⟩ <;> rcases lives k b hk with ⟨j', oj', h5, h6, h7, h8⟩ | ⟨h5, h6, h7, h8⟩
    · have := hh'.inj j j' b h3 h7.at_
      subst this
      rw [h4] at h8; cases h8; rfl
    · exact (apart h3 h6 h8).elim
    · exact (apart h7 h2 h4).elim
    · exact hok.heap.inj i k b (h3 hi) h6
  · intro i b hi
    rcases lives i b hi.at_ with ⟨j, oj, h1, h2, h3, h4⟩ | ⟨h1, h2, h3, h4⟩
    · rcases hdom j b h3 with ⟨k, hk⟩ | hk
      · obtain ⟨p, hp1, _, hp3⟩ := hat k b hk.at_
        obtain ⟨o, ho, hw, _⟩ := hk
        exact hok.dom p.1 b (hp3 o ho hw)
      · exact hok.fresh b (Nat.le_trans hok.world.grow hk)
    · exact hok.dom i b (h3 hi)
  · intro b hb hd
    exact frame b hb fun i hi => hd (hok.dom i b hi)

end

section
variable {P : Program} {n0 nt : Nat} {l : List AI} {K : St → Prop} {s : St}

theorem ren_top {ρ : Ren} {v : AV} (h : v ≠ .top) : v.ren ρ ≠ .top := by
  cases v <;> simp only [AV.ren, ne_eq, reduceCtorEq, not_false_eq_true] <;> first | (split <;> simp) | exact absurd rfl h

/-- A call, by the callee's contract over the blocks that it is handed. -/
theorem WR.call {dst : Option Nat} {f : Opd} {args : List Opd} {fid : FuncId} {first caps : List AV} {as : List AV} {H : List AO} {R : AV → List AO → Prop} (ρ : Ren) (bs : List (Nat × Nat))
    (hf : ev s.env f = .fn fid first caps) (hfn : Fn P fid as H R) (hnt : (args.all fun x => match ev s.env x with | .top => false | _ => true) = true)
    (has : first ++ args.map (ev s.env) ++ caps = AV.rens ρ as) (hfoot : Foot s.hp ρ bs H) (hu : ∀ (j : Nat) (o : AO), H[j]? = some o → o.under H.length) (hau : AV.unders H.length as)
    (h : ∀ v H', R v H' → WR P n0 nt l K ⟨putE dst (v.ren (ρ.ext H.length s.hp.length)) s.env, after s ρ bs H H'⟩) : WR P n0 nt (⟨dst, none, .call f args⟩ :: l) K s := by
  intro lo ops hc X h0 h1 ι a w hok
  obtain ⟨o, r, rfl, hi, hr⟩ := cList_cons hc
  obtain ⟨hd, hdl, hg, hk⟩ := cAI_some hi
  obtain ⟨f', args', ats, hop, rfl, rfl⟩ := kindOf_call hk
  refine wpList_plain (grd_none hg) fun K' hK' => ?_
  obtain ⟨hfu, hfe⟩ := ev_eq hok hf (by simp)
  simp only [List.all_map] at hnt
  obtain ⟨hargu, harge⟩ := evs_ok hok args'.toList hnt
  obtain ⟨⟨fn, hfun, hbody, hname⟩, hcall⟩ := hfn
  have hargs : (gams ι first).toArray ++ args'.map a.eval ++ (gams ι caps).toArray = (gams (ρ.loc ι) as).toArray := by
    rw [← gams_ren, ← has, gams_append, gams_append]
    simp only [List.map_map]
    rw [show (List.map ((ev s.env) ∘ Opd.of) args'.toList) = args'.toList.map fun x => ev s.env (Opd.of x) from rfl, ← harge, ← Array.toList_map]
    simp
  have hrun : (execOp a.eval o).run P w = .ok (.enter fid (gams (ρ.loc ι) as).toArray) w := by
    unfold execOp; rw [hop]
    have hbn : fn.body.isNone = false := by cases hq : fn.body <;> simp_all
    simp only [resolve, hfe, gam, Deferred.ofValue, Sem.run_bind, Sem.run_pure, Result.andThen_ok, invoke, callFunc, run_program, hfun, hname, hbn, Bool.false_eq_true, if_false, hargs]
  unfold Oper.wp
  rw [hrun, Oper.upon_enter]
  refine (hcall (ρ.loc ι) w (hfoot.hok hok hu).1 hau).mono fun e w' hp => ?_
  obtain ⟨v, H', ι', he, hR, hvt, hvu, hok'⟩ := hfoot.back hok hu hp
  rw [he]
  have hput : Ok X ι' ⟨putE dst (v.ren (ρ.ext H.length s.hp.length)) s.env, after s ρ bs H H'⟩ (a.put o.dst (gam ι' (v.ren (ρ.ext H.length s.hp.length)))) w' := by
    rw [hd]
    cases dst with
    | none => exact hok'
    | some d => exact hok'.put (by rw [h1]; exact dst_lt hdl) fun _ => ⟨hvu, rfl⟩
  exact hK' _ _ (h v H' hR r ops hr X h0 h1 ι' _ w' hput)

/-! ### Functions -/

inductive AR where
  | slot (t : Nat)
  | cell1 (t : Nat)
  | cellN (t n : Nat)

def cRes (P : Program) : List ResultVar → Option (List AR)
  | [] => some []
  | .tmp t :: r => (cRes P r).map (.slot t :: ·)
  | .cell a t :: r => match P.underlying t with
    | some d => if isAggD d = true then (match tsize P t, cRes P r with | some n, some l => some (.cellN a n :: l) | _, _ => none) else (cRes P r).map (.cell1 a :: ·)
    | none => none

def retv (s : St) : List AR → Option (List AV)
  | [] => some []
  | .slot t :: r => match get s.env t, retv s r with
    | .top, _ => none
    | v, some l => some (v :: l)
    | _, none => none
  | .cell1 t :: r => match astep s.env s.hp (.load1 (.t t)), retv s r with
    | some (v, _), some l => some (v :: l)
    | _, _ => none
  | .cellN t n :: r => match astep s.env s.hp (.loadN n (.t t)), retv s r with
    | some (v, _), some l => some (v :: l)
    | _, _ => none

def retV : List AV → AV
  | [v] => v
  | l => .tup l

end
end Go.Am

/- The abstract machine: regions that draw their order. -/
import Derived.Test.YtabenjpidndpeaaAmIntro
namespace Go.Am
set_option linter.unusedVariables false
set_option linter.unusedSimpArgs false

def AOp.opds : AOp → List Opd
  | .mov x | .box x | .load1 x | .loadN _ x | .nilchk x | .eqnil _ x | .un _ x | .conv _ x | .b2s x | .strid x | .faddr _ x | .field _ _ _ x | .ext _ x | .len _ x | .rangeM x | .nextM x | .entry x => [x]
  | .pick c a b => [c, a, b]
  | .alloc _ | .mkmap => []
  | .build _ parts | .mkslc _ _ parts => parts.map fun p => p.2.2
  | .store1 a x | .storeN _ a x => [a, x]
  | .bin _ x y | .eqs _ _ x y | .eqb _ x y | .iaddrA _ _ x y | .iaddrS _ x y | .idxA _ _ _ x y | .idxS x y | .append _ _ x y | .minmax _ x y => [x, y]
  | .mkfn _ first caps => first ++ caps
  | .mkslice _ _ _ l c => [l, c]
  | .substr x lo hi | .reslc _ x lo hi => x :: (lo.toList ++ hi.toList)
  | .lookup _ _ _ _ m k => [m, k]
  | .mapupd _ _ m k v => [m, k, v]

def AOp.quiet : AOp → Bool
  | .mov _ | .pick .. | .build .. | .load1 _ | .loadN .. | .nilchk _ | .bin .. | .eqs .. | .eqnil .. | .eqb .. | .un .. | .conv .. | .b2s _ | .strid _ | .mkfn .. | .faddr .. | .field .. | .iaddrA .. | .iaddrS .. | .idxA .. | .idxS .. | .substr .. | .ext .. | .len .. | .minmax .. | .lookup .. | .entry _ => true
  | _ => false

def AOp.blind : AOp → Bool
  | .mov _ | .pick .. | .build .. | .nilchk _ | .bin .. | .eqs .. | .eqnil .. | .eqb .. | .un .. | .conv .. | .strid _ | .mkfn .. | .faddr .. | .field .. | .iaddrA .. | .idxA .. | .idxS .. | .substr .. | .ext .. | .len .str _ | .len .slc _ | .minmax .. => true
  | _ => false

def AOp.adds : AOp → Bool
  | .alloc _ | .box _ | .mkslc .. | .mkmap | .mkslice .. | .rangeM _ => true
  | o => o.quiet

theorem fillA_congr {e e' : Env} : ∀ (parts : List (Nat × Nat × Opd)) (l : List AV), (∀ p ∈ parts, ev e p.2.2 = ev e' p.2.2) → fillA e parts l = fillA e' parts l
  | [], _, _ => rfl
  | (off, sz, x) :: r, l, h => by
    have h0 : ev e x = ev e' x := h (off, sz, x) (List.mem_cons_self ..)
    simp only [fillA, h0]
    split
    · split
      · exact fillA_congr r _ fun p hp => h p (List.mem_cons_of_mem _ hp)
      · rfl
    · rfl

theorem astep_congr {e e' : Env} {hp : List AO} (o : AOp) (h : ∀ x ∈ o.opds, ev e x = ev e' x) : astep e hp o = astep e' hp o := by
  have hfill : ∀ z (parts : List (Nat × Nat × Opd)), (∀ x ∈ parts.map (fun p => p.2.2), ev e x = ev e' x) → fillA e parts z = fillA e' parts z :=
    fun z parts hp => fillA_congr parts z fun p hm => hp _ (List.mem_map.2 ⟨p, hm, rfl⟩)
  have hmap : ∀ (o : Option Opd), (∀ x ∈ o.toList, ev e x = ev e' x) → o.map (ev e) = o.map (ev e') := by
    intro o ho; cases o with
    | none => rfl
    | some x => simp [ho x (by simp)]
  have hall : ∀ (l : List Opd), (∀ x ∈ l, ev e x = ev e' x) → (l.all fun x => match ev e x with | .top => false | _ => true) = (l.all fun x => match ev e' x with | .top => false | _ => true) ∧ l.map (ev e) = l.map (ev e') := by
    intro l hl
    induction l with
    | nil => exact ⟨rfl, rfl⟩
    | cons x l ih =>
      obtain ⟨h1, h2⟩ := ih fun y hy => hl y (List.mem_cons_of_mem _ hy)
      have h3 := hl x (List.mem_cons_self ..)
      simp only [List.all_cons, List.map_cons, h1, h2, h3, and_self]
  cases o with
  | build z parts => simp only [astep, hfill z parts h]
  | mkslc n z parts => simp only [astep, hfill z parts h]
  | mkfn f first caps =>
    obtain ⟨h1, h2⟩ := hall first fun x hx => h x (List.mem_append_left _ hx)
    obtain ⟨h3, h4⟩ := hall caps fun x hx => h x (List.mem_append_right _ hx)
    simp only [astep, h2, h4]
    erw [h1, h3]
    rfl
  | substr x lo hi =>
    have h0 := h x (List.mem_cons_self ..)
    have h1 := hmap lo fun y hy => h y (List.mem_cons_of_mem _ (List.mem_append_left _ hy))
    have h2 := hmap hi fun y hy => h y (List.mem_cons_of_mem _ (List.mem_append_right _ hy))
    simp only [astep, h0, h1, h2]
  | reslc size x lo hi =>
    have h0 := h x (List.mem_cons_self ..)
    have h1 := hmap lo fun y hy => h y (List.mem_cons_of_mem _ (List.mem_append_left _ hy))
    have h2 := hmap hi fun y hy => h y (List.mem_cons_of_mem _ (List.mem_append_right _ hy))
    simp only [astep, h0, h1, h2]
  | alloc z => rfl
  | mkmap => rfl
  | len k x =>
    have h0 := h x (List.mem_cons_self ..)
    cases k <;> simp only [astep, h0]
  | lookup ks agg z ok m k =>
    have h0 := h m (by simp [AOp.opds]); have h1 := h k (by simp [AOp.opds])
    simp only [astep, h0, h1]
  | mapupd ks agg m k v =>
    have h0 := h m (by simp [AOp.opds]); have h1 := h k (by simp [AOp.opds]); have h2 := h v (by simp [AOp.opds])
    simp only [astep, h0, h1, h2]
  | pick c a b =>
    have h0 := h c (by simp [AOp.opds]); have h1 := h a (by simp [AOp.opds]); have h2 := h b (by simp [AOp.opds])
    simp only [astep, h0, h1, h2]
  | store1 x y | storeN n x y | bin op x y | eqs n k x y | eqb n x y | iaddrA l s x y | iaddrS s x y | idxA l s g x y | idxS x y | append s b x y | minmax m x y | mkslice s b z x y =>
    have h0 := h x (by simp [AOp.opds]); have h1 := h y (by simp [AOp.opds])
    simp only [astep, h0, h1]
  | mov x | box x | load1 x | loadN _ x | nilchk x | eqnil _ x | un _ x | conv _ x | b2s x | strid x | faddr _ x | field _ _ _ x | ext _ x | rangeM x | entry x =>
    have h0 := h x (by simp [AOp.opds])
    simp only [astep, h0]
  | nextM x => rfl

theorem chk_map {α β : Type} {c : Prop} [Decidable c] {x : Option α} {f : α → β} : (chk c x).map f = chk c (x.map f) := by
  unfold chk; split <;> rfl
theorem cond_map {α β : Type} {c : Bool} {x y : Option α} {f : α → β} : (cond c x y).map f = cond c (x.map f) (y.map f) := by
  cases c <;> rfl

theorem quiet_hp {e : Env} {hp hp' : List AO} {v : AV} {o : AOp} (hq : o.quiet = true) (h : astep e hp o = some (v, hp')) : hp' = hp := by
  cases o with
  | len k x => cases k <;> simp only [astep] at h <;> (repeat' split at h) <;> simp_all [chk_some]
  | field off n agg x =>
    simp only [astep] at h
    split at h
    · cases agg
      · simp only [cond_false] at h; split at h <;> cases h; rfl
      · simp only [cond_true] at h; obtain ⟨_, h⟩ := chk_some h; cases h; rfl
    · cases h
  | idxA ln n agg x i =>
    simp only [astep] at h
    split at h
    · obtain ⟨_, h⟩ := chk_some h
      cases agg
      · simp only [cond_false] at h; split at h <;> cases h; rfl
      · simp only [cond_true] at h; obtain ⟨_, h⟩ := chk_some h; cases h; rfl
    · cases h
  | _ =>
    simp only [AOp.quiet, Bool.false_eq_true] at hq
    try
      simp only [astep] at h
      (repeat' split at h) <;> first
        | (cases h; done)
        | (cases h; rfl)
        | (obtain ⟨_, h⟩ := chk_some h; (repeat' split at h) <;> first | (cases h; done) | (cases h; rfl))
        | skip

theorem blind_map {e : Env} {hp hp2 : List AO} {o : AOp} (hq : o.blind = true) : astep e hp2 o = (astep e hp o).map fun p => (p.1, hp2) := by
  cases o with
  | len k x => cases k <;> simp only [AOp.blind, Bool.false_eq_true] at hq <;> simp only [astep] <;> cases ev e x <;> (try rfl) <;> (rename_i u; cases u <;> (try rfl))
  | field off n agg x =>
    simp only [astep]
    cases ev e x <;> (try rfl)
    simp only [cond_map, chk_map, Option.map_some]
    congr 1
    split <;> simp_all
  | idxA ln n agg x i =>
    simp only [astep]
    cases ev e x <;> cases ev e i <;> (try rfl)
    simp only [cond_map, chk_map, Option.map_some]
    congr 2
    split <;> simp_all
  | _ =>
    simp only [AOp.blind, Bool.false_eq_true] at hq
    try
      simp only [astep]
      (repeat' split) <;> simp_all [chk_map]

theorem rd_mono {hp x : List AO} {b : Nat} {l : List AV} (h : rd hp b = some l) : rd (hp ++ x) b = some l := by
  unfold rd at h ⊢
  have hb : b < hp.length := by
    rcases Nat.lt_or_ge b hp.length with h1 | h1
    · exact h1
    · rw [List.getElem?_eq_none h1] at h; cases h
  rw [List.getElem?_append_left hb]; exact h
theorem get_mono {hp x : List AO} {b : Nat} {o : AO} (h : hp[b]? = some o) : (hp ++ x)[b]? = some o := by
  rw [List.getElem?_append_left (List.getElem?_eq_some_iff.1 h).1]; exact h

theorem quiet_mono {e : Env} {hp x : List AO} {v : AV} {o : AOp} (hq : o.quiet = true) (h : astep e hp o = some (v, hp)) : astep e (hp ++ x) o = some (v, hp ++ x) := by
  by_cases hb : o.blind = true
  · rw [blind_map (hp := hp) hb, h]; rfl
  cases o <;> simp only [AOp.quiet, AOp.blind, Bool.false_eq_true, not_true_eq_false, not_false_eq_true] at hq hb
  case load1 a =>
    simp only [astep] at h ⊢
    split at h
    · rename_i b off hx
      split at h
      · rename_i l hl
        rw [rd_mono hl]
        split at h
        · rename_i u hu; cases h; simp [hu]
        · cases h
      · cases h
    · cases h
  case loadN n a =>
    simp only [astep] at h ⊢
    split at h
    · rename_i b off hx
      split at h
      · rename_i l hl
        simp only [rd_mono hl]
        obtain ⟨hc, h⟩ := chk_some h
        rw [chk_ok hc]; cases h; rfl
      · cases h
    · cases h
  case iaddrS n a i =>
    simp only [astep] at h ⊢
    split at h
    · rename_i b off len _ _ _ k hx hi
      split at h
      · rename_i l hl
        simp only [rd_mono hl]
        obtain ⟨hc, h⟩ := chk_some h
        rw [chk_ok hc]; cases h; rfl
      · cases h
    · cases h
  case b2s a =>
    simp only [astep] at h ⊢
    split at h
    · rename_i b off len _ _ hx
      split at h
      · rename_i l hl
        simp only [rd_mono hl]
        obtain ⟨hc, h⟩ := chk_some h
        rw [chk_ok hc]
        split at h
        · rename_i u hu; cases h; simp [hu]
        · cases h
      · cases h
    · cases h; rfl
    · cases h
  case len k a =>
    cases k
    case str => simp at hb
    case slc => simp at hb
    case map =>
      simp only [astep] at h ⊢
      split at h
      · rename_i b hx
        split at h
        · rename_i es c hl; rw [get_mono hl]; cases h; rfl
        · cases h
      · cases h
  case lookup ks agg z ok m k =>
    simp only [astep] at h ⊢
    split at h
    · rename_i b hx
      split at h
      · rename_i es c hl
        rw [get_mono hl]
        obtain ⟨hc, h⟩ := chk_some h
        simp only [chk_ok hc]
        split at h
        · rename_i u hu; cases h; simp [hu]
        · rename_i hu; cases h; simp [hu]
        · cases h
      · cases h
    · cases h
  case entry it =>
    simp only [astep] at h ⊢
    split at h
    · rename_i r hx
      split at h
      · rename_i m sn seen last hit
        rw [get_mono hit]
        split at h
        · rename_i es clock stamp hm hs
          simp only [get_mono hm, hs]
          obtain ⟨hc, h⟩ := chk_some h
          rw [chk_ok hc]
          split at h
          · rename_i u hu; cases h; simp [hu]
          · cases h
        · cases h
      · cases h
    · cases h

theorem adds_hp {e : Env} {hp hp' : List AO} {v : AV} {o : AOp} (hq : o.adds = true) (h : astep e hp o = some (v, hp')) : ∃ x, hp' = hp ++ x := by
  by_cases hb : o.quiet = true
  · exact ⟨[], by rw [quiet_hp hb h]; simp⟩
  cases o <;> simp only [AOp.quiet, AOp.adds, Bool.false_eq_true, not_true_eq_false, not_false_eq_true] at hq hb
  all_goals
    simp only [astep] at h
    (repeat' split at h) <;> first
      | (cases h; done)
      | (cases h; exact ⟨_, rfl⟩)
      | (obtain ⟨_, h⟩ := chk_some h; cases h; exact ⟨_, rfl⟩)

end Go.Am

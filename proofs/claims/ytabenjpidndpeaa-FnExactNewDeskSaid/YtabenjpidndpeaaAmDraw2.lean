/- The abstract machine: regions that draw their order: runs, and how they are turned. -/
import Derived.Test.YtabenjpidndpeaaAmDraw
namespace Go.Am
set_option linter.unusedVariables false
set_option linter.unusedSimpArgs false

def AK.opds : AK → List Opd
  | .op o => o.opds
  | .call f args => f :: args
  | .next it => [it]
def AI.looks (i : AI) : List Opd := i.k.opds ++ (match i.guard with | some (d, _) => [Opd.t d] | none => [])
def AI.quiet (i : AI) : Bool := match i.k with | .op o => o.quiet | _ => false
def AI.blind (i : AI) : Bool := match i.k with | .op o => o.blind | _ => false
/-- Whether an operation adds blocks at most; 'cf' tells it of the calls. -/
def AI.adds (cf : Bool) (i : AI) : Bool := match i.k with | .op o => o.adds | .call .. => cf | _ => false

/-- What an operation's kind comes to. -/
def Do (P : Program) (k : AK) (e : Env) (hp : List AO) (C : AV → List AO → Prop) : Prop :=
  match k with
  | .op o => ∃ v hp', astep e hp o = some (v, hp') ∧ C v hp'
  | .call f args => ∃ (fid : FuncId) (first caps as : List AV) (H : List AO) (R : AV → List AO → Prop) (ρ : Ren) (bs : List (Nat × Nat)), ev e f = .fn fid first caps ∧ Fn P fid as H R ∧
      (args.all fun x => match ev e x with | .top => false | _ => true) = true ∧ first ++ args.map (ev e) ++ caps = AV.rens ρ as ∧ Foot hp ρ bs H ∧ (∀ (j : Nat) (o : AO), H[j]? = some o → o.under H.length) ∧
      AV.unders H.length as ∧ ∀ v H', R v H' → C (v.ren (ρ.ext H.length hp.length)) (after ⟨[], hp⟩ ρ bs H H')
  | .next _ => False

def GDo (P : Program) (i : AI) (e : Env) (hp : List AO) (C : AV → List AO → Prop) : Prop :=
  match i.guard with
  | none => Do P i.k e hp C
  | some (d, b) => (ev e (.t d) = .bool b ∧ Do P i.k e hp C) ∨ ((ev e (.t d) = .bool (!b) ∨ ev e (.t d) = undefA) ∧ C undefA hp)

def One (P : Program) (cf : Bool) (i : AI) (K : St → Prop) (s : St) : Prop :=
  GDo P i s.env s.hp fun v hp' => (i.adds cf = true → ∃ x, hp' = s.hp ++ x) ∧ K ⟨putE i.dst v s.env, hp'⟩

def Tr (P : Program) (cf : Bool) : List AI → (St → Prop) → St → Prop
  | [], K, s => K s
  | i :: l, K, s => One P cf i (Tr P cf l K) s

section
variable {P : Program} {cf : Bool}

theorem Do.mono {k : AK} {e : Env} {hp : List AO} {C C' : AV → List AO → Prop} (h : Do P k e hp C) (hc : ∀ v hp', C v hp' → C' v hp') : Do P k e hp C' := by
  cases k with
  | op o => obtain ⟨v, hp', h1, h2⟩ := h; exact ⟨v, hp', h1, hc _ _ h2⟩
  | call f args => obtain ⟨fid, first, caps, as, H, R, ρ, bs, h1, h2, h3, h4, h5, h6, h7, h8⟩ := h; exact ⟨fid, first, caps, as, H, R, ρ, bs, h1, h2, h3, h4, h5, h6, h7, fun v H' hr => hc _ _ (h8 v H' hr)⟩
  | next it => exact h

theorem GDo.mono {i : AI} {e : Env} {hp : List AO} {C C' : AV → List AO → Prop} (h : GDo P i e hp C) (hc : ∀ v hp', C v hp' → C' v hp') : GDo P i e hp C' := by
  obtain ⟨dst, g, k⟩ := i
  cases g with
  | none => exact Do.mono (k := k) h hc
  | some p =>
    obtain ⟨d, b⟩ := p
    rcases h with ⟨h1, h2⟩ | ⟨h1, h2⟩
    · exact .inl ⟨h1, Do.mono h2 hc⟩
    · exact .inr ⟨h1, hc _ _ h2⟩

theorem Do.congr {k : AK} {e e' : Env} {hp : List AO} {C : AV → List AO → Prop} (he : ∀ x ∈ k.opds, ev e x = ev e' x) (h : Do P k e hp C) : Do P k e' hp C := by
  cases k with
  | op o => obtain ⟨v, hp', h1, h2⟩ := h; exact ⟨v, hp', by rw [← astep_congr o he]; exact h1, h2⟩
  | call f args =>
    obtain ⟨fid, first, caps, as, H, R, ρ, bs, h1, h2, h3, h4, h5, h6, h7, h8⟩ := h
    have hf : ev e f = ev e' f := he f (List.mem_cons_self ..)
    have ha : ∀ x ∈ args, ev e x = ev e' x := fun x hx => he x (List.mem_cons_of_mem _ hx)
    refine ⟨fid, first, caps, as, H, R, ρ, bs, hf ▸ h1, h2, ?_, ?_, h5, h6, h7, h8⟩
    · refine Eq.trans ?_ h3
      clear h3 h4
      induction args with
      | nil => rfl
      | cons x l ih =>
        simp only [List.all_cons]
        rw [ih (fun y hy => he y (by simp only [AK.opds, List.mem_cons] at hy ⊢; rcases hy with h | h; exact .inl h; exact .inr (.inr h))) (fun y hy => ha y (List.mem_cons_of_mem _ hy)), ← ha x (List.mem_cons_self ..)]
    · rw [← h4, List.map_congr_left ha]
  | next it => exact h

theorem GDo.congr {i : AI} {e e' : Env} {hp : List AO} {C : AV → List AO → Prop} (he : ∀ x ∈ i.looks, ev e x = ev e' x) (h : GDo P i e hp C) : GDo P i e' hp C := by
  have hk : ∀ x ∈ i.k.opds, ev e x = ev e' x := fun x hx => he x (List.mem_append_left _ hx)
  obtain ⟨dst, g, k⟩ := i
  cases g with
  | none => exact Do.congr (k := k) hk h
  | some p =>
    obtain ⟨d, b⟩ := p
    have hd : ev e (.t d) = ev e' (.t d) := he _ (by simp [AI.looks])
    unfold GDo at h ⊢
    simp only at h ⊢
    rw [← hd]
    rcases h with ⟨h1, h2⟩ | ⟨h1, h2⟩
    · exact .inl ⟨h1, Do.congr hk h2⟩
    · exact .inr ⟨h1, h2⟩

theorem GDo.quiet {i : AI} {e : Env} {hp : List AO} {C : AV → List AO → Prop} (hq : i.quiet = true) (h : GDo P i e hp C) : ∃ v, C v hp ∧ GDo P i e hp fun v' hp' => v' = v ∧ hp' = hp := by
  obtain ⟨dst, g, k⟩ := i
  cases k with
  | op o =>
    have hq : o.quiet = true := hq
    have key : Do P (.op o) e hp C → ∃ v, C v hp ∧ Do P (.op o) e hp fun v' hp' => v' = v ∧ hp' = hp := by
      rintro ⟨v, hp', h1, h2⟩
      have := quiet_hp hq h1; subst this
      exact ⟨v, h2, v, _, h1, rfl, rfl⟩
    unfold GDo at h ⊢
    cases g with
    | none => exact key h
    | some p =>
      obtain ⟨d, b⟩ := p
      rcases h with ⟨h1, h2⟩ | ⟨h1, h2⟩
      · obtain ⟨v, h3, h4⟩ := key h2; exact ⟨v, h3, .inl ⟨h1, h4⟩⟩
      · exact ⟨undefA, h2, .inr ⟨h1, rfl, rfl⟩⟩
  | call f args => cases hq
  | next it => cases hq

theorem GDo.blind {i : AI} {e : Env} {hp hp2 : List AO} {v : AV} (hq : i.blind = true) (h : GDo P i e hp fun v' hp' => v' = v ∧ hp' = hp) : GDo P i e hp2 fun v' hp' => v' = v ∧ hp' = hp2 := by
  obtain ⟨dst, g, k⟩ := i
  cases k with
  | op o =>
    have hq : o.blind = true := hq
    have key : Do P (.op o) e hp (fun v' hp' => v' = v ∧ hp' = hp) → Do P (.op o) e hp2 fun v' hp' => v' = v ∧ hp' = hp2 := by
      rintro ⟨v, hp', h1, rfl, rfl⟩
      exact ⟨v, hp2, by rw [blind_map (hp := hp') hq, h1]; rfl, rfl, rfl⟩
    unfold GDo at h ⊢
    cases g with
    | none => exact key h
    | some p =>
      obtain ⟨d, b⟩ := p
      rcases h with ⟨h1, h2⟩ | ⟨h1, h2, _⟩
      · exact .inl ⟨h1, key h2⟩
      · exact .inr ⟨h1, h2, rfl⟩
  | call f args => cases hq
  | next it => cases hq

theorem GDo.over {i : AI} {e : Env} {hp x : List AO} {v : AV} (hq : i.quiet = true) (h : GDo P i e hp fun v' hp' => v' = v ∧ hp' = hp) : GDo P i e (hp ++ x) fun v' hp' => v' = v ∧ hp' = hp ++ x := by
  obtain ⟨dst, g, k⟩ := i
  cases k with
  | op o =>
    have hq : o.quiet = true := hq
    have key : Do P (.op o) e hp (fun v' hp' => v' = v ∧ hp' = hp) → Do P (.op o) e (hp ++ x) fun v' hp' => v' = v ∧ hp' = hp ++ x := by
      rintro ⟨v, hp', h1, rfl, rfl⟩
      exact ⟨v, _, quiet_mono hq h1, rfl, rfl⟩
    unfold GDo at h ⊢
    cases g with
    | none => exact key h
    | some p =>
      obtain ⟨d, b⟩ := p
      rcases h with ⟨h1, h2⟩ | ⟨h1, h2, _⟩
      · exact .inl ⟨h1, key h2⟩
      · exact .inr ⟨h1, h2, rfl⟩
  | call f args => cases hq
  | next it => cases hq

/-- States that are alike at every slot. -/
def Sam (s s' : St) : Prop := s.hp = s'.hp ∧ ∀ t, get s.env t = get s'.env t

theorem Sam.ev {s s' : St} (h : Sam s s') (x : Opd) : ev s.env x = ev s'.env x := by
  cases x with
  | t n => exact h.2 n
  | c a => rfl

theorem Sam.put {e e' : Env} (h : ∀ t, get e t = get e' t) (d : Option Nat) (v : AV) (t : Nat) : get (putE d v e) t = get (putE d v e') t := by
  cases d with
  | none => exact h t
  | some d => simp only [putE, get_put, h t]

theorem Sam.symm {s s' : St} (h : Sam s s') : Sam s' s := ⟨h.1.symm, fun t => (h.2 t).symm⟩

theorem One.sam {i : AI} {K : St → Prop} {s s' : St} (hs : Sam s s') (hK : ∀ s s', Sam s s' → K s → K s') (h : One P cf i K s) : One P cf i K s' := by
  unfold One at h ⊢
  have h2 := GDo.congr (e' := s'.env) (fun x _ => hs.ev x) h
  rw [hs.1] at h2
  exact GDo.mono h2 fun v hp' ⟨h3, h4⟩ => ⟨h3, hK _ _ (show Sam ⟨putE i.dst v s.env, hp'⟩ ⟨putE i.dst v s'.env, hp'⟩ from ⟨rfl, fun t => Sam.put hs.2 i.dst v t⟩) h4⟩

theorem Tr.sam {K : St → Prop} (hK : ∀ s s', Sam s s' → K s → K s') : ∀ (l : List AI) {s s' : St}, Sam s s' → Tr P cf l K s → Tr P cf l K s'
  | [], s, s', hs, h => hK _ _ hs h
  | i :: l, s, s', hs, h => One.sam hs (fun _ _ => Tr.sam hK l) h

/-- Whether the second's slots leave the first alone. -/
def AI.off (x y : AI) : Bool := match x.dst with
  | some d => y.looks.all (fun o => match o with | .t n => n != d | .c _ => true) && y.dst != some d
  | none => true

/-- Whether an operation may be put off behind the next. -/
def AI.yields (cf : Bool) (x y : AI) : Bool := x.quiet && (x.blind || y.quiet || y.adds cf) && x.off y && y.off x

theorem AI.off_ev {x y : AI} (h : x.off y = true) (v : AV) (e : Env) : ∀ o ∈ y.looks, ev (putE x.dst v e) o = ev e o := by
  intro o ho
  unfold AI.off at h
  split at h
  · rename_i d hd
    rw [hd]
    simp only [Bool.and_eq_true, List.all_eq_true] at h
    have := h.1 o ho
    cases o with
    | t n => simp only [bne_iff_ne] at this; simp only [ev, putE, get_put]; rw [if_neg (fun e => this e.symm)]
    | c a => rfl
  · rename_i hd; rw [hd]; rfl

theorem AI.off_put {x y : AI} (h : x.off y = true) (h' : y.off x = true) (v u : AV) (e : Env) (t : Nat) : get (putE x.dst v (putE y.dst u e)) t = get (putE y.dst u (putE x.dst v e)) t := by
  cases hx : x.dst with
  | none => rfl
  | some d =>
    cases hy : y.dst with
    | none => rfl
    | some d' =>
      have : d' ≠ d := by
        simp only [AI.off, hx, hy, Bool.and_eq_true] at h
        intro e; subst e; simp at h
      simp only [putE, get_put]
      by_cases h1 : d = t
      · subst h1; simp [this]
      · simp [h1]

theorem One.swap {x y : AI} {K : St → Prop} {s : St} (hK : ∀ s s', Sam s s' → K s → K s') (hy : x.yields cf y = true) (h : One P cf x (One P cf y K) s) : One P cf y (One P cf x K) s := by
  simp only [AI.yields, Bool.and_eq_true, Bool.or_eq_true] at hy
  obtain ⟨⟨⟨hq, hor⟩, hxy⟩, hyx⟩ := hy
  obtain ⟨v, ⟨_, h1⟩, h2⟩ := GDo.quiet hq h
  have h3 := GDo.congr (e' := s.env) (AI.off_ev hxy v s.env) h1
  unfold One
  have hyq : y.quiet = true → ∀ {C : AV → List AO → Prop}, GDo P y s.env s.hp C → GDo P y s.env s.hp fun v' hp' => C v' hp' ∧ hp' = s.hp := by
    intro hyq C hc
    obtain ⟨u, hu1, hu2⟩ := GDo.quiet hyq hc
    exact GDo.mono hu2 fun v' hp' ⟨e1, e2⟩ => by subst e1; subst e2; exact ⟨hu1, rfl⟩
  have fin : ∀ (u : AV) (hp2 : List AO), K ⟨putE y.dst u (putE x.dst v s.env), hp2⟩ → GDo P x s.env hp2 (fun v' hp' => v' = v ∧ hp' = hp2) →
      One P cf x K ⟨putE y.dst u s.env, hp2⟩ := by
    intro u hp2 hk hd
    refine GDo.mono (GDo.congr (e' := putE y.dst u s.env) (fun o ho => (AI.off_ev hyx u s.env o ho).symm) hd) fun v' hp' ⟨e1, e2⟩ => ?_
    subst e1; subst e2
    exact ⟨fun _ => ⟨[], by simp⟩, hK _ _ (show Sam ⟨putE y.dst u (putE x.dst v' s.env), hp'⟩ ⟨putE x.dst v' (putE y.dst u s.env), hp'⟩ from ⟨rfl, fun t => (AI.off_put hxy hyx _ _ _ t).symm⟩) hk⟩
  by_cases hb : x.blind = true
  · exact GDo.mono h3 fun u hp2 ⟨h4, h5⟩ => ⟨h4, fin u hp2 h5 (GDo.blind hb h2)⟩
  · by_cases hyqt : y.quiet = true
    · refine GDo.mono (hyq hyqt h3) fun u hp2 ⟨⟨h4, h5⟩, e⟩ => ⟨h4, fin u hp2 h5 ?_⟩
      subst e; exact h2
    · have hadd : y.adds cf = true := by
        rcases hor with (h | h) | h
        · exact absurd h hb
        · exact absurd h hyqt
        · exact h
      refine GDo.mono h3 fun u hp2 ⟨h4, h5⟩ => ⟨h4, fin u hp2 h5 ?_⟩
      obtain ⟨z, e⟩ := h4 hadd
      have e : hp2 = s.hp ++ z := e
      rw [e]
      exact GDo.over hq h2

/-- An operation that may go ahead of all before it does so. -/
theorem Tr.pull {K : St → Prop} (hK : ∀ s s', Sam s s' → K s → K s') {y : AI} {r : List AI} : ∀ (p : List AI) {s : St}, (∀ x ∈ p, x.yields cf y = true) → Tr P cf (p ++ y :: r) K s → Tr P cf (y :: (p ++ r)) K s
  | [], s, _, h => h
  | x :: p, s, hp, h => by
    have h1 : One P cf x (Tr P cf (y :: (p ++ r)) K) s := by
      have : One P cf x (Tr P cf (p ++ y :: r) K) s := h
      exact GDo.mono this fun v hp' ⟨h3, h4⟩ => ⟨h3, Tr.pull hK p (fun z hz => hp z (List.mem_cons_of_mem _ hz)) h4⟩
    exact One.swap (fun _ _ => Tr.sam hK (p ++ r)) (hp x (List.mem_cons_self ..)) h1

end
end Go.Am

/- The abstract machine: lists of operations, calls by contract, functions. -/
import Derived.Test.YtabenjpidndpeaaAmStep
namespace Go.Am
set_option linter.unusedVariables false
set_option linter.unusedSimpArgs false

inductive AK where
  | op (o : AOp)
  | call (f : Opd) (args : List Opd)
  | next (it : Opd)

structure AI where
  dst : Option Nat
  guard : Option (Nat × Bool)
  k : AK

/-- A function that can be entered. -/
def Enter (P : Program) (f : FuncId) : Prop := ∃ fn, P.funcs[f]? = some fn ∧ fn.body.isSome = true ∧ (fn.name == "runtime.NumGoroutine") = false

/-- What a call comes to: a value, and the blocks of its footprint. -/
def Post (ι : Nat → Loc) (H : List AO) (w : World) (R : AV → List AO → Prop) (e : Ending) (w' : World) : Prop :=
  ∃ v H' ι', e = .returned (gam ι' v) ∧ R v H' ∧ v ≠ .top ∧ v.under H'.length ∧ HOk ι' H' w'.heap ∧ H.length ≤ H'.length ∧ (∀ j, j < H.length → ι' j = ι j) ∧
    (∀ j b, AtW ι' H' j b → (∃ i, AtW ι H i b) ∨ w.heap.size ≤ b) ∧ (∀ (j : Nat) (l : List AV), H'[j]? = some (AO.ro l) → ∃ l', H[j]? = some (AO.ro l')) ∧
    (∀ b, b < w.heap.size → (¬ ∃ i, AtW ι H i b) → w'.heap[b]? = w.heap[b]?) ∧ w.heap.size ≤ w'.heap.size ∧ w'.os = w.os ∧ w'.output = w.output ∧ w'.tape = w.tape

/-- The contract of a function over the blocks that it is handed. -/
def Fn (P : Program) (f : FuncId) (args : List AV) (H : List AO) (R : AV → List AO → Prop) : Prop :=
  Enter P f ∧ ∀ ι w, HOk ι H w.heap → AV.unders H.length args → Calls P f (gams ι args).toArray w (Post ι H w R)

theorem Fn.mono {P : Program} {f : FuncId} {args : List AV} {H : List AO} {R R' : AV → List AO → Prop} (h : Fn P f args H R) (hr : ∀ v H', R v H' → R' v H') : Fn P f args H R' :=
  ⟨h.1, fun ι w hh hu => (h.2 ι w hh hu).mono fun e w' ⟨v, H', ι', h1, h2, h3⟩ => ⟨v, H', ι', h1, hr _ _ h2, h3⟩⟩

def putE (d : Option Nat) (v : AV) (env : Env) : Env :=
  match d with
  | some d => (d, v) :: env
  | none => env

def dstOk (nt : Nat) : Option Nat → Bool
  | some d => decide (d < nt)
  | none => true

def grd (ops : Array Oper) : Option (Nat × Bool) → Option (Option (Nat × Bool))
  | none => some none
  | some (j, b) => match (ops[j]?).bind (·.dst) with
    | some d => some (some (d, b))
    | none => none

def kindOf (P : Program) (o : Oper) : Option AK :=
  match o.op with
  | .call { callee := .value f, args, .. } => some (.call (Opd.of f) (args.toList.map Opd.of))
  | .next it false => some (.next (Opd.of it))
  | _ => (cOp P o).map .op

/-- How an operation in its place is read. -/
def cAI (P : Program) (nt : Nat) (ops : Array Oper) (o : Oper) : Option AI :=
  match dstOk nt o.dst, grd ops o.guard, kindOf P o with
  | true, some g, some k => some ⟨o.dst, g, k⟩
  | _, _, _ => none

def cList (P : Program) (nt : Nat) (ops : Array Oper) : List Oper → Option (List AI)
  | [] => some []
  | o :: r => match cAI P nt ops o, cList P nt ops r with
    | some i, some l => some (i :: l)
    | _, _ => none

/-- From a state on, a list of operations comes to what 'K' tells. -/
def WR (P : Program) (n0 nt : Nat) (l : List AI) (K : St → Prop) (s : St) : Prop :=
  ∀ lo ops, cList P nt ops lo = some l → ∀ X : Ctx, X.n0 = n0 → X.nt = nt → ∀ ι a w, Ok X ι s a w → wpList P ops (lift X fun x s => x = .normal ∧ K s) lo a w

section
variable {P : Program} {n0 nt : Nat} {l : List AI} {K : St → Prop} {s : St}

theorem WR.nil (h : K s) : WR P n0 nt [] K s := by
  intro lo ops hc X h0 h1 ι a w hok
  cases lo with
  | nil => exact wpList_nil ⟨_, ι, s, rfl, hok, rfl, h⟩
  | cons o r =>
    simp only [cList] at hc
    split at hc <;> cases hc

theorem WR.mono {K' : St → Prop} (h : WR P n0 nt l K s) (hk : ∀ s, K s → K' s) : WR P n0 nt l K' s := by
  intro lo ops hc X h0 h1 ι a w hok
  have := h lo ops hc X h0 h1 ι a w hok
  revert this
  have key : ∀ (lo : List Oper) (a : Act) (w : World), wpList P ops (lift X fun x s => x = .normal ∧ K s) lo a w → wpList P ops (lift X fun x s => x = .normal ∧ K' s) lo a w := by
    have hq : ∀ e a w, lift X (fun x s => x = .normal ∧ K s) e a w → lift X (fun x s => x = .normal ∧ K' s) e a w :=
      fun e a w ⟨x, ι, s, hx, ho, h1, h2⟩ => ⟨x, ι, s, hx, ho, h1, hk s h2⟩
    intro lo
    induction lo with
    | nil => intro a w h; exact hq _ _ _ h
    | cons o r ih =>
      intro a w h
      unfold wpList at h ⊢
      split at h
      · rename_i hw
        rw [if_pos hw]
        rcases h with h | ⟨h1, a0, w0, h2⟩
        · refine .inl ?_
          unfold Oper.wp at h ⊢
          revert h
          generalize (execOp a.eval o).run P w = r0
          intro h
          cases r0 with
          | ok n w1 =>
            cases n with
            | value v => exact ih _ _ h
            | skip => exact ih _ _ h
            | defer d => exact ih _ _ h
            | enter f args =>
              refine Calls.mono h fun e w2 he => ?_
              cases e with
              | returned v => exact ih _ _ he
              | panicked c => exact hq _ _ _ he
              | outgrown => obtain ⟨a1, w1, h3⟩ := he; exact ⟨a1, w1, hq _ _ _ h3⟩
            | row row args => exact Rows.mono h fun v w2 he => ih _ _ he
            | _ => exact h.elim
          | halt x w1 =>
            cases x with
            | panic v => exact hq _ _ _ h
            | _ => exact h.elim
        · exact .inr ⟨h1, a0, w0, hq _ _ _ h2⟩
      · rename_i hw
        rw [if_neg hw]
        exact ih _ _ h
  exact key lo a w

theorem cList_cons {ops : Array Oper} {lo : List Oper} {i : AI} (h : cList P nt ops lo = some (i :: l)) : ∃ o r, lo = o :: r ∧ cAI P nt ops o = some i ∧ cList P nt ops r = some l := by
  cases lo with
  | nil => simp [cList] at h
  | cons o r =>
    simp only [cList] at h
    split at h
    · rename_i i' l' h1 h2
      simp only [Option.some.injEq, List.cons.injEq] at h
      obtain ⟨rfl, rfl⟩ := h
      exact ⟨o, r, rfl, h1, h2⟩
    · cases h

theorem cAI_some {ops : Array Oper} {o : Oper} {dst : Option Nat} {g : Option (Nat × Bool)} {k : AK} (h : cAI P nt ops o = some ⟨dst, g, k⟩) :
    o.dst = dst ∧ dstOk nt dst = true ∧ grd ops o.guard = some g ∧ kindOf P o = some k := by
  unfold cAI at h
  split at h
  · rename_i h1 h2 h3
    simp only [Option.some.injEq, AI.mk.injEq] at h
    obtain ⟨rfl, rfl, rfl⟩ := h
    exact ⟨rfl, h1, h2, h3⟩
  · cases h

theorem grd_none {ops : Array Oper} {g : Option (Nat × Bool)} (h : grd ops g = some none) : g = none := by
  cases g with
  | none => rfl
  | some p =>
    obtain ⟨j, b⟩ := p
    simp only [grd] at h
    split at h <;> cases h
theorem grd_some {ops : Array Oper} {g : Option (Nat × Bool)} {d : Nat} {b : Bool} (h : grd ops g = some (some (d, b))) : ∃ j, g = some (j, b) ∧ (ops[j]?).bind (·.dst) = some d := by
  cases g with
  | none => cases h
  | some p =>
    obtain ⟨j, b'⟩ := p
    simp only [grd] at h
    split at h
    · rename_i d' hd; cases h; exact ⟨j, rfl, hd⟩
    · cases h

theorem kindOf_op {o : Oper} {ao : AOp} (h : kindOf P o = some (.op ao)) : cOp P o = some ao := by
  unfold kindOf at h
  split at h
  · cases h
  · cases h
  · obtain ⟨z, h1, h2⟩ := map_some' h; cases h2; exact h1
theorem kindOf_call {o : Oper} {f : Opd} {args : List Opd} (h : kindOf P o = some (.call f args)) :
    ∃ f' args' ats, o.op = .call { callee := .value f', args := args', argTypes := ats } ∧ f = Opd.of f' ∧ args = args'.toList.map Opd.of := by
  unfold kindOf at h
  split at h
  · rename_i e; cases h; exact ⟨_, _, _, e, rfl, rfl⟩
  · cases h
  · obtain ⟨z, h1, h2⟩ := map_some' h; cases h2
theorem kindOf_next {o : Oper} {it : Opd} (h : kindOf P o = some (.next it)) : ∃ it', o.op = .next it' false ∧ it = Opd.of it' := by
  unfold kindOf at h
  split at h
  · cases h
  · rename_i e; cases h; exact ⟨_, e, rfl⟩
  · obtain ⟨z, h1, h2⟩ := map_some' h; cases h2

theorem dst_lt {d : Nat} (h : dstOk nt (some d) = true) : d < nt := by simpa [dstOk] using h

theorem wanted_none {o : Oper} {y : Nat → Option Bool} (h : o.guard = none) : Region.wanted o y = true := by simp [Region.wanted, h]

/-- An operation that is no call. -/
theorem WR.op {dst : Option Nat} {ao : AOp} {v : AV} {hp' : List AO} (hs : astep s.env s.hp ao = some (v, hp')) (h : WR P n0 nt l K ⟨putE dst v s.env, hp'⟩) :
    WR P n0 nt (⟨dst, none, .op ao⟩ :: l) K s := by
  intro lo ops hc X h0 h1 ι a w hok
  obtain ⟨o, r, rfl, hi, hr⟩ := cList_cons hc
  obtain ⟨hd, hdl, hg, hk⟩ := cAI_some hi
  refine wpList_plain (grd_none hg) fun K' hK' => ?_
  obtain ⟨ι', w', v', hrun, hv, hok'⟩ := astep_ok hok (kindOf_op hk) hs
  have hput : Ok X ι' ⟨putE dst v s.env, hp'⟩ (a.put o.dst v') w' := by
    rw [hd]
    cases dst with
    | none => exact hok'
    | some d => exact hok'.put (by rw [h1]; exact dst_lt hdl) hv
  have := hK' _ _ (h r ops hr X h0 h1 ι' _ w' hput)
  unfold Oper.wp
  rcases hrun with e | ⟨e, rfl⟩
  · rw [e]; exact this
  · rw [e]; exact this

/-- A guarded operation that is passed by. -/
theorem WR.skip {dst : Option Nat} {d : Nat} {b : Bool} {k : AK} (hg : get s.env d = .bool (!b) ∨ get s.env d = undefA) (h : WR P n0 nt l K ⟨putE dst undefA s.env, s.hp⟩) :
    WR P n0 nt (⟨dst, some (d, b), k⟩ :: l) K s := by
  intro lo ops hc X h0 h1 ι a w hok
  obtain ⟨o, r, rfl, hi, hr⟩ := cList_cons hc
  obtain ⟨hd, hdl, hgd, _⟩ := cAI_some hi
  have hput : Ok X ι ⟨putE dst undefA s.env, s.hp⟩ (a.put o.dst undef) w := by
    rw [hd]
    cases dst with
    | none => exact hok
    | some d => exact hok.put (by rw [h1]; exact dst_lt hdl) fun _ => ⟨trivial, rfl⟩
  obtain ⟨j, hq, hd'⟩ := grd_some hgd
  have hw : Region.wanted o (yielded ops a.tmps) = false := by
    simp only [Region.wanted, hq, yielded, hd', Option.bind_some]
    rcases hg with hg | hg
    · have := (hok.env d (by rw [hg]; simp)).2
      rw [hg] at this
      rw [this]; simp only [gam]
      cases b <;> rfl
    · have := (hok.env d (by rw [hg]; simp [undefA])).2
      rw [hg] at this
      rw [this]; rfl
  unfold wpList
  rw [hw]
  exact h r ops hr X h0 h1 ι _ w hput

/-- A guarded operation that is carried out. -/
theorem WR.take {dst : Option Nat} {d : Nat} {b : Bool} {k : AK} (hg : get s.env d = .bool b) (h : WR P n0 nt (⟨dst, none, k⟩ :: l) K s) :
    WR P n0 nt (⟨dst, some (d, b), k⟩ :: l) K s := by
  intro lo ops hc X h0 h1 ι a w hok
  obtain ⟨o, r, rfl, hi, hr⟩ := cList_cons hc
  obtain ⟨hd, hdl, hgd, hk⟩ := cAI_some hi
  -- the same operation without its guard
  obtain ⟨j, hq, hd'⟩ := grd_some hgd
  have hw : Region.wanted o (yielded ops a.tmps) = true := by
    simp only [Region.wanted, hq, yielded, hd', Option.bind_some]
    have := (hok.env d (by rw [hg]; simp)).2
    rw [hg] at this
    rw [this]; simp only [gam]
    cases b <;> rfl
  let o' : Oper := { o with guard := none }
  have hi' : cAI P nt ops o' = some ⟨dst, none, k⟩ := by
    have h1' : dstOk nt o'.dst = true := by rw [show o'.dst = dst from hd]; exact hdl
    have h2' : grd ops o'.guard = some none := rfl
    have h3' : kindOf P o' = some k := hk
    unfold cAI
    rw [h1', h2', h3', show o'.dst = dst from hd]
  have := h (o' :: r) ops (by simp only [cList, hi', hr]) X h0 h1 ι a w hok
  unfold wpList at this ⊢
  rw [if_pos hw]
  rw [if_pos (wanted_none rfl)] at this
  exact this

/-- A guard that is not decided: both ways. -/
theorem WR.guard {dst : Option Nat} {d : Nat} {b t : Bool} {k : AK} (hg : get s.env d = .bool t) (hd : d < nt)
    (h1 : t = b → WR P n0 nt (⟨dst, none, k⟩ :: l) K ⟨(d, .bool b) :: s.env, s.hp⟩)
    (h2 : t = !b → WR P n0 nt l K ⟨putE dst undefA ((d, .bool (!b)) :: s.env), s.hp⟩) : WR P n0 nt (⟨dst, some (d, b), k⟩ :: l) K s := by
  have up : ∀ {X : Ctx} {ι a w}, Ok X ι s a w → Ok X ι ⟨(d, .bool t) :: s.env, s.hp⟩ a w := by
    intro X ι a w hok
    refine ⟨hok.size, hok.defers, fun u hu => ?_, hok.heap, hok.dom, hok.base, hok.len, hok.fresh, hok.world⟩
    simp only [get_put] at hu ⊢
    by_cases e : d = u
    · subst e
      simp only [if_true] at hu ⊢
      have := hok.env d (by rw [hg]; simp)
      rw [hg] at this; exact this
    · simp only [e, if_false] at hu ⊢; exact hok.env u hu
  intro lo ops hc X h0 hn ι a w hok
  by_cases e : t = b
  · subst e
    exact WR.take (s := ⟨(d, .bool t) :: s.env, s.hp⟩) (by simp [get_put]) (h1 rfl) lo ops hc X h0 hn ι a w (up hok)
  · have e' : t = !b := by cases t <;> cases b <;> simp_all
    subst e'
    exact WR.skip (s := ⟨(d, .bool (!b)) :: s.env, s.hp⟩) (.inl (by simp [get_put])) (h2 rfl) lo ops hc X h0 hn ι a w (up hok)

theorem WC.region {id : Nat} {ops : Array Oper} {Q : AX → St → Prop} {l : List AI} (hc : cList P nt ops ops.toList = some l) (h : WR P n0 nt l (Q .normal) s) :
    WC P n0 nt (.region id ops false) Q s := by
  intro X h0 h1 ι a w hok
  refine wp_region_list ?_
  have := h ops.toList ops hc X h0 h1 ι a w hok
  have hq : ∀ e a w, lift X (fun x s => x = .normal ∧ Q .normal s) e a w → lift X Q e a w :=
    fun e a w ⟨x, ι, s, hx, ho, h1, h2⟩ => ⟨x, ι, s, hx, ho, by rw [h1]; exact h2⟩
  -- the post is met as it is asked
  have key : ∀ (lo : List Oper) (a : Act) (w : World), wpList P ops (lift X fun x s => x = .normal ∧ Q .normal s) lo a w → wpList P ops (lift X Q) lo a w := by
    intro lo
    induction lo with
    | nil => intro a w h; exact hq _ _ _ h
    | cons o r ih =>
      intro a w h
      unfold wpList at h ⊢
      split at h
      · rename_i hw
        rw [if_pos hw]
        rcases h with h | ⟨h1, a0, w0, h2⟩
        · refine .inl ?_
          unfold Oper.wp at h ⊢
          revert h
          generalize (execOp a.eval o).run P w = r0
          intro h
          cases r0 with
          | ok n w1 =>
            cases n with
            | value v => exact ih _ _ h
            | skip => exact ih _ _ h
            | defer d => exact ih _ _ h
            | enter f args =>
              refine Calls.mono h fun e w2 he => ?_
              cases e with
              | returned v => exact ih _ _ he
              | panicked c => exact hq _ _ _ he
              | outgrown => obtain ⟨a1, w1, h3⟩ := he; exact ⟨a1, w1, hq _ _ _ h3⟩
            | row row args => exact Rows.mono h fun v w2 he => ih _ _ he
            | _ => exact h.elim
          | halt x w1 =>
            cases x with
            | panic v => exact hq _ _ _ h
            | _ => exact h.elim
        · exact .inr ⟨h1, a0, w0, hq _ _ _ h2⟩
      · rename_i hw
        rw [if_neg hw]
        exact ih _ _ h
  exact key _ _ _ this

end
end Go.Am

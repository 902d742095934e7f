/- The abstract machine: regions that draw their order: any order is the one that is shown. -/
import Derived.Test.YtabenjpidndpeaaAmDraw2
import Derived.Orders
namespace Go.Am
set_option linter.unusedVariables false
set_option linter.unusedSimpArgs false

section
variable {P : Program} {n0 nt : Nat} {cf : Bool}

theorem One.wr {i : AI} {K : St → Prop} {s : St} (h : One P cf i K s) : WR P n0 nt [i] K s := by
  obtain ⟨dst, g, k⟩ := i
  have key : ∀ {C : AV → List AO → Prop}, (∀ v hp', C v hp' → K ⟨putE dst v s.env, hp'⟩) → Do P k s.env s.hp C → WR P n0 nt [⟨dst, none, k⟩] K s := by
    intro C hC hd
    cases k with
    | op o => obtain ⟨v, hp', h1, h2⟩ := hd; exact WR.op h1 (WR.nil (hC _ _ h2))
    | call f args =>
      obtain ⟨fid, first, caps, as, H, R, ρ, bs, h1, h2, h3, h4, h5, h6, h7, h8⟩ := hd
      exact WR.call ρ bs h1 h2 h3 h4 h5 h6 h7 fun v H' hr => WR.nil (hC _ _ (h8 v H' hr))
    | next it => exact hd.elim
  unfold One GDo at h
  cases g with
  | none => exact key (fun v hp' h => h.2) h
  | some p =>
    obtain ⟨d, b⟩ := p
    rcases h with ⟨h1, h2⟩ | ⟨h1, h2⟩
    · exact WR.take h1 (key (fun v hp' h => h.2) h2)
    · exact WR.skip h1 (WR.nil h2.2)

theorem wpOp_of_WR {X : Ctx} {ι : Nat → Loc} {s : St} {a : Act} {w : World} {ops : Array Oper} {K : St → Prop} {Q' : Exit → Act → World → Prop} {i : Nat} {o : Oper} {ai : AI} (hi : ops[i]? = some o)
    (hc : cAI P nt ops o = some ai) (h : WR P n0 nt [ai] K s) (h0 : X.n0 = n0) (h1 : X.nt = nt) (hok : Ok X ι s a w) :
    wpOp P ops Q' i (fun a w => ∃ ι s', Ok X ι s' a w ∧ K s') a w := by
  have h := h [o] ops (by simp only [cList, hc]) X h0 h1 ι a w hok
  have hno : ∀ e a w, lift X (fun x s => x = .normal ∧ K s) e a w → ∃ ι s', Ok X ι s' a w ∧ K s' := fun e a w ⟨x, ι, s, _, ho, _, hk⟩ => ⟨ι, s, ho, hk⟩
  have hbad : ∀ e a w, AX.of e = none → ¬ lift X (fun x s => x = .normal ∧ K s) e a w := fun e a w he ⟨x, _, _, hx, _⟩ => by rw [he] at hx; cases hx
  unfold wpOp
  rw [hi]
  unfold wpList at h
  simp only
  split at h
  · rename_i hw
    rw [if_pos hw]
    rcases h with h | ⟨_, a0, w0, h2⟩
    · refine .inl ?_
      unfold Oper.wp at h ⊢
      revert h
      generalize (execOp a.eval o).run P w = r0
      intro h
      cases r0 with
      | ok n w1 =>
        cases n with
        | value v => exact hno _ _ _ h
        | skip => exact hno _ _ _ h
        | defer d => exact hno _ _ _ h
        | enter f args =>
          refine Calls.mono h fun e w2 he => ?_
          cases e with
          | returned v => exact hno _ _ _ he
          | panicked c => exact absurd he (hbad _ _ _ rfl)
          | outgrown => obtain ⟨a1, w1, h3⟩ := he; exact absurd h3 (hbad _ _ _ rfl)
        | row row args => exact Rows.mono h fun v w2 he => hno _ _ _ he
        | _ => exact h.elim
      | halt x w1 =>
        cases x with
        | panic v => exact absurd h (hbad _ _ _ rfl)
        | _ => exact h.elim
    · exact absurd h2 (hbad _ _ _ rfl)
  · rename_i hw
    rw [if_neg hw]
    exact hno _ _ _ h

/-! ### Orders -/

/-- What an operation waits for. -/
def pre (ops : Array Oper) (i : Nat) : List Nat := match ops[i]? with | some o => (o.after.toList.filter (Region.binds .any)).map (·.on) | none => []

/-- All that is ahead of each operation. -/
def cloT (ops : Array Oper) : List (List Nat) := (List.range ops.size).foldl (fun T i => T ++ [((pre ops i) ++ (pre ops i).flatMap fun z => T.getD z []).eraseDups]) []

def okT (ops : Array Oper) (T : List (List Nat)) : Bool :=
  (List.range ops.size).all fun y => (pre ops y).all (fun z => decide (z < y)) && (T.getD y []).all fun x => (pre ops y).contains x || (pre ops y).any fun z => (T.getD z []).contains x

/-- Whether the order may stand for all. -/
def ordOk (ops : Array Oper) (T : List (List Nat)) (cf : Bool) (l : List AI) : List Nat → Bool
  | [] => true
  | x :: r => r.all (fun y => y != x && !(pre ops x).contains y && ((T.getD y []).contains x || (match l[x]?, l[y]? with | some a, some b => a.yields cf b | _, _ => false))) && ordOk ops T cf l r

def drawOk (ops : Array Oper) (cf : Bool) (l : List AI) (idx : List Nat) : Bool :=
  okT ops (cloT ops) && ordOk ops (cloT ops) cf l idx && decide (idx.length = ops.size) && idx.all (fun i => decide (i < ops.size)) && decide (l.length = ops.size) && (List.range ops.size).all fun i => idx.contains i

structure LInv (ops : Array Oper) (T : List (List Nat)) (cf : Bool) (l : List AI) (listed : Array Bool) (idx : List Nat) : Prop where
  un : ∀ i, listed.getD i true = false ↔ i ∈ idx
  lt : ∀ i ∈ idx, i < ops.size
  size : listed.size = ops.size
  closed : ∀ j, listed.getD j false = true → ∀ z ∈ pre ops j, listed.getD z false = true
  ord : ordOk ops T cf l idx = true

theorem cList_get {ops : Array Oper} : ∀ {lo : List Oper} {l : List AI}, cList P nt ops lo = some l → ∀ (i : Nat) (o : Oper), lo[i]? = some o → ∃ ai, l[i]? = some ai ∧ cAI P nt ops o = some ai
  | [], l, h, i, o, hi => by cases hi
  | o0 :: lo, l, h, i, o, hi => by
    simp only [cList] at h
    split at h
    · rename_i a0 l0 h1 h2
      cases h
      cases i with
      | zero => simp only [List.getElem?_cons_zero, Option.some.injEq] at hi ⊢; subst hi; exact ⟨_, rfl, h1⟩
      | succ i => simp only [List.getElem?_cons_succ] at hi ⊢; exact cList_get h2 i o hi
    · cases h

theorem before_listed {ops : Array Oper} {T : List (List Nat)} {listed : Array Bool} (hT : okT ops T = true) (hcl : ∀ j, listed.getD j false = true → ∀ z ∈ pre ops j, listed.getD z false = true) :
    ∀ (n y : Nat), y < n → y < ops.size → (∀ z ∈ pre ops y, listed.getD z false = true) → ∀ x ∈ T.getD y [], listed.getD x false = true := by
  intro n
  induction n with
  | zero => intro y h; omega
  | succ n ih =>
    intro y hy hys hpre x hx
    have h1 := List.all_eq_true.1 hT y (List.mem_range.2 hys)
    simp only [Bool.and_eq_true] at h1
    obtain ⟨h2, h3⟩ := h1
    have h4 := List.all_eq_true.1 h3 x hx
    simp only [Bool.or_eq_true] at h4
    rcases h4 with h4 | h4
    · exact hpre x (by simpa using h4)
    · obtain ⟨z, hz, hzx⟩ := List.any_eq_true.1 h4
      have hzy : z < y := of_decide_eq_true (List.all_eq_true.1 h2 z hz)
      exact ih z (by omega) (by omega) (hcl z (hpre z hz)) x (by simpa using hzx)

theorem ordOk_drop {ops : Array Oper} {T : List (List Nat)} {l : List AI} {y : Nat} {r : List Nat} : ∀ (p : List Nat), ordOk ops T cf l (p ++ y :: r) = true → ordOk ops T cf l (p ++ r) = true
  | [], h => by simp only [List.nil_append, ordOk, Bool.and_eq_true] at h ⊢; exact h.2
  | x :: p, h => by
    simp only [List.cons_append, ordOk, Bool.and_eq_true] at h ⊢
    refine ⟨?_, ordOk_drop p h.2⟩
    have h1 := h.1
    rw [List.all_eq_true] at h1 ⊢
    intro z hz
    exact h1 z (by rw [List.mem_append] at hz ⊢; rcases hz with h | h; exact .inl h; exact .inr (List.mem_cons_of_mem _ h))

theorem ordOk_pair {ops : Array Oper} {T : List (List Nat)} {l : List AI} {y : Nat} {r : List Nat} : ∀ (p : List Nat), ordOk ops T cf l (p ++ y :: r) = true →
    ∀ x ∈ p, y ≠ x ∧ ((T.getD y []).contains x = true ∨ ∃ a b, l[x]? = some a ∧ l[y]? = some b ∧ a.yields cf b = true)
  | [], h, x, hx => by cases hx
  | x0 :: p, h, x, hx => by
    simp only [List.cons_append, ordOk, Bool.and_eq_true] at h
    rcases List.mem_cons.1 hx with rfl | hx
    · have h1 := List.all_eq_true.1 h.1 y (by simp)
      simp only [Bool.and_eq_true, Bool.or_eq_true, bne_iff_ne] at h1
      refine ⟨h1.1.1, h1.2.imp id fun h2 => ?_⟩
      split at h2
      · rename_i a b ha hb; exact ⟨a, b, ha, hb, h2⟩
      · cases h2
    · exact ordOk_pair p h.2 x hx

theorem ordOk_nodup {ops : Array Oper} {T : List (List Nat)} {l : List AI} : ∀ {idx : List Nat}, ordOk ops T cf l idx = true → idx.Nodup
  | [], _ => List.nodup_nil
  | x :: r, h => by
    simp only [ordOk, Bool.and_eq_true] at h
    refine List.nodup_cons.2 ⟨fun hx => ?_, ordOk_nodup h.2⟩
    have h1 := List.all_eq_true.1 h.1 x hx
    simp at h1

theorem wpAny_tr {X : Ctx} {ops : Array Oper} {Q : AX → St → Prop} {T : List (List Nat)} {l : List AI} (hc : cList P nt ops ops.toList = some l) (hT : okT ops T = true)
    (h0 : X.n0 = n0) (h1 : X.nt = nt) :
    ∀ (n : Nat) (idx : List Nat) (listed : Array Bool) (ai : List AI) (ι : Nat → Loc) (s : St) (a : Act) (w : World), idx.length = n → LInv ops T cf l listed idx → (idx.mapM fun i => l[i]?) = some ai →
      Tr P cf ai (fun s => ∃ s0, Sam s0 s ∧ Q .normal s0) s → Ok X ι s a w → wpAny P .any ops (lift X Q) n listed a w := by
  have hK : ∀ s s', Sam s s' → (∃ s0, Sam s0 s ∧ Q .normal s0) → ∃ s0, Sam s0 s' ∧ Q .normal s0 := fun s s' hs ⟨s0, h1, h2⟩ => ⟨s0, ⟨h1.1.trans hs.1, fun t => (h1.2 t).trans (hs.2 t)⟩, h2⟩
  intro n
  induction n with
  | zero =>
    intro idx listed ai ι s a w hn inv hm ht hok
    have : idx = [] := List.eq_nil_of_length_eq_zero hn
    subst this
    simp only [List.mapM_nil, Option.pure_def, Option.some.injEq] at hm
    subst hm
    refine ⟨?_, ?_⟩
    · apply List.eq_nil_iff_forall_not_mem.2
      intro i hi
      exact absurd ((inv.un i).1 (mem_ready.1 hi).1) (by simp)
    · obtain ⟨s0, hs, hq⟩ := ht
      refine ⟨.normal, ι, s0, rfl, ?_, hq⟩
      refine ⟨hok.size, hok.defers, fun t ht => ?_, ?_, ?_, hok.base, ?_, hok.fresh, hok.world⟩
      · have h3 := hs.2 t
        rw [h3] at ht ⊢
        rw [hs.1]
        exact hok.env t ht
      · rw [hs.1]; exact hok.heap
      · rw [hs.1]; exact hok.dom
      · rw [hs.1]; exact hok.len
  | succ n ih =>
    intro idx listed ai ι s a w hn inv hm ht hok
    refine ⟨fun hr => ?_, fun i hi => ?_⟩
    · exfalso
      cases idx with
      | nil => simp at hn
      | cons x r =>
        have hlx : x < ops.size := inv.lt x (List.mem_cons_self ..)
        have : x ∈ Region.ready .any ops listed := by
          refine mem_ready.2 ⟨(inv.un x).2 (List.mem_cons_self ..), ops[x], by simp [hlx], fun e he hb => ?_⟩
          have hpx : e.on ∈ pre ops x := by
            unfold pre
            rw [Array.getElem?_eq_getElem hlx]
            exact List.mem_map.2 ⟨e, List.mem_filter.2 ⟨by simpa using he, hb⟩, rfl⟩
          have hlt : e.on < x := by
            have h2 := List.all_eq_true.1 hT x (List.mem_range.2 hlx)
            simp only [Bool.and_eq_true] at h2
            exact of_decide_eq_true (List.all_eq_true.1 h2.1 _ hpx)
          have hnot : e.on ∉ x :: r := by
            intro hmem
            rcases List.mem_cons.1 hmem with h3 | h3
            · omega
            · have h4 := inv.ord
              simp only [ordOk, Bool.and_eq_true] at h4
              have h5 := List.all_eq_true.1 h4.1 _ h3
              simp [hpx] at h5
          have h6 : ¬ listed.getD e.on true = false := fun h => hnot ((inv.un _).1 h)
          have h7 : e.on < listed.size := by rw [inv.size]; omega
          simp only [Array.getD_eq_getD_getElem?, Array.getElem?_eq_getElem h7, Option.getD_some] at h6 ⊢
          simpa using h6
        rw [hr] at this; cases this
    · obtain ⟨hun, o, ho, hall⟩ := mem_ready.1 hi
      have hmem := (inv.un i).1 hun
      obtain ⟨p, r, rfl⟩ := List.append_of_mem hmem
      have hnd := ordOk_nodup inv.ord
      have hil : i < ops.size := inv.lt i hmem
      have hpre : ∀ z ∈ pre ops i, listed.getD z false = true := by
        intro z hz
        unfold pre at hz
        rw [ho] at hz
        obtain ⟨e, he, rfl⟩ := List.mem_map.1 hz
        obtain ⟨he1, he2⟩ := List.mem_filter.1 he
        exact hall e (by simpa using he1) he2
      have hbef := before_listed hT inv.closed (i + 1) i (by omega) hil hpre
      -- the compiled operations
      obtain ⟨ax, hax, hcx⟩ := cList_get hc i o (by simpa using ho)
      rw [List.mapM_append, ] at hm
      simp only [List.mapM_cons, hax, Option.pure_def, Option.bind_eq_bind, Option.bind_some] at hm
      cases hp : (p.mapM fun i => l[i]?) with
      | none => rw [hp] at hm; simp at hm
      | some ap =>
        cases hr' : (r.mapM fun i => l[i]?) with
        | none => rw [hp, hr'] at hm; simp at hm
        | some ar =>
          rw [hp, hr'] at hm
          simp only [Option.bind_some, Option.some.injEq] at hm
          subst hm
          have hyl : ∀ x ∈ ap, x.yields cf ax = true := by
            intro x hx
            have : ∀ (p : List Nat) (ap : List AI), (p.mapM fun i => l[i]?) = some ap → ∀ x ∈ ap, ∃ j ∈ p, l[j]? = some x := by
              intro p
              induction p with
              | nil => intro ap h x hx; simp only [List.mapM_nil, Option.pure_def, Option.some.injEq] at h; subst h; cases hx
              | cons j p ih =>
                intro ap h x hx
                simp only [List.mapM_cons, Option.pure_def, Option.bind_eq_bind] at h
                cases hj : l[j]? with
                | none => rw [hj] at h; simp at h
                | some aj =>
                  rw [hj] at h
                  cases hp2 : (p.mapM fun i => l[i]?) with
                  | none => rw [hp2] at h; simp at h
                  | some ap2 =>
                    rw [hp2] at h
                    simp only [Option.bind_some, Option.some.injEq] at h
                    subst h
                    rcases List.mem_cons.1 hx with rfl | hx
                    · exact ⟨j, List.mem_cons_self .., hj⟩
                    · obtain ⟨j', h1, h2⟩ := ih ap2 hp2 x hx; exact ⟨j', List.mem_cons_of_mem _ h1, h2⟩
            obtain ⟨j, hj, hjx⟩ := this p ap hp x hx
            obtain ⟨hne, hor⟩ := ordOk_pair p inv.ord j hj
            rcases hor with h | ⟨a1, b1, ha, hb, hy⟩
            · exfalso
              have h2 := hbef j (by simpa using h)
              have h3 := (inv.un j).2 (List.mem_append_left _ hj)
              have h4 : j < listed.size := by rw [inv.size]; exact inv.lt j (List.mem_append_left _ hj)
              simp only [Array.getD_eq_getD_getElem?, Array.getElem?_eq_getElem h4, Option.getD_some] at h2 h3
              rw [h2] at h3; cases h3
            · rw [hjx] at ha; cases ha
              rw [hax] at hb; cases hb
              exact hy
          have ht2 := Tr.pull hK ap hyl ht
          refine wpOp_mono (fun a' w' ⟨ι', s', hok', ht'⟩ => ?_) (wpOp_of_WR (n0 := n0) (nt := nt) ho hcx (One.wr ht2) h0 h1 hok)
          refine ih (p ++ r) _ (ap ++ ar) ι' s' a' w' (by simp at hn ⊢; omega) ?_ (by rw [List.mapM_append, hp, hr']; rfl) ht' hok'
          have hsz : i < listed.size := by rw [inv.size]; exact hil
          have hnp : i ∉ p ∧ i ∉ r := by
            have := hnd
            rw [List.nodup_append] at this
            obtain ⟨_, h2, h3⟩ := this
            exact ⟨fun hp => h3 i hp i (List.mem_cons_self ..) rfl, (List.nodup_cons.1 h2).1⟩
          refine ⟨fun j => ?_, fun j hj => inv.lt j ?_, by simp [inv.size], fun j hj z hz => ?_, ordOk_drop p inv.ord⟩
          · by_cases hji : j = i
            · subst hji
              constructor
              · intro h; simp [hsz] at h
              · intro h; rw [List.mem_append] at h; rcases h with h | h; exact absurd h hnp.1; exact absurd h hnp.2
            · rw [getD_set_ne true (Ne.symm hji), inv.un j]
              simp [hji]
          · rw [List.mem_append] at hj ⊢; rcases hj with h | h; exact .inl h; exact .inr (List.mem_cons_of_mem _ h)
          · have up : ∀ z, listed.getD z false = true → (listed.setIfInBounds i true).getD z false = true := by
              intro z hz
              by_cases hzi : z = i
              · subst hzi; simp [hsz]
              · rw [getD_set_ne false (Ne.symm hzi)]; exact hz
            by_cases hji : j = i
            · subst hji; exact up z (hpre z hz)
            · rw [getD_set_ne false (Ne.symm hji)] at hj
              exact up z (inv.closed j hj z hz)

theorem Ok.drawn {X : Ctx} {ι : Nat → Loc} {s : St} {a : Act} {w : World} (h : Ok X ι s a w) : Ok X ι s a { w with drawn := w.drawn + 1 } :=
  ⟨h.size, h.defers, h.env, h.heap, h.dom, h.base, h.len, h.fresh, ⟨h.world.frame, h.world.grow, h.world.os, h.world.out, h.world.tape⟩⟩

/-- A region that draws its order: any order that may stand for all. -/
theorem WC.regionD {s : St} {id : Nat} {ops : Array Oper} {Q : AX → St → Prop} {l ai : List AI} (idx : List Nat) (cf : Bool) (hm : P.follows .mixedOrders = true) (hc : cList P nt ops ops.toList = some l)
    (hB : drawOk ops cf l idx = true) (hai : (idx.mapM fun i => l[i]?) = some ai) (h : Tr P cf ai (Q .normal) s) : WC P n0 nt (.region id ops true) Q s := by
  intro X h0 h1 ι a w hok
  simp only [drawOk, Bool.and_eq_true, decide_eq_true_eq, List.all_eq_true] at hB
  obtain ⟨⟨⟨⟨⟨hT, hO⟩, hlen⟩, hlt⟩, _⟩, hall⟩ := hB
  have mono : ∀ (l : List AI) (s : St), Tr P cf l (Q .normal) s → Tr P cf l (fun s => ∃ s0, Sam s0 s ∧ Q .normal s0) s := by
    intro l
    induction l with
    | nil => intro s h; exact ⟨s, ⟨rfl, fun _ => rfl⟩, h⟩
    | cons i l ih => intro s h; exact GDo.mono h fun v hp' ⟨h1, h2⟩ => ⟨h1, ih _ h2⟩
  refine wp_region_any hm (wpAny_tr (n0 := n0) hc hT h0 h1 ops.size idx _ ai ι s a _ hlen ?_ hai (mono _ _ h) hok.drawn)
  refine ⟨fun i => ?_, fun i hi => by simpa using hlt i hi, by simp, fun j hj => ?_, hO⟩
  · constructor
    · intro h
      have : i < ops.size := by
        rcases Nat.lt_or_ge i ops.size with h1 | h1
        · exact h1
        · simp [Array.getD_eq_getD_getElem?, h1] at h
      simpa using hall i (List.mem_range.2 this)
    · intro h
      have := hlt i h
      simp [Array.getD_eq_getD_getElem?, this]
  · exfalso
    rcases Nat.lt_or_ge j ops.size with h | h
    · simp [h] at hj
    · simp [h] at hj

end
end Go.Am

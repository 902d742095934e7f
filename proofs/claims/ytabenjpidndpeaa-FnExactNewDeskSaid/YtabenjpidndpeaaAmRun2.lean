/- The abstract machine run by itself: the interpreter and that it is right. -/
import Derived.Test.YtabenjpidndpeaaAmRun
namespace Go.Am
set_option linter.unusedVariables false
set_option linter.unusedSimpArgs false

/-- A function as it is read. -/
structure FI where
  nt : Nat
  code : AC
  res : List AR

def isUndef : AV → Bool
  | .v (.tuple a) => a.size == 0
  | _ => false
theorem isUndef_eq {a : AV} (h : isUndef a = true) : a = undefA := by
  unfold isUndef at h
  split at h
  · simp only [beq_iff_eq] at h
    rw [Array.eq_empty_of_size_eq_zero h]; rfl
  · cases h

def noTop : AV → Bool
  | .top => false
  | _ => true

/-- A call: what is handed, whether it may be, and what comes of it. -/
def callR (F : FuncId → List AV → List AO → Option (AV × List AO)) (cf : Bool) (i : AI) (f : Opd) (args : List Opd) (s : St) : Option St :=
  match ev s.env f with
  | .fn fid first caps =>
    cond ((args.all fun x => match ev s.env x with | .top => false | _ => true) && allUnder s.hp && AV.undersB s.hp.length (first ++ args.map (ev s.env) ++ caps))
      (match F fid (first ++ args.map (ev s.env) ++ caps) s.hp with
        | some (v, H') => cond (!cf || goesOn s.hp (after ⟨[], s.hp⟩ (idR s.hp.length) (idB s.hp.length) s.hp H'))
            (some ⟨putE i.dst (v.ren ((idR s.hp.length).ext s.hp.length s.hp.length)) s.env, after ⟨[], s.hp⟩ (idR s.hp.length) (idB s.hp.length) s.hp H'⟩) none
        | none => none) none
  | _ => none

def nextR (i : AI) (it : Opd) (s : St) : Option St :=
  match ev s.env it with
  | .ptr r 0 => match nexts s.hp r with
    | some (m, es, clock, since, seen) => match es.filter fun e => !seen.contains e.born with
      | [] => some ⟨putE i.dst (.tup [.bool false]) s.env, s.hp⟩
      | [e] => some ⟨putE i.dst (.tup [.bool true, e.key, e.val]) s.env, s.hp.set r (.miter (some m) since (seen ++ [e.born]) clock)⟩
      | _ => none
    | none => none
  | _ => none

def stepR (F : FuncId → List AV → List AO → Option (AV × List AO)) (dr cf : Bool) (i : AI) (s : St) : Option St :=
  match i.k with
  | .op o => match astep s.env s.hp o with
    | some (v, hp') => some ⟨putE i.dst v s.env, hp'⟩
    | none => none
  | .call f args => callR F cf i f args s
  | .next it => cond dr none (nextR i it s)

def runL (F : FuncId → List AV → List AO → Option (AV × List AO)) (dr cf : Bool) : List AI → St → Option St
  | [], s => some s
  | i :: l, s => match i.guard with
    | none => match stepR F dr cf i s with
      | some s' => runL F dr cf l s'
      | none => none
    | some (d, b) => match get s.env d with
      | .bool t => cond (t == b) (match stepR F dr cf i s with | some s' => runL F dr cf l s' | none => none) (runL F dr cf l ⟨putE i.dst undefA s.env, s.hp⟩)
      | a => cond (isUndef a) (runL F dr cf l ⟨putE i.dst undefA s.env, s.hp⟩) none

def noRo (l : List AO) : Bool := l.all fun o => match o with | .ro _ => false | _ => true

mutual
def runC (T : FuncId → Option FI) : Nat → AC → St → Option (AX × St)
  | 0, _, _ => none
  | n + 1, c, s => match c with
    | .skip => some (.normal, s)
    | .ret => some (.ret, s)
    | .exit id => some (.exit id, s)
    | .region l => match runL (runF T n) false false l s with | some s' => some (.normal, s') | none => none
    | .draw cf l => match runL (runF T n) true cf l s with | some s' => some (.normal, s') | none => none
    | .seq a b => match runC T n a s with
      | some (.normal, s') => runC T n b s'
      | r => r
    | .cond c a b => match get s.env c with
      | .bool t => cond t (runC T n a s) (runC T n b s)
      | _ => none
    | .condc _ a => runC T n a s
    | .block id a => match runC T n a s with
      | some (.exit id', s') => if id' = id then some (.normal, s') else some (.exit id', s')
      | r => r
    | .loop a => match runC T n a s with
      | some (.normal, s') => runC T n (.loop a) s'
      | r => r
    | .scope a => runC T n a s
def runF (T : FuncId → Option FI) : Nat → FuncId → List AV → List AO → Option (AV × List AO)
  | 0, _, _, _ => none
  | n + 1, f, args, hp => match T f with
    | some fi => cond (decide (args.length ≤ fi.nt) && noRo hp) (match runC T n fi.code ⟨enumE 0 args, hp⟩ with
        | some (.ret, s) | some (.normal, s) => match retv s fi.res with
          | some rs => cond (noTop (retV rs) && noRo s.hp && decide (hp.length ≤ s.hp.length)) (some (retV rs, s.hp)) none
          | none => none
        | _ => none) none
    | none => none
end

/-- What the table tells is what is read of the program. -/
def Told (P : Program) (T : FuncId → Option FI) : Prop :=
  ∀ f fi, T f = some fi → ∃ fn code, P.funcs[f]? = some fn ∧ fn.body = some code ∧ (fn.name == "runtime.NumGoroutine") = false ∧ fn.ntmps = fi.nt ∧ cCode P fi.nt code = some fi.code ∧ cRes P fn.results.toList = some fi.res

/-- That a run is right. -/
def FOk (P : Program) (F : FuncId → List AV → List AO → Option (AV × List AO)) : Prop :=
  ∀ f args hp v hp', F f args hp = some (v, hp') → allUnder hp = true → Fn P f args hp fun v' H' => v' = v ∧ H' = hp'

/-- A function's contract where its own heap is all there is. -/
theorem Fn.whole {P : Program} {f : FuncId} {fi : FI} {fn : Func} {code : Code} {args : List AV} {hp : List AO} {R : AV → List AO → Prop} (hm : P.follows .mixedOrders = true)
    (hf : P.funcs[f]? = some fn) (hb : fn.body = some code) (hname : (fn.name == "runtime.NumGoroutine") = false) (hnt : fn.ntmps = fi.nt) (hn : args.length ≤ fi.nt) (hc : cCode P fi.nt code = some fi.code)
    (hr : cRes P fn.results.toList = some fi.res) (h : WA P hp.length fi.nt fi.code (fun x s => (x = .ret ∨ x = .normal) ∧ ∃ rs, retv s fi.res = some rs ∧ retV rs ≠ .top ∧ R (retV rs) s.hp ∧
      (∀ (j : Nat) (l : List AV), s.hp[j]? = some (AO.ro l) → ∃ l', hp[j]? = some (AO.ro l'))) ⟨enumE 0 args, hp⟩) : Fn P f args hp R := by
  refine ⟨⟨fn, hf, by rw [hb]; rfl, hname⟩, fun ι w hh hau => ?_⟩
  let X : Ctx := { w0 := w, ι0 := ι, n0 := hp.length, D := fun b => (∃ i, AtW ι hp i b) ∨ w.heap.size ≤ b, nt := fn.ntmps }
  have hal : (gams ι args).toArray.size = args.length := by simp [gams_length]
  have hok : Ok X ι ⟨enumE 0 args, hp⟩ { tmps := (gams ι args).toArray ++ Array.replicate (fn.ntmps - (gams ι args).toArray.size) undef, defers := [] } w := by
    refine ⟨?_, rfl, fun t ht => ?_, hh, fun j b hj => .inl ⟨j, hj⟩, fun _ _ => rfl, Nat.le_refl _, fun b hb => .inr hb, WOk.refl X⟩
    · simp only [Array.size_append, Array.size_replicate, hal]; show _ = fn.ntmps; omega
    · obtain ⟨v, h1, _, h2⟩ := get_enumE args 0 t ht
      rw [Nat.sub_zero] at h1
      rw [h2]
      refine ⟨unders_get hau h1, ?_⟩
      have hlt : t < args.length := (List.getElem?_eq_some_iff.1 h1).1
      rw [Array.getElem?_append_left (by rw [hal]; exact hlt), List.getElem?_toArray, gams_get, h1]
      rfl
  refine calls_of_wp hf hb (wp_mono (h hm code hc X rfl hnt ι _ w hok) ?_)
  rintro e a w' ⟨x, ι', s, hx, hok', hxr, rs, h1, h2, h3, h4⟩
  obtain ⟨hrun, hru⟩ := results_run hok' hr h1
  have hend : a.defers = [] ∧ ∃ v, (results fn a.tmps).run P w' = .ok v w' ∧ Post ι hp w R (.returned v) w' :=
    ⟨hok'.defers, _, hrun, retV rs, s.hp, ι', rfl, h3, h2, hru, hok'.heap, hok'.len, fun j hj => hok'.base j hj, fun j b hj => hok'.dom j b hj, h4,
      fun b hb hno => hok'.world.frame b hb (fun hd => hd.elim hno (fun h => by have : w.heap.size ≤ b := h; omega)), hok'.world.grow, hok'.world.os, hok'.world.out, hok'.world.tape⟩
  cases e <;> simp only [AX.of, Option.some.injEq, reduceCtorEq] at hx <;> subst hx
  · exact hend
  · rcases hxr with h | h <;> cases h
  · exact hend

section
variable {P : Program} {F : FuncId → List AV → List AO → Option (AV × List AO)} {n0 nt : Nat}

theorem callR_do (hF : FOk P F) {cf : Bool} {i : AI} {f : Opd} {args : List Opd} {s s' : St} (h : callR F cf i f args s = some s') :
    ∃ fid first caps H', ev s.env f = .fn fid first caps ∧ (∃ v, Fn P fid (first ++ args.map (ev s.env) ++ caps) s.hp (fun v' H'' => v' = v ∧ H'' = H') ∧ s' = ⟨putE i.dst (v.ren ((idR s.hp.length).ext s.hp.length s.hp.length)) s.env, after ⟨[], s.hp⟩ (idR s.hp.length) (idB s.hp.length) s.hp H'⟩) ∧
      (args.all fun x => match ev s.env x with | .top => false | _ => true) = true ∧ allUnder s.hp = true ∧ AV.unders s.hp.length (first ++ args.map (ev s.env) ++ caps) ∧ (cf = true → ∃ x, s'.hp = s.hp ++ x) := by
  unfold callR at h
  split at h
  · rename_i fid first caps hf
    cases hb : ((args.all fun x => match ev s.env x with | .top => false | _ => true) && allUnder s.hp && AV.undersB s.hp.length (first ++ args.map (ev s.env) ++ caps)) with
    | false => rw [hb] at h; cases h
    | true =>
      rw [hb] at h
      simp only [Bool.and_eq_true] at hb
      simp only [cond_true] at h
      split at h
      · rename_i v H' hr
        cases hg : (!cf || goesOn s.hp (after ⟨[], s.hp⟩ (idR s.hp.length) (idB s.hp.length) s.hp H')) with
        | false => rw [hg] at h; cases h
        | true =>
          rw [hg] at h
          simp only [cond_true, Option.some.injEq] at h
          subst h
          refine ⟨fid, first, caps, H', hf, ⟨v, hF _ _ _ _ _ hr hb.1.2, rfl⟩, hb.1.1, hb.1.2, undersB_ok _ _ hb.2, fun hcf => ?_⟩
          subst hcf
          exact goesOn_ex _ _ (by simpa using hg)
      · cases h
  · cases h

theorem stepR_wr (hF : FOk P F) {cf : Bool} {i : AI} {l : List AI} {K : St → Prop} {s s' : St} (h : stepR F false cf i s = some s') (hg : i.guard = none) (hk : WR P n0 nt l K s') : WR P n0 nt (i :: l) K s := by
  obtain ⟨dst, g, k⟩ := i
  have hg : g = none := hg
  subst hg
  cases k with
  | op o =>
    simp only [stepR] at h
    split at h
    · rename_i v hp' hs; cases h; exact WR.op hs hk
    · cases h
  | call f args =>
    simp only [stepR] at h
    obtain ⟨fid, first, caps, H', hf, ⟨v, hfn, rfl⟩, hnt, hau, has, _⟩ := callR_do hF h
    exact WR.call (idR s.hp.length) (idB s.hp.length) hf hfn hnt (rens_idR _ _ has).symm (foot_id hau) (allUnder_ok hau) has fun v' H'' ⟨e1, e2⟩ => by subst e1; subst e2; exact hk
  | next it =>
    simp only [stepR, cond_false, nextR] at h
    split at h
    · rename_i r hr
      split at h
      · rename_i m es clock since seen hn
        have hmem : ∀ e ∈ es, e.born ∉ seen → e ∈ es.filter fun e => !seen.contains e.born := fun e he hs => List.mem_filter.2 ⟨he, by simpa using hs⟩
        refine WR.next hr hn (fun hall => ?_) fun e he hs => ?_
        · split at h
          · cases h; exact hk
          · rename_i e0 hl
            exfalso
            have : e0 ∈ es.filter fun e => !seen.contains e.born := by rw [hl]; simp
            obtain ⟨q1, q2⟩ := List.mem_filter.1 this
            have := hall e0 q1
            simp [this] at q2
          · cases h
        · have := hmem e he hs
          split at h
          · rename_i hl; rw [hl] at this; cases this
          · rename_i e0 hl
            rw [hl] at this
            cases List.mem_singleton.1 this
            cases h; exact hk
          · cases h
      · cases h
    · cases h

theorem stepR_one (hF : FOk P F) {cf : Bool} {i : AI} {K : St → Prop} {s s' : St} (h : stepR F true cf i s = some s') (hg : i.guard = none) (hk : K s') : One P cf i K s := by
  obtain ⟨dst, g, k⟩ := i
  have hg : g = none := hg
  subst hg
  cases k with
  | op o =>
    simp only [stepR] at h
    split at h
    · rename_i v hp' hs; cases h; exact ⟨v, hp', hs, fun ha => adds_hp ha hs, hk⟩
    · cases h
  | call f args =>
    simp only [stepR] at h
    obtain ⟨fid, first, caps, H', hf, ⟨v, hfn, rfl⟩, hnt, hau, has, hadd⟩ := callR_do hF h
    exact ⟨fid, first, caps, _, _, _, idR s.hp.length, idB s.hp.length, hf, hfn, hnt, (rens_idR _ _ has).symm, foot_id hau, allUnder_ok hau, has, fun v' H'' ⟨e1, e2⟩ => by subst e1; subst e2; exact ⟨fun hc => hadd hc, hk⟩⟩
  | next it => simp [stepR] at h

theorem runL_wr (hF : FOk P F) {cf : Bool} {K : St → Prop} : ∀ (l : List AI) {s s' : St}, runL F false cf l s = some s' → K s' → WR P n0 nt l K s
  | [], s, s', h, hk => by simp only [runL, Option.some.injEq] at h; subst h; exact WR.nil hk
  | ⟨dst, g, k⟩ :: l, s, s', h, hk => by
    simp only [runL] at h
    cases g with
    | none =>
      simp only at h
      split at h
      · rename_i s1 hs; exact stepR_wr hF hs rfl (runL_wr hF l h hk)
      · cases h
    | some p =>
      obtain ⟨d, b⟩ := p
      simp only at h
      split at h
      · rename_i t ht
        cases hq : (t == b) with
        | true =>
          rw [hq] at h
          simp only [cond_true] at h
          have e : t = b := by simpa using hq
          subst e
          split at h
          · rename_i s1 hs; exact WR.take ht (stepR_wr hF (i := ⟨dst, none, k⟩) (by cases k <;> exact hs) rfl (runL_wr hF l h hk))
          · cases h
        | false =>
          rw [hq] at h
          simp only [cond_false] at h
          have e : t = !b := by cases t <;> cases b <;> simp_all
          subst e
          exact WR.skip (.inl ht) (runL_wr hF l h hk)
      · cases hu : isUndef (get s.env d) with
        | false => rw [hu] at h; cases h
        | true => rw [hu] at h; exact WR.skip (.inr (isUndef_eq hu)) (runL_wr hF l h hk)

theorem runL_tr (hF : FOk P F) {cf : Bool} {K : St → Prop} : ∀ (l : List AI) {s s' : St}, runL F true cf l s = some s' → K s' → Tr P cf l K s
  | [], s, s', h, hk => by simp only [runL, Option.some.injEq] at h; subst h; exact hk
  | ⟨dst, g, k⟩ :: l, s, s', h, hk => by
    simp only [runL] at h
    cases g with
    | none =>
      simp only at h
      split at h
      · rename_i s1 hs; exact stepR_one hF hs rfl (runL_tr hF l h hk)
      · cases h
    | some p =>
      obtain ⟨d, b⟩ := p
      simp only at h
      split at h
      · rename_i t ht
        cases hq : (t == b) with
        | true =>
          rw [hq] at h
          simp only [cond_true] at h
          have e : t = b := by simpa using hq
          subst e
          split at h
          · rename_i s1 hs; exact Tr.take ht (stepR_one hF (i := ⟨dst, none, k⟩) (by cases k <;> exact hs) rfl (runL_tr hF l h hk))
          · cases h
        | false =>
          rw [hq] at h
          simp only [cond_false] at h
          have e : t = !b := by cases t <;> cases b <;> simp_all
          subst e
          exact Tr.skip (.inl ht) (runL_tr hF l h hk)
      · cases hu : isUndef (get s.env d) with
        | false => rw [hu] at h; cases h
        | true => rw [hu] at h; exact Tr.skip (.inr (isUndef_eq hu)) (runL_tr hF l h hk)

/-- So many rounds at most. -/
def LR (P : Program) (n0 nt : Nat) (c : AC) (Q : AX → St → Prop) : Nat → St → Prop
  | 0, _ => False
  | k + 1, s => WA P n0 nt c (AX.then (LR P n0 nt c Q k) Q) s

theorem WA.rounds {c : AC} {Q : AX → St → Prop} {s : St} (n : Nat) (h : LR P n0 nt c Q n s) : WA P n0 nt (.loop c) Q s := fun hm code hc => by
  obtain ⟨x, rfl, hx⟩ := (cCode_un hc).2.1 c rfl
  intro X h0 h1 ι a w hok
  intro b k cs
  have key : ∀ n s, LR P n0 nt c Q n s → ∀ ι a w, Ok X ι s a w →
      ∃ e a' w', lift X Q e a' w' ∧ Arrives P (lone (b.at a (.code x :: .inLoop x :: k)) cs w) b k cs e a' w' := by
    intro n
    induction n with
    | zero => intro s h; exact h.elim
    | succ n ih =>
      intro s h ι a w hok
      obtain ⟨e, a₁, w₁, ⟨y, ι₁, s₁, hy, ho, hs⟩, harr⟩ := h hm x hx X h0 h1 ι a w hok b (.inLoop x :: k) cs
      cases e <;> simp only [AX.of, Option.some.injEq, reduceCtorEq] at hy <;> subst hy
      · obtain ⟨e₂, a₂, w₂, hq₂, harr₂⟩ := ih s₁ hs _ a₁ w₁ ho
        exact ⟨e₂, a₂, w₂, hq₂, .of_steps (Steps.trans harr (.one step_inLoop)) harr₂⟩
      · exact ⟨_, a₁, w₁, ⟨_, ι₁, s₁, rfl, ho, hs⟩, .pass (x := .inLoop x) rfl (fun _ _ => .inl (by simp)) harr⟩
      · exact ⟨_, a₁, w₁, ⟨_, ι₁, s₁, rfl, ho, hs⟩, .pass (x := .inLoop x) rfl (fun _ _ => .inl (by simp)) harr⟩
  obtain ⟨e, a', w', hq, harr⟩ := key n s h ι a w hok
  exact ⟨e, a', w', hq, .of_steps (.one step_loop) harr⟩

theorem run_ok (hm : P.follows .mixedOrders = true) {T : FuncId → Option FI} (hT : Told P T) : ∀ n, FOk P (runF T n) ∧
    (∀ (n0 nt : Nat) (c : AC) (s : St) (x : AX) (s' : St) (Q : AX → St → Prop), runC T n c s = some (x, s') → Q x s' → WA P n0 nt c Q s) ∧
    (∀ (n0 nt : Nat) (c : AC) (s : St) (x : AX) (s' : St) (Q : AX → St → Prop), runC T n (.loop c) s = some (x, s') → Q x s' → ∃ k, LR P n0 nt c Q k s) := by
  intro n
  induction n with
  | zero => exact ⟨fun f args hp v hp' h => by simp [runF] at h, fun n0 nt c s x s' Q h => by simp [runC] at h, fun n0 nt c s x s' Q h => by simp [runC] at h⟩
  | succ n ih =>
    obtain ⟨ihF, ihC, ihL⟩ := ih
    have hloop : ∀ (n0 nt : Nat) (c : AC) (s : St) (x : AX) (s' : St) (Q : AX → St → Prop), runC T (n + 1) (.loop c) s = some (x, s') → Q x s' → ∃ k, LR P n0 nt c Q k s := by
      intro n0 nt a s x s' Q h hq
      simp only [runC] at h
      split at h
      · rename_i s1 hs
        obtain ⟨k, hk⟩ := ihL n0 nt a s1 x s' Q h hq
        exact ⟨k + 1, ihC _ _ _ _ _ _ _ hs hk⟩
      · rename_i r hr
        refine ⟨1, ihC _ _ _ _ _ _ _ h ?_⟩
        cases x
        · exact absurd h (hr s')
        · exact hq
        · exact hq
    refine ⟨fun f args hp v hp' h hu => ?_, fun n0 nt c s x s' Q h hq => ?_, hloop⟩
    · simp only [runF] at h
      split at h
      · rename_i fi hfi
        obtain ⟨fn, code, h1, h2, h3, h4, h5, h6⟩ := hT f fi hfi
        cases hb : (decide (args.length ≤ fi.nt) && noRo hp) with
        | false => rw [hb] at h; cases h
        | true =>
          rw [hb] at h
          simp only [Bool.and_eq_true, decide_eq_true_eq] at hb
          simp only [cond_true] at h
          have key : ∀ (x : AX) (s : St), (x = .ret ∨ x = .normal) → runC T n fi.code ⟨enumE 0 args, hp⟩ = some (x, s) → (match retv s fi.res with
              | some rs => cond (noTop (retV rs) && noRo s.hp && decide (hp.length ≤ s.hp.length)) (some (retV rs, s.hp)) none
              | none => none) = some (v, hp') → Fn P f args hp fun v' H' => v' = v ∧ H' = hp' := by
            intro x s hx hrun hr
            split at hr
            · rename_i rs hrs
              cases hb2 : (noTop (retV rs) && noRo s.hp && decide (hp.length ≤ s.hp.length)) with
              | false => rw [hb2] at hr; cases hr
              | true =>
                rw [hb2] at hr
                simp only [Bool.and_eq_true, decide_eq_true_eq] at hb2
                simp only [cond_true, Option.some.injEq, Prod.mk.injEq] at hr
                refine Fn.whole hm h1 h2 h3 h4 hb.1 h5 h6 (ihC _ _ _ _ _ _ _ hrun ⟨hx, rs, hrs, fun e => ?_, ⟨hr.1, hr.2⟩, fun j l hj => ?_⟩)
                · rw [e] at hb2; simp [noTop] at hb2
                · have := List.all_eq_true.1 hb2.1.2 _ (List.mem_of_getElem? hj)
                  simp at this
            · cases hr
          split at h
          · rename_i s hrun; exact key _ s (.inl rfl) hrun h
          · rename_i s hrun; exact key _ s (.inr rfl) hrun h
          · cases h
      · cases h
    · cases c with
      | skip => simp only [runC, Option.some.injEq, Prod.mk.injEq] at h; obtain ⟨rfl, rfl⟩ := h; exact WA.skip hq
      | ret => simp only [runC, Option.some.injEq, Prod.mk.injEq] at h; obtain ⟨rfl, rfl⟩ := h; exact WA.ret hq
      | exit id => simp only [runC, Option.some.injEq, Prod.mk.injEq] at h; obtain ⟨rfl, rfl⟩ := h; exact WA.exit hq
      | region l =>
        simp only [runC] at h
        split at h
        · rename_i s1 hs; simp only [Option.some.injEq, Prod.mk.injEq] at h; obtain ⟨rfl, rfl⟩ := h
          exact WA.region (runL_wr ihF l hs hq)
        · cases h
      | draw cf l =>
        simp only [runC] at h
        split at h
        · rename_i s1 hs; simp only [Option.some.injEq, Prod.mk.injEq] at h; obtain ⟨rfl, rfl⟩ := h
          exact WA.draw (runL_tr ihF l hs hq)
        · cases h
      | seq a b =>
        simp only [runC] at h
        split at h
        · rename_i s1 hs; exact WA.seq (ihC _ _ _ _ _ _ _ hs (ihC _ _ _ _ _ _ _ h hq))
        · rename_i r hr
          refine WA.seq (ihC _ _ _ _ _ _ _ h ?_)
          cases x
          · exact absurd h (hr s')
          · exact hq
          · exact hq
      | cond c a b =>
        simp only [runC] at h
        split at h
        · rename_i t ht
          refine WA.cond ht (fun e => ?_) fun e => ?_ <;> subst e
          · exact ihC _ _ _ _ _ _ _ h hq
          · exact ihC _ _ _ _ _ _ _ h hq
        · cases h
      | condc t a => simp only [runC] at h; exact WA.condc (ihC _ _ _ _ _ _ _ h hq)
      | block id a =>
        simp only [runC] at h
        split at h
        · rename_i id' s1 hs
          refine WA.block (ihC _ _ _ _ _ _ _ hs ?_)
          simp only [AX.inBlock]
          split at h <;> rename_i e <;> simp only [Option.some.injEq, Prod.mk.injEq] at h <;> obtain ⟨rfl, rfl⟩ := h
          · rw [if_pos e]; exact hq
          · rw [if_neg e]; exact hq
        · rename_i r hr
          refine WA.block (ihC _ _ _ _ _ _ _ h ?_)
          cases x
          · exact hq
          · exact absurd h (hr _ s')
          · exact hq
      | loop a => obtain ⟨k, hk⟩ := hloop n0 nt a s x s' Q h hq; exact WA.rounds k hk
      | scope a => simp only [runC] at h; exact WA.scope (ihC _ _ _ _ _ _ _ h hq)

end
end Go.Am

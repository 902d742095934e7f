/- The abstract machine: a function's contract from its body; the steps of a range over a map. -/
import Derived.Test.YtabenjpidndpeaaAmFn
namespace Go.Am
set_option linter.unusedVariables false
set_option linter.unusedSimpArgs false

def enumE : Nat → List AV → Env
  | _, [] => []
  | i, a :: l => (i, a) :: enumE (i + 1) l

theorem get_enumE : ∀ (l : List AV) (i t : Nat), get (enumE i l) t ≠ .top → ∃ a, l[t - i]? = some a ∧ i ≤ t ∧ get (enumE i l) t = a
  | [], i, t, h => absurd rfl h
  | a :: l, i, t, h => by
    simp only [enumE, get_put] at h ⊢
    by_cases e : i = t
    · subst e; simp only [if_true] at h ⊢; exact ⟨a, by simp, Nat.le_refl _, rfl⟩
    · simp only [e, if_false] at h ⊢
      obtain ⟨b, h1, h2, h3⟩ := get_enumE l (i + 1) t h
      refine ⟨b, ?_, by omega, h3⟩
      rw [show t - i = (t - (i + 1)) + 1 from by omega]; simpa using h1

/-- What a function hands back. -/
def Ret (ars : List AR) (H : List AO) (R : AV → List AO → Prop) (s : St) : Prop :=
  ∃ rs v H' ρ, retv s ars = some rs ∧ retV rs = v.ren ρ ∧ v ≠ .top ∧ v.under H'.length ∧ Sim H.length ⟨[], s.hp⟩ ⟨[], H'⟩ ρ ∧ R v H' ∧ (∀ (j : Nat) (l : List AV), H'[j]? = some (AO.ro l) → ∃ l', H[j]? = some (AO.ro l'))

section
variable {P : Program} {X : Ctx} {ι : Nat → Loc} {s : St} {a : Act} {w : World}

theorem load1_ok (hok : Ok X ι s a w) {t : Nat} {v : AV} {hp' : List AO} (hs : astep s.env s.hp (.load1 (.t t)) = some (v, hp')) :
    v.under s.hp.length ∧ ∃ ad, a.tmps.getD t undef = .pointer (some ad) ∧ w.cell? ad = some (gam ι v) := by
  simp only [astep, ev] at hs
  split at hs
  · rename_i b off hx
    split at hs
    · rename_i l hl
      split at hs
      · rename_i u hu
        simp only [Option.some.injEq, Prod.mk.injEq] at hs
        obtain ⟨rfl, rfl⟩ := hs
        obtain ⟨_, hun, hc⟩ := rd_cell hok.heap hl hu
        have he := (hok.env t (by rw [hx]; simp)).2
        rw [hx] at he
        exact ⟨hun, _, by simp [Array.getD_eq_getD_getElem?, he, gam], hc⟩
      · cases hs
    · cases hs
  · cases hs

theorem loadN_ok (hok : Ok X ι s a w) {t n : Nat} {v : AV} {hp' : List AO} {ty : TypeId} {d : TypeDesc} (hd : P.underlying ty = some d) (hg : isAggD d = true) (hn : tsize P ty = some n)
    (hs : astep s.env s.hp (.loadN n (.t t)) = some (v, hp')) :
    v.under s.hp.length ∧ ∃ ad, a.tmps.getD t undef = .pointer (some ad) ∧ (loadVar ty ad).run P w = .ok (gam ι v) w := by
  simp only [astep, ev] at hs
  split at hs
  · rename_i b off hx
    split at hs
    · rename_i l hl
      obtain ⟨hlen, hs⟩ := chk_some hs
      simp only [Option.some.injEq, Prod.mk.injEq] at hs
      obtain ⟨rfl, rfl⟩ := hs
      have he := (hok.env t (by rw [hx]; simp)).2
      rw [hx] at he
      exact ⟨unders_take (unders_drop (rd_under hok.heap hl)), _, by simp [Array.getD_eq_getD_getElem?, he, gam], loadN_run hok hd hg hn hl hlen⟩
    · cases hs
  · cases hs

theorem retv_run (hok : Ok X ι s a w) (g : ResultVar → Sem Value) (hg1 : ∀ t, g (.tmp t) = pure (a.tmps.getD t undef)) (hg2 : ∀ t ty, g (.cell t ty) = (do loadVar ty (← asAddr (a.tmps.getD t undef)))) :
    ∀ (rv : List ResultVar) (ars : List AR) (rs : List AV), cRes P rv = some ars → retv s ars = some rs → (rv.mapM g).run P w = .ok (gams ι rs) w ∧ AV.unders s.hp.length rs
  | [], ars, rs, hc, hr => by
    simp only [cRes, Option.some.injEq] at hc
    subst hc
    simp only [retv, Option.some.injEq] at hr
    subst hr
    exact ⟨rfl, trivial⟩
  | .tmp t :: rv, ars, rs, hc, hr => by
    simp only [cRes] at hc
    obtain ⟨l, hl, rfl⟩ := map_some' hc
    simp only [retv] at hr
    split at hr
    · cases hr
    · rename_i v l' h3 h1
      simp only [Option.some.injEq] at hr
      subst hr
      have hnt : get s.env t ≠ .top := fun e => h1 e
      obtain ⟨h4, h5⟩ := hok.env t hnt
      obtain ⟨h6, h7⟩ := retv_run hok g hg1 hg2 rv l l' hl h3
      refine ⟨?_, h4, h7⟩
      rw [List.mapM_cons]
      simp only [Sem.run_bind, hg1, Sem.run_pure, Result.andThen_ok, h6]
      simp [Array.getD_eq_getD_getElem?, h5, gams]
    · cases hr
  | .cell t ty :: rv, ars, rs, hc, hr => by
    simp only [cRes] at hc
    split at hc
    · rename_i d hd
      split at hc
      · rename_i hag
        split at hc
        · rename_i n l hn hl
          simp only [Option.some.injEq] at hc
          subst hc
          simp only [retv] at hr
          split at hr
          · rename_i v _ l' h1 h2
            simp only [Option.some.injEq] at hr
            subst hr
            obtain ⟨h3, ad, h4, h5⟩ := loadN_ok hok hd hag hn h1
            obtain ⟨h6, h7⟩ := retv_run hok g hg1 hg2 rv l l' hl h2
            refine ⟨?_, h3, h7⟩
            rw [List.mapM_cons]
            simp only [Sem.run_bind, hg2, h4, asAddr, Sem.run_pure, Result.andThen_ok, h5, h6, gams]
          · cases hr
        · cases hc
      · rename_i hag
        obtain ⟨l, hl, rfl⟩ := map_some' hc
        simp only [retv] at hr
        split at hr
        · rename_i v _ l' h1 h2
          simp only [Option.some.injEq] at hr
          subst hr
          obtain ⟨h3, ad, h4, h5⟩ := load1_ok hok h1
          obtain ⟨h6, h7⟩ := retv_run hok g hg1 hg2 rv l l' hl h2
          refine ⟨?_, h3, h7⟩
          rw [List.mapM_cons]
          simp only [Sem.run_bind, hg2, h4, asAddr, Sem.run_pure, Result.andThen_ok, r_load1 hd (by simpa using hag) h5, h6, gams]
        · cases hr
    · cases hc

theorem results_run (hok : Ok X ι s a w) {fn : Func} {ars : List AR} {rs : List AV} (hc : cRes P fn.results.toList = some ars) (hr : retv s ars = some rs) :
    (results fn a.tmps).run P w = .ok (gam ι (retV rs)) w ∧ (retV rs).under s.hp.length := by
  obtain ⟨h1, h2⟩ := retv_run (P := P) hok (fun | .tmp t => pure (a.tmps.getD t undef) | .cell u t => do loadVar t (← asAddr (a.tmps.getD u undef))) (fun _ => rfl) (fun _ _ => rfl) fn.results.toList ars rs hc hr
  refine ⟨?_, ?_⟩
  · unfold results
    rw [Array.mapM_eq_mapM_toList]
    simp only [Sem.run_bind, Sem.run_map]
    erw [h1]
    simp only [Result.andThen_ok, Sem.run_pure]
    congr 1
    match rs with
    | [] => simp [retV, gams, gam]
    | [v] => simp [retV, gams]
    | u :: v :: l => simp [retV, gams, gam]
  · match rs, h2 with
    | [], _ => trivial
    | [v], h2 => exact h2.1
    | u :: v :: l, h2 => exact h2

end

theorem WOk.refl (X : Ctx) : WOk X X.w0 := ⟨fun _ _ _ => rfl, Nat.le_refl _, rfl, rfl, rfl⟩

/-- A function's contract, from its body. -/
theorem Fn.intro {P : Program} {f : FuncId} {fn : Func} {code : Code} {args : List AV} {H : List AO} {R : AV → List AO → Prop} {ars : List AR}
    (hf : P.funcs[f]? = some fn) (hb : fn.body = some code) (hname : (fn.name == "runtime.NumGoroutine") = false) (hn : args.length ≤ fn.ntmps) (hr : cRes P fn.results.toList = some ars)
    (hu : ∀ (j : Nat) (o : AO), H[j]? = some o → o.under H.length) (h : WC P H.length fn.ntmps code (fun x s => (x = .ret ∨ x = .normal) ∧ Ret ars H R s) ⟨enumE 0 args, H⟩) : Fn P f args H R := by
  refine ⟨⟨fn, hf, by rw [hb]; rfl, hname⟩, fun ι w hh hau => ?_⟩
  let X : Ctx := { w0 := w, ι0 := ι, n0 := H.length, D := fun b => (∃ i, AtW ι H i b) ∨ w.heap.size ≤ b, nt := fn.ntmps }
  have hal : (gams ι args).toArray.size = args.length := by simp [gams_length]
  have hok : Ok X ι ⟨enumE 0 args, H⟩ { tmps := (gams ι args).toArray ++ Array.replicate (fn.ntmps - (gams ι args).toArray.size) undef, defers := [] } w := by
    refine ⟨?_, rfl, fun t ht => ?_, hh, fun j b hj => .inl ⟨j, hj⟩, fun _ _ => rfl, Nat.le_refl _, fun b hb => .inr hb, WOk.refl X⟩
    · simp only [Array.size_append, Array.size_replicate, hal]; show _ = fn.ntmps; omega
    · obtain ⟨v, h1, _, h2⟩ := get_enumE args 0 t ht
      rw [Nat.sub_zero] at h1
      rw [h2]
      refine ⟨unders_get hau h1, ?_⟩
      have hlt : t < args.length := (List.getElem?_eq_some_iff.1 h1).1
      rw [Array.getElem?_append_left (by rw [hal]; exact hlt), List.getElem?_toArray, gams_get, h1]
      rfl
  refine calls_of_wp hf hb (wp_mono (h X rfl rfl ι _ w hok) ?_)
  rintro e a w' ⟨x, ι', s, hx, hok', hxr, rs, v, H', ρ, h1, h2, h3, h4, h5, h6, h7⟩
  obtain ⟨hrun, hru⟩ := results_run hok' hr h1
  have hend : a.defers = [] ∧ ∃ v, (results fn a.tmps).run P w' = .ok v w' ∧ Post ι H w R (.returned v) w' := by
    refine ⟨hok'.defers, _, hrun, v, H', ρ.loc ι', ?_, h6, h3, h4, ?_⟩
    · rw [h2, gam_ren]
    · have hok0 : Ok X ι' ⟨[], s.hp⟩ a w' := ⟨hok'.size, hok'.defers, fun t ht => absurd rfl ht, hok'.heap, hok'.dom, hok'.base, hok'.len, hok'.fresh, hok'.world⟩
      have hs := hok0.sim h5
      exact ⟨hs.heap, hs.len, fun j hj => hs.base j hj, fun j b hj => hs.dom j b hj, h7, fun b hb hno => hs.world.frame b hb (fun hd => hd.elim hno (fun h => by have : w.heap.size ≤ b := h; omega)), hs.world.grow, hs.world.os, hs.world.out, hs.world.tape⟩
  cases e <;> simp only [AX.of, Option.some.injEq, reduceCtorEq] at hx <;> subst hx
  · exact hend
  · rcases hxr with h | h <;> cases h
  · exact hend

/-! ### Ranges over maps -/

/-- What a step of a range over a map may be: the end, or an entry that has not been. -/
def nexts (hp : List AO) (r : Nat) : Option (Nat × List AE × Nat × Nat × List Nat) :=
  match hp[r]? with
  | some (.miter (some m) since seen last) => match hp[m]? with
    | some (.map es clock) => chk (clock = last ∧ since = last ∧ (∀ e ∈ es, e.born < since)) (some (m, es, clock, since, seen))
    | _ => none
  | _ => none

section
variable {P : Program} {n0 nt : Nat} {l : List AI} {K : St → Prop} {s : St}

theorem WR.next {dst : Option Nat} {it : Opd} {r m clock since : Nat} {es : List AE} {seen : List Nat} (hr : ev s.env it = .ptr r 0) (hn : nexts s.hp r = some (m, es, clock, since, seen))
    (hend : (∀ e ∈ es, e.born ∈ seen) → WR P n0 nt l K ⟨putE dst (.tup [.bool false]) s.env, s.hp⟩)
    (hgo : ∀ e ∈ es, e.born ∉ seen → WR P n0 nt l K ⟨putE dst (.tup [.bool true, e.key, e.val]) s.env, s.hp.set r (.miter (some m) since (seen ++ [e.born]) clock)⟩) :
    WR P n0 nt (⟨dst, none, .next it⟩ :: l) K s := by
  intro lo ops hc X h0 h1 ι a w hok
  obtain ⟨o, rr, rfl, hi, hrr⟩ := cList_cons hc
  obtain ⟨hd, hdl, hg, hk⟩ := cAI_some hi
  obtain ⟨it', hop, rfl⟩ := kindOf_next hk
  refine wpList_plain (grd_none hg) fun K' hK' => ?_
  unfold nexts at hn
  split at hn
  · rename_i m' since' seen' last hit
    split at hn
    · rename_i es' clock' hm
      obtain ⟨⟨hck, hsl, hborn⟩, hn⟩ := chk_some hn
      simp only [Option.some.injEq, Prod.mk.injEq] at hn
      obtain ⟨rfl, rfl, rfl, rfl, rfl⟩ := hn
      obtain ⟨hru, hre⟩ := ev_eq hok hr (by simp)
      obtain ⟨hitu, hnull, blk, ha, hh⟩ := hok.heap.rel _ _ hit
      obtain ⟨hmu, hnull2, blk2, ha2, hh2⟩ := hok.heap.rel _ _ hm
      have hg1 : (getObj blk).run P w = .ok (.mapIter (some (ι m').addr.block) since' seen'.toArray last) w := by
        simp [getObj, Sem.run, hh]
      have hg2 : (getObj (ι m').addr.block).run P w = .ok (.map (es'.map (gamE ι)).toArray clock') w := map_obj hok hm
      have hset : ∀ ob (w1 : World), w1.heap = w.heap → (setObj blk ob).run P w1 = .ok () (setBlk w1 blk ob) := by
        intro ob w1 hw; simp [setObj, Sem.run, hw, hh, setBlk]
      -- the candidates
      generalize hL : es'.filter (fun e => !seen'.contains e.born) = L
      have hleft : (es'.map (gamE ι)).toArray.filter (fun e => !seen'.toArray.contains e.born) = (L.map (gamE ι)).toArray := by
        rw [List.filter_toArray, List.filter_map, ← hL]
        congr 3
        funext e
        simp only [Function.comp_apply, gamE, List.contains_toArray]
      have hLb : ∀ e ∈ L, e.born < since' := fun e he => hborn e (by rw [← hL] at he; exact (List.mem_filter.1 he).1)
      have hold : (L.map (gamE ι)).toArray.filter (fun e => decide (e.born < since')) = (L.map (gamE ι)).toArray := by
        rw [List.filter_toArray, List.filter_map]
        congr 2
        rw [List.filter_eq_self]
        intro e he
        exact decide_eq_true (hLb e he)
      have hnew : (L.map (gamE ι)).toArray.filter (fun e => decide (e.born ≥ since')) = #[] := by
        rw [List.filter_toArray, List.filter_map]
        have : L.filter ((fun e : MapEntry => decide (e.born ≥ since')) ∘ gamE ι) = [] := by
          rw [List.filter_eq_nil_iff]
          intro e he
          have := hLb e he
          intro hq; have hq := of_decide_eq_true hq; have : (gamE ι e).born = e.born := rfl; omega
        rw [this]; rfl
      have hguard : (!seen'.toArray.isEmpty && !(es'.map (gamE ι)).toArray.isEmpty && (es'.map (gamE ι)).toArray.all (fun e => decide (e.born ≥ last))) = false := by
        cases hes : es' with
        | nil => simp
        | cons e0 es0 =>
          have h0 := hborn e0 (by rw [hes]; simp)
          have : ¬ (last ≤ e0.born) := by omega
          simp [gamE, this]
      have hseen : ∀ e ∈ L, e ∈ es' ∧ e.born ∉ seen' := by
        intro e he
        rw [← hL] at he
        obtain ⟨q1, q2⟩ := List.mem_filter.1 he
        exact ⟨q1, by simpa using q2⟩
      have start : (execOp a.eval o).run P w = ((Instr.next (.pointer (some ⟨blk, 0, none⟩)) false o.type).run P w).andThen fun v w' => .ok (.value v) w' := by
        unfold execOp; rw [hop]
        simp only [hre, gam, ha, Addr.add_base, Sem.run_bind, Sem.run_pure]
      have body : (Instr.next (.pointer (some ⟨blk, 0, none⟩)) false o.type).run P w =
          ((choose (.mapNext ((if (L.map (gamE ι)).toArray.isEmpty = true then #[none] else #[]) ++ ((L.map (gamE ι)).toArray ++ #[]).map some).size)).run P w).andThen fun k w1 =>
            (match (((if (L.map (gamE ι)).toArray.isEmpty = true then #[none] else #[]) ++ ((L.map (gamE ι)).toArray ++ #[]).map some)[k]? : Option (Option MapEntry)) with
            | some (some e) => (do setObj blk (.mapIter (some (ι m').addr.block) since' (seen'.toArray.push e.born) clock'); pure (.tuple #[.bool true, e.key, e.val]) : Sem Value)
            | some none => pure (.tuple #[.bool false])
            | none => stuck "Next: no such candidate").run P w1 := by
        simp only [Instr.next, Sem.run_bind, hg1, Result.andThen_ok, hg2, hguard, Bool.false_eq_true, if_false, hleft, hold, hnew]
        rfl
      unfold Oper.wp
      rw [start, body]
      cases hLe : L with
      | nil =>
        have hall : ∀ e ∈ es', e.born ∈ seen' := by
          intro e he
          by_cases hq : e.born ∈ seen'
          · exact hq
          · have : e ∈ L := by rw [← hL]; exact List.mem_filter.2 ⟨he, by simpa using hq⟩
            rw [hLe] at this; cases this
        have hput : Ok X ι ⟨putE dst (.tup [.bool false]) s.env, s.hp⟩ (a.put o.dst (.tuple #[.bool false])) w := by
          rw [hd]
          cases dst with
          | none => exact hok
          | some d => exact hok.put (by rw [h1]; exact dst_lt hdl) fun _ => ⟨⟨trivial, trivial⟩, rfl⟩
        have := hK' _ _ (hend hall rr ops hrr X h0 h1 ι _ w hput)
        simpa [run_choose, Question.forced, Oper.upon] using this
      | cons e0 L0 =>
        have hne : (L.map (gamE ι)).toArray.isEmpty = false := by rw [hLe]; rfl
        rw [← hLe, hne]
        simp only [Bool.false_eq_true, if_false, Array.append_empty, Array.empty_append, Array.size_map, List.size_toArray, List.length_map]
        have hch : ∃ k w1, (choose (.mapNext L.length)).run P w = .ok k w1 ∧ k < L.length ∧ (w1 = w ∨ w1 = w.drew) := by
          rw [run_choose]
          have hpos : 0 < L.length := by rw [hLe]; simp
          by_cases hf : (Question.mapNext L.length).forced = true
          · rw [if_pos hf]; exact ⟨_, _, rfl, hpos, .inl rfl⟩
          · rw [if_neg hf]; exact ⟨_, _, rfl, Nat.mod_lt _ hpos, .inr rfl⟩
        obtain ⟨k, w1, hk1, hk2, hw1⟩ := hch
        rw [hk1]
        simp only [Result.andThen_ok]
        have hget : (((L.map (gamE ι)).toArray.map some)[k]? : Option (Option MapEntry)) = some (some (gamE ι L[k])) := by
          simp [hk2]
        rw [hget]
        have hw1h : w1.heap = w.heap := by rcases hw1 with rfl | rfl <;> rfl
        have hok1 : Ok X ι s a w1 := by rcases hw1 with rfl | rfl; exact hok; exact hok.drew
        simp only [Sem.run_bind, hset _ w1 hw1h, Result.andThen_ok, Sem.run_pure]
        obtain ⟨hmem, hns⟩ := hseen L[k] (List.getElem_mem hk2)
        have hmu' := hmu L[k] hmem
        have hset1 : Ok X ι ⟨s.env, s.hp.set r (.miter (some m') since' (seen' ++ [L[k].born]) clock')⟩ a (setBlk w1 blk (.mapIter (some (ι m').addr.block) since' (seen'.toArray.push L[k].born) clock')) := by
          have := hok1.set (j := r) (o' := .miter (some m') since' (seen' ++ [L[k].born]) clock') (ob := .mapIter (some (ι m').addr.block) since' (seen'.toArray.push L[k].born) clock') hit rfl hnull
            (fun b hb => by cases hb; exact hitu m' rfl) ⟨hnull, blk, ha, ?_⟩
          · rw [ha] at this; exact this
          · rw [ha]
            refine (setBlk_get (by rw [hw1h]; exact hh)).trans ?_
            simp
        have hput : Ok X ι ⟨putE dst (.tup [.bool true, L[k].key, L[k].val]) s.env, s.hp.set r (.miter (some m') since' (seen' ++ [L[k].born]) clock')⟩ (a.put o.dst (.tuple #[.bool true, gam ι L[k].key, gam ι L[k].val]))
            (setBlk w1 blk (.mapIter (some (ι m').addr.block) since' (seen'.toArray.push L[k].born) clock')) := by
          rw [hd]
          cases dst with
          | none => exact hset1
          | some d => exact hset1.put (by rw [h1]; exact dst_lt hdl) fun _ => ⟨by rw [List.length_set]; exact ⟨trivial, hmu'.1, hmu'.2, trivial⟩, rfl⟩
        exact hK' _ _ (hgo L[k] hmem hns rr ops hrr X h0 h1 ι _ _ hput)
    · cases hn
  · cases hn

end
end Go.Am

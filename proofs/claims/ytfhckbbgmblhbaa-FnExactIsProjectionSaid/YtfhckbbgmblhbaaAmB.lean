/- The abstract machine, part 2: AmIntro AmDraw AmDraw2 AmDraw3 AmCode AmTell AmWp AmRet AmLoop AmSym AmPlain AmBook AmKeep AmVec AmSym2 AmBook2 AmPost AmMap AmFp AmNil AmCong. -/
import Derived.Test.YtfhckbbgmblhbaaAmA
import Derived.Orders
import Derived.ProofKit
namespace Go.Am
set_option linter.unusedVariables false
set_option linter.unusedSimpArgs false
def Wa : Nat → List AV → Env
  | _, [] => []
  | i, a :: l => (i, a) :: Wa (i + 1) l
theorem qhx : ∀ (l : List AV) (i t : Nat), get (Wa i l) t ≠ .top → ∃ a, l[t - i]? = some a ∧ i ≤ t ∧ get (Wa i l) t = a
  | [], i, t, h => absurd rfl h
  | a :: l, i, t, h => by
    simp only [Wa, zj] at h ⊢
    by_cases e : i = t
    · subst e; simp only [if_true] at h ⊢; exact ⟨a, by simp, Nat.le_refl _, rfl⟩
    · simp only [e, if_false] at h ⊢
      obtain ⟨b, h1, h2, h3⟩ := qhx l (i + 1) t h
      refine ⟨b, ?_, by omega, h3⟩
      rw [show t - i = (t - (i + 1)) + 1 from by omega]; simpa using h1
def Ret (ars : List AR) (H : List AO) (R : AV → List AO → Prop) (s : St) : Prop :=
  ∃ rs v H' ρ, Vd s ars = some rs ∧ xw rs = v.ren ρ ∧ v ≠ .top ∧ v.under H'.length ∧ Sim H.length ⟨[], s.hp⟩ ⟨[], H'⟩ ρ ∧ R v H' ∧ (∀ (j : Nat) (l : List AV), H'[j]? = some (AO.ro l) → ∃ l', H[j]? = some (AO.ro l'))
section
variable {P : Program} {X : Ctx} {ι : Nat → Loc} {s : St} {a : Act} {w : World}
theorem qwx (hok : Ok X ι s a w) {t : Nat} {v : AV} {hp' : List AO} (hs : qf s.env s.hp (.wy (.t t)) = some (v, hp')) :
    v.under s.hp.length ∧ ∃ ad, a.tmps.getD t undef = .pointer (some ad) ∧ w.cell? ad = some (gam ι v) := by
  simp only [qf, ev] at hs
  split at hs
  · rename_i b off hx
    split at hs
    · rename_i l hl
      split at hs
      · rename_i u hu
        simp only [Option.some.injEq, Prod.mk.injEq] at hs
        obtain ⟨rfl, rfl⟩ := hs
        obtain ⟨_, hun, hc⟩ := Yn hok.heap hl hu
        have he := (hok.env t (by rw [hx]; simp)).2
        rw [hx] at he
        exact ⟨hun, _, by simp [Array.getD_eq_getD_getElem?, he, gam], hc⟩
      · cases hs
    · cases hs
  · cases hs
theorem qwi (hok : Ok X ι s a w) {t n : Nat} {v : AV} {hp' : List AO} {ty : TypeId} {d : TypeDesc} (hd : P.underlying ty = some d) (hg : q8 d = true) (hn : xz P ty = some n)
    (hs : qf s.env s.hp (.Qq n (.t t)) = some (v, hp')) :
    v.under s.hp.length ∧ ∃ ad, a.tmps.getD t undef = .pointer (some ad) ∧ (loadVar ty ad).run P w = .ok (gam ι v) w := by
  simp only [qf, ev] at hs
  split at hs
  · rename_i b off hx
    split at hs
    · rename_i l hl
      obtain ⟨hlen, hs⟩ := ql hs
      simp only [Option.some.injEq, Prod.mk.injEq] at hs
      obtain ⟨rfl, rfl⟩ := hs
      have he := (hok.env t (by rw [hx]; simp)).2
      rw [hx] at he
      exact ⟨gp (Xh (qfl hok.heap hl)), _, by simp [Array.getD_eq_getD_getElem?, he, gam], qhk hok hd hg hn hl hlen⟩
    · cases hs
  · cases hs
theorem qar (hok : Ok X ι s a w) (g : ResultVar → Sem Value) (hg1 : ∀ t, g (.tmp t) = pure (a.tmps.getD t undef)) (hg2 : ∀ t ty, g (.cell t ty) = (do loadVar ty (← asAddr (a.tmps.getD t undef)))) :
    ∀ (rv : List ResultVar) (ars : List AR) (rs : List AV), qd4 P rv = some ars → Vd s ars = some rs → (rv.mapM g).run P w = .ok (qv ι rs) w ∧ AV.qy s.hp.length rs
  | [], ars, rs, hc, hr => by
    simp only [qd4, Option.some.injEq] at hc
    subst hc
    simp only [Vd, Option.some.injEq] at hr
    subst hr
    exact ⟨rfl, trivial⟩
  | .tmp t :: rv, ars, rs, hc, hr => by
    simp only [qd4] at hc
    obtain ⟨l, hl, rfl⟩ := xd hc
    simp only [Vd] at hr
    split at hr
    · cases hr
    · rename_i v l' h3 h1
      simp only [Option.some.injEq] at hr
      subst hr
      have hnt : get s.env t ≠ .top := fun e => h1 e
      obtain ⟨h4, h5⟩ := hok.env t hnt
      obtain ⟨h6, h7⟩ := qar hok g hg1 hg2 rv l l' hl h3
      refine ⟨?_, h4, h7⟩
      rw [List.mapM_cons]
      simp only [Sem.run_bind, hg1, Sem.run_pure, Result.andThen_ok, h6]
      simp [Array.getD_eq_getD_getElem?, h5, qv]
    · cases hr
  | .cell t ty :: rv, ars, rs, hc, hr => by
    simp only [qd4] at hc
    split at hc
    · rename_i d hd
      split at hc
      · rename_i hag
        split at hc
        · rename_i n l hn hl
          simp only [Option.some.injEq] at hc
          subst hc
          simp only [Vd] at hr
          split at hr
          · rename_i v _ l' h1 h2
            simp only [Option.some.injEq] at hr
            subst hr
            obtain ⟨h3, ad, h4, h5⟩ := qwi hok hd hag hn h1
            obtain ⟨h6, h7⟩ := qar hok g hg1 hg2 rv l l' hl h2
            refine ⟨?_, h3, h7⟩
            rw [List.mapM_cons]
            simp only [Sem.run_bind, hg2, h4, asAddr, Sem.run_pure, Result.andThen_ok, h5, h6, qv]
          · cases hr
        · cases hc
      · rename_i hag
        obtain ⟨l, hl, rfl⟩ := xd hc
        simp only [Vd] at hr
        split at hr
        · rename_i v _ l' h1 h2
          simp only [Option.some.injEq] at hr
          subst hr
          obtain ⟨h3, ad, h4, h5⟩ := qwx hok h1
          obtain ⟨h6, h7⟩ := qar hok g hg1 hg2 rv l l' hl h2
          refine ⟨?_, h3, h7⟩
          rw [List.mapM_cons]
          simp only [Sem.run_bind, hg2, h4, asAddr, Sem.run_pure, Result.andThen_ok, qrd hd (by simpa using hag) h5, h6, qv]
        · cases hr
    · cases hc
theorem qkw (hok : Ok X ι s a w) {fn : Func} {ars : List AR} {rs : List AV} (hc : qd4 P fn.results.toList = some ars) (hr : Vd s ars = some rs) :
    (results fn a.tmps).run P w = .ok (gam ι (xw rs)) w ∧ (xw rs).under s.hp.length := by
  obtain ⟨h1, h2⟩ := qar (P := P) hok (fun | .tmp t => pure (a.tmps.getD t undef) | .cell u t => do loadVar t (← asAddr (a.tmps.getD u undef))) (fun _ => rfl) (fun _ _ => rfl) fn.results.toList ars rs hc hr
  refine ⟨?_, ?_⟩
  · unfold results
    rw [Array.mapM_eq_mapM_toList]
    simp only [Sem.run_bind, Sem.run_map]
    erw [h1]
    simp only [Result.andThen_ok, Sem.run_pure]
    congr 1
    match rs with
    | [] => simp [xw, qv, gam]
    | [v] => simp [xw, qv]
    | u :: v :: l => simp [xw, qv, gam]
  · match rs, h2 with
    | [], _ => trivial
    | [v], h2 => exact h2.1
    | u :: v :: l, h2 => exact h2
end
theorem WOk.refl (X : Ctx) : WOk X X.w0 := ⟨fun _ _ _ => rfl, Nat.le_refl _, rfl, rfl, Vc.refl _⟩
theorem Fn.intro {P : Program} {f : FuncId} {fn : Func} {code : Code} {args : List AV} {H : List AO} {R : AV → List AO → Prop} {ars : List AR}
    (hf : P.funcs[f]? = some fn) (hb : fn.body = some code) (hname : (fn.name == "runtime.NumGoroutine") = false) (hn : args.length ≤ fn.ntmps) (hr : qd4 P fn.results.toList = some ars)
    (hu : ∀ (j : Nat) (o : AO), H[j]? = some o → o.under H.length) (h : WC P H.length fn.ntmps code (fun x s => (x = .ret ∨ x = .normal) ∧ Ret ars H R s) ⟨Wa 0 args, H⟩) : Fn P f args H R := by
  refine ⟨⟨fn, hf, by rw [hb]; rfl, hname⟩, fun ι w hh hau => ?_⟩
  let X : Ctx := { w0 := w, ι0 := ι, n0 := H.length, D := fun b => (∃ i, AtW ι H i b) ∨ w.heap.size ≤ b, nt := fn.ntmps }
  have hal : (qv ι args).toArray.size = args.length := by simp [q6]
  have hok : Ok X ι ⟨Wa 0 args, H⟩ { tmps := (qv ι args).toArray ++ Array.replicate (fn.ntmps - (qv ι args).toArray.size) undef, defers := [] } w := by
    refine ⟨?_, rfl, fun t ht => ?_, hh, fun j b hj => .inl ⟨j, hj⟩, fun _ _ => rfl, Nat.le_refl _, fun b hb => .inr hb, WOk.refl X⟩
    · simp only [Array.size_append, Array.size_replicate, hal]; show _ = fn.ntmps; omega
    · obtain ⟨v, h1, _, h2⟩ := qhx args 0 t ht
      rw [Nat.sub_zero] at h1
      rw [h2]
      refine ⟨Zs hau h1, ?_⟩
      have hlt : t < args.length := (List.getElem?_eq_some_iff.1 h1).1
      rw [Array.getElem?_append_left (by rw [hal]; exact hlt), List.getElem?_toArray, Q0, h1]
      rfl
  refine calls_of_wp hf hb (wp_mono (h X rfl rfl ι _ w hok) ?_)
  rintro e a w' ⟨x, ι', s, hx, hok', hxr, rs, v, H', ρ, h1, h2, h3, h4, h5, h6, h7⟩
  obtain ⟨hrun, hru⟩ := qkw hok' hr h1
  have hend : a.defers = [] ∧ ∃ v, (results fn a.tmps).run P w' = .ok v w' ∧ q2n ι H w R (.returned v) w' := by
    refine ⟨hok'.defers, _, hrun, v, H', ρ.loc ι', ?_, h6, h3, h4, ?_⟩
    · rw [h2, Gi]
    · have hok0 : Ok X ι' ⟨[], s.hp⟩ a w' := ⟨hok'.size, hok'.defers, fun t ht => absurd rfl ht, hok'.heap, hok'.dom, hok'.base, hok'.len, hok'.fresh, hok'.world⟩
      have hs := hok0.sim h5
      exact ⟨hs.heap, hs.len, fun j hj => hs.base j hj, fun j b hj => hs.dom j b hj, h7, fun b hb hno => hs.world.frame b hb (fun hd => hd.elim hno (fun h => by have : w.heap.size ≤ b := h; omega)), hs.world.grow, hs.world.os, hs.world.out, hs.world.tape⟩
  cases e <;> simp only [AX.of, Option.some.injEq, reduceCtorEq] at hx <;> subst hx
  · exact hend
  · rcases hxr with h | h <;> cases h
  · exact hend
def qrn (hp : List AO) (r : Nat) : Option (Nat × List AE × Nat × Nat × List Nat) :=
  match hp[r]? with
  | some (.x6 (some m) since seen last) => match hp[m]? with
    | some (.map es clock) => chk (clock = last ∧ since = last ∧ (∀ e ∈ es, e.born < since)) (some (m, es, clock, since, seen))
    | _ => none
  | _ => none
section
variable {P : Program} {n0 nt : Nat} {l : List AI} {K : St → Prop} {s : St}
theorem WR.next {dst : Option Nat} {it : Opd} {r m clock since : Nat} {es : List AE} {seen : List Nat} (hr : ev s.env it = .ptr r 0) (hn : qrn s.hp r = some (m, es, clock, since, seen))
    (hend : (∀ e ∈ es, e.born ∈ seen) → WR P n0 nt l K ⟨xu dst (.tup [.bool false]) s.env, s.hp⟩)
    (hgo : ∀ e ∈ es, e.born ∉ seen → WR P n0 nt l K ⟨xu dst (.tup [.bool true, e.key, e.val]) s.env, s.hp.set r (.x6 (some m) since (seen ++ [e.born]) clock)⟩) :
    WR P n0 nt (⟨dst, none, .next it⟩ :: l) K s := by
  intro lo ops hc X h0 h1 ι a w hok
  obtain ⟨o, rr, rfl, hi, hrr⟩ := J7 hc
  obtain ⟨hd, hdl, hg, hk⟩ := Ur hi
  obtain ⟨it', hop, rfl⟩ := qkr hk
  refine wpList_plain (qe2 hg) fun K' hK' => ?_
  unfold qrn at hn
  split at hn
  · rename_i m' since' seen' last hit
    split at hn
    · rename_i es' clock' hm
      obtain ⟨⟨hck, hsl, hborn⟩, hn⟩ := ql hn
      simp only [Option.some.injEq, Prod.mk.injEq] at hn
      obtain ⟨rfl, rfl, rfl, rfl, rfl⟩ := hn
      obtain ⟨hru, hre⟩ := z7 hok hr (by simp)
      obtain ⟨hitu, hnull, blk, ha, hh⟩ := hok.heap.rel _ _ hit
      obtain ⟨hmu, hnull2, blk2, ha2, hh2⟩ := hok.heap.rel _ _ hm
      have hg1 : (getObj blk).run P w = .ok (.mapIter (some (ι m').addr.block) since' seen'.toArray last) w := by
        simp [getObj, Sem.run, hh]
      have hg2 : (getObj (ι m').addr.block).run P w = .ok (.map (es'.map (jq ι)).toArray clock') w := W8 hok hm
      have hset : ∀ ob (w1 : World), w1.heap = w.heap → (setObj blk ob).run P w1 = .ok () (jh w1 blk ob) := by
        intro ob w1 hw; simp [setObj, Sem.run, hw, hh, jh]
      generalize hL : es'.filter (fun e => !seen'.contains e.born) = L
      have hleft : (es'.map (jq ι)).toArray.filter (fun e => !seen'.toArray.contains e.born) = (L.map (jq ι)).toArray := by
        rw [List.filter_toArray, List.filter_map, ← hL]
        congr 3
        funext e
        simp only [Function.comp_apply, jq, List.contains_toArray]
      have hLb : ∀ e ∈ L, e.born < since' := fun e he => hborn e (by rw [← hL] at he; exact (List.mem_filter.1 he).1)
      have hold : (L.map (jq ι)).toArray.filter (fun e => decide (e.born < since')) = (L.map (jq ι)).toArray := by
        rw [List.filter_toArray, List.filter_map]
        congr 2
        rw [List.filter_eq_self]
        intro e he
        exact decide_eq_true (hLb e he)
      have hnew : (L.map (jq ι)).toArray.filter (fun e => decide (e.born ≥ since')) = #[] := by
        rw [List.filter_toArray, List.filter_map]
        have : L.filter ((fun e : MapEntry => decide (e.born ≥ since')) ∘ jq ι) = [] := by
          rw [List.filter_eq_nil_iff]
          intro e he
          have := hLb e he
          intro hq; have hq := of_decide_eq_true hq; have : (jq ι e).born = e.born := rfl; omega
        rw [this]; rfl
      have hguard : (!seen'.toArray.isEmpty && !(es'.map (jq ι)).toArray.isEmpty && (es'.map (jq ι)).toArray.all (fun e => decide (e.born ≥ last))) = false := by
        cases hes : es' with
        | nil => simp
        | cons e0 es0 =>
          have h0 := hborn e0 (by rw [hes]; simp)
          have : ¬ (last ≤ e0.born) := by omega
          simp [jq, this]
      have hseen : ∀ e ∈ L, e ∈ es' ∧ e.born ∉ seen' := by
        intro e he
        rw [← hL] at he
        obtain ⟨q1, q2⟩ := List.mem_filter.1 he
        exact ⟨q1, by simpa using q2⟩
      have start : (execOp a.eval o).run P w = ((Instr.next (.pointer (some ⟨blk, 0, none⟩)) false o.type).run P w).andThen fun v w' => .ok (.value v) w' := by
        unfold execOp; rw [hop]
        simp only [hre, gam, ha, Addr.uk, Sem.run_bind, Sem.run_pure]
      have body : (Instr.next (.pointer (some ⟨blk, 0, none⟩)) false o.type).run P w =
          ((choose (.mapNext ((if (L.map (jq ι)).toArray.isEmpty = true then #[none] else #[]) ++ ((L.map (jq ι)).toArray ++ #[]).map some).size)).run P w).andThen fun k w1 =>
            (match (((if (L.map (jq ι)).toArray.isEmpty = true then #[none] else #[]) ++ ((L.map (jq ι)).toArray ++ #[]).map some)[k]? : Option (Option MapEntry)) with
            | some (some e) => (do setObj blk (.mapIter (some (ι m').addr.block) since' (seen'.toArray.push e.born) clock'); pure (.tuple #[.bool true, e.key, e.val]) : Sem Value)
            | some none => pure (.tuple #[.bool false])
            | none => stuck "Next: no such candidate").run P w1 := by
        simp only [Instr.next, Sem.run_bind, hg1, Result.andThen_ok, hg2, hguard, Bool.false_eq_true, if_false, hleft, hold, hnew]
        rfl
      unfold Oper.wp
      rw [start, body]
      cases hLe : L with
      | nil =>
        have hall : ∀ e ∈ es', e.born ∈ seen' := by
          intro e he
          by_cases hq : e.born ∈ seen'
          · exact hq
          · have : e ∈ L := by rw [← hL]; exact List.mem_filter.2 ⟨he, by simpa using hq⟩
            rw [hLe] at this; cases this
        have hput : Ok X ι ⟨xu dst (.tup [.bool false]) s.env, s.hp⟩ (a.put o.dst (.tuple #[.bool false])) w := by
          rw [hd]
          cases dst with
          | none => exact hok
          | some d => exact hok.put (by rw [h1]; exact qge hdl) fun _ => ⟨⟨trivial, trivial⟩, rfl⟩
        have := hK' _ _ (hend hall rr ops hrr X h0 h1 ι _ w hput)
        simpa [run_choose, Question.forced, Oper.upon] using this
      | cons e0 L0 =>
        have hne : (L.map (jq ι)).toArray.isEmpty = false := by rw [hLe]; rfl
        rw [← hLe, hne]
        simp only [Bool.false_eq_true, if_false, Array.append_empty, Array.empty_append, Array.size_map, List.size_toArray, List.length_map]
        have hch : ∃ k w1, (choose (.mapNext L.length)).run P w = .ok k w1 ∧ k < L.length ∧ (w1 = w ∨ w1 = w.drew) := by
          rw [run_choose]
          have hpos : 0 < L.length := by rw [hLe]; simp
          by_cases hf : (Question.mapNext L.length).forced = true
          · rw [if_pos hf]; exact ⟨_, _, rfl, hpos, .inl rfl⟩
          · rw [if_neg hf]; exact ⟨_, _, rfl, Nat.mod_lt _ hpos, .inr rfl⟩
        obtain ⟨k, w1, hk1, hk2, hw1⟩ := hch
        rw [hk1]
        simp only [Result.andThen_ok]
        have hget : (((L.map (jq ι)).toArray.map some)[k]? : Option (Option MapEntry)) = some (some (jq ι L[k])) := by
          simp [hk2]
        rw [hget]
        have hw1h : w1.heap = w.heap := by rcases hw1 with rfl | rfl <;> rfl
        have hok1 : Ok X ι s a w1 := by rcases hw1 with rfl | rfl; exact hok; exact hok.drew
        simp only [Sem.run_bind, hset _ w1 hw1h, Result.andThen_ok, Sem.run_pure]
        obtain ⟨hmem, hns⟩ := hseen L[k] (List.getElem_mem hk2)
        have hmu' := hmu L[k] hmem
        have hset1 : Ok X ι ⟨s.env, s.hp.set r (.x6 (some m') since' (seen' ++ [L[k].born]) clock')⟩ a (jh w1 blk (.mapIter (some (ι m').addr.block) since' (seen'.toArray.push L[k].born) clock')) := by
          have := hok1.set (j := r) (o' := .x6 (some m') since' (seen' ++ [L[k].born]) clock') (ob := .mapIter (some (ι m').addr.block) since' (seen'.toArray.push L[k].born) clock') hit rfl hnull
            (fun b hb => by cases hb; exact hitu m' rfl) ⟨hnull, blk, ha, ?_⟩
          · rw [ha] at this; exact this
          · rw [ha]
            refine (bb (by rw [hw1h]; exact hh)).trans ?_
            simp
        have hput : Ok X ι ⟨xu dst (.tup [.bool true, L[k].key, L[k].val]) s.env, s.hp.set r (.x6 (some m') since' (seen' ++ [L[k].born]) clock')⟩ (a.put o.dst (.tuple #[.bool true, gam ι L[k].key, gam ι L[k].val]))
            (jh w1 blk (.mapIter (some (ι m').addr.block) since' (seen'.toArray.push L[k].born) clock')) := by
          rw [hd]
          cases dst with
          | none => exact hset1
          | some d => exact hset1.put (by rw [h1]; exact qge hdl) fun _ => ⟨by rw [List.length_set]; exact ⟨trivial, hmu'.1, hmu'.2, trivial⟩, rfl⟩
        exact hK' _ _ (hgo L[k] hmem hns rr ops hrr X h0 h1 ι _ _ hput)
    · cases hn
  · cases hn
end
end Go.Am
namespace Go.Am
set_option linter.unusedVariables false
set_option linter.unusedSimpArgs false
def AOp.Jw : AOp → List Opd
  | .mov x | .box x | .wy x | .Qq _ x | .ju x | .qdo _ x | .un _ x | .conv _ x | .b2s x | .qc3 x | .ym _ x | .field _ _ _ x | .ext _ x | .len _ x | .Bf x | .qyg x | .entry x => [x]
  | .pick c a b => [c, a, b]
  | .alloc _ | .qag => []
  | .build _ parts | .ga _ _ parts => parts.map fun p => p.2.2
  | .Qz a x | .Kk _ a x => [a, x]
  | .bin _ x y | .eqs _ _ x y | .eqb _ x y | .xp _ _ x y | .Q9 _ x y | .qd0 _ _ _ x y | .qd3 x y | .append _ _ x y | .Xj _ x y => [x, y]
  | .qg7 _ first caps => first ++ caps
  | .kx _ _ _ l c => [l, c]
  | .substr x lo hi | .qcz _ x lo hi => x :: (lo.toList ++ hi.toList)
  | .lookup _ _ _ _ m k => [m, k]
  | .Uy _ _ m k v | .qhw m k v => [m, k, v]
  | .qcg _ _ _ m k => [m, k]
def AOp.quiet : AOp → Bool
  | .mov _ | .pick .. | .build .. | .wy _ | .Qq .. | .ju _ | .bin .. | .eqs .. | .qdo .. | .eqb .. | .un .. | .conv .. | .b2s _ | .qc3 _ | .qg7 .. | .ym .. | .field .. | .xp .. | .Q9 .. | .qd0 .. | .qd3 .. | .substr .. | .ext .. | .len .. | .Xj .. | .lookup .. | .entry _ => true
  | _ => false
def AOp.blind : AOp → Bool
  | .mov _ | .pick .. | .build .. | .ju _ | .bin .. | .eqs .. | .qdo .. | .eqb .. | .un .. | .conv .. | .qc3 _ | .qg7 .. | .ym .. | .field .. | .xp .. | .qd0 .. | .qd3 .. | .substr .. | .ext .. | .len .str _ | .len .slc _ | .Xj .. => true
  | _ => false
def AOp.qoz : AOp → Bool
  | .alloc _ | .box _ | .ga .. | .qag | .kx .. | .Bf _ => true
  | o => o.quiet
theorem qdd {e e' : Env} : ∀ (parts : List (Nat × Nat × Opd)) (l : List AV), (∀ p ∈ parts, ev e p.2.2 = ev e' p.2.2) → vx e parts l = vx e' parts l
  | [], _, _ => rfl
  | (off, sz, x) :: r, l, h => by
    have h0 : ev e x = ev e' x := h (off, sz, x) (List.mem_cons_self ..)
    simp only [vx, h0]
    split
    · split
      · exact qdd r _ fun p hp => h p (List.mem_cons_of_mem _ hp)
      · rfl
    · rfl
theorem qlk {e e' : Env} {hp : List AO} (o : AOp) (h : ∀ x ∈ o.Jw, ev e x = ev e' x) : qf e hp o = qf e' hp o := by
  have hfill : ∀ z (parts : List (Nat × Nat × Opd)), (∀ x ∈ parts.map (fun p => p.2.2), ev e x = ev e' x) → vx e parts z = vx e' parts z :=
    fun z parts hp => qdd parts z fun p hm => hp _ (List.mem_map.2 ⟨p, hm, rfl⟩)
  have hmap : ∀ (o : Option Opd), (∀ x ∈ o.toList, ev e x = ev e' x) → o.map (ev e) = o.map (ev e') := by
    intro o ho; cases o with
    | none => rfl
    | some x => simp [ho x (by simp)]
  have hall : ∀ (l : List Opd), (∀ x ∈ l, ev e x = ev e' x) → (l.all fun x => match ev e x with | .top => false | _ => true) = (l.all fun x => match ev e' x with | .top => false | _ => true) ∧ l.map (ev e) = l.map (ev e') := by
    intro l hl
    induction l with
    | nil => exact ⟨rfl, rfl⟩
    | cons x l ih =>
      obtain ⟨h1, h2⟩ := ih fun y hy => hl y (List.mem_cons_of_mem _ hy)
      have h3 := hl x (List.mem_cons_self ..)
      simp only [List.all_cons, List.map_cons, h1, h2, h3, and_self]
  cases o with
  | build z parts => simp only [qf, hfill z parts h]
  | ga n z parts => simp only [qf, hfill z parts h]
  | qg7 f first caps =>
    obtain ⟨h1, h2⟩ := hall first fun x hx => h x (List.mem_append_left _ hx)
    obtain ⟨h3, h4⟩ := hall caps fun x hx => h x (List.mem_append_right _ hx)
    simp only [qf, h2, h4]
    erw [h1, h3]
    rfl
  | substr x lo hi =>
    have h0 := h x (List.mem_cons_self ..)
    have h1 := hmap lo fun y hy => h y (List.mem_cons_of_mem _ (List.mem_append_left _ hy))
    have h2 := hmap hi fun y hy => h y (List.mem_cons_of_mem _ (List.mem_append_right _ hy))
    simp only [qf, h0, h1, h2]
  | qcz size x lo hi =>
    have h0 := h x (List.mem_cons_self ..)
    have h1 := hmap lo fun y hy => h y (List.mem_cons_of_mem _ (List.mem_append_left _ hy))
    have h2 := hmap hi fun y hy => h y (List.mem_cons_of_mem _ (List.mem_append_right _ hy))
    simp only [qf, h0, h1, h2]
  | alloc z => rfl
  | qag => rfl
  | len k x =>
    have h0 := h x (List.mem_cons_self ..)
    cases k <;> simp only [qf, h0]
  | lookup ks agg z ok m k =>
    have h0 := h m (by simp [AOp.Jw]); have h1 := h k (by simp [AOp.Jw])
    simp only [qf, h0, h1]
  | Uy ks agg m k v =>
    have h0 := h m (by simp [AOp.Jw]); have h1 := h k (by simp [AOp.Jw]); have h2 := h v (by simp [AOp.Jw])
    simp only [qf, h0, h1, h2]
  | qhw m k v =>
    have h0 := h m (by simp [AOp.Jw]); have h1 := h k (by simp [AOp.Jw]); have h2 := h v (by simp [AOp.Jw])
    simp only [qf, h0, h1, h2]
  | qcg ks agg z m k =>
    have h0 := h m (by simp [AOp.Jw]); have h1 := h k (by simp [AOp.Jw])
    simp only [qf, h0, h1]
  | pick c a b =>
    have h0 := h c (by simp [AOp.Jw]); have h1 := h a (by simp [AOp.Jw]); have h2 := h b (by simp [AOp.Jw])
    simp only [qf, h0, h1, h2]
  | Qz x y | Kk n x y | bin op x y | eqs n k x y | eqb n x y | xp l s x y | Q9 s x y | qd0 l s g x y | qd3 x y | append s b x y | Xj m x y | kx s b z x y =>
    have h0 := h x (by simp [AOp.Jw]); have h1 := h y (by simp [AOp.Jw])
    simp only [qf, h0, h1]
  | mov x | box x | wy x | Qq _ x | ju x | qdo _ x | un _ x | conv _ x | b2s x | qc3 x | ym _ x | field _ _ _ x | ext _ x | Bf x | entry x =>
    have h0 := h x (by simp [AOp.Jw])
    simp only [qf, h0]
  | qyg x => rfl
theorem qi1 {α β : Type} {c : Prop} [Decidable c] {x : Option α} {f : α → β} : (chk c x).map f = chk c (x.map f) := by
  unfold chk; split <;> rfl
theorem qmo {α β : Type} {c : Bool} {x y : Option α} {f : α → β} : (cond c x y).map f = cond c (x.map f) (y.map f) := by
  cases c <;> rfl
theorem ql5 {e : Env} {hp hp' : List AO} {v : AV} {o : AOp} (hq : o.quiet = true) (h : qf e hp o = some (v, hp')) : hp' = hp := by
  cases o with
  | len k x => cases k <;> simp only [qf] at h <;> (repeat' split at h) <;> simp_all [ql]
  | field off n agg x =>
    simp only [qf] at h
    split at h
    · cases agg
      · simp only [cond_false] at h; split at h <;> cases h; rfl
      · simp only [cond_true] at h; obtain ⟨_, h⟩ := ql h; cases h; rfl
    · cases h
  | qd0 ln n agg x i =>
    simp only [qf] at h
    split at h
    · obtain ⟨_, h⟩ := ql h
      cases agg
      · simp only [cond_false] at h; split at h <;> cases h; rfl
      · simp only [cond_true] at h; obtain ⟨_, h⟩ := ql h; cases h; rfl
    · cases h
  | _ =>
    simp only [AOp.quiet, Bool.false_eq_true] at hq
    try
      simp only [qf] at h
      (repeat' split at h) <;> first
        | (cases h; done)
        | (cases h; rfl)
        | (obtain ⟨_, h⟩ := ql h; (repeat' split at h) <;> first | (cases h; done) | (cases h; rfl))
        | skip
theorem qhi {e : Env} {hp hp2 : List AO} {o : AOp} (hq : o.blind = true) : qf e hp2 o = (qf e hp o).map fun p => (p.1, hp2) := by
  cases o with
  | len k x => cases k <;> simp only [AOp.blind, Bool.false_eq_true] at hq <;> simp only [qf] <;> cases ev e x <;> (try rfl) <;> (rename_i u; cases u <;> (try rfl))
  | field off n agg x =>
    simp only [qf]
    cases ev e x <;> (try rfl)
    simp only [qmo, qi1, Option.map_some]
    congr 1
    split <;> simp_all
  | qd0 ln n agg x i =>
    simp only [qf]
    cases ev e x <;> cases ev e i <;> (try rfl)
    simp only [qmo, qi1, Option.map_some]
    congr 2
    split <;> simp_all
  | _ =>
    simp only [AOp.blind, Bool.false_eq_true] at hq
    try
      simp only [qf]
      (repeat' split) <;> simp_all [qi1]
theorem qeg {hp x : List AO} {b : Nat} {l : List AV} (h : rd hp b = some l) : rd (hp ++ x) b = some l := by
  unfold rd at h ⊢
  have hb : b < hp.length := by
    rcases Nat.lt_or_ge b hp.length with h1 | h1
    · exact h1
    · rw [List.getElem?_eq_none h1] at h; cases h
  rw [List.getElem?_append_left hb]; exact h
theorem Bp {hp x : List AO} {b : Nat} {o : AO} (h : hp[b]? = some o) : (hp ++ x)[b]? = some o := by
  rw [List.getElem?_append_left (List.getElem?_eq_some_iff.1 h).1]; exact h
theorem qoa {e : Env} {hp x : List AO} {v : AV} {o : AOp} (hq : o.quiet = true) (h : qf e hp o = some (v, hp)) : qf e (hp ++ x) o = some (v, hp ++ x) := by
  by_cases hb : o.blind = true
  · rw [qhi (hp := hp) hb, h]; rfl
  cases o <;> simp only [AOp.quiet, AOp.blind, Bool.false_eq_true, not_true_eq_false, not_false_eq_true] at hq hb
  case wy a =>
    simp only [qf] at h ⊢
    split at h
    · rename_i b off hx
      split at h
      · rename_i l hl
        rw [qeg hl]
        split at h
        · rename_i u hu; cases h; simp [hu]
        · cases h
      · cases h
    · cases h
  case Qq n a =>
    simp only [qf] at h ⊢
    split at h
    · rename_i b off hx
      split at h
      · rename_i l hl
        simp only [qeg hl]
        obtain ⟨hc, h⟩ := ql h
        rw [qb9 hc]; cases h; rfl
      · cases h
    · cases h
  case Q9 n a i =>
    simp only [qf] at h ⊢
    split at h
    · rename_i b off len _ _ _ k hx hi
      split at h
      · rename_i l hl
        simp only [qeg hl]
        obtain ⟨hc, h⟩ := ql h
        rw [qb9 hc]; cases h; rfl
      · cases h
    · cases h
  case b2s a =>
    simp only [qf] at h ⊢
    split at h
    · rename_i b off len _ _ hx
      split at h
      · rename_i l hl
        simp only [qeg hl]
        obtain ⟨hc, h⟩ := ql h
        rw [qb9 hc]
        split at h
        · rename_i u hu; cases h; simp [hu]
        · cases h
      · cases h
    · cases h; rfl
    · cases h
  case len k a =>
    cases k
    case str => simp at hb
    case slc => simp at hb
    case map =>
      simp only [qf] at h ⊢
      split at h
      · rename_i b hx
        split at h
        · rename_i es c hl; rw [Bp hl]; cases h; rfl
        · cases h
      · cases h
  case lookup ks agg z ok m k =>
    simp only [qf] at h ⊢
    split at h
    · rename_i b hx
      split at h
      · rename_i es c hl
        rw [Bp hl]
        obtain ⟨hc, h⟩ := ql h
        simp only [qb9 hc]
        split at h
        · rename_i u hu; cases h; simp [hu]
        · rename_i hu; cases h; simp [hu]
        · cases h
      · cases h
    · cases h
  case entry it =>
    simp only [qf] at h ⊢
    split at h
    · rename_i r hx
      split at h
      · rename_i m sn seen last hit
        rw [Bp hit]
        split at h
        · rename_i es clock stamp hm hs
          simp only [Bp hm, hs]
          obtain ⟨hc, h⟩ := ql h
          rw [qb9 hc]
          split at h
          · rename_i u hu; cases h; simp [hu]
          · cases h
        · cases h
      · cases h
    · cases h
theorem q1e {e : Env} {hp hp' : List AO} {v : AV} {o : AOp} (hq : o.qoz = true) (h : qf e hp o = some (v, hp')) : ∃ x, hp' = hp ++ x := by
  by_cases hb : o.quiet = true
  · exact ⟨[], by rw [ql5 hb h]; simp⟩
  cases o <;> simp only [AOp.quiet, AOp.qoz, Bool.false_eq_true, not_true_eq_false, not_false_eq_true] at hq hb
  all_goals
    simp only [qf] at h
    (repeat' split at h) <;> first
      | (cases h; done)
      | (cases h; exact ⟨_, rfl⟩)
      | (obtain ⟨_, h⟩ := ql h; cases h; exact ⟨_, rfl⟩)
end Go.Am
namespace Go.Am
set_option linter.unusedVariables false
set_option linter.unusedSimpArgs false
def AK.Jw : AK → List Opd
  | .op o => o.Jw
  | .call f args => f :: args
  | .next it => [it]
def AI.looks (i : AI) : List Opd := i.k.Jw ++ (match i.guard with | some (d, _) => [Opd.t d] | none => [])
def AI.quiet (i : AI) : Bool := match i.k with | .op o => o.quiet | _ => false
def AI.blind (i : AI) : Bool := match i.k with | .op o => o.blind | _ => false
def AI.qoz (cf : Bool) (i : AI) : Bool := match i.k with | .op o => o.qoz | .call .. => cf | _ => false
def Do (P : Program) (k : AK) (e : Env) (hp : List AO) (C : AV → List AO → Prop) : Prop :=
  match k with
  | .op o => ∃ v hp', qf e hp o = some (v, hp') ∧ C v hp'
  | .call f args => ∃ (fid : FuncId) (first caps as : List AV) (H : List AO) (R : AV → List AO → Prop) (ρ : Ren) (bs : List (Nat × Nat)), ev e f = .fn fid first caps ∧ Fn P fid as H R ∧
      (args.all fun x => match ev e x with | .top => false | _ => true) = true ∧ first ++ args.map (ev e) ++ caps = AV.zh ρ as ∧ qg4 hp ρ bs H ∧ (∀ (j : Nat) (o : AO), H[j]? = some o → o.under H.length) ∧
      AV.qy H.length as ∧ ∀ v H', R v H' → C (v.ren (ρ.ext H.length hp.length)) (after ⟨[], hp⟩ ρ bs H H')
  | .next _ => False
def GDo (P : Program) (i : AI) (e : Env) (hp : List AO) (C : AV → List AO → Prop) : Prop :=
  match i.guard with
  | none => Do P i.k e hp C
  | some (d, b) => (ev e (.t d) = .bool b ∧ Do P i.k e hp C) ∨ ((ev e (.t d) = .bool (!b) ∨ ev e (.t d) = xg) ∧ C xg hp)
def One (P : Program) (cf : Bool) (i : AI) (K : St → Prop) (s : St) : Prop :=
  GDo P i s.env s.hp fun v hp' => (i.qoz cf = true → ∃ x, hp' = s.hp ++ x) ∧ K ⟨xu i.dst v s.env, hp'⟩
def Tr (P : Program) (cf : Bool) : List AI → (St → Prop) → St → Prop
  | [], K, s => K s
  | i :: l, K, s => One P cf i (Tr P cf l K) s
section
variable {P : Program} {cf : Bool}
theorem Do.mono {k : AK} {e : Env} {hp : List AO} {C C' : AV → List AO → Prop} (h : Do P k e hp C) (hc : ∀ v hp', C v hp' → C' v hp') : Do P k e hp C' := by
  cases k with
  | op o => obtain ⟨v, hp', h1, h2⟩ := h; exact ⟨v, hp', h1, hc _ _ h2⟩
  | call f args => obtain ⟨fid, first, caps, as, H, R, ρ, bs, h1, h2, h3, h4, h5, h6, h7, h8⟩ := h; exact ⟨fid, first, caps, as, H, R, ρ, bs, h1, h2, h3, h4, h5, h6, h7, fun v H' hr => hc _ _ (h8 v H' hr)⟩
  | next it => exact h
theorem GDo.mono {i : AI} {e : Env} {hp : List AO} {C C' : AV → List AO → Prop} (h : GDo P i e hp C) (hc : ∀ v hp', C v hp' → C' v hp') : GDo P i e hp C' := by
  obtain ⟨dst, g, k⟩ := i
  cases g with
  | none => exact Do.mono (k := k) h hc
  | some p =>
    obtain ⟨d, b⟩ := p
    rcases h with ⟨h1, h2⟩ | ⟨h1, h2⟩
    · exact .inl ⟨h1, Do.mono h2 hc⟩
    · exact .inr ⟨h1, hc _ _ h2⟩
theorem Do.congr {k : AK} {e e' : Env} {hp : List AO} {C : AV → List AO → Prop} (he : ∀ x ∈ k.Jw, ev e x = ev e' x) (h : Do P k e hp C) : Do P k e' hp C := by
  cases k with
  | op o => obtain ⟨v, hp', h1, h2⟩ := h; exact ⟨v, hp', by rw [← qlk o he]; exact h1, h2⟩
  | call f args =>
    obtain ⟨fid, first, caps, as, H, R, ρ, bs, h1, h2, h3, h4, h5, h6, h7, h8⟩ := h
    have hf : ev e f = ev e' f := he f (List.mem_cons_self ..)
    have ha : ∀ x ∈ args, ev e x = ev e' x := fun x hx => he x (List.mem_cons_of_mem _ hx)
    refine ⟨fid, first, caps, as, H, R, ρ, bs, hf ▸ h1, h2, ?_, ?_, h5, h6, h7, h8⟩
    · refine Eq.trans ?_ h3
      clear h3 h4
      induction args with
      | nil => rfl
      | cons x l ih =>
        simp only [List.all_cons]
        rw [ih (fun y hy => he y (by simp only [AK.Jw, List.mem_cons] at hy ⊢; rcases hy with h | h; exact .inl h; exact .inr (.inr h))) (fun y hy => ha y (List.mem_cons_of_mem _ hy)), ← ha x (List.mem_cons_self ..)]
    · rw [← h4, List.map_congr_left ha]
  | next it => exact h
theorem GDo.congr {i : AI} {e e' : Env} {hp : List AO} {C : AV → List AO → Prop} (he : ∀ x ∈ i.looks, ev e x = ev e' x) (h : GDo P i e hp C) : GDo P i e' hp C := by
  have hk : ∀ x ∈ i.k.Jw, ev e x = ev e' x := fun x hx => he x (List.mem_append_left _ hx)
  obtain ⟨dst, g, k⟩ := i
  cases g with
  | none => exact Do.congr (k := k) hk h
  | some p =>
    obtain ⟨d, b⟩ := p
    have hd : ev e (.t d) = ev e' (.t d) := he _ (by simp [AI.looks])
    unfold GDo at h ⊢
    simp only at h ⊢
    rw [← hd]
    rcases h with ⟨h1, h2⟩ | ⟨h1, h2⟩
    · exact .inl ⟨h1, Do.congr hk h2⟩
    · exact .inr ⟨h1, h2⟩
theorem GDo.quiet {i : AI} {e : Env} {hp : List AO} {C : AV → List AO → Prop} (hq : i.quiet = true) (h : GDo P i e hp C) : ∃ v, C v hp ∧ GDo P i e hp fun v' hp' => v' = v ∧ hp' = hp := by
  obtain ⟨dst, g, k⟩ := i
  cases k with
  | op o =>
    have hq : o.quiet = true := hq
    have key : Do P (.op o) e hp C → ∃ v, C v hp ∧ Do P (.op o) e hp fun v' hp' => v' = v ∧ hp' = hp := by
      rintro ⟨v, hp', h1, h2⟩
      have := ql5 hq h1; subst this
      exact ⟨v, h2, v, _, h1, rfl, rfl⟩
    unfold GDo at h ⊢
    cases g with
    | none => exact key h
    | some p =>
      obtain ⟨d, b⟩ := p
      rcases h with ⟨h1, h2⟩ | ⟨h1, h2⟩
      · obtain ⟨v, h3, h4⟩ := key h2; exact ⟨v, h3, .inl ⟨h1, h4⟩⟩
      · exact ⟨xg, h2, .inr ⟨h1, rfl, rfl⟩⟩
  | call f args => cases hq
  | next it => cases hq
theorem GDo.blind {i : AI} {e : Env} {hp hp2 : List AO} {v : AV} (hq : i.blind = true) (h : GDo P i e hp fun v' hp' => v' = v ∧ hp' = hp) : GDo P i e hp2 fun v' hp' => v' = v ∧ hp' = hp2 := by
  obtain ⟨dst, g, k⟩ := i
  cases k with
  | op o =>
    have hq : o.blind = true := hq
    have key : Do P (.op o) e hp (fun v' hp' => v' = v ∧ hp' = hp) → Do P (.op o) e hp2 fun v' hp' => v' = v ∧ hp' = hp2 := by
      rintro ⟨v, hp', h1, rfl, rfl⟩
      exact ⟨v, hp2, by rw [qhi (hp := hp') hq, h1]; rfl, rfl, rfl⟩
    unfold GDo at h ⊢
    cases g with
    | none => exact key h
    | some p =>
      obtain ⟨d, b⟩ := p
      rcases h with ⟨h1, h2⟩ | ⟨h1, h2, _⟩
      · exact .inl ⟨h1, key h2⟩
      · exact .inr ⟨h1, h2, rfl⟩
  | call f args => cases hq
  | next it => cases hq
theorem GDo.over {i : AI} {e : Env} {hp x : List AO} {v : AV} (hq : i.quiet = true) (h : GDo P i e hp fun v' hp' => v' = v ∧ hp' = hp) : GDo P i e (hp ++ x) fun v' hp' => v' = v ∧ hp' = hp ++ x := by
  obtain ⟨dst, g, k⟩ := i
  cases k with
  | op o =>
    have hq : o.quiet = true := hq
    have key : Do P (.op o) e hp (fun v' hp' => v' = v ∧ hp' = hp) → Do P (.op o) e (hp ++ x) fun v' hp' => v' = v ∧ hp' = hp ++ x := by
      rintro ⟨v, hp', h1, rfl, rfl⟩
      exact ⟨v, _, qoa hq h1, rfl, rfl⟩
    unfold GDo at h ⊢
    cases g with
    | none => exact key h
    | some p =>
      obtain ⟨d, b⟩ := p
      rcases h with ⟨h1, h2⟩ | ⟨h1, h2, _⟩
      · exact .inl ⟨h1, key h2⟩
      · exact .inr ⟨h1, h2, rfl⟩
  | call f args => cases hq
  | next it => cases hq
def Sam (s s' : St) : Prop := s.hp = s'.hp ∧ ∀ t, get s.env t = get s'.env t
theorem Sam.ev {s s' : St} (h : Sam s s') (x : Opd) : ev s.env x = ev s'.env x := by
  cases x with
  | t n => exact h.2 n
  | c a => rfl
theorem Sam.put {e e' : Env} (h : ∀ t, get e t = get e' t) (d : Option Nat) (v : AV) (t : Nat) : get (xu d v e) t = get (xu d v e') t := by
  cases d with
  | none => exact h t
  | some d => simp only [xu, zj, h t]
theorem Sam.symm {s s' : St} (h : Sam s s') : Sam s' s := ⟨h.1.symm, fun t => (h.2 t).symm⟩
theorem One.sam {i : AI} {K : St → Prop} {s s' : St} (hs : Sam s s') (hK : ∀ s s', Sam s s' → K s → K s') (h : One P cf i K s) : One P cf i K s' := by
  unfold One at h ⊢
  have h2 := GDo.congr (e' := s'.env) (fun x _ => hs.ev x) h
  rw [hs.1] at h2
  exact GDo.mono h2 fun v hp' ⟨h3, h4⟩ => ⟨h3, hK _ _ (show Sam ⟨xu i.dst v s.env, hp'⟩ ⟨xu i.dst v s'.env, hp'⟩ from ⟨rfl, fun t => Sam.put hs.2 i.dst v t⟩) h4⟩
theorem Tr.sam {K : St → Prop} (hK : ∀ s s', Sam s s' → K s → K s') : ∀ (l : List AI) {s s' : St}, Sam s s' → Tr P cf l K s → Tr P cf l K s'
  | [], s, s', hs, h => hK _ _ hs h
  | i :: l, s, s', hs, h => One.sam hs (fun _ _ => Tr.sam hK l) h
def AI.off (x y : AI) : Bool := match x.dst with
  | some d => y.looks.all (fun o => match o with | .t n => n != d | .c _ => true) && y.dst != some d
  | none => true
def AI.Bn (cf : Bool) (x y : AI) : Bool := x.quiet && (x.blind || y.quiet || y.qoz cf) && x.off y && y.off x
theorem AI.qys {x y : AI} (h : x.off y = true) (v : AV) (e : Env) : ∀ o ∈ y.looks, ev (xu x.dst v e) o = ev e o := by
  intro o ho
  unfold AI.off at h
  split at h
  · rename_i d hd
    rw [hd]
    simp only [Bool.and_eq_true, List.all_eq_true] at h
    have := h.1 o ho
    cases o with
    | t n => simp only [bne_iff_ne] at this; simp only [ev, xu, zj]; rw [if_neg (fun e => this e.symm)]
    | c a => rfl
  · rename_i hd; rw [hd]; rfl
theorem AI.q0g {x y : AI} (h : x.off y = true) (h' : y.off x = true) (v u : AV) (e : Env) (t : Nat) : get (xu x.dst v (xu y.dst u e)) t = get (xu y.dst u (xu x.dst v e)) t := by
  cases hx : x.dst with
  | none => rfl
  | some d =>
    cases hy : y.dst with
    | none => rfl
    | some d' =>
      have : d' ≠ d := by
        simp only [AI.off, hx, hy, Bool.and_eq_true] at h
        intro e; subst e; simp at h
      simp only [xu, zj]
      by_cases h1 : d = t
      · subst h1; simp [this]
      · simp [h1]
theorem One.swap {x y : AI} {K : St → Prop} {s : St} (hK : ∀ s s', Sam s s' → K s → K s') (hy : x.Bn cf y = true) (h : One P cf x (One P cf y K) s) : One P cf y (One P cf x K) s := by
  simp only [AI.Bn, Bool.and_eq_true, Bool.or_eq_true] at hy
  obtain ⟨⟨⟨hq, hor⟩, hxy⟩, hyx⟩ := hy
  obtain ⟨v, ⟨_, h1⟩, h2⟩ := GDo.quiet hq h
  have h3 := GDo.congr (e' := s.env) (AI.qys hxy v s.env) h1
  unfold One
  have hyq : y.quiet = true → ∀ {C : AV → List AO → Prop}, GDo P y s.env s.hp C → GDo P y s.env s.hp fun v' hp' => C v' hp' ∧ hp' = s.hp := by
    intro hyq C hc
    obtain ⟨u, hu1, hu2⟩ := GDo.quiet hyq hc
    exact GDo.mono hu2 fun v' hp' ⟨e1, e2⟩ => by subst e1; subst e2; exact ⟨hu1, rfl⟩
  have fin : ∀ (u : AV) (hp2 : List AO), K ⟨xu y.dst u (xu x.dst v s.env), hp2⟩ → GDo P x s.env hp2 (fun v' hp' => v' = v ∧ hp' = hp2) →
      One P cf x K ⟨xu y.dst u s.env, hp2⟩ := by
    intro u hp2 hk hd
    refine GDo.mono (GDo.congr (e' := xu y.dst u s.env) (fun o ho => (AI.qys hyx u s.env o ho).symm) hd) fun v' hp' ⟨e1, e2⟩ => ?_
    subst e1; subst e2
    exact ⟨fun _ => ⟨[], by simp⟩, hK _ _ (show Sam ⟨xu y.dst u (xu x.dst v' s.env), hp'⟩ ⟨xu x.dst v' (xu y.dst u s.env), hp'⟩ from ⟨rfl, fun t => (AI.q0g hxy hyx _ _ _ t).symm⟩) hk⟩
  by_cases hb : x.blind = true
  · exact GDo.mono h3 fun u hp2 ⟨h4, h5⟩ => ⟨h4, fin u hp2 h5 (GDo.blind hb h2)⟩
  · by_cases hyqt : y.quiet = true
    · refine GDo.mono (hyq hyqt h3) fun u hp2 ⟨⟨h4, h5⟩, e⟩ => ⟨h4, fin u hp2 h5 ?_⟩
      subst e; exact h2
    · have hadd : y.qoz cf = true := by
        rcases hor with (h | h) | h
        · exact absurd h hb
        · exact absurd h hyqt
        · exact h
      refine GDo.mono h3 fun u hp2 ⟨h4, h5⟩ => ⟨h4, fin u hp2 h5 ?_⟩
      obtain ⟨z, e⟩ := h4 hadd
      have e : hp2 = s.hp ++ z := e
      rw [e]
      exact GDo.over hq h2
theorem Tr.pull {K : St → Prop} (hK : ∀ s s', Sam s s' → K s → K s') {y : AI} {r : List AI} : ∀ (p : List AI) {s : St}, (∀ x ∈ p, x.Bn cf y = true) → Tr P cf (p ++ y :: r) K s → Tr P cf (y :: (p ++ r)) K s
  | [], s, _, h => h
  | x :: p, s, hp, h => by
    have h1 : One P cf x (Tr P cf (y :: (p ++ r)) K) s := by
      have : One P cf x (Tr P cf (p ++ y :: r) K) s := h
      exact GDo.mono this fun v hp' ⟨h3, h4⟩ => ⟨h3, Tr.pull hK p (fun z hz => hp z (List.mem_cons_of_mem _ hz)) h4⟩
    exact One.swap (fun _ _ => Tr.sam hK (p ++ r)) (hp x (List.mem_cons_self ..)) h1
end
end Go.Am
namespace Go.Am
set_option linter.unusedVariables false
set_option linter.unusedSimpArgs false
section
variable {P : Program} {n0 nt : Nat} {cf : Bool}
theorem One.wr {i : AI} {K : St → Prop} {s : St} (h : One P cf i K s) : WR P n0 nt [i] K s := by
  obtain ⟨dst, g, k⟩ := i
  have key : ∀ {C : AV → List AO → Prop}, (∀ v hp', C v hp' → K ⟨xu dst v s.env, hp'⟩) → Do P k s.env s.hp C → WR P n0 nt [⟨dst, none, k⟩] K s := by
    intro C hC hd
    cases k with
    | op o => obtain ⟨v, hp', h1, h2⟩ := hd; exact WR.op h1 (WR.nil (hC _ _ h2))
    | call f args =>
      obtain ⟨fid, first, caps, as, H, R, ρ, bs, h1, h2, h3, h4, h5, h6, h7, h8⟩ := hd
      exact WR.call ρ bs h1 h2 h3 h4 h5 h6 h7 fun v H' hr => WR.nil (hC _ _ (h8 v H' hr))
    | next it => exact hd.elim
  unfold One GDo at h
  cases g with
  | none => exact key (fun v hp' h => h.2) h
  | some p =>
    obtain ⟨d, b⟩ := p
    rcases h with ⟨h1, h2⟩ | ⟨h1, h2⟩
    · exact WR.take h1 (key (fun v hp' h => h.2) h2)
    · exact WR.skip h1 (WR.nil h2.2)
theorem qf1 {X : Ctx} {ι : Nat → Loc} {s : St} {a : Act} {w : World} {ops : Array Oper} {K : St → Prop} {Q' : Exit → Act → World → Prop} {i : Nat} {o : Oper} {ai : AI} (hi : ops[i]? = some o)
    (hc : cAI P nt ops o = some ai) (h : WR P n0 nt [ai] K s) (h0 : X.n0 = n0) (h1 : X.nt = nt) (hok : Ok X ι s a w) :
    wpOp P ops Q' i (fun a w => ∃ ι s', Ok X ι s' a w ∧ K s') a w := by
  have h := h [o] ops (by simp only [Qi, hc]) X h0 h1 ι a w hok
  have hno : ∀ e a w, lift X (fun x s => x = .normal ∧ K s) e a w → ∃ ι s', Ok X ι s' a w ∧ K s' := fun e a w ⟨x, ι, s, _, ho, _, hk⟩ => ⟨ι, s, ho, hk⟩
  have hbad : ∀ e a w, AX.of e = none → ¬ lift X (fun x s => x = .normal ∧ K s) e a w := fun e a w he ⟨x, _, _, hx, _⟩ => by rw [he] at hx; cases hx
  unfold wpOp
  rw [hi]
  unfold wpList at h
  simp only
  split at h
  · rename_i hw
    rw [if_pos hw]
    rcases h with h | ⟨_, a0, w0, h2⟩
    · refine .inl ?_
      unfold Oper.wp at h ⊢
      revert h
      generalize (execOp a.eval o).run P w = r0
      intro h
      cases r0 with
      | ok n w1 =>
        cases n with
        | value v => exact hno _ _ _ h
        | skip => exact hno _ _ _ h
        | defer d => exact hno _ _ _ h
        | enter f args =>
          refine Calls.mono h fun e w2 he => ?_
          cases e with
          | returned v => exact hno _ _ _ he
          | panicked c => exact absurd he (hbad _ _ _ rfl)
          | outgrown => obtain ⟨a1, w1, h3⟩ := he; exact absurd h3 (hbad _ _ _ rfl)
        | row row args => exact Rows.mono h fun v w2 he => hno _ _ _ he
        | _ => exact h.elim
      | halt x w1 =>
        cases x with
        | panic v => exact absurd h (hbad _ _ _ rfl)
        | _ => exact h.elim
    · exact absurd h2 (hbad _ _ _ rfl)
  · rename_i hw
    rw [if_neg hw]
    exact hno _ _ _ h
def pre (ops : Array Oper) (i : Nat) : List Nat := match ops[i]? with | some o => (o.after.toList.filter (Region.binds .any)).map (·.on) | none => []
def Kh (ops : Array Oper) : List (List Nat) := (List.range ops.size).foldl (fun T i => T ++ [((pre ops i) ++ (pre ops i).flatMap fun z => T.getD z []).eraseDups]) []
def okT (ops : Array Oper) (T : List (List Nat)) : Bool :=
  (List.range ops.size).all fun y => (pre ops y).all (fun z => decide (z < y)) && (T.getD y []).all fun x => (pre ops y).contains x || (pre ops y).any fun z => (T.getD z []).contains x
def Ub (ops : Array Oper) (T : List (List Nat)) (cf : Bool) (l : List AI) : List Nat → Bool
  | [] => true
  | x :: r => r.all (fun y => y != x && !(pre ops x).contains y && ((T.getD y []).contains x || (match l[x]?, l[y]? with | some a, some b => a.Bn cf b | _, _ => false))) && Ub ops T cf l r
def Kp (ops : Array Oper) (cf : Bool) (l : List AI) (idx : List Nat) : Bool :=
  okT ops (Kh ops) && Ub ops (Kh ops) cf l idx && decide (idx.length = ops.size) && idx.all (fun i => decide (i < ops.size)) && decide (l.length = ops.size) && (List.range ops.size).all fun i => idx.contains i
structure q53 (ops : Array Oper) (T : List (List Nat)) (cf : Bool) (l : List AI) (listed : Array Bool) (idx : List Nat) : Prop where
  un : ∀ i, listed.getD i true = false ↔ i ∈ idx
  lt : ∀ i ∈ idx, i < ops.size
  size : listed.size = ops.size
  closed : ∀ j, listed.getD j false = true → ∀ z ∈ pre ops j, listed.getD z false = true
  ord : Ub ops T cf l idx = true
theorem qcp {ops : Array Oper} : ∀ {lo : List Oper} {l : List AI}, Qi P nt ops lo = some l → ∀ (i : Nat) (o : Oper), lo[i]? = some o → ∃ ai, l[i]? = some ai ∧ cAI P nt ops o = some ai
  | [], l, h, i, o, hi => by cases hi
  | o0 :: lo, l, h, i, o, hi => by
    simp only [Qi] at h
    split at h
    · rename_i a0 l0 h1 h2
      cases h
      cases i with
      | zero => simp only [List.getElem?_cons_zero, Option.some.injEq] at hi ⊢; subst hi; exact ⟨_, rfl, h1⟩
      | succ i => simp only [List.getElem?_cons_succ] at hi ⊢; exact qcp h2 i o hi
    · cases h
theorem G1 {ops : Array Oper} {T : List (List Nat)} {listed : Array Bool} (hT : okT ops T = true) (hcl : ∀ j, listed.getD j false = true → ∀ z ∈ pre ops j, listed.getD z false = true) :
    ∀ (n y : Nat), y < n → y < ops.size → (∀ z ∈ pre ops y, listed.getD z false = true) → ∀ x ∈ T.getD y [], listed.getD x false = true := by
  intro n
  induction n with
  | zero => intro y h; omega
  | succ n ih =>
    intro y hy hys hpre x hx
    have h1 := List.all_eq_true.1 hT y (List.mem_range.2 hys)
    simp only [Bool.and_eq_true] at h1
    obtain ⟨h2, h3⟩ := h1
    have h4 := List.all_eq_true.1 h3 x hx
    simp only [Bool.or_eq_true] at h4
    rcases h4 with h4 | h4
    · exact hpre x (by simpa using h4)
    · obtain ⟨z, hz, hzx⟩ := List.any_eq_true.1 h4
      have hzy : z < y := of_decide_eq_true (List.all_eq_true.1 h2 z hz)
      exact ih z (by omega) (by omega) (hcl z (hpre z hz)) x (by simpa using hzx)
theorem qfn {ops : Array Oper} {T : List (List Nat)} {l : List AI} {y : Nat} {r : List Nat} : ∀ (p : List Nat), Ub ops T cf l (p ++ y :: r) = true → Ub ops T cf l (p ++ r) = true
  | [], h => by simp only [List.nil_append, Ub, Bool.and_eq_true] at h ⊢; exact h.2
  | x :: p, h => by
    simp only [List.cons_append, Ub, Bool.and_eq_true] at h ⊢
    refine ⟨?_, qfn p h.2⟩
    have h1 := h.1
    rw [List.all_eq_true] at h1 ⊢
    intro z hz
    exact h1 z (by rw [List.mem_append] at hz ⊢; rcases hz with h | h; exact .inl h; exact .inr (List.mem_cons_of_mem _ h))
theorem qe7 {ops : Array Oper} {T : List (List Nat)} {l : List AI} {y : Nat} {r : List Nat} : ∀ (p : List Nat), Ub ops T cf l (p ++ y :: r) = true →
    ∀ x ∈ p, y ≠ x ∧ ((T.getD y []).contains x = true ∨ ∃ a b, l[x]? = some a ∧ l[y]? = some b ∧ a.Bn cf b = true)
  | [], h, x, hx => by cases hx
  | x0 :: p, h, x, hx => by
    simp only [List.cons_append, Ub, Bool.and_eq_true] at h
    rcases List.mem_cons.1 hx with rfl | hx
    · have h1 := List.all_eq_true.1 h.1 y (by simp)
      simp only [Bool.and_eq_true, Bool.or_eq_true, bne_iff_ne] at h1
      refine ⟨h1.1.1, h1.2.imp id fun h2 => ?_⟩
      split at h2
      · rename_i a b ha hb; exact ⟨a, b, ha, hb, h2⟩
      · cases h2
    · exact qe7 p h.2 x hx
theorem qdc {ops : Array Oper} {T : List (List Nat)} {l : List AI} : ∀ {idx : List Nat}, Ub ops T cf l idx = true → idx.Nodup
  | [], _ => List.nodup_nil
  | x :: r, h => by
    simp only [Ub, Bool.and_eq_true] at h
    refine List.nodup_cons.2 ⟨fun hx => ?_, qdc h.2⟩
    have h1 := List.all_eq_true.1 h.1 x hx
    simp at h1
theorem qu3 {X : Ctx} {ops : Array Oper} {Q : AX → St → Prop} {T : List (List Nat)} {l : List AI} (hc : Qi P nt ops ops.toList = some l) (hT : okT ops T = true)
    (h0 : X.n0 = n0) (h1 : X.nt = nt) :
    ∀ (n : Nat) (idx : List Nat) (listed : Array Bool) (ai : List AI) (ι : Nat → Loc) (s : St) (a : Act) (w : World), idx.length = n → q53 ops T cf l listed idx → (idx.mapM fun i => l[i]?) = some ai →
      Tr P cf ai (fun s => ∃ s0, Sam s0 s ∧ Q .normal s0) s → Ok X ι s a w → wpAny P .any ops (lift X Q) n listed a w := by
  have hK : ∀ s s', Sam s s' → (∃ s0, Sam s0 s ∧ Q .normal s0) → ∃ s0, Sam s0 s' ∧ Q .normal s0 := fun s s' hs ⟨s0, h1, h2⟩ => ⟨s0, ⟨h1.1.trans hs.1, fun t => (h1.2 t).trans (hs.2 t)⟩, h2⟩
  intro n
  induction n with
  | zero =>
    intro idx listed ai ι s a w hn inv hm ht hok
    have : idx = [] := List.eq_nil_of_length_eq_zero hn
    subst this
    simp only [List.mapM_nil, Option.pure_def, Option.some.injEq] at hm
    subst hm
    refine ⟨?_, ?_⟩
    · apply List.eq_nil_iff_forall_not_mem.2
      intro i hi
      exact absurd ((inv.un i).1 (mem_ready.1 hi).1) (by simp)
    · obtain ⟨s0, hs, hq⟩ := ht
      refine ⟨.normal, ι, s0, rfl, ?_, hq⟩
      refine ⟨hok.size, hok.defers, fun t ht => ?_, ?_, ?_, hok.base, ?_, hok.fresh, hok.world⟩
      · have h3 := hs.2 t
        rw [h3] at ht ⊢
        rw [hs.1]
        exact hok.env t ht
      · rw [hs.1]; exact hok.heap
      · rw [hs.1]; exact hok.dom
      · rw [hs.1]; exact hok.len
  | succ n ih =>
    intro idx listed ai ι s a w hn inv hm ht hok
    refine ⟨fun hr => ?_, fun i hi => ?_⟩
    · exfalso
      cases idx with
      | nil => simp at hn
      | cons x r =>
        have hlx : x < ops.size := inv.lt x (List.mem_cons_self ..)
        have : x ∈ Region.ready .any ops listed := by
          refine mem_ready.2 ⟨(inv.un x).2 (List.mem_cons_self ..), ops[x], by simp [hlx], fun e he hb => ?_⟩
          have hpx : e.on ∈ pre ops x := by
            unfold pre
            rw [Array.getElem?_eq_getElem hlx]
            exact List.mem_map.2 ⟨e, List.mem_filter.2 ⟨by simpa using he, hb⟩, rfl⟩
          have hlt : e.on < x := by
            have h2 := List.all_eq_true.1 hT x (List.mem_range.2 hlx)
            simp only [Bool.and_eq_true] at h2
            exact of_decide_eq_true (List.all_eq_true.1 h2.1 _ hpx)
          have hnot : e.on ∉ x :: r := by
            intro hmem
            rcases List.mem_cons.1 hmem with h3 | h3
            · omega
            · have h4 := inv.ord
              simp only [Ub, Bool.and_eq_true] at h4
              have h5 := List.all_eq_true.1 h4.1 _ h3
              simp [hpx] at h5
          have h6 : ¬ listed.getD e.on true = false := fun h => hnot ((inv.un _).1 h)
          have h7 : e.on < listed.size := by rw [inv.size]; omega
          simp only [Array.getD_eq_getD_getElem?, Array.getElem?_eq_getElem h7, Option.getD_some] at h6 ⊢
          simpa using h6
        rw [hr] at this; cases this
    · obtain ⟨hun, o, ho, hall⟩ := mem_ready.1 hi
      have hmem := (inv.un i).1 hun
      obtain ⟨p, r, rfl⟩ := List.append_of_mem hmem
      have hnd := qdc inv.ord
      have hil : i < ops.size := inv.lt i hmem
      have hpre : ∀ z ∈ pre ops i, listed.getD z false = true := by
        intro z hz
        unfold pre at hz
        rw [ho] at hz
        obtain ⟨e, he, rfl⟩ := List.mem_map.1 hz
        obtain ⟨he1, he2⟩ := List.mem_filter.1 he
        exact hall e (by simpa using he1) he2
      have hbef := G1 hT inv.closed (i + 1) i (by omega) hil hpre
      obtain ⟨ax, hax, hcx⟩ := qcp hc i o (by simpa using ho)
      rw [List.mapM_append, ] at hm
      simp only [List.mapM_cons, hax, Option.pure_def, Option.bind_eq_bind, Option.bind_some] at hm
      cases hp : (p.mapM fun i => l[i]?) with
      | none => rw [hp] at hm; simp at hm
      | some ap =>
        cases hr' : (r.mapM fun i => l[i]?) with
        | none => rw [hp, hr'] at hm; simp at hm
        | some ar =>
          rw [hp, hr'] at hm
          simp only [Option.bind_some, Option.some.injEq] at hm
          subst hm
          have hyl : ∀ x ∈ ap, x.Bn cf ax = true := by
            intro x hx
            have : ∀ (p : List Nat) (ap : List AI), (p.mapM fun i => l[i]?) = some ap → ∀ x ∈ ap, ∃ j ∈ p, l[j]? = some x := by
              intro p
              induction p with
              | nil => intro ap h x hx; simp only [List.mapM_nil, Option.pure_def, Option.some.injEq] at h; subst h; cases hx
              | cons j p ih =>
                intro ap h x hx
                simp only [List.mapM_cons, Option.pure_def, Option.bind_eq_bind] at h
                cases hj : l[j]? with
                | none => rw [hj] at h; simp at h
                | some aj =>
                  rw [hj] at h
                  cases hp2 : (p.mapM fun i => l[i]?) with
                  | none => rw [hp2] at h; simp at h
                  | some ap2 =>
                    rw [hp2] at h
                    simp only [Option.bind_some, Option.some.injEq] at h
                    subst h
                    rcases List.mem_cons.1 hx with rfl | hx
                    · exact ⟨j, List.mem_cons_self .., hj⟩
                    · obtain ⟨j', h1, h2⟩ := ih ap2 hp2 x hx; exact ⟨j', List.mem_cons_of_mem _ h1, h2⟩
            obtain ⟨j, hj, hjx⟩ := this p ap hp x hx
            obtain ⟨hne, hor⟩ := qe7 p inv.ord j hj
            rcases hor with h | ⟨a1, b1, ha, hb, hy⟩
            · exfalso
              have h2 := hbef j (by simpa using h)
              have h3 := (inv.un j).2 (List.mem_append_left _ hj)
              have h4 : j < listed.size := by rw [inv.size]; exact inv.lt j (List.mem_append_left _ hj)
              simp only [Array.getD_eq_getD_getElem?, Array.getElem?_eq_getElem h4, Option.getD_some] at h2 h3
              rw [h2] at h3; cases h3
            · rw [hjx] at ha; cases ha
              rw [hax] at hb; cases hb
              exact hy
          have ht2 := Tr.pull hK ap hyl ht
          refine wpOp_mono (fun a' w' ⟨ι', s', hok', ht'⟩ => ?_) (qf1 (n0 := n0) (nt := nt) ho hcx (One.wr ht2) h0 h1 hok)
          refine ih (p ++ r) _ (ap ++ ar) ι' s' a' w' (by simp at hn ⊢; omega) ?_ (by rw [List.mapM_append, hp, hr']; rfl) ht' hok'
          have hsz : i < listed.size := by rw [inv.size]; exact hil
          have hnp : i ∉ p ∧ i ∉ r := by
            have := hnd
            rw [List.nodup_append] at this
            obtain ⟨_, h2, h3⟩ := this
            exact ⟨fun hp => h3 i hp i (List.mem_cons_self ..) rfl, (List.nodup_cons.1 h2).1⟩
          refine ⟨fun j => ?_, fun j hj => inv.lt j ?_, by simp [inv.size], fun j hj z hz => ?_, qfn p inv.ord⟩
          · by_cases hji : j = i
            · subst hji
              constructor
              · intro h; simp [hsz] at h
              · intro h; rw [List.mem_append] at h; rcases h with h | h; exact absurd h hnp.1; exact absurd h hnp.2
            · rw [getD_set_ne true (Ne.symm hji), inv.un j]
              simp [hji]
          · rw [List.mem_append] at hj ⊢; rcases hj with h | h; exact .inl h; exact .inr (List.mem_cons_of_mem _ h)
          · have up : ∀ z, listed.getD z false = true → (listed.setIfInBounds i true).getD z false = true := by
              intro z hz
              by_cases hzi : z = i
              · subst hzi; simp [hsz]
              · rw [getD_set_ne false (Ne.symm hzi)]; exact hz
            by_cases hji : j = i
            · subst hji; exact up z (hpre z hz)
            · rw [getD_set_ne false (Ne.symm hji)] at hj
              exact up z (inv.closed j hj z hz)
theorem Ok.drawn {X : Ctx} {ι : Nat → Loc} {s : St} {a : Act} {w : World} (h : Ok X ι s a w) : Ok X ι s a { w with drawn := w.drawn + 1 } :=
  ⟨h.size, h.defers, h.env, h.heap, h.dom, h.base, h.len, h.fresh, ⟨h.world.frame, h.world.grow, h.world.os, h.world.out, h.world.tape.trans ⟨rfl, Nat.le_succ _⟩⟩⟩
theorem WC.qzk {s : St} {id : Nat} {ops : Array Oper} {Q : AX → St → Prop} {l ai : List AI} (idx : List Nat) (cf : Bool) (hm : P.follows .mixedOrders = true) (hc : Qi P nt ops ops.toList = some l)
    (hB : Kp ops cf l idx = true) (hai : (idx.mapM fun i => l[i]?) = some ai) (h : Tr P cf ai (Q .normal) s) : WC P n0 nt (.region id ops true) Q s := by
  intro X h0 h1 ι a w hok
  simp only [Kp, Bool.and_eq_true, decide_eq_true_eq, List.all_eq_true] at hB
  obtain ⟨⟨⟨⟨⟨hT, hO⟩, hlen⟩, hlt⟩, _⟩, hall⟩ := hB
  have mono : ∀ (l : List AI) (s : St), Tr P cf l (Q .normal) s → Tr P cf l (fun s => ∃ s0, Sam s0 s ∧ Q .normal s0) s := by
    intro l
    induction l with
    | nil => intro s h; exact ⟨s, ⟨rfl, fun _ => rfl⟩, h⟩
    | cons i l ih => intro s h; exact GDo.mono h fun v hp' ⟨h1, h2⟩ => ⟨h1, ih _ h2⟩
  refine wp_region_any hm (qu3 (n0 := n0) hc hT h0 h1 ops.size idx _ ai ι s a _ hlen ?_ hai (mono _ _ h) hok.drawn)
  refine ⟨fun i => ?_, fun i hi => by simpa using hlt i hi, by simp, fun j hj => ?_, hO⟩
  · constructor
    · intro h
      have : i < ops.size := by
        rcases Nat.lt_or_ge i ops.size with h1 | h1
        · exact h1
        · simp [Array.getD_eq_getD_getElem?, h1] at h
      simpa using hall i (List.mem_range.2 this)
    · intro h
      have := hlt i h
      simp [Array.getD_eq_getD_getElem?, this]
  · exfalso
    rcases Nat.lt_or_ge j ops.size with h | h
    · simp [h] at hj
    · simp [h] at hj
inductive DT where
  | nil
  | one (i : Nat) (t : DT)
  | alt (i : Nat) (t r : DT)
  | none
inductive AT where
  | nil
  | one (a : AI) (t : AT)
  | alt (a : AI) (t r : AT)
  | none
def DT.at (l : List AI) : DT → Option AT
  | .nil => some .nil
  | .none => some .none
  | .one i t => match l[i]?, t.at l with
    | some a, some u => some (.one a u)
    | _, _ => Option.none
  | .alt i t r => match l[i]?, t.at l, r.at l with
    | some a, some u, some v => some (.alt a u v)
    | _, _, _ => Option.none
def TrT (P : Program) (cf : Bool) : AT → (St → Prop) → St → Prop
  | .nil, K, s => K s
  | .none, K, s => True
  | .one a t, K, s => One P cf a (TrT P cf t K) s
  | .alt a t r, K, s => One P cf a (TrT P cf t K) s ∧ TrT P cf r K s
theorem TrT.sam {K : St → Prop} (hK : ∀ s s', Sam s s' → K s → K s') : ∀ (t : AT) {s s' : St}, Sam s s' → TrT P cf t K s → TrT P cf t K s'
  | .nil, s, s', hs, h => hK _ _ hs h
  | .none, s, s', hs, h => trivial
  | .one a t, s, s', hs, h => One.sam hs (fun _ _ => TrT.sam hK t) h
  | .alt a t r, s, s', hs, h => ⟨One.sam hs (fun _ _ => TrT.sam hK t) h.1, TrT.sam hK r hs h.2⟩
theorem One.mono {i : AI} {K K' : St → Prop} {s : St} (h : One P cf i K s) (hk : ∀ s, K s → K' s) : One P cf i K' s :=
  GDo.mono h fun v hp' ⟨h1, h2⟩ => ⟨h1, hk _ h2⟩
theorem TrT.mono {K K' : St → Prop} (hK : ∀ s, K s → K' s) : ∀ (t : AT) {s : St}, TrT P cf t K s → TrT P cf t K' s
  | .nil, s, h => hK _ h
  | .none, s, h => trivial
  | .one a t, s, h => One.mono h fun s => TrT.mono hK t
  | .alt a t r, s, h => ⟨One.mono h.1 fun s => TrT.mono hK t, TrT.mono hK r h.2⟩
def qjw (ops : Array Oper) (R : List Nat) : List Nat := R.filter fun i => (pre ops i).all fun z => !R.contains z
def qfk (ops : Array Oper) (T : List (List Nat)) (cf : Bool) (l : List AI) (i y : Nat) : Bool :=
  y == i || (T.getD y []).contains i || (match l[i]?, l[y]? with | some a, some b => a.Bn cf b | _, _ => false)
def w8 (ops : Array Oper) (T : List (List Nat)) (cf : Bool) (l : List AI) : DT → List Nat → Option (List Nat) → Bool
  | .nil, R, Option.none => R.isEmpty
  | .one i t, R, Option.none => R.contains i && R.all (qfk ops T cf l i) && w8 ops T cf l t (R.erase i) Option.none
  | .alt i t r, R, need => R.contains i && w8 ops T cf l t (R.erase i) Option.none && w8 ops T cf l r R (some ((need.getD (qjw ops R)).filter (· != i)))
  | .none, R, some [] => true
  | _, _, _ => false
theorem TrT.pull {ops : Array Oper} {T : List (List Nat)} {l : List AI} {K : St → Prop} (hK : ∀ s s', Sam s s' → K s → K s') {i : Nat} {ai : AI} (hi : l[i]? = some ai) :
    ∀ (d : DT) (R : List Nat) (need : Option (List Nat)) (t : AT), R.Nodup → w8 ops T cf l d R need = true → d.at l = some t → i ∈ R → (∀ x ∈ T.getD i [], x ∉ R) → (∀ z ∈ pre ops i, z ∉ R) →
      (∀ n, need = some n → i ∈ n) → ∃ d' t', w8 ops T cf l d' (R.erase i) Option.none = true ∧ d'.at l = some t' ∧ ∀ s, TrT P cf t K s → One P cf ai (TrT P cf t' K) s := by
  intro d
  induction d with
  | nil =>
    intro R need t hnd hok hat hm hT hp hn
    cases need with
    | none => simp only [w8, List.isEmpty_iff] at hok; subst hok; cases hm
    | some n => simp [w8] at hok
  | none =>
    intro R need t hnd hok hat hm hT hp hn
    cases need with
    | none => simp [w8] at hok
    | some n =>
      have := hn n rfl
      cases n with
      | nil => cases this
      | cons a n => simp [w8] at hok
  | one x d ih =>
    intro R need t hnd hok hat hm hT hp hn
    cases need with
    | some n => simp [w8] at hok
    | none =>
      simp only [w8, Bool.and_eq_true, List.all_eq_true] at hok
      obtain ⟨⟨h1, h2⟩, h3⟩ := hok
      simp only [DT.at] at hat
      split at hat
      · rename_i a u ha hu
        cases hat
        by_cases hx : i = x
        · subst hx
          rw [hi] at ha; cases ha
          exact ⟨d, u, h3, hu, fun s h => h⟩
        · have hmx : i ∈ R.erase x := (List.mem_erase_of_ne hx).2 hm
          obtain ⟨d', t', h4, h5, h6⟩ := ih (R.erase x) Option.none u (hnd.erase x) h3 hu hmx (fun y hy h => hT y hy (List.mem_of_mem_erase h)) (fun y hy h => hp y hy (List.mem_of_mem_erase h)) (by simp)
          have hy := h2 i hm
          simp only [qfk, Bool.or_eq_true, beq_iff_eq] at hy
          have hxr : x ∈ R := by simpa using h1
          have hyl : a.Bn cf ai = true := by
            rcases hy with (h | h) | h
            · exact absurd h hx
            · exact absurd hxr (hT x (by simpa using h))
            · rw [ha, hi] at h; exact h
          refine ⟨.one x d', .one a t', ?_, by simp only [DT.at, ha, h5], fun s h => ?_⟩
          · simp only [w8, Bool.and_eq_true, List.all_eq_true]
            refine ⟨⟨by simpa using (List.mem_erase_of_ne (Ne.symm hx)).2 hxr, fun y hy => h2 y (List.mem_of_mem_erase hy)⟩, ?_⟩
            rw [List.erase_comm]; exact h4
          · exact One.swap (fun _ _ => TrT.sam hK t') hyl (One.mono h fun s => h6 s)
      · cases hat
  | alt x d r ihd ihr =>
    intro R need t hnd hok hat hm hT hp hn
    simp only [w8, Bool.and_eq_true] at hok
    obtain ⟨⟨h1, h2⟩, h3⟩ := hok
    simp only [DT.at] at hat
    split at hat
    · rename_i a u v ha hu hv
      cases hat
      by_cases hx : i = x
      · subst hx
        rw [hi] at ha; cases ha
        exact ⟨d, u, h2, hu, fun s h => h.1⟩
      · obtain ⟨d', t', h4, h5, h6⟩ := ihr R _ v hnd h3 hv hm hT hp (by
          rintro n ⟨⟩
          refine List.mem_filter.2 ⟨?_, by simpa using hx⟩
          cases need with
          | none => exact List.mem_filter.2 ⟨hm, List.all_eq_true.2 fun z hz => by simpa using hp z hz⟩
          | some n => exact hn n rfl)
        exact ⟨d', t', h4, h5, fun s h => h6 s h.2⟩
    · cases hat
structure q6d (ops : Array Oper) (listed : Array Bool) (R : List Nat) : Prop where
  un : ∀ i, listed.getD i true = false ↔ i ∈ R
  lt : ∀ i ∈ R, i < ops.size
  size : listed.size = ops.size
  closed : ∀ j, listed.getD j false = true → ∀ z ∈ pre ops j, listed.getD z false = true
  nodup : R.Nodup
theorem qt4 {X : Ctx} {ops : Array Oper} {Q : AX → St → Prop} {T : List (List Nat)} {l : List AI} (hc : Qi P nt ops ops.toList = some l) (hT : okT ops T = true)
    (h0 : X.n0 = n0) (h1 : X.nt = nt) :
    ∀ (n : Nat) (R : List Nat) (listed : Array Bool) (d : DT) (t : AT) (ι : Nat → Loc) (s : St) (a : Act) (w : World), R.length = n → q6d ops listed R → w8 ops T cf l d R Option.none = true → d.at l = some t →
      TrT P cf t (fun s => ∃ s0, Sam s0 s ∧ Q .normal s0) s → Ok X ι s a w → wpAny P .any ops (lift X Q) n listed a w := by
  have hK : ∀ s s', Sam s s' → (∃ s0, Sam s0 s ∧ Q .normal s0) → ∃ s0, Sam s0 s' ∧ Q .normal s0 := fun s s' hs ⟨s0, h1, h2⟩ => ⟨s0, ⟨h1.1.trans hs.1, fun t => (h1.2 t).trans (hs.2 t)⟩, h2⟩
  intro n
  induction n with
  | zero =>
    intro R listed d t ι s a w hn inv hok hat ht hokk
    have : R = [] := List.eq_nil_of_length_eq_zero hn
    subst this
    have hd : d = .nil := by
      cases d with
      | nil => rfl
      | one i d => simp [w8] at hok
      | alt i d r => simp [w8] at hok
      | none => simp [w8] at hok
    subst hd
    simp only [DT.at, Option.some.injEq] at hat
    subst hat
    refine ⟨?_, ?_⟩
    · apply List.eq_nil_iff_forall_not_mem.2
      intro i hi
      exact absurd ((inv.un i).1 (mem_ready.1 hi).1) (by simp)
    · obtain ⟨s0, hs, hq⟩ := ht
      refine ⟨.normal, ι, s0, rfl, ?_, hq⟩
      refine ⟨hokk.size, hokk.defers, fun t ht => ?_, ?_, ?_, hokk.base, ?_, hokk.fresh, hokk.world⟩
      · have h3 := hs.2 t
        rw [h3] at ht ⊢
        rw [hs.1]
        exact hokk.env t ht
      · rw [hs.1]; exact hokk.heap
      · rw [hs.1]; exact hokk.dom
      · rw [hs.1]; exact hokk.len
  | succ n ih =>
    intro R listed d t ι s a w hn inv hok hat ht hokk
    refine ⟨fun hr => ?_, fun i hi => ?_⟩
    · exfalso
      have least : ∀ m, ∀ x ∈ R, x < m → ∃ y ∈ R, ∀ z ∈ pre ops y, z ∉ R := by
        intro m
        induction m with
        | zero => intro x _ h; omega
        | succ m ihm =>
          intro x hx hxm
          by_cases h : ∀ z ∈ pre ops x, z ∉ R
          · exact ⟨x, hx, h⟩
          · obtain ⟨z, h⟩ := Classical.not_forall.1 h
            obtain ⟨hz, hzR⟩ := Classical.not_imp.1 h
            have hzR := Classical.not_not.1 hzR
            have h2 := List.all_eq_true.1 hT x (List.mem_range.2 (inv.lt x hx))
            simp only [Bool.and_eq_true] at h2
            have hlt : z < x := of_decide_eq_true (List.all_eq_true.1 h2.1 _ hz)
            exact ihm z hzR (by omega)
      cases R with
      | nil => simp at hn
      | cons x r =>
        obtain ⟨y, hy, hyp⟩ := least (x + 1) x (List.mem_cons_self ..) (by omega)
        have hly := inv.lt y hy
        have : y ∈ Region.ready .any ops listed := by
          refine mem_ready.2 ⟨(inv.un y).2 hy, ops[y], by simp [hly], fun e he hb => ?_⟩
          have hpx : e.on ∈ pre ops y := by
            unfold pre
            rw [Array.getElem?_eq_getElem hly]
            exact List.mem_map.2 ⟨e, List.mem_filter.2 ⟨by simpa using he, hb⟩, rfl⟩
          have hlt : e.on < y := by
            have h2 := List.all_eq_true.1 hT y (List.mem_range.2 hly)
            simp only [Bool.and_eq_true] at h2
            exact of_decide_eq_true (List.all_eq_true.1 h2.1 _ hpx)
          have hnot := hyp _ hpx
          have h6 : ¬ listed.getD e.on true = false := fun h => hnot ((inv.un _).1 h)
          have h7 : e.on < listed.size := by rw [inv.size]; omega
          simp only [Array.getD_eq_getD_getElem?, Array.getElem?_eq_getElem h7, Option.getD_some] at h6 ⊢
          simpa using h6
        rw [hr] at this; cases this
    · obtain ⟨hun, o, ho, hall⟩ := mem_ready.1 hi
      have hmem := (inv.un i).1 hun
      have hil : i < ops.size := inv.lt i hmem
      have hpre : ∀ z ∈ pre ops i, listed.getD z false = true := by
        intro z hz
        unfold pre at hz
        rw [ho] at hz
        obtain ⟨e, he, rfl⟩ := List.mem_map.1 hz
        obtain ⟨he1, he2⟩ := List.mem_filter.1 he
        exact hall e (by simpa using he1) he2
      have notin : ∀ z, listed.getD z false = true → z ∉ R := by
        intro z h2 hz
        have h3 := (inv.un z).2 hz
        have h4 : z < listed.size := by rw [inv.size]; exact inv.lt z hz
        simp only [Array.getD_eq_getD_getElem?, Array.getElem?_eq_getElem h4, Option.getD_some] at h2 h3
        rw [h2] at h3; cases h3
      have hbef := G1 hT inv.closed (i + 1) i (by omega) hil hpre
      obtain ⟨ax, hax, hcx⟩ := qcp hc i o (by simpa using ho)
      obtain ⟨d', t', h4, h5, h6⟩ := TrT.pull (P := P) (cf := cf) hK hax d R Option.none t inv.nodup hok hat hmem (fun x hx => notin x (hbef x hx)) (fun z hz => notin z (hpre z hz)) (by simp)
      have ht2 := h6 s ht
      refine wpOp_mono (fun a' w' ⟨ι', s', hok', ht'⟩ => ?_) (qf1 (n0 := n0) (nt := nt) ho hcx (One.wr ht2) h0 h1 hokk)
      have hsz : i < listed.size := by rw [inv.size]; exact hil
      refine ih (R.erase i) _ d' t' ι' s' a' w' (by rw [List.length_erase_of_mem hmem]; omega) ?_ h4 h5 ht' hok'
      refine ⟨fun j => ?_, fun j hj => inv.lt j (List.mem_of_mem_erase hj), by simp [inv.size], fun j hj z hz => ?_, inv.nodup.erase i⟩
      · by_cases hji : j = i
        · subst hji
          constructor
          · intro h; simp [hsz] at h
          · intro h; exact absurd h (inv.nodup.not_mem_erase)
        · rw [getD_set_ne true (Ne.symm hji), inv.un j, List.mem_erase_of_ne hji]
      · have up : ∀ z, listed.getD z false = true → (listed.setIfInBounds i true).getD z false = true := by
          intro z hz
          by_cases hzi : z = i
          · subst hzi; simp [hsz]
          · rw [getD_set_ne false (Ne.symm hzi)]; exact hz
        by_cases hji : j = i
        · subst hji; exact up z (hpre z hz)
        · rw [getD_set_ne false (Ne.symm hji)] at hj
          exact up z (inv.closed j hj z hz)
theorem WC.qy9 {s : St} {id : Nat} {ops : Array Oper} {Q : AX → St → Prop} {l : List AI} {d : DT} {t : AT} (cf : Bool) (hm : P.follows .mixedOrders = true) (hc : Qi P nt ops ops.toList = some l)
    (hT : okT ops (Kh ops) = true) (hok : w8 ops (Kh ops) cf l d (List.range ops.size) Option.none = true) (hat : d.at l = some t) (h : TrT P cf t (Q .normal) s) : WC P n0 nt (.region id ops true) Q s := by
  intro X h0 h1 ι a w hokk
  refine wp_region_any hm (qt4 (n0 := n0) hc hT h0 h1 ops.size (List.range ops.size) _ d t ι s a _ (by simp) ?_ hok hat (TrT.mono (fun s h => ⟨s, ⟨rfl, fun _ => rfl⟩, h⟩) t h) hokk.drawn)
  refine ⟨fun i => ?_, fun i hi => by simpa using hi, by simp, fun j hj => ?_, List.nodup_range⟩
  · constructor
    · intro h
      have : i < ops.size := by
        rcases Nat.lt_or_ge i ops.size with h1 | h1
        · exact h1
        · simp [Array.getD_eq_getD_getElem?, h1] at h
      simpa using this
    · intro h
      have : i < ops.size := by simpa using h
      simp [Array.getD_eq_getD_getElem?, this]
  · exfalso
    rcases Nat.lt_or_ge j ops.size with h | h
    · simp [h] at hj
    · simp [h] at hj
end
end Go.Am
namespace Go.Am
set_option linter.unusedVariables false
set_option linter.unusedSimpArgs false
inductive AC where
  | skip
  | ret
  | exit (id : Nat)
  | region (l : List AI)
  | draw (cf : Bool) (l : List AI)
  | tree (cf : Bool) (t : AT)
  | seq (a b : AC)
  | cond (c : Nat) (a b : AC)
  | Y7 (t : Bool) (a : AC)
  | block (id : Nat) (a : AC)
  | loop (a : AC)
  | scope (a : AC)
def q5g (ops : Array Oper) (l : List AI) (done : List Nat) : Option Nat :=
  let rs := (List.range ops.size).filter fun i => !done.contains i && (pre ops i).all done.contains
  match rs.find? (fun i => match l[i]? with | some a => a.quiet | none => false) with
  | some i => some i
  | none => rs.head?
def qbs (ops : Array Oper) (l : List AI) : Nat → List Nat → List Nat
  | 0, done => done.reverse
  | n + 1, done => match q5g ops l done with
    | some i => qbs ops l n (i :: done)
    | none => done.reverse
def qul (ops : Array Oper) (l : List AI) : Option (Bool × List AI) :=
  match cond (Kp ops false l (qbs ops l ops.size [])) (some false) (cond (Kp ops true l (qbs ops l ops.size [])) (some true) none), ((qbs ops l ops.size []).mapM fun i => l[i]?) with
  | some cf, some ai => some (cf, ai)
  | _, _ => none
def qdg (ops : Array Oper) (T : List (List Nat)) (cf : Bool) (l : List AI) : Nat → List Nat → DT
  | 0, _ => .nil
  | n + 1, R => match R with
    | [] => .nil
    | _ => match (qjw ops R).find? (fun i => R.all (qfk ops T cf l i)) with
      | some i => .one i (qdg ops T cf l n (R.erase i))
      | none => (qjw ops R).foldr (fun i r => .alt i (qdg ops T cf l n (R.erase i)) r) .none
def DT.leaves : DT → Nat
  | .nil => 1
  | .none => 0
  | .one _ t => t.leaves
  | .alt _ t r => t.leaves + r.leaves
def qqo (ops : Array Oper) (l : List AI) : Option (Bool × AT) :=
  let T := Kh ops
  let R := List.range ops.size
  let t0 := qdg ops T false l ops.size R
  let t1 := qdg ops T true l ops.size R
  let p : Bool × DT := cond (decide (t0.leaves ≤ t1.leaves)) (false, t0) (true, t1)
  cond (okT ops T && w8 ops T p.1 l p.2 R none) ((p.2.at l).map fun t => (p.1, t)) none
theorem qwq {ops : Array Oper} {l : List AI} {cf : Bool} {t : AT} (h : qqo ops l = some (cf, t)) : ∃ d, okT ops (Kh ops) = true ∧ w8 ops (Kh ops) cf l d (List.range ops.size) none = true ∧ d.at l = some t := by
  unfold qqo at h
  simp only at h
  revert h
  generalize (cond (decide ((qdg ops (Kh ops) false l ops.size (List.range ops.size)).leaves ≤ (qdg ops (Kh ops) true l ops.size (List.range ops.size)).leaves)) (false, qdg ops (Kh ops) false l ops.size (List.range ops.size)) (true, qdg ops (Kh ops) true l ops.size (List.range ops.size)) : Bool × DT) = p
  obtain ⟨c, d⟩ := p
  intro h
  cases hb : (okT ops (Kh ops) && w8 ops (Kh ops) c l d (List.range ops.size) none) with
  | false => simp only [hb, cond_false, reduceCtorEq] at h
  | true =>
    simp only [hb, cond_true] at h
    obtain ⟨z, h1, h2⟩ := xd h
    cases h2
    simp only [Bool.and_eq_true] at hb
    exact ⟨d, hb.1, hb.2, h1⟩
def qvk (ops : Array Oper) (l : List AI) : Option AC :=
  match qul ops l with
  | some p => some (.draw p.1 p.2)
  | none => match qqo ops l with
    | some p => some (.tree p.1 p.2)
    | none => none
def jc (P : Program) (nt : Nat) : Code → Option AC
  | .skip => some .skip
  | .ret => some .ret
  | .exit id => some (.exit id)
  | .region _ ops d => match Qi P nt ops ops.toList with
    | some l => cond d (qvk ops l) (some (.region l))
    | none => none
  | .seq a b => match jc P nt a, jc P nt b with
    | some a, some b => some (.seq a b)
    | _, _ => none
  | .cond (.tmp c) a b => match jc P nt a, jc P nt b with
    | some a, some b => some (.cond c a b)
    | _, _ => none
  | .cond (.const (.bool true)) a _ => (jc P nt a).map (.Y7 true)
  | .cond (.const (.bool false)) _ b => (jc P nt b).map (.Y7 false)
  | .block id a => (jc P nt a).map (.block id)
  | .loop a => (jc P nt a).map .loop
  | .scope a => (jc P nt a).map .scope
  | _ => none
def WA (P : Program) (n0 nt : Nat) (c : AC) (Q : AX → St → Prop) (s : St) : Prop :=
  P.follows .mixedOrders = true → ∀ code, jc P nt code = some c → WC P n0 nt code Q s
section
variable {P : Program} {n0 nt : Nat} {Q : AX → St → Prop} {s : St}
theorem Qc {ops : Array Oper} {l : List AI} {c : AC} (h : qvk ops l = some c) : (∃ p, c = .draw p.1 p.2 ∧ qul ops l = some p) ∨ ∃ p, c = .tree p.1 p.2 ∧ qqo ops l = some p := by
  unfold qvk at h
  split at h
  · rename_i p hp; cases h; exact .inl ⟨p, rfl, hp⟩
  · split at h
    · rename_i p hp; cases h; exact .inr ⟨p, rfl, hp⟩
    · cases h
theorem kv {c : Operand} {x y : Code} {r : AC} (h1 : ∀ t a b, r ≠ .cond t a b) (h2 : ∀ t a, r ≠ .Y7 t a) : jc P nt (.cond c x y) ≠ some r := by
  intro h
  unfold jc at h
  split at h <;> try (cases h; done)
  all_goals first
    | (rename_i e; cases e; done)
    | skip
  all_goals first
    | (split at h; · simp only [Option.some.injEq] at h; exact h1 _ _ _ h.symm
       · cases h)
    | (obtain ⟨z, _, h⟩ := xd h; exact h2 _ _ h.symm)
theorem qjm {l : List AI} {code : Code} (h : jc P nt code = some (.region l)) : ∃ id ops, code = .region id ops false ∧ Qi P nt ops ops.toList = some l := by
  cases code <;> (try simp only [jc] at h) <;> try (first | (cases h; done) | (obtain ⟨_, _, h⟩ := xd h; cases h; done))
  case region id ops d =>
    split at h
    · rename_i l' hl
      cases d
      · simp only [cond_false, Option.some.injEq, AC.region.injEq] at h; subst h; exact ⟨id, ops, rfl, hl⟩
      · simp only [cond_true] at h; rcases Qc h with ⟨_, h, _⟩ | ⟨_, h, _⟩ <;> cases h
    · cases h
  case seq => split at h <;> cases h
  case cond c a b => exact absurd h (kv (by intros; simp) (by intros; simp))
theorem qqe {cf : Bool} {ai : List AI} {code : Code} (h : jc P nt code = some (.draw cf ai)) :
    ∃ id ops l idx, code = .region id ops true ∧ Qi P nt ops ops.toList = some l ∧ Kp ops cf l idx = true ∧ (idx.mapM fun i => l[i]?) = some ai := by
  cases code <;> (try simp only [jc] at h) <;> try (first | (cases h; done) | (obtain ⟨_, _, h⟩ := xd h; cases h; done))
  case region id ops d =>
    split at h
    · rename_i l' hl
      cases d
      · simp only [cond_false] at h; cases h
      · simp only [cond_true] at h
        obtain ⟨⟨cf', ai'⟩, h2, h1⟩ | ⟨_, h2, _⟩ := Qc h
        rotate_left
        · cases h2
        cases h2
        unfold qul at h1
        split at h1
        · rename_i cf2 ai2 hcf hai
          cases h1
          refine ⟨id, ops, l', _, rfl, hl, ?_, hai⟩
          revert hcf
          cases h3 : Kp ops false l' (qbs ops l' ops.size []) <;> cases h4 : Kp ops true l' (qbs ops l' ops.size []) <;> intro hcf <;> simp only [cond_true, cond_false, Option.some.injEq, reduceCtorEq] at hcf
          all_goals subst hcf; first | exact h3 | exact h4
        · cases h1
    · cases h
  case seq => split at h <;> cases h
  case cond c a b => exact absurd h (kv (by intros; simp) (by intros; simp))
theorem qn6 {cf : Bool} {at_ : AT} {code : Code} (h : jc P nt code = some (.tree cf at_)) :
    ∃ id ops l d, code = .region id ops true ∧ Qi P nt ops ops.toList = some l ∧ okT ops (Kh ops) = true ∧ w8 ops (Kh ops) cf l d (List.range ops.size) none = true ∧ d.at l = some at_ := by
  cases code <;> (try simp only [jc] at h) <;> try (first | (cases h; done) | (obtain ⟨_, _, h⟩ := xd h; cases h; done))
  case region id ops d =>
    split at h
    · rename_i l' hl
      cases d
      · simp only [cond_false] at h; cases h
      · simp only [cond_true] at h
        obtain ⟨_, h2, _⟩ | ⟨⟨cf', t'⟩, h2, h1⟩ := Qc h
        · cases h2
        cases h2
        obtain ⟨d, h3, h4, h5⟩ := qwq h1
        exact ⟨id, ops, l', d, rfl, hl, h3, h4, h5⟩
    · cases h
  case seq => split at h <;> cases h
  case cond c a b => exact absurd h (kv (by intros; simp) (by intros; simp))
theorem qs1 {a b : AC} {code : Code} (h : jc P nt code = some (.seq a b)) : ∃ x y, code = .seq x y ∧ jc P nt x = some a ∧ jc P nt y = some b := by
  cases code <;> (try simp only [jc] at h) <;> try (first | (cases h; done) | (obtain ⟨_, _, h⟩ := xd h; cases h; done))
  case region id ops d =>
    split at h
    · cases d
      · cases h
      · simp only [cond_true] at h; rcases Qc h with ⟨_, h, _⟩ | ⟨_, h, _⟩ <;> cases h
    · cases h
  case seq x y =>
    split at h
    · rename_i a' b' h1 h2; cases h; exact ⟨x, y, rfl, h1, h2⟩
    · cases h
  case cond c a b => exact absurd h (kv (by intros; simp) (by intros; simp))
theorem qoh {c : Nat} {a b : AC} {code : Code} (h : jc P nt code = some (.cond c a b)) : ∃ x y, code = .cond (.tmp c) x y ∧ jc P nt x = some a ∧ jc P nt y = some b := by
  cases code <;> (try simp only [jc] at h) <;> try (first | (cases h; done) | (obtain ⟨_, _, h⟩ := xd h; cases h; done))
  case region id ops d =>
    split at h
    · cases d
      · cases h
      · simp only [cond_true] at h; rcases Qc h with ⟨_, h, _⟩ | ⟨_, h, _⟩ <;> cases h
    · cases h
  case seq => split at h <;> cases h
  case cond c a b =>
    cases c with
    | tmp t =>
      simp only [jc] at h
      split at h
      · rename_i h1 h2; cases h; exact ⟨_, _, rfl, h1, h2⟩
      · cases h
    | const v =>
      cases v with
      | bool t => cases t <;> simp only [jc] at h <;> (obtain ⟨_, _, h⟩ := xd h; cases h)
      | _ => simp [jc] at h
    | _ => simp [jc] at h
theorem qk0 {t : Bool} {a : AC} {code : Code} (h : jc P nt code = some (.Y7 t a)) : ∃ x y, code = .cond (.const (.bool t)) x y ∧ jc P nt (cond t x y) = some a := by
  cases code <;> (try simp only [jc] at h) <;> try (first | (cases h; done) | (obtain ⟨_, _, h⟩ := xd h; cases h; done))
  case region id ops d =>
    split at h
    · cases d
      · cases h
      · simp only [cond_true] at h; rcases Qc h with ⟨_, h, _⟩ | ⟨_, h, _⟩ <;> cases h
    · cases h
  case seq => split at h <;> cases h
  case cond c x y =>
    cases c with
    | tmp t => simp only [jc] at h; split at h <;> cases h
    | const v =>
      cases v with
      | bool t =>
        cases t <;> simp only [jc] at h
        · obtain ⟨z, h1, h2⟩ := xd h; cases h2; exact ⟨x, y, rfl, h1⟩
        · obtain ⟨z, h1, h2⟩ := xd h; cases h2; exact ⟨x, y, rfl, h1⟩
      | _ => simp [jc] at h
    | _ => simp [jc] at h
theorem Js {code : Code} {c : AC} (h : jc P nt code = some c) : (∀ id a, c = .block id a → ∃ x, code = .block id x ∧ jc P nt x = some a) ∧ (∀ a, c = .loop a → ∃ x, code = .loop x ∧ jc P nt x = some a) ∧
    (∀ a, c = .scope a → ∃ x, code = .scope x ∧ jc P nt x = some a) ∧ (c = .skip → code = .skip) ∧ (c = .ret → code = .ret) ∧ (∀ id, c = .exit id → code = .exit id) := by
  refine ⟨fun id a e => ?_, fun a e => ?_, fun a e => ?_, fun e => ?_, fun e => ?_, fun id e => ?_⟩ <;> subst e
  all_goals
    cases code <;> (try simp only [jc] at h) <;> try (first | (cases h; done) | (obtain ⟨_, _, h⟩ := xd h; cases h; done))
    case region id ops d =>
      split at h
      · cases d
        · cases h
        · simp only [cond_true] at h; rcases Qc h with ⟨_, h, _⟩ | ⟨_, h, _⟩ <;> cases h
      · cases h
    case seq => split at h <;> cases h
    case cond c a b => exact absurd h (kv (by intros; simp) (by intros; simp))
    all_goals first
      | (obtain ⟨z, h1, h2⟩ := xd h; cases h2; exact ⟨_, rfl, h1⟩)
      | (cases h; rfl)
      | rfl
theorem WA.mono {c : AC} {Q' : AX → St → Prop} (h : WA P n0 nt c Q s) (hq : ∀ x s, Q x s → Q' x s) : WA P n0 nt c Q' s := fun hm code hc => (h hm code hc).mono hq
theorem WA.skip (h : Q .normal s) : WA P n0 nt .skip Q s := fun hm code hc => by cases (Js hc).2.2.2.1 rfl; exact WC.skip h
theorem WA.ret (h : Q .ret s) : WA P n0 nt .ret Q s := fun hm code hc => by cases (Js hc).2.2.2.2.1 rfl; exact WC.ret h
theorem WA.exit {id : Nat} (h : Q (.exit id) s) : WA P n0 nt (.exit id) Q s := fun hm code hc => by cases (Js hc).2.2.2.2.2 id rfl; exact WC.exit h
theorem WA.region {l : List AI} (h : WR P n0 nt l (Q .normal) s) : WA P n0 nt (.region l) Q s := fun hm code hc => by
  obtain ⟨id, ops, rfl, hl⟩ := qjm hc; exact WC.region hl h
theorem WA.draw {cf : Bool} {l : List AI} (h : Tr P cf l (Q .normal) s) : WA P n0 nt (.draw cf l) Q s := fun hm code hc => by
  obtain ⟨id, ops, l', idx, rfl, hl, hB, hai⟩ := qqe hc; exact WC.qzk idx cf hm hl hB hai h
theorem WA.tree {cf : Bool} {t : AT} (h : TrT P cf t (Q .normal) s) : WA P n0 nt (.tree cf t) Q s := fun hm code hc => by
  obtain ⟨id, ops, l', d, rfl, hl, hT, hok, hat⟩ := qn6 hc; exact WC.qy9 cf hm hl hT hok hat h
theorem WA.seq {a b : AC} (h : WA P n0 nt a (AX.then (WA P n0 nt b Q) Q) s) : WA P n0 nt (.seq a b) Q s := fun hm code hc => by
  obtain ⟨x, y, rfl, hx, hy⟩ := qs1 hc
  refine WC.seq ((h hm x hx).mono fun e s hs => ?_)
  cases e
  · exact hs hm y hy
  · exact hs
  · exact hs
theorem WA.cond {c : Nat} {a b : AC} {t : Bool} (ht : get s.env c = .bool t) (h1 : t = true → WA P n0 nt a Q s) (h2 : t = false → WA P n0 nt b Q s) : WA P n0 nt (.cond c a b) Q s := fun hm code hc => by
  obtain ⟨x, y, rfl, hx, hy⟩ := qoh hc
  exact WC.cond ht (fun e => h1 e hm x hx) (fun e => h2 e hm y hy)
theorem WA.Y7 {t : Bool} {a : AC} (h : WA P n0 nt a Q s) : WA P n0 nt (.Y7 t a) Q s := fun hm code hc => by
  obtain ⟨x, y, rfl, hx⟩ := qk0 hc
  intro X h0 h1 ι a' w hok
  cases t
  · exact wp_cond_false (by simp [Act.eval]) (h hm y hx X h0 h1 ι a' w hok)
  · exact wp_cond_true (by simp [Act.eval]) (h hm x hx X h0 h1 ι a' w hok)
theorem WA.block {id : Nat} {a : AC} (h : WA P n0 nt a (AX.inBlock id Q) s) : WA P n0 nt (.block id a) Q s := fun hm code hc => by
  obtain ⟨x, rfl, hx⟩ := (Js hc).1 id a rfl; exact WC.block (h hm x hx)
theorem WA.scope {a : AC} (h : WA P n0 nt a Q s) : WA P n0 nt (.scope a) Q s := fun hm code hc => by
  obtain ⟨x, rfl, hx⟩ := (Js hc).2.2.1 a rfl; exact WC.scope (h hm x hx)
theorem WA.loop {a : AC} (I : St → Prop) (μ : St → Nat) (h0 : I s)
    (round : ∀ s, I s → WA P n0 nt a (AX.then (fun s' => ∃ s'' ρ, Sim n0 s' s'' ρ ∧ I s'' ∧ μ s'' < μ s) Q) s) : WA P n0 nt (.loop a) Q s := fun hm code hc => by
  obtain ⟨x, rfl, hx⟩ := (Js hc).2.1 a rfl
  exact WC.loop I μ h0 fun s hs => round s hs hm x hx
theorem Fn.read {f : FuncId} {fn : Func} {code : Code} {c : AC} {args : List AV} {H : List AO} {R : AV → List AO → Prop} {ars : List AR} (hm : P.follows .mixedOrders = true)
    (hf : P.funcs[f]? = some fn) (hb : fn.body = some code) (hname : (fn.name == "runtime.NumGoroutine") = false) (hnt : fn.ntmps = nt) (hn : args.length ≤ nt) (hc : jc P nt code = some c) (hr : qd4 P fn.results.toList = some ars)
    (hu : ∀ (j : Nat) (o : AO), H[j]? = some o → o.under H.length) (h : WA P H.length nt c (fun x s => (x = .ret ∨ x = .normal) ∧ Ret ars H R s) ⟨Wa 0 args, H⟩) : Fn P f args H R := by
  subst hnt
  exact Fn.intro hf hb hname hn hr hu (h hm code hc)
end
section
variable {P : Program} {cf : Bool} {l : List AI} {K : St → Prop} {s : St}
theorem Tr.op {dst : Option Nat} {ao : AOp} {v : AV} {hp' : List AO} (hs : qf s.env s.hp ao = some (v, hp')) (h : Tr P cf l K ⟨xu dst v s.env, hp'⟩) : Tr P cf (⟨dst, none, .op ao⟩ :: l) K s :=
  ⟨v, hp', hs, fun ha => q1e ha hs, h⟩
theorem Tr.skip {dst : Option Nat} {d : Nat} {b : Bool} {k : AK} (hg : get s.env d = .bool (!b) ∨ get s.env d = xg) (h : Tr P cf l K ⟨xu dst xg s.env, s.hp⟩) : Tr P cf (⟨dst, some (d, b), k⟩ :: l) K s :=
  .inr ⟨hg, fun _ => ⟨[], by simp⟩, h⟩
theorem Tr.take {dst : Option Nat} {d : Nat} {b : Bool} {k : AK} (hg : get s.env d = .bool b) (h : Tr P cf (⟨dst, none, k⟩ :: l) K s) : Tr P cf (⟨dst, some (d, b), k⟩ :: l) K s :=
  .inl ⟨hg, h⟩
theorem Tr.call {dst : Option Nat} {f : Opd} {args : List Opd} {fid : FuncId} {first caps : List AV} {as : List AV} {H : List AO} {R : AV → List AO → Prop} (ρ : Ren) (bs : List (Nat × Nat))
    (hf : ev s.env f = .fn fid first caps) (hfn : Fn P fid as H R) (hnt : (args.all fun x => match ev s.env x with | .top => false | _ => true) = true)
    (has : first ++ args.map (ev s.env) ++ caps = AV.zh ρ as) (hfoot : qg4 s.hp ρ bs H) (hu : ∀ (j : Nat) (o : AO), H[j]? = some o → o.under H.length) (hau : AV.qy H.length as)
    (hadd : cf = true → ∀ v H', R v H' → ∃ x, after s ρ bs H H' = s.hp ++ x)
    (h : ∀ v H', R v H' → Tr P cf l K ⟨xu dst (v.ren (ρ.ext H.length s.hp.length)) s.env, after s ρ bs H H'⟩) : Tr P cf (⟨dst, none, .call f args⟩ :: l) K s :=
  ⟨fid, first, caps, as, H, R, ρ, bs, hf, hfn, hnt, has, hfoot, hu, hau, fun v H' hr => ⟨fun ha => hadd ha v H' hr, h v H' hr⟩⟩
theorem Tr.nil (h : K s) : Tr P cf [] K s := h
end
end Go.Am
namespace Go.Am
set_option linter.unusedVariables false
structure FI where
  nt : Nat
  code : AC
  res : List AR
def Told (P : Program) (T : FuncId → Option FI) : Prop :=
  ∀ f fi, T f = some fi → ∃ fn code, P.funcs[f]? = some fn ∧ fn.body = some code ∧ (fn.name == "runtime.NumGoroutine") = false ∧ fn.ntmps = fi.nt ∧ jc P fi.nt code = some fi.code ∧ qd4 P fn.results.toList = some fi.res
def zr (P : Program) (f : FuncId) : Option FI :=
  match P.funcs[f]? with
  | some fn => match fn.body with
    | some c => match (fn.name == "runtime.NumGoroutine"), jc P fn.ntmps c, qd4 P fn.results.toList with
      | false, some a, some r => some ⟨fn.ntmps, a, r⟩
      | _, _, _ => none
    | none => none
  | none => none
theorem By (P : Program) : Told P (zr P) := by
  intro f fi h
  unfold zr at h
  split at h
  · rename_i fn hf
    split at h
    · rename_i c hb
      split at h
      · rename_i a r h1 h2 h3
        cases h
        exact ⟨fn, c, hf, hb, h1, rfl, h2, h3⟩
      · cases h
    · cases h
  · cases h
def idR (n : Nat) : Ren := fun j => if j < n then some (j, 0) else none
mutual
theorem Z0 (n : Nat) : (a : AV) → a.under n → a.ren (idR n) = a
  | .top, _ => rfl
  | .int _ _, _ => rfl
  | .bool _, _ => rfl
  | .str _, _ => rfl
  | .v _, _ => rfl
  | .ptr b o, h => by have h : b < n := h; simp [AV.ren, idR, h]
  | .slc b o l e c, h => by
    have h' : b < n := h
    have e' : idR n b = some (b, 0) := by simp [idR, h']
    simp only [AV.ren, e']; simp
  | .map b, h => by have h : b < n := h; simp [AV.ren, idR, h]
  | .fn f a b, h => by simp only [AV.ren, Q5 n a h.1, Q5 n b h.2]
  | .agg l, h => by simp only [AV.ren, Q5 n l h]
  | .tup l, h => by simp only [AV.ren, Q5 n l h]
theorem Q5 (n : Nat) : (a : List AV) → AV.qy n a → AV.zh (idR n) a = a
  | [], _ => rfl
  | a :: l, h => by simp only [AV.zh, Z0 n a h.1, Q5 n l h.2]
end
theorem AO.Z0 {n : Nat} {o : AO} (h : o.under n) : o.ren (idR n) = o := by
  cases o with
  | cells l => simp only [AO.ren, Q5 n l h]
  | vec s l => simp only [AO.ren, Q5 n l h]
  | ro l => simp only [AO.ren, Q5 n l h]
  | map es c =>
    simp only [AO.ren]
    congr 1
    conv => rhs; rw [← List.map_id es]
    refine List.map_congr_left fun e he => ?_
    obtain ⟨k, v, b⟩ := e
    simp only [AE.ren, Am.Z0 n k (h _ he).1, Am.Z0 n v (h _ he).2, id]
  | x6 m a b c =>
    cases m with
    | none => rfl
    | some j => have : j < n := h j rfl; simp [AO.ren, idR, this]
  | bg _ _ => rfl
  | dead => rfl
end Go.Am
namespace Go.Am
set_option linter.unusedVariables false
set_option linter.unusedSimpArgs false
def hol (x : Option (AV × List AO)) (K : AV → List AO → Prop) : Prop := ∃ v hp', x = some (v, hp') ∧ K v hp'
theorem q7 {v : AV} {hp : List AO} {K : AV → List AO → Prop} : hol (some (v, hp)) K ↔ K v hp :=
  ⟨fun ⟨_, _, h, k⟩ => by cases h; exact k, fun h => ⟨_, _, rfl, h⟩⟩
theorem qj {K : AV → List AO → Prop} : hol none K ↔ False := ⟨fun ⟨_, _, h, _⟩ => (by cases h), False.elim⟩
theorem jz {c : Prop} [Decidable c] {x : Option (AV × List AO)} {K : AV → List AO → Prop} : hol (chk c x) K ↔ c ∧ hol x K := by
  unfold chk
  split
  · rename_i h; exact ⟨fun k => ⟨h, k⟩, fun k => k.2⟩
  · rename_i h; exact ⟨fun k => (qj.1 k).elim, fun k => absurd k.1 h⟩
def wpL (P : Program) (n0 nt : Nat) : List AI → (St → Prop) → St → Prop
  | [], K, s => K s
  | ⟨dst, none, .op o⟩ :: l, K, s => hol (qf s.env s.hp o) fun v hp' => wpL P n0 nt l K ⟨xu dst v s.env, hp'⟩
  | ⟨dst, some (d, b), .op o⟩ :: l, K, s => match get s.env d with
    | .bool t => d < nt ∧ (t = b → hol (qf ((d, .bool b) :: s.env) s.hp o) fun v hp' => wpL P n0 nt l K ⟨xu dst v ((d, .bool b) :: s.env), hp'⟩) ∧
        (t = !b → wpL P n0 nt l K ⟨xu dst xg ((d, .bool (!b)) :: s.env), s.hp⟩)
    | .v (.tuple a) => a.size = 0 ∧ wpL P n0 nt l K ⟨xu dst xg s.env, s.hp⟩
    | _ => False
  | i :: l, K, s => WR P n0 nt (i :: l) K s
theorem Jd {P : Program} {n0 nt : Nat} {K : St → Prop} : ∀ (l : List AI) {s : St}, wpL P n0 nt l K s → WR P n0 nt l K s
  | [], s, h => WR.nil h
  | ⟨dst, none, .op o⟩ :: l, s, h => by
    obtain ⟨v, hp', h1, h2⟩ := h
    exact WR.op h1 (Jd l h2)
  | ⟨dst, some (d, b), .op o⟩ :: l, s, h => by
    simp only [wpL] at h
    split at h
    · rename_i t ht
      obtain ⟨hd, h1, h2⟩ := h
      refine WR.guard ht hd (fun e => ?_) fun e => Jd l (h2 e)
      obtain ⟨v, hp', h3, h4⟩ := h1 e
      exact WR.op h3 (Jd l h4)
    · rename_i a ha
      exact WR.skip (.inr (by rw [ha, Array.eq_empty_of_size_eq_zero h.1]; rfl)) (Jd l h.2)
    · exact h.elim
  | ⟨dst, none, .call f args⟩ :: l, s, h => h
  | ⟨dst, some g, .call f args⟩ :: l, s, h => h
  | ⟨dst, none, .next it⟩ :: l, s, h => h
  | ⟨dst, some g, .next it⟩ :: l, s, h => h
def wpT (P : Program) (cf : Bool) : List AI → (St → Prop) → St → Prop
  | [], K, s => K s
  | ⟨dst, none, .op o⟩ :: l, K, s => hol (qf s.env s.hp o) fun v hp' => wpT P cf l K ⟨xu dst v s.env, hp'⟩
  | ⟨dst, some (d, b), .op o⟩ :: l, K, s => match get s.env d with
    | .bool t => (t = b → hol (qf s.env s.hp o) fun v hp' => wpT P cf l K ⟨xu dst v s.env, hp'⟩) ∧ (t = !b → wpT P cf l K ⟨xu dst xg s.env, s.hp⟩)
    | .v (.tuple a) => a.size = 0 ∧ wpT P cf l K ⟨xu dst xg s.env, s.hp⟩
    | _ => False
  | i :: l, K, s => Tr P cf (i :: l) K s
theorem Wz {P : Program} {cf : Bool} {K : St → Prop} : ∀ (l : List AI) {s : St}, wpT P cf l K s → Tr P cf l K s
  | [], s, h => h
  | ⟨dst, none, .op o⟩ :: l, s, h => by
    obtain ⟨v, hp', h1, h2⟩ := h
    exact Tr.op h1 (Wz l h2)
  | ⟨dst, some (d, b), .op o⟩ :: l, s, h => by
    simp only [wpT] at h
    split at h
    · rename_i t ht
      obtain ⟨h1, h2⟩ := h
      by_cases e : t = b
      · subst e
        obtain ⟨v, hp', h3, h4⟩ := h1 rfl
        exact Tr.take ht (Tr.op h3 (Wz l h4))
      · have e' : t = !b := by cases t <;> cases b <;> simp_all
        subst e'
        exact Tr.skip (.inl ht) (Wz l (h2 rfl))
    · rename_i a ha
      exact Tr.skip (.inr (by rw [ha, Array.eq_empty_of_size_eq_zero h.1]; rfl)) (Wz l h.2)
    · exact h.elim
  | ⟨dst, none, .call f args⟩ :: l, s, h => h
  | ⟨dst, some g, .call f args⟩ :: l, s, h => h
  | ⟨dst, none, .next it⟩ :: l, s, h => h
  | ⟨dst, some g, .next it⟩ :: l, s, h => h
def wpC (P : Program) (n0 nt : Nat) : AC → (AX → St → Prop) → St → Prop
  | .skip, Q, s => Q .normal s
  | .ret, Q, s => Q .ret s
  | .exit id, Q, s => Q (.exit id) s
  | .region l, Q, s => wpL P n0 nt l (Q .normal) s
  | .draw cf l, Q, s => wpT P cf l (Q .normal) s
  | .tree cf t, Q, s => TrT P cf t (Q .normal) s
  | .seq a b, Q, s => wpC P n0 nt a (AX.then (wpC P n0 nt b Q) Q) s
  | .cond c a b, Q, s => match get s.env c with
    | .bool t => (t = true → wpC P n0 nt a Q s) ∧ (t = false → wpC P n0 nt b Q s)
    | _ => False
  | .Y7 _ a, Q, s => wpC P n0 nt a Q s
  | .block id a, Q, s => wpC P n0 nt a (AX.inBlock id Q) s
  | .loop a, Q, s => WA P n0 nt (.loop a) Q s
  | .scope a, Q, s => wpC P n0 nt a Q s
theorem Qo {P : Program} {n0 nt : Nat} : ∀ (c : AC) {Q : AX → St → Prop} {s : St}, wpC P n0 nt c Q s → WA P n0 nt c Q s
  | .skip, Q, s, h => WA.skip h
  | .ret, Q, s, h => WA.ret h
  | .exit id, Q, s, h => WA.exit h
  | .region l, Q, s, h => WA.region (Jd l h)
  | .draw cf l, Q, s, h => WA.draw (Wz l h)
  | .tree cf t, Q, s, h => WA.tree h
  | .seq a b, Q, s, h => WA.seq ((Qo a h).mono fun x s hs => by
      cases x
      · exact Qo b hs
      · exact hs
      · exact hs)
  | .cond c a b, Q, s, h => by
    simp only [wpC] at h
    split at h
    · rename_i t ht; exact WA.cond ht (fun e => Qo a (h.1 e)) fun e => Qo b (h.2 e)
    · exact h.elim
  | .Y7 t a, Q, s, h => WA.Y7 (Qo a h)
  | .block id a, Q, s, h => WA.block (Qo a h)
  | .loop a, Q, s, h => h
  | .scope a, Q, s, h => WA.scope (Qo a h)
theorem WA.forget {P : Program} {n0 nt : Nat} {c : AC} {Q : AX → St → Prop} {s : St} (e' : Env) (h : ∀ t, get e' t ≠ .top → get s.env t = get e' t) (hw : WA P n0 nt c Q ⟨e', s.hp⟩) : WA P n0 nt c Q s :=
  fun hm code hc X h0 h1 ι a w hok => hw hm code hc X h0 h1 ι a w ⟨hok.size, hok.defers, fun t ht => by
    have := h t ht
    have h2 := hok.env t (by rw [this]; exact ht)
    rw [this] at h2; exact h2, hok.heap, hok.dom, hok.base, hok.len, hok.fresh, hok.world⟩
end Go.Am
namespace Go.Am
set_option linter.unusedVariables false
set_option linter.unusedSimpArgs false
theorem Ret.same {ars : List AR} {H : List AO} {R : AV → List AO → Prop} {s : St} {rs : List AV} {x : List AO} (hu : ∀ (j : Nat) (o : AO), H[j]? = some o → o.under H.length) (hx : s.hp = H ++ x)
    (hr : Vd s ars = some rs) (hv : (xw rs).under H.length) (hnt : xw rs ≠ .top) (hR : R (xw rs) H) : Ret ars H R s := by
  refine ⟨rs, xw rs, H, idR H.length, hr, (Z0 _ _ hv).symm, hnt, hv, ?_, hR, fun j l h => ⟨l, h⟩⟩
  refine ⟨fun t ht => absurd rfl ht, fun j o ho => ⟨hu j o ho, fun _ => .inl ⟨j, ?_, ?_⟩⟩, fun i j b _ _ h1 h2 => ?_, fun j hj => by simp [idR, hj], Nat.le_refl _, fun j m a b c h => ?_⟩
  · have : j < H.length := (List.getElem?_eq_some_iff.1 ho).1
    simp [idR, this]
  · rw [AO.Z0 (hu j o ho), hx]
    exact Bp ho
  · unfold idR at h1 h2
    split at h1 <;> split at h2 <;> simp_all
    · obtain ⟨rfl⟩ := h1; cases h2; rfl
  · have : m < H.length := hu j _ h m rfl
    exact ⟨m, by simp [idR, this]⟩
theorem Fn.of {P : Program} {f : FuncId} {fi : FI} {args : List AV} {H : List AO} {R : AV → List AO → Prop} (hm : P.follows .mixedOrders = true) (hf : zr P f = some fi) (hn : args.length ≤ fi.nt)
    (hu : ∀ (j : Nat) (o : AO), H[j]? = some o → o.under H.length) (h : wpC P H.length fi.nt fi.code (fun x s => (x = .ret ∨ x = .normal) ∧ Ret fi.res H R s) ⟨Wa 0 args, H⟩) : Fn P f args H R := by
  obtain ⟨fn, code, h1, h2, h3, h4, h5, h6⟩ := By P f fi hf
  exact Fn.read hm h1 h2 h3 h4 hn h5 h6 hu (Qo _ h)
end Go.Am
namespace Go.Am
set_option linter.unusedVariables false
set_option linter.unusedSimpArgs false
def qz (n0 : Nat) (s s' : St) : Prop := ∀ (X : Ctx) (ι : Nat → Loc) (a : Act) (w : World), X.n0 = n0 → Ok X ι s a w → ∃ ι', Ok X ι' s' a w
theorem qz.refl {n0 : Nat} (s : St) : qz n0 s s := fun X ι a w _ h => ⟨ι, h⟩
theorem qz.trans {n0 : Nat} {s s' s'' : St} (h : qz n0 s s') (h' : qz n0 s' s'') : qz n0 s s'' := fun X ι a w h0 hok => by
  obtain ⟨ι', hok'⟩ := h X ι a w h0 hok
  exact h' X ι' a w h0 hok'
theorem qz.sim {n0 : Nat} {s s' : St} {ρ : Ren} (h : Sim n0 s s' ρ) : qz n0 s s' := fun X ι a w h0 hok => ⟨_, hok.sim (h0 ▸ h)⟩
theorem qz.forget {n0 : Nat} {e e' : Env} {hp : List AO} (h : ∀ t, get e' t ≠ .top → get e t = get e' t) : qz n0 ⟨e, hp⟩ ⟨e', hp⟩ :=
  fun X ι a w _ hok => ⟨ι, hok.size, hok.defers, fun t ht => by
    have := h t ht
    have h2 := hok.env t (by rw [this]; exact ht)
    rw [this] at h2; exact h2, hok.heap, hok.dom, hok.base, hok.len, hok.fresh, hok.world⟩
def qx (e : Env) : List Nat → Env
  | [] => []
  | t :: ts => (t, get e t) :: qx e ts
theorem qhm (e : Env) : ∀ (ts : List Nat) (t : Nat), get (qx e ts) t ≠ .top → get e t = get (qx e ts) t
  | [], t, h => absurd rfl h
  | u :: ts, t, h => by
    simp only [qx, zj] at h ⊢
    by_cases e1 : u = t
    · subst e1; simp
    · simp only [e1, if_false] at h ⊢; exact qhm e ts t h
theorem qz.qx {n0 : Nat} {e : Env} {hp : List AO} (ts : List Nat) : qz n0 ⟨e, hp⟩ ⟨qx e ts, hp⟩ := qz.forget (qhm e ts)
section
variable {P : Program} {n0 nt : Nat} {Q : AX → St → Prop} {s : St}
end
end Go.Am
namespace Go.Am
set_option linter.unusedVariables false
set_option linter.unusedSimpArgs false
def vy {α : Type} (x : Option α) (K : α → Prop) : Prop := ∃ v, x = some v ∧ K v
section
variable {α : Type} {K : α → Prop}
theorem zc {v : α} : vy (some v) K ↔ K v := ⟨fun ⟨_, h, k⟩ => by cases h; exact k, fun h => ⟨_, rfl, h⟩⟩
theorem zf : vy none K ↔ False := ⟨fun ⟨_, h, _⟩ => (by cases h), False.elim⟩
theorem qyk {c : Prop} [Decidable c] {x : Option α} : vy (chk c x) K ↔ c ∧ vy x K := by
  unfold chk
  split
  · rename_i h; exact ⟨fun k => ⟨h, k⟩, fun k => k.2⟩
  · rename_i h; exact ⟨fun k => (zf.1 k).elim, fun k => absurd k.1 h⟩
end
section
variable {e : Env} {hp : List AO} {K : AV → List AO → Prop}
theorem q05 {x : Opd} : hol (qf e hp (.mov x)) K ↔ K (ev e x) hp := q7
theorem qvo {c a b : Opd} : hol (qf e hp (.pick c a b)) K ↔ match ev e c with | .bool t => K (cond t (ev e a) (ev e b)) hp | _ => False := by
  simp only [qf]; split <;> simp_all only [q7, qj]
theorem qzb {op : BinOp} {x y : Opd} : hol (qf e hp (.bin op x y)) K ↔ vy (Qg op (ev e x) (ev e y)) fun v => K v hp := by
  simp only [qf]
  cases Qg op (ev e x) (ev e y) with
  | none => simp only [qj, zf]
  | some v => simp only [q7, zc]
theorem q3z {op : UnOp} {x : Opd} : hol (qf e hp (.un op x)) K ↔ vy (aun op (ev e x)) fun v => K v hp := by
  simp only [qf]
  cases aun op (ev e x) with
  | none => simp only [qj, zf]
  | some v => simp only [q7, zc]
theorem qr7 {z : List AV} : hol (qf e hp (.alloc z)) K ↔ K (.ptr hp.length 0) (hp ++ [.cells z]) := q7
theorem qzp {x : Opd} : hol (qf e hp (.box x)) K ↔ vy (ev e x).cells fun l => K (.ptr hp.length 0) (hp ++ [.cells l]) := by
  simp only [qf]
  cases (ev e x).cells with
  | none => simp only [qj, zf]
  | some v => simp only [q7, zc]
theorem qt2 {z : List AV} {p : List (Nat × Nat × Opd)} : hol (qf e hp (.build z p)) K ↔ vy (vx e p z) fun l => K (.agg l) hp := by
  simp only [qf]
  cases vx e p z with
  | none => simp only [qj, zf]
  | some v => simp only [q7, zc]
theorem qtl {n : Nat} {z : List AV} {p : List (Nat × Nat × Opd)} : hol (qf e hp (.ga n z p)) K ↔ vy (vx e p z) fun l => K (.slc hp.length 0 n true n) (hp ++ [.cells l]) := by
  simp only [qf]
  cases vx e p z with
  | none => simp only [qj, zf]
  | some v => simp only [q7, zc]
theorem qsi {x : Opd} : hol (qf e hp (.wy x)) K ↔ match ev e x with | .ptr b off => vy (rd hp b) fun l => vy l[off]? fun v => K v hp | _ => False := by
  simp only [qf]
  cases ev e x <;> simp only [qj]
  rename_i b off
  cases rd hp b with
  | none => simp only [qj, zf]
  | some l =>
    simp only [zc]
    cases l[off]? with
    | none => simp only [qj, zf]
    | some v => simp only [q7, zc]
theorem qr5 {n : Nat} {x : Opd} : hol (qf e hp (.Qq n x)) K ↔ match ev e x with | .ptr b off => vy (rd hp b) fun l => off + n ≤ l.length ∧ K (.agg ((l.drop off).take n)) hp | _ => False := by
  simp only [qf]
  cases ev e x <;> simp only [qj]
  rename_i b off
  cases rd hp b with
  | none => simp only [qj, zf]
  | some l => simp only [zc, jz, q7]
theorem qpm {a x : Opd} : hol (qf e hp (.Qz a x)) K ↔ match ev e a with
    | .ptr b off => vy (wrt hp b) fun l => (off < l.length ∧ (ev e x).one = true) ∧ K xg (wrl hp b (l.set off (ev e x))) | _ => False := by
  simp only [qf]
  cases ev e a <;> simp only [qj]
  rename_i b off
  cases wrt hp b with
  | none => simp only [qj, zf]
  | some l => simp only [zc, jz, q7]
theorem qp8 {n : Nat} {a x : Opd} : hol (qf e hp (.Kk n a x)) K ↔ match ev e a, ev e x with
    | .ptr b off, .agg vs => vy (wrt hp b) fun l => (off + n ≤ l.length ∧ vs.length = n ∧ vs.all AV.one = true) ∧ K xg (wrl hp b (over l off vs)) | _, _ => False := by
  simp only [qf]
  cases ev e a <;> cases ev e x <;> simp only [qj]
  rename_i b off l0
  cases wrt hp b with
  | none => simp only [qj, zf]
  | some l => simp only [zc, jz, q7]
theorem qxt {k : IntKind} {x : Opd} : hol (qf e hp (.conv k x)) K ↔ match ev e x with | .int _ n => K (.int k (qu k n)) hp | _ => False := by
  simp only [qf]; cases ev e x <;> simp only [qj, q7]
theorem qr3 {off : Nat} {x : Opd} : hol (qf e hp (.ym off x)) K ↔ match ev e x with | .ptr b o => K (.ptr b (o + off)) hp | _ => False := by
  simp only [qf]; cases ev e x <;> simp only [qj, q7]
theorem qpo {len size : Nat} {x i : Opd} : hol (qf e hp (.xp len size x i)) K ↔ match ev e x, ev e i with
    | .ptr b o, .int _ n => (0 ≤ n ∧ n < len) ∧ K (.ptr b (o + n.toNat * size)) hp | _, _ => False := by
  simp only [qf]; cases ev e x <;> cases ev e i <;> simp only [qj, jz, q7]
theorem qpq {size : Nat} {x i : Opd} : hol (qf e hp (.Q9 size x i)) K ↔ match ev e x, ev e i with
    | .slc b off len _ _, .int _ n => vy (rd hp b) fun l => ((0 ≤ n ∧ n < len) ∧ off + n.toNat * size < l.length) ∧ K (.ptr b (off + n.toNat * size)) hp | _, _ => False := by
  simp only [qf]
  cases ev e x <;> cases ev e i <;> simp only [qj]
  rename_i b off len _ _ _ n
  cases rd hp b with
  | none => simp only [qj, zf]
  | some l => simp only [zc, jz, q7]
theorem qt0 {off n : Nat} {x : Opd} : hol (qf e hp (.field off n true x)) K ↔ match ev e x with | .agg l => off + n ≤ l.length ∧ K (.agg ((l.drop off).take n)) hp | _ => False := by
  simp only [qf]; cases ev e x <;> simp only [qj, cond_true, jz, q7]
theorem qpe {off n : Nat} {x : Opd} : hol (qf e hp (.field off n false x)) K ↔ match ev e x with | .agg l => vy l[off]? fun v => K v hp | _ => False := by
  simp only [qf]
  cases ev e x <;> simp only [qj, cond_false]
  rename_i l
  cases l[off]? with
  | none => simp only [qj, zf]
  | some v => simp only [q7, zc]
theorem qza {i : Nat} {x : Opd} : hol (qf e hp (.ext i x)) K ↔ match ev e x with | .tup l => vy l[i]? fun v => K v hp | _ => False := by
  simp only [qf]
  cases ev e x <;> simp only [qj]
  rename_i l
  cases l[i]? with
  | none => simp only [qj, zf]
  | some v => simp only [q7, zc]
end
end Go.Am
namespace Go.Am
set_option linter.unusedVariables false
set_option linter.unusedSimpArgs false
theorem wrap64 {n : Int} (h1 : -9223372036854775808 ≤ n) (h2 : n ≤ 9223372036854775807) : qu .i64 n = n := by
  simp only [qu, IntKind.wrap, IntKind.signed, IntKind.bits]
  simp
  omega
mutual
def AV.zl : AV → Bool
  | .int _ _ | .bool _ | .str _ => true
  | .agg l => AV.zb l
  | .tup l => AV.zb l
  | .fn _ first caps => AV.zb first && AV.zb caps
  | _ => false
def AV.zb : List AV → Bool
  | [] => true
  | a :: l => AV.zl a && AV.zb l
end
mutual
theorem Qr (ρ : Ren) : (a : AV) → a.zl = true → a.ren ρ = a
  | .int _ _, _ => rfl
  | .bool _, _ => rfl
  | .str _, _ => rfl
  | .agg l, h => by simp only [AV.zl] at h; simp only [AV.ren, qc ρ l h]
  | .tup l, h => by simp only [AV.zl] at h; simp only [AV.ren, qc ρ l h]
  | .top, h => by simp [AV.zl] at h
  | .v _, h => by simp [AV.zl] at h
  | .ptr _ _, h => by simp [AV.zl] at h
  | .slc _ _ _ _ _, h => by simp [AV.zl] at h
  | .map _, h => by simp [AV.zl] at h
  | .fn _ a b, h => by simp only [AV.zl, Bool.and_eq_true] at h; simp only [AV.ren, qc ρ a h.1, qc ρ b h.2]
theorem qc (ρ : Ren) : (l : List AV) → AV.zb l = true → AV.zh ρ l = l
  | [], _ => rfl
  | a :: l, h => by simp only [AV.zb, Bool.and_eq_true] at h; simp only [AV.zh, Qr ρ a h.1, qc ρ l h.2]
end
mutual
theorem Yh (n : Nat) : (a : AV) → a.zl = true → a.under n
  | .int _ _, _ => trivial
  | .bool _, _ => trivial
  | .str _, _ => trivial
  | .agg l, h => by simp only [AV.zl] at h; exact qh n l h
  | .tup l, h => by simp only [AV.zl] at h; exact qh n l h
  | .top, h => by simp [AV.zl] at h
  | .v _, h => by simp [AV.zl] at h
  | .ptr _ _, h => by simp [AV.zl] at h
  | .slc _ _ _ _ _, h => by simp [AV.zl] at h
  | .map _, h => by simp [AV.zl] at h
  | .fn _ a b, h => by simp only [AV.zl, Bool.and_eq_true] at h; exact ⟨qh n a h.1, qh n b h.2⟩
theorem qh (n : Nat) : (l : List AV) → AV.zb l = true → AV.qy n l
  | [], _ => trivial
  | a :: l, h => by simp only [AV.zb, Bool.and_eq_true] at h; exact ⟨Yh n a h.1, qh n l h.2⟩
end
theorem qcw : ∀ (args : List Opd) (e : Env), AV.zb (args.map (ev e)) = true → (args.all fun x => match ev e x with | .top => false | _ => true) = true
  | [], _, _ => rfl
  | x :: l, e, h => by
    simp only [List.map_cons, AV.zb, Bool.and_eq_true] at h
    simp only [List.all_cons, Bool.and_eq_true]
    refine ⟨?_, qcw l e h.2⟩
    have h1 := h.1
    cases hx : ev e x <;> rw [hx] at h1 <;> simp_all [AV.zl]
section
variable {P : Program} {n0 nt : Nat} {l : List AI} {K : St → Prop} {s : St}
theorem WR.plain {dst : Option Nat} {f : Opd} {args : List Opd} {fid : FuncId} {R : AV → Prop} (as : List AV) (hfn : Fn P fid as [] fun v H' => R v ∧ H' = []) (hf : ev s.env f = .fn fid [] [])
    (ha : args.map (ev s.env) = as) (hs : AV.zb as = true) (hR : ∀ v, R v → v.zl = true) (h : ∀ v, R v → wpL P n0 nt l K ⟨xu dst v s.env, s.hp⟩) : WR P n0 nt (⟨dst, none, .call f args⟩ :: l) K s := by
  refine WR.call (fun _ => none) [] hf hfn (qcw args s.env (by rw [ha]; exact hs)) ?_ ?_ (by simp) (qh _ _ hs) ?_
  · rw [ha, qc _ _ hs]; simp
  · exact ⟨fun j hj => absurd hj (by simp), rfl, fun j o b h => by simp at h, fun j k bj bk oj ok h => by simp at h⟩
  · rintro v H' ⟨hv, rfl⟩
    rw [Qr _ v (hR v hv)]
    have : after s (fun _ => none) [] [] [] = s.hp := by simp [after, upd]
    rw [this]
    exact Jd l (h v hv)
end
end Go.Am
namespace Go.Am
set_option linter.unusedVariables false
set_option linter.unusedSimpArgs false
abbrev BE := List AO → List AV → Option (AV × List AO)
abbrev za := FuncId → Option BE
def vh : AV → Bool
  | .top => false
  | _ => true
def Callee (P : Program) (fid : FuncId) (g : BE) : Prop :=
  ∀ hp as v hp', g hp as = some (v, hp') → ∃ (H : List AO) (as' : List AV) (R : AV → List AO → Prop) (ρ : Ren) (bs : List (Nat × Nat)),
    Fn P fid as' H R ∧ as = AV.zh ρ as' ∧ as.all vh = true ∧ qg4 hp ρ bs H ∧ (∀ (j : Nat) (o : AO), H[j]? = some o → o.under H.length) ∧ AV.qy H.length as' ∧
    ∀ v' H', R v' H' → v'.ren (ρ.ext H.length hp.length) = v ∧ after ⟨[], hp⟩ ρ bs H H' = hp'
def qn (P : Program) (B : za) : Prop := ∀ fid g, B fid = some g → Callee P fid g
def za.none : za := fun _ => .none
def za.put (B : za) (f : FuncId) (g : BE) : za := fun x => if x = f then some g else B x
theorem qn.none {P : Program} : qn P za.none := fun _ _ h => by cases h
theorem qn.put {P : Program} {B : za} {f : FuncId} {g : BE} (h : qn P B) (hg : Callee P f g) : qn P (B.put f g) := fun fid g' he => by
  unfold za.put at he
  split at he
  · rename_i e; cases he; rw [e]; exact hg
  · exact h _ _ he
def wbK (B : za) (k : AK) (s : St) (K : AV → List AO → Prop) (F : Prop) : Prop :=
  match k with
  | .op o => hol (qf s.env s.hp o) K
  | .call f args => match ev s.env f with
    | .fn fid first caps => match B fid with
      | some g => hol (g s.hp (first ++ args.map (ev s.env) ++ caps)) K
      | .none => F
    | _ => F
  | .next _ => F
def wbN (it : AV) (hp : List AO) (K : AV → List AO → Prop) : Prop :=
  match it with
  | .ptr r 0 => vy (qrn hp r) fun x =>
      ((∀ e ∈ x.2.1, e.born ∈ x.2.2.2.2) → K (.tup [.bool false]) hp) ∧ ∀ e ∈ x.2.1, e.born ∉ x.2.2.2.2 → K (.tup [.bool true, e.key, e.val]) (hp.set r (.x6 (some x.1) x.2.2.2.1 (x.2.2.2.2 ++ [e.born]) x.2.2.1))
  | _ => False
def wbL (P : Program) (B : za) (n0 nt : Nat) : List AI → (St → Prop) → St → Prop
  | [], K, s => K s
  | ⟨dst, .none, .next it⟩ :: l, K, s => wbN (ev s.env it) s.hp (fun v hp' => wbL P B n0 nt l K ⟨xu dst v s.env, hp'⟩)
  | ⟨dst, .none, .op o⟩ :: l, K, s => wbK B (.op o) s (fun v hp' => wbL P B n0 nt l K ⟨xu dst v s.env, hp'⟩) (WR P n0 nt (⟨dst, .none, .op o⟩ :: l) K s)
  | ⟨dst, .none, .call f args⟩ :: l, K, s => wbK B (.call f args) s (fun v hp' => wbL P B n0 nt l K ⟨xu dst v s.env, hp'⟩) (WR P n0 nt (⟨dst, .none, .call f args⟩ :: l) K s)
  | ⟨dst, some (d, b), k⟩ :: l, K, s => match get s.env d with
    | .bool t => d < nt ∧ (if t = b then wbK B k ⟨(d, .bool b) :: s.env, s.hp⟩ (fun v hp' => wbL P B n0 nt l K ⟨xu dst v ((d, .bool b) :: s.env), hp'⟩)
          (WR P n0 nt (⟨dst, .none, k⟩ :: l) K ⟨(d, .bool b) :: s.env, s.hp⟩)
        else wbL P B n0 nt l K ⟨xu dst xg ((d, .bool (!b)) :: s.env), s.hp⟩)
    | .v (.tuple a) => a.size = 0 ∧ wbL P B n0 nt l K ⟨xu dst xg s.env, s.hp⟩
    | _ => False
section
variable {P : Program} {B : za} {n0 nt : Nat} {l : List AI} {K : St → Prop} {s : St}
theorem qe0 (e : Env) (first caps : List AV) (args : List Opd) (h : (first ++ args.map (ev e) ++ caps).all vh = true) :
    (args.all fun x => match ev e x with | .top => false | _ => true) = true := by
  simp only [List.all_append, Bool.and_eq_true, List.all_map] at h
  rw [List.all_eq_true] at h ⊢
  intro x hx
  have h1 := List.all_eq_true.1 h.1.2 x hx
  simp only [Function.comp] at h1
  cases hv : ev e x <;> rw [hv] at h1 <;> simp_all [vh]
theorem WR.book (hB : qn P B) {dst : Option Nat} {k : AK} {F : Prop} (hF : F → WR P n0 nt (⟨dst, .none, k⟩ :: l) K s)
    (h : wbK B k s (fun v hp' => WR P n0 nt l K ⟨xu dst v s.env, hp'⟩) F) : WR P n0 nt (⟨dst, .none, k⟩ :: l) K s := by
  cases k with
  | op o => obtain ⟨v, hp', h1, h2⟩ := h; exact WR.op h1 h2
  | next it => exact hF h
  | call f args =>
    simp only [wbK] at h
    split at h
    · rename_i fid first caps hf
      split at h
      · rename_i g hg
        obtain ⟨v, hp', h1, h2⟩ := h
        obtain ⟨H, as', R, ρ, bs, hfn, has, hnt, hfoot, hu, hau, hR⟩ := hB _ _ hg _ _ _ _ h1
        refine WR.call ρ bs hf hfn (qe0 _ _ _ _ hnt) has hfoot hu hau fun v' H' hr => ?_
        obtain ⟨e1, e2⟩ := hR v' H' hr
        have e3 : after s ρ bs H H' = hp' := e2
        rw [e1, e3]; exact h2
      · exact hF h
    · exact hF h
theorem bn (hB : qn P B) : ∀ (l : List AI) {s : St}, wbL P B n0 nt l K s → WR P n0 nt l K s
  | [], s, h => WR.nil h
  | ⟨dst, .none, .next it⟩ :: l, s, h => by
    simp only [wbL, wbN] at h
    split at h
    · rename_i r hr
      obtain ⟨⟨m, es, clock, since, seen⟩, hn, h1, h2⟩ := h
      exact WR.next hr hn (fun he => bn hB l (h1 he)) fun e he hs => bn hB l (h2 e he hs)
    · exact h.elim
  | ⟨dst, .none, .op o⟩ :: l, s, h => by
    refine WR.book hB (F := WR P n0 nt (⟨dst, .none, .op o⟩ :: l) K s) id ?_
    revert h
    simp only [wbL]
    exact wbK_mono fun v hp' h => bn hB l h
  | ⟨dst, .none, .call f args⟩ :: l, s, h => by
    refine WR.book hB (F := WR P n0 nt (⟨dst, .none, .call f args⟩ :: l) K s) id ?_
    revert h
    simp only [wbL]
    exact wbK_mono fun v hp' h => bn hB l h
  | ⟨dst, some (d, b), k⟩ :: l, s, h => by
    simp only [wbL] at h
    split at h
    · rename_i t ht
      obtain ⟨hd, h0⟩ := h
      have h1 : t = b → wbK B k ⟨(d, .bool b) :: s.env, s.hp⟩ (fun v hp' => wbL P B n0 nt l K ⟨xu dst v ((d, .bool b) :: s.env), hp'⟩) (WR P n0 nt (⟨dst, .none, k⟩ :: l) K ⟨(d, .bool b) :: s.env, s.hp⟩) := fun e => by
        rw [if_pos e] at h0; exact h0
      have h2 : t = !b → wbL P B n0 nt l K ⟨xu dst xg ((d, .bool (!b)) :: s.env), s.hp⟩ := fun e => by
        rw [if_neg (by rw [e]; cases b <;> simp)] at h0; exact h0
      refine WR.guard ht hd (fun e => ?_) fun e => bn hB l (h2 e)
      refine WR.book hB (F := WR P n0 nt (⟨dst, .none, k⟩ :: l) K ⟨(d, .bool b) :: s.env, s.hp⟩) id ?_
      exact wbK_mono (fun v hp' h => bn hB l h) (h1 e)
    · rename_i a ha
      exact WR.skip (.inr (by rw [ha, Array.eq_empty_of_size_eq_zero h.1]; rfl)) (bn hB l h.2)
    · exact h.elim
where
  wbK_mono {k : AK} {s : St} {K K' : AV → List AO → Prop} {F : Prop} (hk : ∀ v hp', K v hp' → K' v hp') (h : wbK B k s K F) : wbK B k s K' F := by
    cases k with
    | op o => obtain ⟨v, hp', h1, h2⟩ := h; exact ⟨v, hp', h1, hk _ _ h2⟩
    | next it => exact h
    | call f args =>
      simp only [wbK] at h ⊢
      split at h
      · split at h
        · obtain ⟨v, hp', h1, h2⟩ := h; exact ⟨v, hp', h1, hk _ _ h2⟩
        · exact h
      · exact h
end
def qks (t : Bool) (A B : Prop) : Prop := match t with
  | true => A
  | false => B
theorem qfj {A B : Prop} : qks true A B = A := rfl
theorem qcv {A B : Prop} : qks false A B = B := rfl
theorem qpp {c : Prop} [Decidable c] {A B : Prop} : qks (decide c) A B ↔ (c → A) ∧ (¬c → B) := by
  by_cases h : c
  · rw [decide_eq_true h]; exact ⟨fun a => ⟨fun _ => a, fun k => absurd h k⟩, fun a => a.1 h⟩
  · rw [decide_eq_false h]; exact ⟨fun a => ⟨fun k => absurd k h, fun _ => a⟩, fun a => a.2 h⟩
@[congr] theorem q10 {t t' : Bool} {A B : Prop} (h : t = t') : qks t A B = qks t' A B := by rw [h]
def AK.Vx : AK → Bool
  | .op _ => false
  | .call _ _ => true
  | .next _ => true
def wbT (P : Program) (B : za) (cf : Bool) : List AI → (St → Prop) → St → Prop
  | [], K, s => K s
  | ⟨dst, .none, k⟩ :: l, K, s => wbK B k s (fun v hp' => (AK.Vx k = true → cf = true → ∃ x, hp' = s.hp ++ x) ∧ wbT P B cf l K ⟨xu dst v s.env, hp'⟩) False
  | ⟨dst, some (d, b), k⟩ :: l, K, s => match get s.env d with
    | .bool t => if t = b then wbK B k ⟨(d, .bool b) :: s.env, s.hp⟩ (fun v hp' => (AK.Vx k = true → cf = true → ∃ x, hp' = s.hp ++ x) ∧ wbT P B cf l K ⟨xu dst v ((d, .bool b) :: s.env), hp'⟩) False
        else wbT P B cf l K ⟨xu dst xg ((d, .bool (!b)) :: s.env), s.hp⟩
    | .v (.tuple a) => a.size = 0 ∧ wbT P B cf l K ⟨xu dst xg s.env, s.hp⟩
    | _ => False
section
variable {P : Program} {B : za} {n0 nt : Nat} {l : List AI} {K : St → Prop} {s : St} {cf : Bool}
theorem Tr.book (hB : qn P B) {dst : Option Nat} {k : AK} 
    (h : wbK B k s (fun v hp' => (AK.Vx k = true → cf = true → ∃ x, hp' = s.hp ++ x) ∧ Tr P cf l K ⟨xu dst v s.env, hp'⟩) False) : Tr P cf (⟨dst, .none, k⟩ :: l) K s := by
  cases k with
  | op o => obtain ⟨v, hp', h1, _, h2⟩ := h; exact Tr.op h1 h2
  | next it => exact h.elim
  | call f args =>
    simp only [wbK] at h
    split at h
    · rename_i fid first caps hf
      split at h
      · rename_i g hg
        obtain ⟨v, hp', h1, h3, h2⟩ := h
        obtain ⟨H, as', R, ρ, bs, hfn, has, hnt, hfoot, hu, hau, hR⟩ := hB _ _ hg _ _ _ _ h1
        refine Tr.call ρ bs hf hfn (qe0 _ _ _ _ hnt) has hfoot hu hau (fun hc v' H' hr => ?_) fun v' H' hr => ?_
        · obtain ⟨e1, e2⟩ := hR v' H' hr
          have e3 : after s ρ bs H H' = hp' := e2
          rw [e3]; exact h3 rfl hc
        · obtain ⟨e1, e2⟩ := hR v' H' hr
          have e3 : after s ρ bs H H' = hp' := e2
          rw [e1, e3]; exact h2
      · exact h.elim
    · exact h.elim
theorem Sam.trans {s s' s'' : St} (h : Sam s s') (h' : Sam s' s'') : Sam s s'' := ⟨h.1.trans h'.1, fun t => (h.2 t).trans (h'.2 t)⟩
def qe9 (K : St → Prop) : St → Prop := fun s => ∃ s', Sam s s' ∧ K s'
theorem Ut (K : St → Prop) : ∀ s s', Sam s s' → qe9 K s → qe9 K s' := fun s s' h ⟨s2, h2, hk⟩ => ⟨s2, (Sam.symm h).trans h2, hk⟩
theorem qno {e : Env} {d : Nat} {v : AV} (h : get e d = v) (t : Nat) : get ((d, v) :: e) t = get e t := by
  rw [zj]; split
  · rename_i h1; rw [← h1, h]
  · rfl
theorem Je (hB : qn P B) : ∀ (l : List AI) {s : St}, wbT P B cf l K s → Tr P cf l (qe9 K) s
  | [], s, h => ⟨s, ⟨rfl, fun _ => rfl⟩, h⟩
  | ⟨dst, .none, k⟩ :: l, s, h => Tr.book hB (bn.wbK_mono (fun v hp' h => ⟨h.1, Je hB l h.2⟩) h)
  | ⟨dst, some (d, b), k⟩ :: l, s, h => by
    simp only [wbT] at h
    split at h
    · rename_i t ht
      by_cases e : t = b
      · subst e
        rw [if_pos rfl] at h
        have h1 : Tr P cf (⟨dst, .none, k⟩ :: l) (qe9 K) ⟨(d, .bool t) :: s.env, s.hp⟩ := Tr.book hB (bn.wbK_mono (fun v hp' h => ⟨h.1, Je hB l h.2⟩) h)
        exact Tr.take ht (Tr.sam (Ut K) _ (s := ⟨(d, .bool t) :: s.env, s.hp⟩) ⟨rfl, qno ht⟩ h1)
      · rw [if_neg e] at h
        have e' : t = !b := by cases t <;> cases b <;> simp_all
        subst e'
        exact Tr.skip (.inl ht) (Tr.sam (Ut K) _ (s := ⟨xu dst xg ((d, .bool (!b)) :: s.env), s.hp⟩) ⟨rfl, Sam.put (qno ht) dst xg⟩ (Je hB l h))
    · rename_i a ha
      exact Tr.skip (.inr (by rw [ha, Array.eq_empty_of_size_eq_zero h.1]; rfl)) (Je hB l h.2)
    · exact h.elim
theorem Ok.sam {X : Ctx} {ι : Nat → Loc} {s s' : St} {a : Act} {w : World} (h : Ok X ι s a w) (hs : Sam s s') : Ok X ι s' a w := by
  obtain ⟨e, hp⟩ := s
  obtain ⟨e', hp'⟩ := s'
  obtain ⟨h1, h2⟩ := hs
  cases h1
  refine ⟨h.size, h.defers, fun t ht => ?_, h.heap, h.dom, h.base, h.len, h.fresh, h.world⟩
  have h3 : get e t = get e' t := h2 t
  have h4 := h.env t (by rw [h3]; exact ht)
  rw [h3] at h4; exact h4
theorem WA.sam {n0 nt : Nat} {c : AC} {Q : AX → St → Prop} (h : WA P n0 nt c (fun x => qe9 (Q x)) s) : WA P n0 nt c Q s := fun hm code hc X h0 h1 ι a w hok =>
  wp_mono (h hm code hc X h0 h1 ι a w hok) fun e a w ⟨x, ι, s, hx, ho, s', hs, hq⟩ => ⟨x, ι, s', hx, ho.sam hs, hq⟩
end
def qbd (P : Program) (B : za) (cf : Bool) : AI → (St → Prop) → St → Prop
  | ⟨dst, .none, k⟩, K, s => wbK B k s (fun v hp' => (AK.Vx k = true → cf = true → ∃ x, hp' = s.hp ++ x) ∧ K ⟨xu dst v s.env, hp'⟩) False
  | ⟨dst, some (d, b), k⟩, K, s => match get s.env d with
    | .bool t => if t = b then wbK B k ⟨(d, .bool b) :: s.env, s.hp⟩ (fun v hp' => (AK.Vx k = true → cf = true → ∃ x, hp' = s.hp ++ x) ∧ K ⟨xu dst v ((d, .bool b) :: s.env), hp'⟩) False
        else K ⟨xu dst xg ((d, .bool (!b)) :: s.env), s.hp⟩
    | .v (.tuple a) => a.size = 0 ∧ K ⟨xu dst xg s.env, s.hp⟩
    | _ => False
def Uh (P : Program) (B : za) (cf : Bool) : AT → (St → Prop) → St → Prop
  | .nil, K, s => K s
  | .none, K, s => True
  | .one a t, K, s => qbd P B cf a (Uh P B cf t K) s
  | .alt a t r, K, s => qbd P B cf a (Uh P B cf t K) s ∧ Uh P B cf r K s
theorem qdt {P : Program} {B : za} {cf : Bool} (hB : qn P B) {a : AI} {K K' : St → Prop} {s : St} (hk : ∀ s, K s → qe9 K' s) (h : qbd P B cf a K s) : One P cf a (qe9 K') s := by
  have h1 : wbT P B cf [a] K s := by
    obtain ⟨dst, g, k⟩ := a
    cases g with
    | none => exact h
    | some p => obtain ⟨d, b⟩ := p; exact h
  have h2 : Tr P cf [a] (qe9 K) s := Je hB [a] h1
  exact One.mono h2 fun s ⟨s', h3, h4⟩ => Ut K' _ _ (Sam.symm h3) (hk s' h4)
theorem Yp {P : Program} {B : za} {cf : Bool} {K : St → Prop} (hB : qn P B) : ∀ (t : AT) {s : St}, Uh P B cf t K s → TrT P cf t (qe9 K) s
  | .nil, s, h => ⟨s, ⟨rfl, fun _ => rfl⟩, h⟩
  | .none, s, h => trivial
  | .one a t, s, h => One.mono (qdt (K' := TrT P cf t (qe9 K)) hB (fun s h => ⟨s, ⟨rfl, fun _ => rfl⟩, Yp hB t h⟩) h) fun s ⟨s', h1, h2⟩ => TrT.sam (Ut K) t (Sam.symm h1) h2
  | .alt a t r, s, h => ⟨One.mono (qdt (K' := TrT P cf t (qe9 K)) hB (fun s h => ⟨s, ⟨rfl, fun _ => rfl⟩, Yp hB t h⟩) h.1) fun s ⟨s', h1, h2⟩ => TrT.sam (Ut K) t (Sam.symm h1) h2, Yp hB r h.2⟩
def wbC (P : Program) (B : za) (n0 nt : Nat) : AC → (AX → St → Prop) → St → Prop
  | .skip, Q, s => Q .normal s
  | .ret, Q, s => Q .ret s
  | .exit id, Q, s => Q (.exit id) s
  | .region l, Q, s => wbL P B n0 nt l (Q .normal) s
  | .draw cf l, Q, s => wbT P B cf l (Q .normal) s
  | .tree cf t, Q, s => WA P n0 nt (.tree cf t) Q s
  | .seq a b, Q, s => wbC P B n0 nt a (AX.then (wbC P B n0 nt b Q) Q) s
  | .cond c a b, Q, s => match get s.env c with
    | .bool t => if t = true then wbC P B n0 nt a Q s else wbC P B n0 nt b Q s
    | _ => False
  | .Y7 _ a, Q, s => wbC P B n0 nt a Q s
  | .block id a, Q, s => wbC P B n0 nt a (AX.inBlock id Q) s
  | .loop a, Q, s => WA P n0 nt (.loop a) Q s
  | .scope a, Q, s => wbC P B n0 nt a Q s
theorem y9 {P : Program} {B : za} (hB : qn P B) {n0 nt : Nat} : ∀ (c : AC) {Q : AX → St → Prop} {s : St}, wbC P B n0 nt c Q s → WA P n0 nt c Q s
  | .skip, Q, s, h => WA.skip h
  | .ret, Q, s, h => WA.ret h
  | .exit id, Q, s, h => WA.exit h
  | .region l, Q, s, h => WA.region (bn hB l h)
  | .draw cf l, Q, s, h => WA.sam (WA.draw (Je hB l h))
  | .tree cf t, Q, s, h => h
  | .seq a b, Q, s, h => WA.seq ((y9 hB a h).mono fun x s hs => by
      cases x
      · exact y9 hB b hs
      · exact hs
      · exact hs)
  | .cond c a b, Q, s, h => by
    simp only [wbC] at h
    split at h
    · rename_i t ht
      refine WA.cond ht (fun e => y9 hB a ?_) fun e => y9 hB b ?_
      · rw [if_pos e] at h; exact h
      · rw [if_neg (by rw [e]; simp)] at h; exact h
    · exact h.elim
  | .Y7 t a, Q, s, h => WA.Y7 (y9 hB a h)
  | .block id a, Q, s, h => WA.block (y9 hB a h)
  | .loop a, Q, s, h => h
  | .scope a, Q, s, h => WA.scope (y9 hB a h)
theorem WA.jn {P : Program} {B : za} (hB : qn P B) {n0 nt : Nat} {Q : AX → St → Prop} {s : St} {a : AC} (I : St → Prop) (μ : St → Nat) (h0 : ∃ s', qz n0 s s' ∧ I s')
    (round : ∀ s, I s → wbC P B n0 nt a (AX.then (fun s' => ∃ s'', qz n0 s' s'' ∧ I s'' ∧ μ s'' < μ s) Q) s) : WA P n0 nt (.loop a) Q s := fun hm code hc => by
  obtain ⟨x, rfl, hx⟩ := (Js hc).2.1 a rfl
  intro X hx0 hx1 ι ac w hok
  obtain ⟨s0, hw0, hI0⟩ := h0
  obtain ⟨ι0, hok0⟩ := hw0 X ι ac w hx0 hok
  intro b k cs
  have key : ∀ n s, μ s = n → I s → ∀ ι a w, Ok X ι s a w →
      ∃ e a' w', lift X Q e a' w' ∧ Arrives P (lone (b.at a (.code x :: .inLoop x :: k)) cs w) b k cs e a' w' := by
    intro n
    induction n using Nat.strongRecOn with
    | _ n ih =>
      intro s hn hI ι ac w hok
      obtain ⟨e, a₁, w₁, ⟨y, ι₁, s₁, hy, ho, hs⟩, harr⟩ := y9 hB _ (round s hI) hm x hx X hx0 hx1 ι ac w hok b (.inLoop x :: k) cs
      cases e <;> simp only [AX.of, Option.some.injEq, reduceCtorEq] at hy <;> subst hy
      · obtain ⟨s₂, hw, hI₁, hlt⟩ := hs
        obtain ⟨ι₂, ho₂⟩ := hw X ι₁ a₁ w₁ hx0 ho
        obtain ⟨e₂, a₂, w₂, hq₂, harr₂⟩ := ih (μ s₂) (hn ▸ hlt) s₂ rfl hI₁ _ a₁ w₁ ho₂
        exact ⟨e₂, a₂, w₂, hq₂, .of_steps (Steps.trans harr (.one step_inLoop)) harr₂⟩
      · exact ⟨_, a₁, w₁, ⟨_, ι₁, s₁, rfl, ho, hs⟩, .pass (x := .inLoop x) rfl (fun _ _ => .inl (by simp)) harr⟩
      · exact ⟨_, a₁, w₁, ⟨_, ι₁, s₁, rfl, ho, hs⟩, .pass (x := .inLoop x) rfl (fun _ _ => .inl (by simp)) harr⟩
  obtain ⟨e, a', w', hq, harr⟩ := key _ s0 rfl hI0 ι0 ac w hok0
  exact ⟨e, a', w', hq, .of_steps (.one step_loop) harr⟩
theorem Fn.ofB {P : Program} {B : za} (hB : qn P B) {f : FuncId} {fi : FI} {args : List AV} {H : List AO} {R : AV → List AO → Prop} (hm : P.follows .mixedOrders = true) (hf : zr P f = some fi) (hn : args.length ≤ fi.nt)
    (hu : ∀ (j : Nat) (o : AO), H[j]? = some o → o.under H.length) (h : wbC P B H.length fi.nt fi.code (fun x s => (x = .ret ∨ x = .normal) ∧ Ret fi.res H R s) ⟨Wa 0 args, H⟩) : Fn P f args H R := by
  obtain ⟨fn, code, h1, h2, h3, h4, h5, h6⟩ := By P f fi hf
  exact Fn.read hm h1 h2 h3 h4 hn h5 h6 hu (y9 hB _ h)
def qz3 (ars : List AR) (H : List AO) (R : AV → Prop) (s : St) : Prop := (∃ x, s.hp = H ++ x) ∧ vy (Vd s ars) fun rs => (xw rs).zl = true ∧ R (xw rs)
theorem qld {v : AV} (h : v.zl = true) : v ≠ .top := by rintro rfl; simp [AV.zl] at h
theorem qz3.ret {ars : List AR} {H : List AO} {R : AV → Prop} {s : St} (hu : ∀ (j : Nat) (o : AO), H[j]? = some o → o.under H.length) (h : qz3 ars H R s) : Ret ars H (fun v H' => R v ∧ H' = H) s := by
  obtain ⟨⟨x, hx⟩, rs, h1, h2, h3⟩ := h
  exact Ret.same hu hx h1 (Yh _ _ h2) (qld h2) ⟨h3, rfl⟩
theorem Fn.jd {P : Program} {B : za} (hB : qn P B) {f : FuncId} {fi : FI} {args : List AV} {H : List AO} {R : AV → Prop} (hm : P.follows .mixedOrders = true) (hf : zr P f = some fi) (hn : args.length ≤ fi.nt)
    (hu : ∀ (j : Nat) (o : AO), H[j]? = some o → o.under H.length) (h : wbC P B H.length fi.nt fi.code (fun x s => (x = .ret ∨ x = .normal) ∧ qz3 fi.res H R s) ⟨Wa 0 args, H⟩) : Fn P f args H (fun v H' => R v ∧ H' = H) := by
  obtain ⟨fn, code, h1, h2, h3, h4, h5, h6⟩ := By P f fi hf
  exact Fn.read hm h1 h2 h3 h4 hn h5 h6 hu ((y9 hB _ h).mono fun x s h => ⟨h.1, h.2.ret hu⟩)
theorem not_not_eq {p : Prop} : (¬¬p) = p := propext Classical.not_not
theorem qyu {c : Prop} [Decidable c] {A B : Prop} : (if c then A else B) ↔ (c → A) ∧ (¬c → B) := by
  by_cases h : c
  · rw [if_pos h]; exact ⟨fun a => ⟨fun _ => a, fun k => absurd h k⟩, fun a => a.1 h⟩
  · rw [if_neg h]; exact ⟨fun a => ⟨fun k => absurd k h, fun _ => a⟩, fun a => a.2 h⟩
theorem Qm : ∀ (l : List AV), AV.zb l = true → l.all vh = true
  | [], _ => rfl
  | a :: l, h => by
    simp only [AV.zb, Bool.and_eq_true] at h
    simp only [List.all_cons, Bool.and_eq_true]
    refine ⟨?_, Qm l h.2⟩
    have h1 := h.1
    cases a <;> simp_all [AV.zl, vh]
def qm (g : List AV → Option AV) : BE := fun hp as => match g as with
  | some v => some (v, hp)
  | .none => .none
theorem Callee.plain {P : Program} {f : FuncId} {g : List AV → Option AV} (h : ∀ as v, g as = some v → AV.zb as = true ∧ v.zl = true ∧ Fn P f as [] fun v' H' => v' = v ∧ H' = []) : Callee P f (qm g) := by
  intro hp as v hp' he
  unfold qm at he
  split at he
  · rename_i v0 hv0
    simp only [Option.some.injEq, Prod.mk.injEq] at he
    obtain ⟨rfl, rfl⟩ := he
    obtain ⟨h1, h2, h3⟩ := h _ _ hv0
    refine ⟨[], as, _, fun _ => .none, [], h3, (qc _ _ h1).symm, Qm _ h1, ⟨fun j hj => absurd hj (by simp), rfl, fun j o b h => by simp at h, fun j k bj bk oj ok h => by simp at h⟩, by simp, qh _ _ h1, ?_⟩
    rintro v' H' ⟨rfl, rfl⟩
    exact ⟨Qr _ _ h2, by simp [after, upd]⟩
  · cases he
def Z4 (n : Nat) (g : List AV → List AV → Option AV) : BE := fun hp as => match as with
  | .ptr b off :: r => match rd hp b with
    | some L => chk (off + n ≤ L.length) (match g ((L.drop off).take n) r with
      | some v => some (v, hp)
      | .none => .none)
    | .none => .none
  | _ => .none
theorem Callee.read {P : Program} {f : FuncId} {n : Nat} {g : List AV → List AV → Option AV} (h : ∀ l as v, l.length = n → g l as = some v → AV.zb l = true ∧ AV.zb as = true ∧ v.zl = true ∧
    Fn P f (.ptr 0 0 :: as) [.ro l] fun v' H' => v' = v ∧ H' = [.ro l]) : Callee P f (Z4 n g) := by
  intro hp as v hp' he
  unfold Z4 at he
  split at he
  · rename_i b off r
    split at he
    · rename_i L hL
      obtain ⟨hle, he⟩ := ql he
      split at he
      · rename_i v0 hv0
        simp only [Option.some.injEq, Prod.mk.injEq] at he
        obtain ⟨rfl, rfl⟩ := he
        have hlen : ((L.drop off).take n).length = n := by simp; omega
        obtain ⟨h0, h1, h2, h3⟩ := h _ _ _ hlen hv0
        refine ⟨[.ro ((L.drop off).take n)], .ptr 0 0 :: r, _, fun j => if j = 0 then some (b, off) else .none, [(b, off)], h3, ?_, ?_, ⟨fun j hj => ?_, rfl, fun j o b' hj hb => ?_, fun j k bj bk oj ok hj hk hoj hok hw => ?_⟩, ?_, ⟨by simp [AV.under], qh _ _ h1⟩, ?_⟩
        · simp only [AV.zh, AV.ren, if_true, qc _ _ h1, Nat.add_zero]
        · simp only [List.all_cons, vh, Qm _ h1, Bool.and_self]
        · have : j = 0 := by simpa using hj
          subst this; rfl
        · cases j with
          | zero =>
            simp only [List.getElem?_cons_zero, Option.some.injEq] at hj hb
            subst hj; subst hb
            exact ⟨L, hL, by rw [hlen]; exact hle, by rw [hlen, qc _ _ h0]⟩
          | succ j => simp at hj
        · cases j with
          | zero => cases hoj; cases hw
          | succ j => simp at hoj
        · intro j o hj
          cases j with
          | zero => cases hj; exact qh _ _ h0
          | succ j => simp at hj
        · rintro v' H' ⟨rfl, rfl⟩
          exact ⟨Qr _ _ h2, by simp [after, upd, AO.wr]⟩
      · cases he
    · cases he
  · cases he
end Go.Am
namespace Go.Am
set_option linter.unusedVariables false
set_option linter.unusedSimpArgs false
def Uw (ids : List Nat) : Ren := fun j => ids[j]?.map fun i => (i, 0)
def uy (ids : List Nat) : Ren := fun b => if b ∈ ids then some (ids.idxOf b, 0) else none
mutual
def AV.within (ids : List Nat) : AV → Bool
  | .ptr b _ => ids.contains b
  | .slc b _ _ _ _ => ids.contains b
  | .map b => ids.contains b
  | .fn _ first caps => AV.xr ids first && AV.xr ids caps
  | .agg l => AV.xr ids l
  | .tup l => AV.xr ids l
  | _ => true
def AV.xr (ids : List Nat) : List AV → Bool
  | [] => true
  | a :: l => AV.within ids a && AV.xr ids l
end
mutual
theorem qnl (ids : List Nat) : (a : AV) → a.zl = true → a.within ids = true
  | .int _ _, _ => rfl
  | .bool _, _ => rfl
  | .str _, _ => rfl
  | .agg l, h => by simp only [AV.zl] at h; exact qk ids l h
  | .tup l, h => by simp only [AV.zl] at h; exact qk ids l h
  | .top, h => by simp [AV.zl] at h
  | .v _, h => by simp [AV.zl] at h
  | .ptr _ _, h => by simp [AV.zl] at h
  | .slc _ _ _ _ _, h => by simp [AV.zl] at h
  | .map _, h => by simp [AV.zl] at h
  | .fn _ a b, h => by simp only [AV.zl, Bool.and_eq_true] at h; simp only [AV.within, qk ids a h.1, qk ids b h.2, Bool.and_self]
theorem qk (ids : List Nat) : (l : List AV) → AV.zb l = true → AV.xr ids l = true
  | [], _ => rfl
  | a :: l, h => by simp only [AV.zb, Bool.and_eq_true] at h; simp only [AV.xr, qnl ids a h.1, qk ids l h.2, Bool.and_self]
end
theorem Qk {ids : List Nat} {b : Nat} (h : b ∈ ids) : uy ids b = some (ids.idxOf b, 0) ∧ Uw ids (ids.idxOf b) = some (b, 0) ∧ ids.idxOf b < ids.length := by
  have hl := List.idxOf_lt_length_of_mem h
  refine ⟨if_pos h, ?_, hl⟩
  simp only [Uw, List.getElem?_eq_getElem hl, List.getElem_idxOf hl, Option.map_some]
mutual
theorem Zu (ids : List Nat) : (a : AV) → a.within ids = true → (a.ren (uy ids)).ren (Uw ids) = a
  | .top, _ => rfl
  | .int _ _, _ => rfl
  | .bool _, _ => rfl
  | .str _, _ => rfl
  | .v _, _ => rfl
  | .ptr b off, h => by
    simp only [AV.within, List.contains_iff_mem] at h
    obtain ⟨h1, h2, _⟩ := Qk h
    simp only [AV.ren, h1, h2, Nat.zero_add]
  | .slc b off len ex c, h => by
    simp only [AV.within, List.contains_iff_mem] at h
    obtain ⟨h1, h2, _⟩ := Qk h
    simp only [AV.ren, h1, h2, Nat.zero_add]
  | .map b, h => by
    simp only [AV.within, List.contains_iff_mem] at h
    obtain ⟨h1, h2, _⟩ := Qk h
    simp only [AV.ren, h1, h2]
  | .fn f first caps, h => by
    simp only [AV.within, Bool.and_eq_true] at h
    simp only [AV.ren, gz ids first h.1, gz ids caps h.2]
  | .agg l, h => by simp only [AV.within] at h; simp only [AV.ren, gz ids l h]
  | .tup l, h => by simp only [AV.within] at h; simp only [AV.ren, gz ids l h]
theorem gz (ids : List Nat) : (l : List AV) → AV.xr ids l = true → AV.zh (Uw ids) (AV.zh (uy ids) l) = l
  | [], _ => rfl
  | a :: l, h => by
    simp only [AV.xr, Bool.and_eq_true] at h
    simp only [AV.zh, Zu ids a h.1, gz ids l h.2]
end
theorem J1 {ids : List Nat} (a : AV) (h : a.within ids = true) : (a.ren (uy ids)).under ids.length := by
  have key : ∀ (a : AV), a.within ids = true → (a.ren (uy ids)).under ids.length := by
    intro a
    refine AV.rec (motive_1 := fun a => a.within ids = true → (a.ren (uy ids)).under ids.length) (motive_2 := fun l => AV.xr ids l = true → AV.qy ids.length (AV.zh (uy ids) l)) ?_ ?_ ?_ ?_ ?_ ?_ ?_ ?_ ?_ ?_ ?_ ?_ ?_ a
    · intro _; trivial
    · intro _ _ _; trivial
    · intro _ _; trivial
    · intro _ _; trivial
    · intro _ _; trivial
    · intro b off h
      simp only [AV.within, List.contains_iff_mem] at h
      obtain ⟨h1, _, h3⟩ := Qk h
      simp only [AV.ren, h1]; exact h3
    · intro b off len ex c h
      simp only [AV.within, List.contains_iff_mem] at h
      obtain ⟨h1, _, h3⟩ := Qk h
      simp only [AV.ren, h1]; exact h3
    · intro b h
      simp only [AV.within, List.contains_iff_mem] at h
      obtain ⟨h1, _, h3⟩ := Qk h
      simp only [AV.ren, h1]; exact h3
    · intro f first caps h1 h2 h
      simp only [AV.within, Bool.and_eq_true] at h
      exact ⟨h1 h.1, h2 h.2⟩
    · intro l h1 h; exact h1 h
    · intro l h1 h; exact h1 h
    · intro _; trivial
    · intro a l h1 h2 h
      simp only [AV.xr, Bool.and_eq_true] at h
      exact ⟨h1 h.1, h2 h.2⟩
  exact key a h
theorem Ve {ids : List Nat} : ∀ (l : List AV), AV.xr ids l = true → AV.qy ids.length (AV.zh (uy ids) l)
  | [], _ => trivial
  | a :: l, h => by
    simp only [AV.xr, Bool.and_eq_true] at h
    exact ⟨J1 a h.1, Ve l h.2⟩
def AO.within (ids : List Nat) : AO → Bool
  | .cells l => AV.xr ids l
  | .vec _ l => AV.xr ids l
  | .ro l => AV.xr ids l
  | .map es _ => es.all fun e => e.key.within ids && e.val.within ids
  | .x6 m _ _ _ => match m with | some b => ids.contains b | none => true
  | .bg _ _ => true
  | .dead => true
theorem AO.Zu {ids : List Nat} (o : AO) (h : o.within ids = true) : (o.ren (uy ids)).ren (Uw ids) = o ∧ (o.ren (uy ids)).under ids.length := by
  cases o with
  | cells l => exact ⟨by simp only [AO.ren, gz ids l h], Ve l h⟩
  | vec s l => exact ⟨by simp only [AO.ren, gz ids l h], Ve l h⟩
  | ro l => exact ⟨by simp only [AO.ren, gz ids l h], Ve l h⟩
  | map es c =>
    simp only [AO.within, List.all_eq_true, Bool.and_eq_true] at h
    refine ⟨?_, ?_⟩
    · simp only [AO.ren, List.map_map, AO.map.injEq, and_true]
      conv => rhs; rw [← List.map_id es]
      refine List.map_congr_left fun e he => ?_
      simp only [Function.comp, AE.ren, Am.Zu ids _ (h e he).1, Am.Zu ids _ (h e he).2, id]
    · intro e he
      simp only [List.mem_map] at he
      obtain ⟨e0, he0, rfl⟩ := he
      exact ⟨J1 _ (h e0 he0).1, J1 _ (h e0 he0).2⟩
  | x6 m a b c =>
    cases m with
    | none => exact ⟨rfl, fun b hb => by cases hb⟩
    | some m =>
      simp only [AO.within, List.contains_iff_mem] at h
      obtain ⟨h1, h2, h3⟩ := Qk h
      refine ⟨by simp only [AO.ren, Option.bind_some, h1, Option.map_some, h2], fun b hb => ?_⟩
      simp only [Option.bind_some, h1, Option.map_some, Option.some.injEq] at hb
      exact hb ▸ h3
  | bg s p => exact ⟨rfl, trivial⟩
  | dead => exact ⟨rfl, trivial⟩
def zi (ids : List Nat) (hp : List AO) : List AO := ids.map fun i => match hp[i]? with | some o => o.ren (uy ids) | none => .dead
def Us (ids : List Nat) (e : Env) (ts : List Nat) : Env := ts.map fun t => (t, (get e t).ren (uy ids))
def qf8 (n0 : Nat) (ids : List Nat) (hp : List AO) : Prop :=
  (n0 ≤ ids.length ∧ ids.take n0 = List.range n0 ∧ ids.Nodup) ∧ ∀ i, i ∈ ids → match hp[i]? with | some o => o.within ids = true | none => False
theorem qho (ids : List Nat) (e : Env) : ∀ (ts : List Nat) (t : Nat), get (Us ids e ts) t ≠ .top → get (Us ids e ts) t = (get e t).ren (uy ids) ∧ t ∈ ts
  | [], t, h => absurd rfl h
  | u :: ts, t, h => by
    simp only [Us, List.map_cons, zj] at h ⊢
    by_cases e1 : u = t
    · subst e1; simp
    · simp only [e1, if_false] at h ⊢
      have := qho ids e ts t h
      exact ⟨this.1, List.mem_cons_of_mem _ this.2⟩
theorem qs4 {l : List Nat} (h : l.Nodup) {i j : Nat} (hi : i < l.length) (hj : j < l.length) (e : l[i] = l[j]) : i = j := by
  rcases Nat.lt_trichotomy i j with h1 | h1 | h1
  · exact absurd e (List.pairwise_iff_getElem.1 h i j hi hj h1)
  · exact h1
  · exact absurd e.symm (List.pairwise_iff_getElem.1 h j i hj hi h1)
theorem Sim.ve {n0 : Nat} {ids ts : List Nat} {e : Env} {hp : List AO} (hk : qf8 n0 ids hp) (he : ∀ t, t ∈ ts → (get e t).within ids = true) : Sim n0 ⟨e, hp⟩ ⟨Us ids e ts, zi ids hp⟩ (Uw ids) := by
  obtain ⟨⟨h1, h2, h3⟩, h4⟩ := hk
  have hlen : (zi ids hp).length = ids.length := by simp [zi]
  have hget : ∀ (j : Nat) (o : AO), (zi ids hp)[j]? = some o → ∃ i o', ids[j]? = some i ∧ hp[i]? = some o' ∧ o'.within ids = true ∧ o = o'.ren (uy ids) := by
    intro j o ho
    simp only [zi, List.getElem?_map, Option.map_eq_some_iff] at ho
    obtain ⟨i, hi, ho⟩ := ho
    have h5 := h4 i (List.mem_of_getElem? hi)
    split at ho
    · rename_i o' ho'
      rw [ho'] at h5
      exact ⟨i, o', hi, ho', h5, ho.symm⟩
    · rename_i ho'
      rw [ho'] at h5
      exact h5.elim
  refine ⟨fun t ht => ?_, fun j o ho => ?_, fun i j b _ _ hi hj => ?_, fun j hj => ?_, by rw [hlen]; exact h1, fun j m a b c ho => ?_⟩
  · obtain ⟨h5, h6⟩ := qho ids e ts t ht
    show (get (Us ids e ts) t).under (zi ids hp).length ∧ get e t = (get (Us ids e ts) t).ren (Uw ids)
    rw [h5, hlen]
    exact ⟨J1 _ (he t h6), (Zu ids _ (he t h6)).symm⟩
  · obtain ⟨i, o', hi, ho', hw, rfl⟩ := hget j o ho
    show (o'.ren (uy ids)).under (zi ids hp).length ∧ _
    rw [hlen]
    obtain ⟨h5, h6⟩ := AO.Zu o' hw
    exact ⟨h6, fun _ => .inl ⟨i, by simp [Uw, hi], by rw [h5]; exact ho'⟩⟩
  · simp only [Uw, Option.map_eq_some_iff] at hi hj
    obtain ⟨a, ha, rfl⟩ := hi
    obtain ⟨a', ha', h5⟩ := hj
    simp only [Prod.mk.injEq, and_true] at h5
    subst h5
    obtain ⟨hi1, hi2⟩ := List.getElem?_eq_some_iff.1 ha
    obtain ⟨hj1, hj2⟩ := List.getElem?_eq_some_iff.1 ha'
    exact qs4 h3 hi1 hj1 (hi2.trans hj2.symm)
  · have h5 : (ids.take n0)[j]? = some j := by rw [h2]; simp [hj]
    rw [List.getElem?_take_of_lt hj] at h5
    simp [Uw, h5]
  · obtain ⟨i, o', hi, ho', hw, he'⟩ := hget j _ ho
    cases o' <;> simp only [AO.ren, reduceCtorEq, AO.x6.injEq] at he'
    rename_i m' _ _ _
    cases m' with
    | none => simp at he'
    | some m' =>
      simp only [AO.within, List.contains_iff_mem] at hw
      obtain ⟨h5, h6, h7⟩ := Qk hw
      simp only [Option.bind_some, h5, Option.map_some, Option.some.injEq] at he'
      rw [he'.1]
      exact ⟨m', h6⟩
theorem qz.ve {n0 : Nat} {e : Env} {hp : List AO} (ids ts : List Nat) (hk : qf8 n0 ids hp) (he : ∀ t, t ∈ ts → (get e t).within ids = true) : qz n0 ⟨e, hp⟩ ⟨Us ids e ts, zi ids hp⟩ :=
  qz.sim (Sim.ve hk he)
theorem Ret.ve {ars : List AR} {H : List AO} {R : AV → List AO → Prop} {s : St} {rs : List AV} (ids : List Nat) (hk : qf8 H.length ids s.hp) (hr : Vd s ars = some rs) (hw : (xw rs).within ids = true) (ht : xw rs ≠ .top)
    (hro : ∀ (j : Nat) (l : List AV), (zi ids s.hp)[j]? = some (AO.ro l) → ∃ l', H[j]? = some (AO.ro l')) (h : R ((xw rs).ren (uy ids)) (zi ids s.hp)) : Ret ars H R s := by
  have hlen : (zi ids s.hp).length = ids.length := by simp [zi]
  refine ⟨rs, (xw rs).ren (uy ids), zi ids s.hp, Uw ids, hr, (Zu ids _ hw).symm, qzl ht, by rw [hlen]; exact J1 _ hw, ?_, h, hro⟩
  exact Sim.ve (e := []) (ts := []) hk (by simp)
end Go.Am
namespace Go.Am
set_option linter.unusedVariables false
set_option linter.unusedSimpArgs false
mutual
def AV.xe (b n : Nat) : AV → AV
  | .slc b' off len ex c => if b' = b ∧ ex = true ∧ c = n then .slc b off len false 0 else .slc b' off len ex c
  | .fn f first caps => .fn f (AV.gq b n first) (AV.gq b n caps)
  | .agg l => .agg (AV.gq b n l)
  | .tup l => .tup (AV.gq b n l)
  | .top => .top
  | .int k m => .int k m
  | .bool t => .bool t
  | .str s => .str s
  | .v x => .v x
  | .ptr x y => .ptr x y
  | .map x => .map x
def AV.gq (b n : Nat) : List AV → List AV
  | [] => []
  | a :: l => AV.xe b n a :: AV.gq b n l
end
mutual
def AV.exact (b : Nat) : AV → Bool
  | .slc b' _ _ ex _ => !(b' == b) || ex
  | .fn _ first caps => AV.Zh b first && AV.Zh b caps
  | .agg l => AV.Zh b l
  | .tup l => AV.Zh b l
  | _ => true
def AV.Zh (b : Nat) : List AV → Bool
  | [] => true
  | a :: l => AV.exact b a && AV.Zh b l
end
mutual
theorem qoc (b : Nat) : (a : AV) → a.zl = true → a.exact b = true
  | .int _ _, _ => rfl
  | .bool _, _ => rfl
  | .str _, _ => rfl
  | .agg l, h => by simp only [AV.zl] at h; exact vn b l h
  | .tup l, h => by simp only [AV.zl] at h; exact vn b l h
  | .top, h => by simp [AV.zl] at h
  | .v _, h => by simp [AV.zl] at h
  | .ptr _ _, h => by simp [AV.zl] at h
  | .slc _ _ _ _ _, h => by simp [AV.zl] at h
  | .map _, h => by simp [AV.zl] at h
  | .fn _ x y, h => by simp only [AV.zl, Bool.and_eq_true] at h; simp only [AV.exact, vn b x h.1, vn b y h.2, Bool.and_self]
theorem vn (b : Nat) : (l : List AV) → AV.zb l = true → AV.Zh b l = true
  | [], _ => rfl
  | a :: l, h => by simp only [AV.zb, Bool.and_eq_true] at h; simp only [AV.Zh, qoc b a h.1, vn b l h.2, Bool.and_self]
end
mutual
theorem qp6 (b n : Nat) : (a : AV) → a.zl = true → a.xe b n = a
  | .int _ _, _ => rfl
  | .bool _, _ => rfl
  | .str _, _ => rfl
  | .agg l, h => by simp only [AV.zl] at h; simp only [AV.xe, j5 b n l h]
  | .tup l, h => by simp only [AV.zl] at h; simp only [AV.xe, j5 b n l h]
  | .top, h => by simp [AV.zl] at h
  | .v _, h => by simp [AV.zl] at h
  | .ptr _ _, h => by simp [AV.zl] at h
  | .slc _ _ _ _ _, h => by simp [AV.zl] at h
  | .map _, h => by simp [AV.zl] at h
  | .fn _ x y, h => by simp only [AV.zl, Bool.and_eq_true] at h; simp only [AV.xe, j5 b n x h.1, j5 b n y h.2]
theorem j5 (b n : Nat) : (l : List AV) → AV.zb l = true → AV.gq b n l = l
  | [], _ => rfl
  | a :: l, h => by simp only [AV.zb, Bool.and_eq_true] at h; simp only [AV.gq, qp6 b n a h.1, j5 b n l h.2]
end
def Qd (ι : Nat → Loc) (b n : Nat) : Nat → Loc := fun j => if j = b then ⟨(ι b).addr, (ι b).null, n⟩ else ι j
theorem jr (ι : Nat → Loc) (b n j : Nat) : (Qd ι b n j).addr = (ι j).addr ∧ (Qd ι b n j).null = (ι j).null := by
  unfold Qd; split
  · rename_i h; rw [h]; exact ⟨rfl, rfl⟩
  · exact ⟨rfl, rfl⟩
mutual
theorem Bx (ι : Nat → Loc) (b n : Nat) : (a : AV) → a.exact b = true → gam (Qd ι b n) (a.xe b n) = gam ι a
  | .top, _ => rfl
  | .int _ _, _ => rfl
  | .bool _, _ => rfl
  | .str _, _ => rfl
  | .v _, _ => rfl
  | .ptr x y, _ => by simp only [AV.xe, gam, (jr ι b n x).1]
  | .slc x off len ex c, h => by
    simp only [AV.xe]
    split
    · rename_i e
      obtain ⟨rfl, rfl, rfl⟩ := e
      simp only [gam, (jr ι x c x).1, (jr ι x c x).2, cond_true, cond_false, Nat.sub_zero]
      simp [Qd]
    · rename_i e
      simp only [gam, (jr ι b n x).1, (jr ι b n x).2]
      cases ex with
      | true => simp only [cond_true]
      | false =>
        have : x ≠ b := by simpa [AV.exact] using h
        simp only [cond_false, Qd, this, if_false]
  | .map x, _ => by simp only [AV.xe, gam, (jr ι b n x).1]
  | .fn _ x y, h => by
    simp only [AV.exact, Bool.and_eq_true] at h
    simp only [AV.xe, gam, yj ι b n x h.1, yj ι b n y h.2]
  | .agg l, h => by simp only [AV.exact] at h; simp only [AV.xe, gam, yj ι b n l h]
  | .tup l, h => by simp only [AV.exact] at h; simp only [AV.xe, gam, yj ι b n l h]
theorem yj (ι : Nat → Loc) (b n : Nat) : (l : List AV) → AV.Zh b l = true → qv (Qd ι b n) (AV.gq b n l) = qv ι l
  | [], _ => rfl
  | a :: l, h => by
    simp only [AV.Zh, Bool.and_eq_true] at h
    simp only [AV.gq, qv, Bx ι b n a h.1, yj ι b n l h.2]
end
mutual
theorem Ql (b n m : Nat) : (a : AV) → a.under m → (a.xe b n).under m
  | .top, _ => trivial
  | .int _ _, _ => trivial
  | .bool _, _ => trivial
  | .str _, _ => trivial
  | .v _, _ => trivial
  | .ptr x y, h => h
  | .slc x off len ex c, h => by
    simp only [AV.xe]
    split
    · rename_i e; exact e.1 ▸ h
    · exact h
  | .map x, h => h
  | .fn _ x y, h => ⟨vf b n m x h.1, vf b n m y h.2⟩
  | .agg l, h => vf b n m l h
  | .tup l, h => vf b n m l h
theorem vf (b n m : Nat) : (l : List AV) → AV.qy m l → AV.qy m (AV.gq b n l)
  | [], _ => trivial
  | a :: l, h => ⟨Ql b n m a h.1, vf b n m l h.2⟩
end
theorem qsn {b n : Nat} {a : AV} : a.xe b n = .top ↔ a = .top := by
  cases a <;> simp only [AV.xe, reduceCtorEq]
  split <;> simp
theorem G3 (b n : Nat) : ∀ (e : Env) (t : Nat), get (e.map fun p => (p.1, p.2.xe b n)) t = (get e t).xe b n
  | [], t => rfl
  | (k, v) :: e, t => by
    simp only [List.map_cons, zj]
    split
    · rfl
    · exact G3 b n e t
def AO.exact (b : Nat) : AO → Bool
  | .cells l => AV.Zh b l
  | .vec _ l => AV.Zh b l
  | .ro l => AV.Zh b l
  | .map es _ => es.all fun e => e.key.exact b && e.val.exact b
  | _ => true
def AO.xe (b n : Nat) : AO → AO
  | .cells l => .cells (AV.gq b n l)
  | .vec sz l => .vec sz (AV.gq b n l)
  | .ro l => .ro (AV.gq b n l)
  | .map es c => .map (es.map fun e => ⟨e.key.xe b n, e.val.xe b n, e.born⟩) c
  | .x6 m x y z => .x6 m x y z
  | .bg s p => .bg s p
  | .dead => .dead
def Wu (b n sz : Nat) (hp : List AO) : List AO := (hp.map (AO.xe b n)).set b (match hp[b]? with | some (.cells l) => .vec sz (AV.gq b n l) | _ => .dead)
theorem AO.qpd (b n : Nat) (o : AO) : (o.xe b n).live = o.live := by cases o <;> rfl
theorem AO.qxm (b n : Nat) (o : AO) : (o.xe b n).wr = o.wr := by cases o <;> rfl
theorem AO.Ql {b n m : Nat} {o : AO} (h : o.under m) : (o.xe b n).under m := by
  cases o with
  | cells l => exact vf b n m l h
  | vec s l => exact vf b n m l h
  | ro l => exact vf b n m l h
  | map es c =>
    intro e he
    simp only [List.mem_map] at he
    obtain ⟨e0, he0, rfl⟩ := he
    exact ⟨Am.Ql b n m _ (h e0 he0).1, Am.Ql b n m _ (h e0 he0).2⟩
  | x6 _ _ _ _ => exact h
  | bg _ _ => trivial
  | dead => trivial
theorem qz.vec {n0 : Nat} {e : Env} {hp : List AO} (b n sz : Nat) (h0 : n0 ≤ b) {l : List AV} (hb : hp[b]? = some (.cells l)) (hl : n * sz = l.length) (he : (e.all fun p => p.2.exact b) = true) (hh : (hp.all fun o => o.exact b) = true) :
    qz n0 ⟨e, hp⟩ ⟨e.map fun p => (p.1, p.2.xe b n), Wu b n sz hp⟩ := by
  intro X ι a w hX hok
  have hbl : b < hp.length := (List.getElem?_eq_some_iff.1 hb).1
  have hlen : (Wu b n sz hp).length = hp.length := by simp [Wu]
  have hexa : ∀ t, (get e t).exact b = true := by
    intro t
    clear hok
    induction e with
    | nil => rfl
    | cons p e ih =>
      simp only [List.all_cons, Bool.and_eq_true] at he
      obtain ⟨k, v⟩ := p
      simp only [zj]
      split
      · exact he.1
      · exact ih he.2
  have hget : ∀ (j : Nat) (o : AO), (Wu b n sz hp)[j]? = some o → ∃ o', hp[j]? = some o' ∧ o'.live = o.live ∧ o'.wr = o.wr ∧ (j ≠ b → o = o'.xe b n) ∧ (j = b → o = .vec sz (AV.gq b n l)) := by
    intro j o ho
    simp only [Wu] at ho
    by_cases e1 : j = b
    · subst e1
      rw [List.getElem?_set_self (by simpa using hbl), hb] at ho
      simp only [Option.some.injEq] at ho
      subst ho
      exact ⟨_, hb, rfl, rfl, fun h => absurd rfl h, fun _ => rfl⟩
    · rw [List.getElem?_set_ne (fun h => e1 h.symm), List.getElem?_map, Option.map_eq_some_iff] at ho
      obtain ⟨o', h1, rfl⟩ := ho
      exact ⟨o', h1, (AO.qpd b n o').symm, (AO.qxm b n o').symm, fun _ => rfl, fun h => absurd h e1⟩
  have hat : ∀ {j c}, At (Qd ι b n) (Wu b n sz hp) j c → At ι hp j c := by
    rintro j c ⟨o, ho, h1, h2, h3⟩
    obtain ⟨o', h4, h5, h6, _⟩ := hget j o ho
    rw [(jr ι b n j).2] at h2
    rw [(jr ι b n j).1] at h3
    exact ⟨o', h4, by rw [h5]; exact h1, h2, h3⟩
  have hatw : ∀ {j c}, AtW (Qd ι b n) (Wu b n sz hp) j c → AtW ι hp j c := by
    rintro j c ⟨o, ho, h1, h2, h3⟩
    obtain ⟨o', h4, h5, h6, _⟩ := hget j o ho
    rw [(jr ι b n j).2] at h2
    rw [(jr ι b n j).1] at h3
    exact ⟨o', h4, by rw [h6]; exact h1, h2, h3⟩
  have hexo : ∀ (j : Nat) (o : AO), hp[j]? = some o → o.exact b = true := fun j o ho => List.all_eq_true.1 hh o (List.mem_of_getElem? ho)
  refine ⟨Qd ι b n, hok.size, hok.defers, fun t ht => ?_, ⟨fun j o ho => ?_, fun i j c h1 h2 => hok.heap.inj i j c (hatw h1) (hat h2)⟩, fun j c h => hok.dom j c (hatw h), fun j hj => ?_, by rw [show St.hp ⟨_, Wu b n sz hp⟩ = Wu b n sz hp from rfl, hlen]; exact hok.len, hok.fresh, hok.world⟩
  · show (get (e.map fun p => (p.1, p.2.xe b n)) t).under (Wu b n sz hp).length ∧ _ = some (gam _ (get (e.map fun p => (p.1, p.2.xe b n)) t))
    have ht' : get (e.map fun p => (p.1, p.2.xe b n)) t ≠ .top := ht
    rw [G3] at ht' ⊢
    have h1 : get e t ≠ .top := fun h => ht' (qsn.2 h)
    obtain ⟨h2, h3⟩ := hok.env t h1
    rw [hlen]
    exact ⟨Am.Ql b n _ _ h2, by rw [Bx ι b n _ (hexa t)]; exact h3⟩
  · obtain ⟨o', h4, h5, h6, h7, h8⟩ := hget j o ho
    obtain ⟨h9, h10⟩ := hok.heap.rel j o' h4
    show o.under (Wu b n sz hp).length ∧ _
    rw [hlen]
    by_cases e1 : j = b
    · subst e1
      rw [hb] at h4; cases h4
      rw [h8 rfl]
      refine ⟨vf j n _ _ h9, ?_⟩
      obtain ⟨hn, blk, c, ty, fz, ha, hc, hcl, hcalm⟩ := h10
      refine .inr ⟨by rw [(jr ι j n j).2]; exact hn, blk, c, ty, fz, [], by rw [(jr ι j n j).1]; exact ha, hc, ?_, hcalm, ?_⟩
      · rw [yj ι j n l (hexo j _ hb), List.append_nil]; exact hcl
      · have : (Qd ι j n j).cap = n := by simp [Qd]
        rw [this, hl, ← Array.length_toList, hcl, q6]
    · rw [h7 e1]
      refine ⟨AO.Ql h9, ?_⟩
      have hloc : Qd ι b n j = ι j := by simp [Qd, e1]
      rw [hloc]
      have hx := hexo j o' h4
      cases o' with
      | cells l' => obtain ⟨hn, blk, c, ty, fz, ha, hc, hcl, hcalm⟩ := h10; exact ⟨hn, blk, c, ty, fz, ha, hc, by rw [yj ι b n l' hx]; exact hcl, hcalm⟩
      | vec s l' =>
        rcases h10 with ⟨h1, h2, h3⟩ | ⟨hn, blk, c, ty, fz, ex, ha, hc, hcl, hcalm, hcap⟩
        · exact .inl ⟨h1, h2, by rw [h3]; rfl⟩
        · exact .inr ⟨hn, blk, c, ty, fz, ex, ha, hc, by rw [yj ι b n l' hx]; exact hcl, hcalm, hcap⟩
      | ro l' =>
        rcases h10 with ⟨h1, h3⟩ | ⟨hn, blk, o, c, ty, fz, pre, ex, ha, hc, hp, hcl⟩
        · exact .inl ⟨h1, by rw [h3]; rfl⟩
        · exact .inr ⟨hn, blk, o, c, ty, fz, pre, ex, ha, hc, hp, by rw [yj ι b n l' hx]; exact hcl⟩
      | map es ck =>
        obtain ⟨hn, blk, ha, hc⟩ := h10
        refine ⟨hn, blk, ha, hc.trans ?_⟩
        simp only [List.map_map, Option.some.injEq, Obj.map.injEq, and_true]
        congr 1
        refine List.map_congr_left fun e0 he0 => ?_
        simp only [AO.exact, List.all_eq_true, Bool.and_eq_true] at hx
        simp only [Function.comp, jq, Bx ι b n _ (hx e0 he0).1, Bx ι b n _ (hx e0 he0).2]
      | x6 m x y z =>
        obtain ⟨hn, blk, ha, hc⟩ := h10
        refine ⟨hn, blk, ha, hc.trans ?_⟩
        cases m with
        | none => rfl
        | some m => simp only [Option.map_some, (jr ι b n m).1]
      | bg s p => exact h10
      | dead => trivial
  · have : j ≠ b := by omega
    simp only [Qd, this, if_false]
    exact hok.base j hj
theorem qz.nil {n0 : Nat} {e : Env} {hp : List AO} (t sz : Nat) (ht : get e t = .v (.slice none 0 0)) (hn : n0 ≤ hp.length) (hu : ∀ u, u ≠ t → get e u ≠ .top → (get e u).under hp.length) (hh : ∀ (j : Nat) (o : AO), hp[j]? = some o → o.under hp.length) :
    qz n0 ⟨e, hp⟩ ⟨(t, .slc hp.length 0 0 false 0) :: e, hp ++ [.vec sz []]⟩ := by
  have hid : ∀ {a : AV}, a.under hp.length → a.ren (fun j => if j < hp.length then some (j, 0) else .none) = a := fun h => by
    have := Z0 hp.length _ h
    exact this
  refine qz.sim (ρ := fun j => if j < hp.length then some (j, 0) else .none) ⟨fun u hu' => ?_, fun j o ho => ?_, fun i j b hi hj h1 h2 => ?_, fun j hj => ?_, by simp; omega, fun j m x b c ho => ?_⟩
  · simp only [zj] at hu' ⊢
    by_cases e1 : t = u
    · subst e1
      simp only [if_true]
      refine ⟨by simp [AV.under], ?_⟩
      rw [ht]
      simp [AV.ren]
    · simp only [e1, if_false] at hu' ⊢
      have := hu u (fun h => e1 h.symm) hu'
      exact ⟨Am.jf (by simp) _ this, (hid this).symm⟩
  · simp only [List.length_append, List.length_singleton]
    by_cases e1 : j < hp.length
    · rw [List.getElem?_append_left e1] at ho
      have := hh j o ho
      refine ⟨AO.jf (by omega) _ this, fun _ => .inl ⟨j, by simp [e1], ?_⟩⟩
      have h2 := AO.Z0 this
      unfold idR at h2
      rw [h2]; exact ho
    · have hj : j = hp.length := by
        have := (List.getElem?_eq_some_iff.1 ho).1
        simp at this; omega
      subst hj
      rw [List.getElem?_append_right (Nat.le_refl _), Nat.sub_self] at ho
      cases ho
      exact ⟨trivial, fun _ => .inr ⟨by simp, sz, rfl⟩⟩
  · split at h1 <;> split at h2 <;> simp_all
    obtain ⟨rfl⟩ := h1
    cases h2; rfl
  · simp; omega
  · change (hp ++ [AO.vec sz []])[j]? = _ at ho
    by_cases e1 : j < hp.length
    · rw [List.getElem?_append_left e1] at ho
      have := hh j _ ho m rfl
      exact ⟨m, by simp [this]⟩
    · have hj : j = hp.length := by
        have := (List.getElem?_eq_some_iff.1 ho).1
        simp at this; omega
      subst hj
      rw [List.getElem?_append_right (Nat.le_refl _), Nat.sub_self] at ho
      cases ho
end Go.Am
namespace Go.Am
set_option linter.unusedVariables false
set_option linter.unusedSimpArgs false
section
variable {e : Env} {hp : List AO} {K : AV → List AO → Prop}
theorem qo5 {x : Opd} : hol (qf e hp (.ju x)) K ↔ match ev e x with | .ptr b off => K (.ptr b off) hp | .fn f a b => K (.fn f a b) hp | _ => False := by
  simp only [qf]; cases ev e x <;> simp only [qj, q7]
theorem quq {len size : Nat} {x i : Opd} : hol (qf e hp (.qd0 len size false x i)) K ↔ match ev e x, ev e i with
    | .agg l, .int _ n => (0 ≤ n ∧ n < len) ∧ vy l[n.toNat * size]? fun v => K v hp | _, _ => False := by
  simp only [qf]
  cases ev e x <;> cases ev e i <;> simp only [qj, jz, cond_false]
  rename_i l k n
  cases l[n.toNat * size]? with
  | none => simp only [qj, zf]
  | some v => simp only [q7, zc]
theorem qwl {len size : Nat} {x i : Opd} : hol (qf e hp (.qd0 len size true x i)) K ↔ match ev e x, ev e i with
    | .agg l, .int _ n => (0 ≤ n ∧ n < len) ∧ n.toNat * size + size ≤ l.length ∧ K (.agg ((l.drop (n.toNat * size)).take size)) hp | _, _ => False := by
  simp only [qf]
  cases ev e x <;> cases ev e i <;> simp only [qj, jz, cond_true, q7]
theorem qxr {x i : Opd} : hol (qf e hp (.qd3 x i)) K ↔ match ev e x, ev e i with
    | .str s, .int _ n => (0 ≤ n ∧ n < s.length) ∧ K (.int .u8 (s.getD n.toNat 0).toNat) hp | _, _ => False := by
  simp only [qf]; cases ev e x <;> cases ev e i <;> simp only [qj, jz, q7]
theorem qow {b : Bool} {x y : Opd} : hol (qf e hp (.Xj b x y)) K ↔ match ev e x, ev e y with
    | .int k a, .int k' c => k = k' ∧ K (.int k (cond b (if c < a then c else a) (if c > a then c else a))) hp | _, _ => False := by
  simp only [qf]; cases ev e x <;> cases ev e y <;> simp only [qj, jz, q7]
theorem quy {x : Opd} : hol (qf e hp (.len .str x)) K ↔ match ev e x with | .str s => K (.int .i64 s.length) hp | _ => False := by
  simp only [qf]; cases ev e x <;> simp only [qj, q7]
theorem qw1 {x : Opd} : hol (qf e hp (.len .slc x)) K ↔ match ev e x with | .slc _ _ n _ _ => K (.int .i64 n) hp | .v (.slice _ n _) => K (.int .i64 n) hp | _ => False := by
  simp only [qf]
  cases ev e x <;> try first | exact q7 | exact qj
  rename_i v
  cases v <;> first | exact q7 | exact qj
theorem qob {x : Opd} {lo hi : Option Opd} : hol (qf e hp (.substr x lo hi)) K ↔ match ev e x with
    | .str s => vy (lim (lo.map (ev e)) (hi.map (ev e)) s.length s.length) fun p => K (.str ((s.take p.2).drop p.1)) hp | _ => False := by
  simp only [qf]
  cases ev e x <;> simp only [qj]
  rename_i s
  cases lim (lo.map (ev e)) (hi.map (ev e)) s.length s.length with
  | none => simp only [qj, zf]
  | some p => simp only [q7, zc]
theorem qs7 {size : Nat} {x : Opd} {lo hi : Option Opd} : hol (qf e hp (.qcz size x lo hi)) K ↔ match ev e x with
    | .slc b off len ex c => vy (rd hp b) fun r => vy (lim (lo.map (ev e)) (hi.map (ev e)) len len) fun p => (off + len * size ≤ r.length ∧ Zk hp b off len ex c size = true) ∧
        ((p.1 = 0 ∨ p.1 < p.2) → K (.slc b (off + p.1 * size) (p.2 - p.1) ex (cond ex (c - p.1) (c + p.1))) hp) ∧ (¬(p.1 = 0 ∨ p.1 < p.2) → K (.slc hp.length 0 0 false 0) (hp ++ [.dead]))
    | _ => False := by
  simp only [qf]
  cases ev e x <;> simp only [qj]
  rename_i b off len ex c
  cases rd hp b with
  | none => simp only [qj, zf]
  | some r =>
    simp only [zc]
    cases lim (lo.map (ev e)) (hi.map (ev e)) len len with
    | none => simp only [qj, zf]
    | some p =>
      simp only [zc, jz]
      refine and_congr Iff.rfl ?_
      split
      · rename_i h; simp only [q7, h, true_implies, not_true_eq_false, false_implies, and_true]
      · rename_i h; simp only [q7, h, false_implies, not_false_eq_true, true_implies, true_and]
theorem q1m {x : Opd} : hol (qf e hp (.b2s x)) K ↔ match ev e x with
    | .slc b off len _ _ => vy (rd hp b) fun l => off + len ≤ l.length ∧ vy (k8 ((l.drop off).take len)) fun s => K (.str s) hp
    | .v (.slice none _ _) => K (.str []) hp
    | _ => False := by
  simp only [qf]
  cases ev e x <;> try exact qj
  · rename_i v
    cases v <;> try exact qj
    rename_i p _ _
    cases p <;> first | exact q7 | exact qj
  · rename_i b off len _ _
    show hol (match rd hp b with | some l => chk (off + len ≤ l.length) (match k8 ((l.drop off).take len) with | some s => some (.str s, hp) | none => none) | none => none) K ↔
      vy (rd hp b) fun l => off + len ≤ l.length ∧ vy (k8 ((l.drop off).take len)) fun s => K (.str s) hp
    cases rd hp b with
    | none => simp only [qj, zf]
    | some l =>
      simp only [zc, jz]
      cases k8 ((l.drop off).take len) with
      | none => simp only [qj, zf]
      | some s => simp only [q7, zc]
theorem qua {x : Opd} : hol (qf e hp (.qc3 x)) K ↔ match ev e x with | .str s => K (.str s) hp | _ => False := by
  simp only [qf]; cases ev e x <;> simp only [qj, q7]
theorem qzw {neg : Bool} {ks : List LT} {x y : Opd} : hol (qf e hp (.eqs neg ks x y)) K ↔ match ev e x, ev e y with
    | .agg l, .agg l' => vy (j6 ks l l') fun r => K (.bool (cond neg (!r) r)) hp | _, _ => False := by
  simp only [qf]
  cases ev e x <;> cases ev e y <;> simp only [qj]
  rename_i l l'
  cases j6 ks l l' with
  | none => simp only [qj, zf]
  | some r => simp only [q7, zc]
theorem q02 {neg : Bool} {x y : Opd} : hol (qf e hp (.eqb neg x y)) K ↔ match ev e x, ev e y with
    | .bool u, .bool u' => K (.bool (cond neg (!(u == u')) (u == u'))) hp | _, _ => False := by
  simp only [qf]; cases ev e x <;> cases ev e y <;> simp only [qj, q7]
theorem qsd : hol (qf e hp .qag) K ↔ K (.map hp.length) (hp ++ [.map [] 0]) := q7
theorem qls {size bytes : Nat} {z : List AV} {l c : Opd} : hol (qf e hp (.kx size bytes z l c)) K ↔ match ev e l, ev e c with
    | .int _ l, .int _ c => (0 ≤ l ∧ l ≤ c ∧ c * bytes ≤ 281474976710656 ∧ 1 ≤ bytes ∧ z.length = size ∧ 1 ≤ size) ∧ K (.slc hp.length 0 l.toNat true c.toNat) (hp ++ [.cells (rep c.toNat z)])
    | _, _ => False := by
  simp only [qf]; cases ev e l <;> cases ev e c <;> simp only [qj, jz, q7]
theorem qv6 {f : FuncId} {first caps : List Opd} : hol (qf e hp (.qg7 f first caps)) K ↔
    ((first.all fun x => match ev e x with | .top => false | _ => true) = true ∧ (caps.all fun x => match ev e x with | .top => false | _ => true) = true) ∧ K (.fn f (first.map (ev e)) (caps.map (ev e))) hp := by
  exact Iff.trans jz (and_congr Iff.rfl q7)
theorem qps {size bytes : Nat} {x y : Opd} : hol (qf e hp (.append size bytes x y)) K ↔ vy (src hp size (ev e y)) fun p => match ev e x with
    | .slc b 0 len ex c => (match hp[b]? with
      | some (.vec sz l) => (ex = false ∧ c = 0 ∧ sz = size ∧ len * size ≤ l.length ∧ p.2.all AV.one = true ∧ (len + p.1) * bytes ≤ 1099511627776 ∧ (1 ≤ bytes ∧ bytes ≤ 65536) ∧ 1 ≤ size) ∧
          K (.slc hp.length 0 (len + p.1) false 0) (hp.set b .dead ++ [.vec size (l.take (len * size) ++ p.2)])
      | some (.cells l) => (ex = true ∧ c = len ∧ l.length = len * size ∧ p.2.all AV.one = true ∧ (len + p.1) * bytes ≤ 1099511627776 ∧ (1 ≤ bytes ∧ bytes ≤ 65536) ∧ 1 ≤ size) ∧
          K (.slc hp.length 0 (len + p.1) false 0) (hp.set b .dead ++ [.vec size (l ++ p.2)])
      | _ => False)
    | .v (.slice none 0 0) => (p.2.all AV.one = true ∧ p.1 * bytes ≤ 1099511627776 ∧ (1 ≤ bytes ∧ bytes ≤ 65536) ∧ 1 ≤ size) ∧ K (.slc hp.length 0 p.1 false 0) (hp ++ [.vec size p.2])
    | _ => False := by
  simp only [qf]
  cases src hp size (ev e y) with
  | none => simp only [qj, zf]
  | some p =>
    simp only [zc]
    cases ev e x <;> try exact qj
    · rename_i v
      cases v <;> try exact qj
      rename_i q l c
      cases q <;> try exact qj
      cases l <;> try exact qj
      cases c <;> try exact qj
      exact Iff.trans jz (and_congr Iff.rfl q7)
    · rename_i b off len ex c
      cases off <;> try exact qj
      cases h : hp[b]? with
      | none => simp only [h, qj]
      | some o => cases o <;> simp only [h, qj, jz, q7]
theorem qpf {ks : List LT} {agg ok : Bool} {z : AV} {m k : Opd} : hol (qf e hp (.lookup ks agg z ok m k)) K ↔ match ev e m with
    | .map b => (match hp[b]? with
      | some (.map es _) => kok ks agg (ev e k) = true ∧ vy (uf ks agg (ev e k) es 0) fun r => match r with
        | some (_, e) => K (cond ok (.tup [e.val, .bool true]) e.val) hp
        | none => K (cond ok (.tup [z, .bool false]) z) hp
      | _ => False)
    | _ => False := by
  simp only [qf]
  cases ev e m <;> simp only [qj]
  rename_i b
  cases hp[b]? with
  | none => simp only [qj]
  | some o =>
    cases o <;> simp only [qj, jz]
    rename_i es ck
    refine and_congr Iff.rfl ?_
    cases uf ks agg (ev e k) es 0 with
    | none => simp only [qj, zf]
    | some r => cases r <;> simp only [q7, zc]
theorem qn7 {m : Opd} : hol (qf e hp (.Bf m)) K ↔ match ev e m with
    | .map b => (match hp[b]? with | some (.map _ clock) => K (.ptr hp.length 0) (hp ++ [.x6 (some b) clock [] clock]) | _ => False)
    | _ => False := by
  simp only [qf]
  cases ev e m <;> simp only [qj]
  rename_i b
  cases hp[b]? with
  | none => simp only [qj]
  | some o => cases o <;> simp only [qj, q7]
end
theorem qom {hp : List AO} {K : AV → List AO → Prop} {g : List AV → Option AV} {as : List AV} : hol (qm g hp as) K ↔ vy (g as) fun v => K v hp := by
  unfold qm
  cases g as with
  | none => simp only [qj, zf]
  | some v => simp only [zc]; exact q7
def u8s (m : List Nat) : List AV := m.map fun (x : Nat) => .int .u8 (x : Int)
def u0 (m : List Int) : List AV := m.map fun x => .int .i64 x
def dia (n : Int) (m : List Nat) : List AV := .int .i64 n :: u8s m
theorem uj : ∀ (m : List Nat), AV.zb (u8s m) = true
  | [] => rfl
  | x :: m => by simp only [u8s, List.map_cons, AV.zb, AV.zl, Bool.true_and]; exact uj m
theorem xc : ∀ (m : List Int), AV.zb (u0 m) = true
  | [] => rfl
  | x :: m => by simp only [u0, List.map_cons, AV.zb, AV.zl, Bool.true_and]; exact xc m
theorem qe (n : Int) (m : List Nat) : AV.zb (dia n m) = true := by simp only [dia, AV.zb, AV.zl, Bool.true_and]; exact uj m
theorem xo (m : List Nat) : (u8s m).length = m.length := by simp [u8s]
theorem yk (m : List Int) : (u0 m).length = m.length := by simp [u0]
theorem qb (n : Int) (m : List Nat) : (dia n m).length = m.length + 1 := by simp [dia, u8s]
theorem qqn {m : List Nat} {i : Nat} (h : i < m.length) : (u8s m)[i]? = some (.int .u8 (m.getD i 0 : Nat)) := by
  simp [u8s, h, List.getD_eq_getElem?_getD]
theorem qwj {m : List Int} {i : Nat} (h : i < m.length) : (u0 m)[i]? = some (.int .i64 (m.getD i 0)) := by
  simp [u0, h, List.getD_eq_getElem?_getD]
theorem Vm {n : Int} {m : List Nat} {i : Nat} (h : i < m.length) : (dia n m)[1 + i]? = some (.int .u8 (m.getD i 0 : Nat)) := by
  rw [Nat.add_comm]; simp only [dia, List.getElem?_cons_succ]; exact qqn h
theorem vg {n : Int} {m : List Nat} : (dia n m)[0]? = some (.int .i64 n) := rfl
theorem qna (m : List Nat) : (u8s m).all AV.one = true := by simp [u8s, AV.one]
theorem ze (n : Int) (m : List Nat) : (dia n m).all AV.one = true := by simp [dia, u8s, AV.one]
theorem wb {n : Int} {m : List Nat} (h : m.length = 16) : List.take 17 (List.drop 0 (dia n m)) = dia n m := by
  rw [List.drop_zero, List.take_of_length_le]; rw [qb, h]; omega
theorem Gg {n : Int} {m : List Nat} (h : m.length = 16) : List.take 16 (List.drop 1 (dia n m)) = u8s m := by
  simp only [dia, List.drop_succ_cons, List.drop_zero]; rw [List.take_of_length_le]; rw [xo, h]; omega
theorem qau {n : Int} {m : List Nat} {i : Nat} {x : Nat} : (dia n m).set (1 + i) (.int .u8 (x : Int)) = dia n (m.set i x) := by
  rw [Nat.add_comm]; simp [dia, u8s, List.map_set]
theorem qyz {m : List Nat} {i x : Nat} : (u8s m).set i (.int .u8 (x : Int)) = u8s (m.set i x) := by simp [u8s, List.map_set]
theorem qen {m : List Int} {i : Nat} {x : Int} : (u0 m).set i (.int .i64 x) = u0 (m.set i x) := by simp [u0, List.map_set]
theorem qgd (a b : List Nat) : u8s a ++ u8s b = u8s (a ++ b) := by simp [u8s]
theorem Br : ∀ (m : List Nat), k8 (u8s m) = some (m.map fun x => UInt8.ofNat x)
  | [] => rfl
  | x :: m => by
    have := Br m
    unfold u8s at this ⊢
    simp only [List.map_cons, k8, this, Int.toNat_natCast]
theorem qhy (k : IntKind) : ∀ (a b : List Int), a.length = b.length → j6 (a.map fun _ => LT.int) (a.map fun x => .int k x) (b.map fun x => .int k x) = some (a == b)
  | [], [], _ => rfl
  | [], _ :: _, h => by simp at h
  | _ :: _, [], h => by simp at h
  | x :: a, y :: b, h => by
    have := qhy k a b (by simpa using h)
    simp only [List.map_cons, j6, leq, if_true, this, List.cons_beq_cons]
theorem Wk {n n' : Int} {m m' : List Nat} (h : m.length = 16) (h' : m'.length = 16) :
    j6 [.int, .int, .int, .int, .int, .int, .int, .int, .int, .int, .int, .int, .int, .int, .int, .int, .int] (dia n m) (dia n' m') = some (decide (n = n' ∧ m = m')) := by
  have h1 := qhy .u8 (m.map fun (x : Nat) => (x : Int)) (m'.map fun (x : Nat) => (x : Int)) (by simp [h, h'])
  have h2 : (m.map fun (x : Nat) => (x : Int)).map (fun _ => LT.int) = [.int, .int, .int, .int, .int, .int, .int, .int, .int, .int, .int, .int, .int, .int, .int, .int] := by
    rw [List.map_map]
    show m.map (fun _ => LT.int) = _
    rw [List.map_const', h]; rfl
  rw [h2, List.map_map, List.map_map] at h1
  have h3 : j6 [.int, .int, .int, .int, .int, .int, .int, .int, .int, .int, .int, .int, .int, .int, .int, .int] (u8s m) (u8s m') = some ((m.map fun (x : Nat) => (x : Int)) == m'.map fun (x : Nat) => (x : Int)) := h1
  simp only [dia, j6, leq, if_true, h3]
  congr 1
  have h4 : ((m.map fun (x : Nat) => (x : Int)) == m'.map fun (x : Nat) => (x : Int)) = decide (m = m') := by
    rw [Bool.eq_iff_iff, beq_iff_eq, decide_eq_true_eq]
    constructor
    · intro e
      have := congrArg (List.map Int.toNat) e
      simpa [List.map_map, Function.comp_def] using this
    · rintro rfl; rfl
  rw [h4]
  by_cases e1 : n = n' <;> by_cases e2 : m = m' <;> simp [e1, e2]
theorem Uz {x : Nat} (h : x < 256) : qu .u8 (x : Int) = (x : Int) := by
  simp only [qu, IntKind.wrap, IntKind.signed, IntKind.bits]
  simp; omega
theorem yf {x : Nat} (h : x < 9223372036854775808) : qu .i64 (x : Int) = (x : Int) := wrap64 (by omega) (by omega)
end Go.Am
namespace Go.Am
set_option linter.unusedVariables false
set_option linter.unusedSimpArgs false
def pos : List Nat → Nat → Nat → Option Nat
  | [], _, _ => none
  | i :: l, b, k => if i = b then some k else pos l b (k + 1)
theorem pos_eq : ∀ (l : List Nat) (b k : Nat), pos l b k = if b ∈ l then some (k + l.idxOf b) else none
  | [], b, k => by simp [pos]
  | i :: l, b, k => by
    simp only [pos]
    by_cases h : i = b
    · subst h; simp
    · rw [if_neg h, pos_eq l b (k + 1)]
      have : ¬ b = i := fun e => h e.symm
      simp only [List.mem_cons, this, false_or]
      split
      · rw [List.idxOf_cons]
        have : (i == b) = false := by simp [h]
        rw [this]; simp; omega
      · rfl
theorem qv1 (ids : List Nat) (b : Nat) : uy ids b = match pos ids b 0 with | some k => some (k, 0) | none => none := by
  rw [pos_eq]
  unfold uy
  split <;> simp
theorem qt5 {hp : List AO} {K : AV → List AO → Prop} {n : Nat} {g : List AV → List AV → Option AV} {b off : Nat} {r : List AV} :
    hol (Z4 n g hp (.ptr b off :: r)) K ↔ vy (rd hp b) fun L => off + n ≤ L.length ∧ vy (g ((L.drop off).take n) r) fun v => K v hp := by
  show hol (match rd hp b with
    | some L => chk (off + n ≤ L.length) (match g ((L.drop off).take n) r with
      | some v => some (v, hp)
      | none => none)
    | none => none) K ↔ _
  cases rd hp b with
  | none => simp only [qj, zf]
  | some L =>
    simp only [zc, jz]
    cases g ((L.drop off).take n) r with
    | none => simp only [qj, zf]
    | some v => simp only [q7, zc]
theorem qae {α : Type} {x : Option α} {c : Prop} {v : α} {K : α → Prop} (h1 : c → x = some v) (h2 : ¬c → x = none) : vy x K ↔ c ∧ K v := by
  by_cases h : c
  · rw [h1 h, zc]; exact ⟨fun k => ⟨h, k⟩, fun k => k.2⟩
  · rw [h2 h, zf]; exact ⟨False.elim, fun k => h k.1⟩
theorem qwu {n : Int} {m : List Nat} {i : Nat} {K : AV → Prop} : vy (dia n m)[1 + i]? K ↔ i < m.length ∧ K (.int .u8 (m.getD i 0 : Nat)) :=
  qae Vm fun h => by rw [List.getElem?_eq_none_iff, qb]; omega
theorem qsb {n : Int} {m : List Nat} {K : AV → Prop} : vy (dia n m)[0]? K ↔ K (.int .i64 n) := by rw [vg, zc]
theorem qyd {m : List Nat} {i : Nat} {K : AV → Prop} : vy (u8s m)[i]? K ↔ i < m.length ∧ K (.int .u8 (m.getD i 0 : Nat)) :=
  qae qqn fun h => by rw [List.getElem?_eq_none_iff, xo]; omega
theorem qs3 {m : List Int} {i : Nat} {K : AV → Prop} : vy (u0 m)[i]? K ↔ i < m.length ∧ K (.int .i64 (m.getD i 0)) :=
  qae qwj fun h => by rw [List.getElem?_eq_none_iff, yk]; omega
def uq (m : List Nat) : List AV := m.map fun (x : Nat) => .int .i64 (x : Int)
theorem yo : ∀ (m : List Nat), AV.zb (uq m) = true
  | [] => rfl
  | x :: m => by simp only [uq, List.map_cons, AV.zb, AV.zl, Bool.true_and]; exact yo m
theorem uw (m : List Nat) : (uq m).length = m.length := by simp [uq]
theorem qux {m : List Nat} {i : Nat} (h : i < m.length) : (uq m)[i]? = some (.int .i64 (m.getD i 0 : Nat)) := by
  simp [uq, h, List.getD_eq_getElem?_getD]
theorem qtk {m : List Nat} {i : Nat} {K : AV → Prop} : vy (uq m)[i]? K ↔ i < m.length ∧ K (.int .i64 (m.getD i 0 : Nat)) :=
  qae qux fun h => by rw [List.getElem?_eq_none_iff, uw]; omega
theorem qyo {m : List Nat} {i x : Nat} : (uq m).set i (.int .i64 (x : Int)) = uq (m.set i x) := by simp [uq, List.map_set]
theorem qc1 (a b : List Nat) : uq a ++ uq b = uq (a ++ b) := by simp [uq]
theorem qh9 (k : Nat) (m : List Nat) : (uq m).take k = uq (m.take k) := by simp [uq, List.map_take]
theorem qkt : ∀ (n : Nat), rep n [.int .i64 0] = uq (List.replicate n 0)
  | 0 => rfl
  | n + 1 => by simp only [rep, qkt n, List.replicate_succ, uq, List.map_cons]; rfl
theorem zn : [AV.int .i64 0, .int .u8 0, .int .u8 0, .int .u8 0, .int .u8 0, .int .u8 0, .int .u8 0, .int .u8 0, .int .u8 0, .int .u8 0, .int .u8 0, .int .u8 0, .int .u8 0, .int .u8 0, .int .u8 0, .int .u8 0, .int .u8 0] = dia 0 (List.replicate 16 0) := rfl
theorem qbi {l l' : List AV} (h : l.length = l'.length) : over l 0 l' = l' := by
  simp only [over, List.take_zero, List.nil_append, Nat.zero_add]
  rw [List.drop_of_length_le (by omega), List.append_nil]
theorem Zq {n : Int} : over (dia 0 (List.replicate 16 0)) 0 [.int .i64 n] = dia n (List.replicate 16 0) := rfl
theorem zy {a b : Int} {m m' : List Nat} (h : m.length = 16) (h' : m'.length = 16) : over (dia a m) 0 (dia b m') = dia b m' := qbi (by rw [qb, qb, h, h'])
theorem qw : (List.replicate 16 0 : List Nat).length = 16 := rfl
theorem qw3 {α : Type} {h : Decidable True} {x : Option α} : @chk α True h x = x := if_pos trivial
theorem qmd {e : Env} {hp : List AO} {n : Nat} {x : Opd} : qf e hp (.Qq n x) = match ev e x with
    | .ptr b off => (match rd hp b with
      | some l => chk (off + n ≤ l.length) (some (.agg ((l.drop off).take n), hp))
      | none => none)
    | _ => none := by
  simp only [qf]
  cases ev e x <;> rfl
theorem qlb {e : Env} {hp : List AO} {x : Opd} : qf e hp (.wy x) = match ev e x with
    | .ptr b off => (match rd hp b with
      | some l => (match l[off]? with
        | some v => some (v, hp)
        | none => none)
      | none => none)
    | _ => none := by
  simp only [qf]
  cases ev e x <;> rfl
def G4 (p n : Nat) (g : List AV → List AV → Option AV) : BE := fun hp xs => match xs[p]? with
  | some (.slc b off len ex c) => match rd hp b with
    | some L => chk (off + len * n ≤ L.length) (match g ((L.drop off).take (len * n)) (xs.take p ++ .slc 0 0 len ex c :: xs.drop (p + 1)) with
      | some v => some (v, hp)
      | none => none)
    | none => none
  | _ => none
theorem qte {hp : List AO} {K : AV → List AO → Prop} {p n : Nat} {g : List AV → List AV → Option AV} {xs : List AV} :
    hol (G4 p n g hp xs) K ↔ match xs[p]? with
      | some (.slc b off len ex c) => vy (rd hp b) fun L => off + len * n ≤ L.length ∧ vy (g ((L.drop off).take (len * n)) (xs.take p ++ .slc 0 0 len ex c :: xs.drop (p + 1))) fun v => K v hp
      | _ => False := by
  unfold G4
  cases xs[p]? with
  | none => exact qj
  | some x =>
    cases x <;> try exact qj
    rename_i b off len ex c
    show hol (match rd hp b with
    | some L => chk (off + len * n ≤ L.length) (match g ((L.drop off).take (len * n)) (xs.take p ++ .slc 0 0 len ex c :: xs.drop (p + 1)) with
      | some v => some (v, hp)
      | none => none)
    | none => none) K ↔ vy (rd hp b) fun L => off + len * n ≤ L.length ∧ vy (g ((L.drop off).take (len * n)) (xs.take p ++ .slc 0 0 len ex c :: xs.drop (p + 1))) fun v => K v hp
    cases rd hp b with
    | none => simp only [qj, zf]
    | some L =>
      simp only [zc, jz]
      cases g ((L.drop off).take (len * n)) (xs.take p ++ .slc 0 0 len ex c :: xs.drop (p + 1)) with
      | none => simp only [qj, zf]
      | some v => simp only [q7, zc]
theorem qo0 {n : Nat} {a b : List AV} (h : AV.qy n a) (h' : AV.qy n b) : AV.qy n (a ++ b) := by
  rw [Qh] at *
  intro x hx
  rcases List.mem_append.1 hx with hx | hx
  · exact h x hx
  · exact h' x hx
theorem Callee.G4 {P : Program} {f : FuncId} {p n : Nat} {g : List AV → List AV → Option AV} (h : ∀ l pre post len ex c v, pre.length = p → l.length = len * n → g l (pre ++ .slc 0 0 len ex c :: post) = some v →
    AV.zb l = true ∧ AV.zb pre = true ∧ AV.zb post = true ∧ v.zl = true ∧ Fn P f (pre ++ .slc 0 0 len ex c :: post) [.ro l] fun v' H' => v' = v ∧ H' = [.ro l]) : Callee P f (G4 p n g) := by
  intro hp xs v hp' he
  unfold Am.G4 at he
  split at he
  · rename_i b off len ex c hx
    split at he
    · rename_i L hL
      obtain ⟨hle, he⟩ := ql he
      split at he
      · rename_i v0 hv0
        simp only [Option.some.injEq, Prod.mk.injEq] at he
        obtain ⟨rfl, rfl⟩ := he
        have hlen : ((L.drop off).take (len * n)).length = len * n := by simp; omega
        have hpx : p < xs.length := (List.getElem?_eq_some_iff.1 hx).1
        obtain ⟨h0, h1, h1', h2, h3⟩ := h _ _ _ _ _ _ _ (by simp; omega) hlen hv0
        have hsplit : xs = xs.take p ++ .slc b off len ex c :: xs.drop (p + 1) := by
          have : xs.drop p = .slc b off len ex c :: xs.drop (p + 1) := by
            rw [List.drop_eq_getElem_cons hpx]
            rw [List.getElem?_eq_getElem hpx] at hx
            rw [Option.some.inj hx]
          rw [← this, List.take_append_drop]
        refine ⟨[.ro ((L.drop off).take (len * n))], _, _, fun j => if j = 0 then some (b, off) else .none, [(b, off)], h3, ?_, ?_, ⟨fun j hj => ?_, rfl, fun j o b' hj hb => ?_, fun j k bj bk oj ok hj hk hoj hok hw => ?_⟩, ?_, ?_, ?_⟩
        · conv => lhs; rw [hsplit]
          rw [qfs, List.map_append, ← qfs, qc _ _ h1, List.map_cons, ← qfs, qc _ _ h1']
          simp only [AV.ren, if_true, Nat.add_zero]
        · rw [hsplit, List.all_append, List.all_cons, Qm _ h1, Qm _ h1']; rfl
        · have : j = 0 := by simpa using hj
          subst this; rfl
        · cases j with
          | zero =>
            simp only [List.getElem?_cons_zero, Option.some.injEq] at hj hb
            subst hj; subst hb
            exact ⟨L, hL, by rw [hlen]; exact hle, by rw [hlen, qc _ _ h0]⟩
          | succ j => simp at hj
        · cases j with
          | zero => cases hoj; cases hw
          | succ j => simp at hoj
        · intro j o hj
          cases j with
          | zero => cases hj; exact qh _ _ h0
          | succ j => simp at hj
        · exact qo0 (qh _ _ h1) ⟨by simp [AV.under], qh _ _ h1'⟩
        · rintro v' H' ⟨rfl, rfl⟩
          exact ⟨Qr _ _ h2, by simp [after, upd, AO.wr]⟩
      · cases he
    · cases he
  · cases he
def Vy (m : Nat) : Ren := fun j => some (m + j, 0)
def Gk (g : List AV → Option (AV × List AO)) : BE := fun hp xs => match g xs with
  | some r => some (r.1.ren (Vy hp.length), hp ++ r.2.map (AO.ren (Vy hp.length)))
  | none => none
theorem qwp {hp : List AO} {K : AV → List AO → Prop} {g : List AV → Option (AV × List AO)} {xs : List AV} :
    hol (Gk g hp xs) K ↔ vy (g xs) fun r => K (r.1.ren (Vy hp.length)) (hp ++ r.2.map (AO.ren (Vy hp.length))) := by
  unfold Gk
  cases g xs with
  | none => simp only [qj, zf]
  | some v => simp only [zc]; exact q7
theorem Callee.new {P : Program} {f : FuncId} {g : List AV → Option (AV × List AO)} (h : ∀ xs v H, g xs = some (v, H) → AV.zb xs = true ∧ Fn P f xs [] fun v' H' => v' = v ∧ H' = H) : Callee P f (Gk g) := by
  intro hp xs v hp' he
  unfold Gk at he
  split at he
  · rename_i r hv0
    simp only [Option.some.injEq, Prod.mk.injEq] at he
    obtain ⟨rfl, rfl⟩ := he
    obtain ⟨v0, H0⟩ := r
    obtain ⟨h1, h3⟩ := h _ _ _ hv0
    refine ⟨[], xs, _, fun _ => .none, [], h3, (qc _ _ h1).symm, Qm _ h1, ⟨fun j hj => absurd hj (by simp), rfl, fun j o b h => by simp at h, fun j k bj bk oj ok h => by simp at h⟩, by simp, qh _ _ h1, ?_⟩
    rintro v' H' ⟨rfl, rfl⟩
    have : Ren.ext (fun _ => .none) ([] : List AO).length hp.length = Vy hp.length := by
      funext j; simp [Ren.ext, Vy]
    refine ⟨by rw [this], ?_⟩
    unfold after
    rw [this]
    simp [upd]
  · cases he
theorem Ret.here {ars : List AR} {R : AV → List AO → Prop} {s : St} {rs : List AV} (ids : List Nat) (hk : qf8 0 ids s.hp) (hr : Vd s ars = some rs) (hw : (xw rs).within ids = true) (ht : xw rs ≠ .top)
    (hro : ∀ (j : Nat) (l : List AV), (zi ids s.hp)[j]? ≠ some (AO.ro l)) (h : R ((xw rs).ren (uy ids)) (zi ids s.hp)) : Ret ars [] R s :=
  Ret.ve ids hk hr hw ht (fun j l e => absurd e (hro j l)) h
end Go.Am
namespace Go.Am
set_option linter.unusedVariables false
set_option linter.unusedSimpArgs false
theorem WA.post {P : Program} {n0 nt : Nat} {c : AC} {Q : AX → St → Prop} {s : St} (h : WA P n0 nt c (fun x s => ∃ s', qz n0 s s' ∧ Q x s') s) : WA P n0 nt c Q s := fun hm code hc X h0 h1 ι a w hok =>
  wp_mono (h hm code hc X h0 h1 ι a w hok) fun e a w ⟨x, ι, s, hx, ho, s', hs, hq⟩ => by
    obtain ⟨ι', ho'⟩ := hs X ι a w h0 ho
    exact ⟨x, ι', s', hx, ho', hq⟩
theorem WA.qvi {P : Program} {B : za} {n0 nt : Nat} {Q : AX → St → Prop} {s : St} {cf : Bool} {t : AT} (hB : qn P B) (I : St → Prop) (h : Uh P B cf t (fun s' => ∃ s'', qz n0 s' s'' ∧ I s'') s)
    (hk : ∀ s, I s → Q .normal s) : WA P n0 nt (.tree cf t) Q s :=
  WA.post (WA.sam (WA.tree (TrT.mono (fun s ⟨s', h1, s'', h2, h3⟩ => ⟨s', h1, s'', h2, hk _ h3⟩) t (Yp hB t h))))
theorem Fn.ofW {P : Program} {B : za} (hB : qn P B) {f : FuncId} {fi : FI} {args : List AV} {H : List AO} {R : AV → List AO → Prop} (hm : P.follows .mixedOrders = true) (hf : zr P f = some fi) (hn : args.length ≤ fi.nt)
    (hu : ∀ (j : Nat) (o : AO), H[j]? = some o → o.under H.length) (h : wbC P B H.length fi.nt fi.code (fun x s => (x = .ret ∨ x = .normal) ∧ ∃ s', qz H.length s s' ∧ Ret fi.res H R s') ⟨Wa 0 args, H⟩) : Fn P f args H R := by
  obtain ⟨fn, code, h1, h2, h3, h4, h5, h6⟩ := By P f fi hf
  exact Fn.read hm h1 h2 h3 h4 hn h5 h6 hu (WA.post ((y9 hB _ h).mono fun x s ⟨h1, s', h2, h3⟩ => ⟨s', h2, h1, h3⟩))
theorem Ret.nil {ars : List AR} {R : AV → List AO → Prop} {s : St} {rs : List AV} (sz : Nat) (v : AV) (hr : Vd s ars = some rs) (hv : xw rs = v.ren fun _ => none) (ht : v ≠ .top) (hu : v.under 1) (h : R v [.vec sz []]) : Ret ars [] R s := by
  refine ⟨rs, v, [.vec sz []], fun _ => none, hr, hv, ht, hu, ⟨fun t ht => absurd rfl ht, fun j o ho => ?_, fun i j b _ _ h1 h2 => (by cases h1), fun j hj => absurd hj (by simp), (by simp), fun j m a b c ho => ?_⟩, h, fun j l ho => ?_⟩
  · match j, ho with
    | 0, ho => cases ho; exact ⟨trivial, fun _ => .inr ⟨rfl, sz, rfl⟩⟩
    | j + 1, ho => simp at ho
  · match j, ho with
    | 0, ho => cases ho
    | j + 1, ho => simp at ho
  · match j, ho with
    | 0, ho => cases ho
    | j + 1, ho => simp at ho
end Go.Am
namespace Go.Am
set_option linter.unusedVariables false
set_option linter.unusedSimpArgs false
section
variable {e : Env} {hp : List AO} {K : AV → List AO → Prop}
theorem qon {ks : List LT} {agg : Bool} {m k v : Opd} : hol (qf e hp (.Uy ks agg m k v)) K ↔ match ev e m with
    | .map b => vh (ev e v) = true ∧ (match hp[b]? with
      | some (.map es ck) => kok ks agg (ev e k) = true ∧ vy (uf ks agg (ev e k) es 0) fun r => match r with
        | some (i, x) => K xg (hp.set b (.map (es.set i ⟨ev e k, ev e v, x.born⟩) ck))
        | none => K xg (hp.set b (.map (es ++ [⟨ev e k, ev e v, ck⟩]) (ck + 1)))
      | _ => False)
    | _ => False := by
  simp only [qf]
  cases hm : ev e m
  case map b =>
    cases hv : ev e v
    case top => simp only [qj, vh, Bool.false_eq_true, false_and]
    all_goals
      simp only [vh, true_and]
      cases hb : hp[b]? with
      | none => simp only [qj]
      | some o =>
        cases o <;> (try simp only [qj, jz])
        rename_i es ck
        refine and_congr Iff.rfl ?_
        cases uf ks agg (ev e k) es 0 with
        | none => simp only [qj, zf]
        | some r => cases r <;> simp only [q7, zc]
  all_goals cases hv : ev e v <;> simp only [qj]
theorem qo1 {ks : List LT} {agg : Bool} {z : AV} {m k : Opd} : hol (qf e hp (.qcg ks agg z m k)) K ↔ match ev e m with
    | .map b => (match hp[b]? with
      | some (.map es ck) => kok ks agg (ev e k) = true ∧ vy (uf ks agg (ev e k) es 0) fun r => match r with
        | some (i, x) => K (.tup [x.val, .int .i64 x.born]) (hp.set b (.map (es.set i ⟨ev e k, x.val, x.born⟩) ck))
        | none => K (.tup [z, .int .i64 ck]) (hp.set b (.map (es ++ [⟨ev e k, z, ck⟩]) (ck + 1)))
      | _ => False)
    | _ => False := by
  simp only [qf]
  cases hm : ev e m
  case map b =>
    simp only []
    cases hb : hp[b]? with
    | none => simp only [qj]
    | some o =>
      cases o <;> (try simp only [qj, jz])
      rename_i es ck
      refine and_congr Iff.rfl ?_
      cases uf ks agg (ev e k) es 0 with
      | none => simp only [qj, zf]
      | some r => cases r <;> simp only [q7, zc]
  all_goals simp only [qj]
theorem qr4 {m s v : Opd} : hol (qf e hp (.qhw m s v)) K ↔ match ev e m with
    | .map b => vh (ev e v) = true ∧ (match ev e s, hp[b]? with
      | .int _ n, some (.map es ck) => vy (es.findIdx? fun x => (x.born : Int) == n) fun i => K xg (hp.set b (.map (es.modify i fun x => ⟨x.key, ev e v, x.born⟩) ck))
      | _, _ => False)
    | _ => False := by
  simp only [qf]
  cases hm : ev e m
  case map b =>
    cases hv : ev e v
    case top => simp only [qj, vh, Bool.false_eq_true, false_and]
    all_goals
      simp only [vh, true_and]
      cases hs : ev e s <;> (try simp only [qj])
      cases hb : hp[b]? with
      | none => simp only [qj]
      | some o =>
        cases o <;> (try simp only [qj])
        rename_i es ck
        cases es.findIdx? _ with
        | none => simp only [qj, zf]
        | some r => simp only [q7, zc]
  all_goals cases hv : ev e v <;> simp only [qj]
theorem qsr {it : Opd} : hol (qf e hp (.entry it)) K ↔ match ev e it with
    | .ptr r 0 => (match hp[r]? with
      | some (.x6 (some m) _ seen last) => (match hp[m]?, seen.getLast? with
        | some (.map es clock), some stamp => clock = last ∧ vy (es.find? fun x => x.born == stamp) fun x => K (.tup [x.key, x.val]) hp
        | _, _ => False)
      | _ => False)
    | _ => False := by
  simp only [qf]
  cases hm : ev e it
  case ptr r o =>
    cases o
    case succ => simp only [qj]
    simp only []
    cases hb : hp[r]? with
    | none => simp only [qj]
    | some o =>
      cases o
      case x6 m a seen last =>
        cases m with
        | none => simp only [qj]
        | some m =>
          simp only []
          cases hb2 : hp[m]? with
          | none => simp only [qj]
          | some o2 =>
            cases hs : seen.getLast? with
            | none => cases o2 <;> simp only [qj]
            | some stamp =>
              cases o2
              case map es clock =>
                simp only [jz]
                refine and_congr Iff.rfl ?_
                cases es.find? (fun x => x.born == stamp) with
                | none => simp only [qj, zf]
                | some x => simp only [q7, zc]
              all_goals simp only [qj]
      all_goals simp only [qj]
  all_goals simp only [qj]
end
end Go.Am
namespace Go.Am
set_option linter.unusedVariables false
set_option linter.unusedSimpArgs false
def ofL (bs : List (Nat × Nat)) : Ren := fun j => bs[j]?
def Ka (hp : List AO) (ρ : Ren) : List (Nat × Nat) → List AO → Prop
  | [], [] => True
  | b :: bs, o :: H => Fits hp ρ b.1 b.2 o ∧ Ka hp ρ bs H
  | _, _ => False
def J4 : List (Nat × Nat) → List AO → Bool
  | b :: bs, o :: H => ((bs.zip H).all fun p => !(o.wr || p.2.wr) || !(p.1.1 == b.1)) && J4 bs H
  | _, _ => true
theorem Ka.len {hp : List AO} {ρ : Ren} : ∀ {bs : List (Nat × Nat)} {H : List AO}, Ka hp ρ bs H → bs.length = H.length
  | [], [], _ => rfl
  | b :: bs, o :: H, h => by simp [Ka.len h.2]
  | [], _ :: _, h => h.elim
  | _ :: _, [], h => h.elim
theorem Ka.get {hp : List AO} {ρ : Ren} : ∀ {bs : List (Nat × Nat)} {H : List AO}, Ka hp ρ bs H → ∀ (j : Nat) (o : AO) (b : Nat × Nat), H[j]? = some o → bs[j]? = some b → Fits hp ρ b.1 b.2 o
  | [], [], _, j, o, b, h1, h2 => by simp at h1
  | b :: bs, o :: H, h, 0, o', b', h1, h2 => by
    simp only [List.getElem?_cons_zero, Option.some.injEq] at h1 h2
    rw [← h1, ← h2]; exact h.1
  | b :: bs, o :: H, h, j + 1, o', b', h1, h2 => by
    simp only [List.getElem?_cons_succ] at h1 h2
    exact Ka.get h.2 j o' b' h1 h2
theorem qf5 : ∀ {bs : List (Nat × Nat)} {H : List AO}, J4 bs H = true → ∀ (j k : Nat) (bj bk : Nat × Nat) (oj ok : AO), bs[j]? = some bj → bs[k]? = some bk → H[j]? = some oj → H[k]? = some ok →
    (oj.wr = true ∨ ok.wr = true) → bj.1 = bk.1 → j = k
  | [], H, _, j, k, bj, bk, oj, ok, h1, _, _, _, _, _ => by simp at h1
  | b :: bs, [], _, j, k, bj, bk, oj, ok, h1, _, h3, _, _, _ => by simp at h3
  | b :: bs, o :: H, h, 0, 0, bj, bk, oj, ok, h1, h2, h3, h4, h5, h6 => rfl
  | b :: bs, o :: H, h, 0, k + 1, bj, bk, oj, ok, h1, h2, h3, h4, h5, h6 => by
    simp only [List.getElem?_cons_zero, List.getElem?_cons_succ, Option.some.injEq] at h1 h2 h3 h4
    subst h1; subst h3
    simp only [J4, Bool.and_eq_true, List.all_eq_true] at h
    have hz : (bs.zip H)[k]? = some (bk, ok) := by simp [List.getElem?_zip_eq_some, h2, h4]
    have := h.1 _ (List.mem_of_getElem? hz)
    rcases h5 with h5 | h5 <;> simp [h5, h6] at this
  | b :: bs, o :: H, h, j + 1, 0, bj, bk, oj, ok, h1, h2, h3, h4, h5, h6 => by
    simp only [List.getElem?_cons_zero, List.getElem?_cons_succ, Option.some.injEq] at h1 h2 h3 h4
    subst h2; subst h4
    simp only [J4, Bool.and_eq_true, List.all_eq_true] at h
    have hz : (bs.zip H)[j]? = some (bj, oj) := by simp [List.getElem?_zip_eq_some, h1, h3]
    have := h.1 _ (List.mem_of_getElem? hz)
    rcases h5 with h5 | h5 <;> simp [h5, h6] at this
  | b :: bs, o :: H, h, j + 1, k + 1, bj, bk, oj, ok, h1, h2, h3, h4, h5, h6 => by
    simp only [List.getElem?_cons_succ] at h1 h2 h3 h4
    simp only [J4, Bool.and_eq_true] at h
    rw [qf5 h.2 j k bj bk oj ok h1 h2 h3 h4 h5 h6]
def AO.qa0 (n : Nat) : List AO → Prop
  | [] => True
  | o :: H => o.under n ∧ AO.qa0 n H
theorem AO.qdn {n : Nat} : ∀ {H : List AO}, AO.qa0 n H → ∀ (j : Nat) (o : AO), H[j]? = some o → o.under n
  | [], _, j, o, h => by simp at h
  | o :: H, h, 0, o', e => by
    simp only [List.getElem?_cons_zero, Option.some.injEq] at e
    rw [← e]; exact h.1
  | o :: H, h, j + 1, o', e => by
    simp only [List.getElem?_cons_succ] at e
    exact AO.qdn h.2 j o' e
theorem Callee.fp {P : Program} {f : FuncId} {g : BE} (h : ∀ hp xs v hp', g hp xs = some (v, hp') → ∃ (bs : List (Nat × Nat)) (ys : List AV) (H H' : List AO) (v' : AV),
    Fn P f ys H (fun v'' H'' => v'' = v' ∧ H'' = H') ∧ AV.zh (ofL bs) ys = xs ∧ xs.all vh = true ∧ Ka hp (ofL bs) bs H ∧ J4 bs H = true ∧ AO.qa0 H.length H ∧ AV.qy H.length ys ∧
    v'.ren ((ofL bs).ext H.length hp.length) = v ∧ after ⟨[], hp⟩ (ofL bs) bs H H' = hp') : Callee P f g := by
  intro hp xs v hp' he
  obtain ⟨bs, ys, H, H', v', h1, h2, h3, h4, h5, h6, h7, h8, h9⟩ := h hp xs v hp' he
  refine ⟨H, ys, _, ofL bs, bs, h1, h2.symm, h3, ⟨fun j hj => rfl, h4.len, h4.get, fun j k bj bk oj ok a1 a2 a3 a4 a5 a6 a7 => qf5 h5 j k bj bk oj ok a1 a2 a3 a4 (.inl a5) a7⟩, AO.qdn h6, h7, ?_⟩
  rintro v'' H'' ⟨rfl, rfl⟩
  exact ⟨h8, h9⟩
end Go.Am
namespace Go.Am
set_option linter.unusedVariables false
set_option linter.unusedSimpArgs false
theorem qiq {n : Nat} : ∀ {e : Env}, (∀ p ∈ e, p.2.under n) → ∀ u, get e u ≠ .top → (get e u).under n
  | [], h, u, hu => absurd rfl hu
  | (k, v) :: e, h, u, hu => by
    simp only [zj] at hu ⊢
    by_cases e1 : k = u
    · simp only [e1, if_true]; exact h (k, v) (List.mem_cons_self ..)
    · simp only [e1, if_false] at hu ⊢; exact qiq (fun p hp => h p (List.mem_cons_of_mem _ hp)) u hu
section
variable {ids : List Nat} {ρ : Ren} {l : List AV} {sz c : Nat} {es : List AE} {m : Option Nat} {a b : List Nat} {x y : Nat} {s : List UInt8}
theorem qvs : (AO.cells l).within ids = AV.xr ids l := rfl
theorem q3f : (AO.vec sz l).within ids = AV.xr ids l := rfl
theorem q4f : (AO.ro l).within ids = AV.xr ids l := rfl
theorem q3e : (AO.map es c).within ids = es.all fun e => e.key.within ids && e.val.within ids := rfl
theorem qxj {m : Nat} : (AO.x6 (some m) x a y).within ids = ids.contains m := rfl
theorem qwf : (AO.bg s x).within ids = true := rfl
theorem q0f : AO.dead.within ids = true := rfl
theorem qgh : (AO.cells l).ren ρ = .cells (AV.zh ρ l) := rfl
theorem U5 : (AO.vec sz l).ren ρ = .vec sz (AV.zh ρ l) := rfl
theorem q13 : (AO.ro l).ren ρ = .ro (AV.zh ρ l) := rfl
theorem q2m : (AO.map es c).ren ρ = .map (es.map (AE.ren ρ)) c := rfl
theorem qxs {m : Nat} : (AO.x6 (some m) x a y).ren ρ = .x6 ((ρ m).map (·.1)) x a y := rfl
theorem qyr : (AO.bg s x).ren ρ = .bg s x := rfl
theorem q4v : (AO.ro l).wr = false := rfl
theorem qzh : AO.dead.ren ρ = .dead := rfl
end
theorem qz.q51 {n0 : Nat} {e : Env} {hp : List AO} (j i sz : Nat) {l : List AV} (hj : hp[j]? = some (.cells l)) (hi : l[i]? = some (.v (.slice none 0 0))) (hn : n0 ≤ hp.length) (hu : ∀ p ∈ e, p.2.under hp.length)
    (hh : ∀ o ∈ hp, o.under hp.length) : qz n0 ⟨e, hp⟩ ⟨e, hp.set j (.cells (l.set i (.slc hp.length 0 0 false 0))) ++ [.vec sz []]⟩ := by
  have hid : ∀ {a : AV}, a.under hp.length → a.ren (fun j => if j < hp.length then some (j, 0) else .none) = a := fun h => by
    have := Z0 hp.length _ h
    exact this
  have hlt : j < hp.length := (List.getElem?_eq_some_iff.1 hj).1
  refine qz.sim (ρ := fun j => if j < hp.length then some (j, 0) else .none) ⟨fun u hu' => ?_, fun k o ho => ?_, fun i j b hi hj h1 h2 => ?_, fun j hj => ?_, by simp; omega, fun k m x b c ho => ?_⟩
  · have := qiq hu u hu'
    exact ⟨Am.jf (by simp) _ this, (hid this).symm⟩
  · simp only [List.length_append, List.length_singleton, List.length_set]
    by_cases e1 : k < hp.length
    · rw [List.getElem?_append_left (by simpa using e1), List.getElem?_set] at ho
      by_cases e2 : j = k
      · subst e2
        simp only [if_true, hlt] at ho
        cases ho
        have hl : AV.qy hp.length l := hh _ (List.mem_of_getElem? hj)
        have hset : ∀ (l : List AV) (i : Nat), AV.qy hp.length l → l[i]? = some (.v (.slice none 0 0)) → AV.qy (hp.length + 1) (l.set i (.slc hp.length 0 0 false 0)) ∧
            AV.zh (fun j => if j < hp.length then some (j, 0) else .none) (l.set i (.slc hp.length 0 0 false 0)) = l := by
          intro l
          induction l with
          | nil => intro i h h2; simp at h2
          | cons a l ih =>
            intro i h h2
            cases i with
            | zero =>
              simp only [List.getElem?_cons_zero, Option.some.injEq] at h2
              subst h2
              simp only [List.set_cons_zero]
              refine ⟨⟨by simp [AV.under], j4 (by omega) _ h.2⟩, ?_⟩
              simp only [AV.zh, AV.ren, Nat.lt_irrefl, if_false]
              have := Q5 hp.length _ h.2
              unfold idR at this
              rw [this]; simp
            | succ i =>
              simp only [List.getElem?_cons_succ] at h2
              simp only [List.set_cons_succ]
              obtain ⟨h3, h4⟩ := ih i h.2 h2
              exact ⟨⟨Am.jf (by omega) _ h.1, h3⟩, by simp only [AV.zh, h4, hid h.1]⟩
        obtain ⟨h3, h4⟩ := hset l i hl hi
        exact ⟨h3, fun _ => .inl ⟨j, by simp [hlt], by simp only [AO.ren, h4]; exact hj⟩⟩
      · simp only [e2, if_false] at ho
        have := hh _ (List.mem_of_getElem? ho)
        refine ⟨AO.jf (by omega) _ this, fun _ => .inl ⟨k, by simp [e1], ?_⟩⟩
        have h2 := AO.Z0 this
        unfold idR at h2
        rw [h2]; exact ho
    · have hk : k = hp.length := by
        have := (List.getElem?_eq_some_iff.1 ho).1
        simp at this; omega
      subst hk
      rw [List.getElem?_append_right (by simp)] at ho
      simp at ho
      cases ho
      exact ⟨trivial, fun _ => .inr ⟨by simp, sz, rfl⟩⟩
  · split at h1 <;> split at h2 <;> simp_all
    obtain ⟨rfl⟩ := h1
    cases h2; rfl
  · simp; omega
  · change (hp.set j (.cells (l.set i (.slc hp.length 0 0 false 0))) ++ [AO.vec sz []])[k]? = _ at ho
    by_cases e1 : k < hp.length
    · rw [List.getElem?_append_left (by simpa using e1), List.getElem?_set] at ho
      by_cases e2 : j = k
      · subst e2; simp only [if_true, hlt] at ho; cases ho
      · simp only [e2, if_false] at ho
        have := hh _ (List.mem_of_getElem? ho) m rfl
        exact ⟨m, by simp [this]⟩
    · have hk : k = hp.length := by
        have := (List.getElem?_eq_some_iff.1 ho).1
        simp at this; omega
      subst hk
      rw [List.getElem?_append_right (by simp)] at ho
      simp at ho
end Go.Am
namespace Go.Am
universe u
set_option linter.unusedVariables false
def idX {α : Sort u} (x : α) : α := x
theorem qa {α : Sort u} (x : α) : idX x = x := Classical.byContradiction fun h => h rfl
@[congr] theorem q34 {x x' : Option (AV × List AO)} {K : AV → List AO → Prop} (h : idX x = x') : hol x K = hol x' K := by rw [← h]; rfl
@[congr] theorem q3p {α : Type} {x x' : Option α} {K : α → Prop} (h : idX x = x') : vy x K = vy x' K := by rw [← h]; rfl
@[congr] theorem q4p {P : Program} {n0 n0' nt nt' : Nat} {c : AC} {Q : AX → St → Prop} {s s' : St} (h0 : n0 = n0') (h1 : nt = nt') (h : idX s = s') : WA P n0 nt c Q s = WA P n0' nt' c Q s' := by rw [← h, h0, h1]; rfl
@[congr] theorem q33 {B : za} {k : AK} {s s' : St} {K : AV → List AO → Prop} {F : Prop} (h : idX s = s') : wbK B k s K F = wbK B k s' K F := by rw [← h]; rfl
@[congr] theorem q35 {P : Program} {B : za} {n0 nt : Nat} {l : List AI} {K : St → Prop} {s s' : St} (h : idX s = s') : wbL P B n0 nt l K s = wbL P B n0 nt l K s' := by rw [← h]; rfl
@[congr] theorem q38 {P : Program} {B : za} {cf : Bool} {l : List AI} {K : St → Prop} {s s' : St} (h : idX s = s') : wbT P B cf l K s = wbT P B cf l K s' := by rw [← h]; rfl
@[congr] theorem q37 {P : Program} {B : za} {n0 n0' nt nt' : Nat} {c c' : AC} {Q : AX → St → Prop} {s s' : St} (h0 : n0 = n0') (h1 : nt = nt') (hc : c = c') (h : idX s = s') : wbC P B n0 nt c Q s = wbC P B n0' nt' c' Q s' := by rw [← h, h0, h1, hc]; rfl
@[congr] theorem q36 {it it' : AV} {hp hp' : List AO} {K : AV → List AO → Prop} (h : idX it = it') (h2 : idX hp = hp') : wbN it hp K = wbN it' hp' K := by rw [← h, ← h2]; rfl
@[congr] theorem q1x {P : Program} {B : za} {cf : Bool} {a : AI} {K : St → Prop} {s s' : St} (h : idX s = s') : qbd P B cf a K s = qbd P B cf a K s' := by rw [← h]; rfl
@[congr] theorem q3r {P : Program} {B : za} {cf : Bool} {t : AT} {K : St → Prop} {s s' : St} (h : idX s = s') : Uh P B cf t K s = Uh P B cf t K s' := by rw [← h]; rfl
theorem nrX {p : Prop} (h : p) : p := Classical.byContradiction fun n => n h
def gd (v : AV) (f : Bool → Prop) (p : Prop) : Prop := match v with
  | .bool t => f t
  | .v (.tuple a) => a.size = 0 ∧ p
  | _ => False
@[congr] theorem q5s {v v' : AV} {f : Bool → Prop} {p : Prop} (h : idX v = v') : gd v f p = gd v' f p := by rw [← h]; rfl
theorem qrb (t : Bool) (f : Bool → Prop) (p : Prop) : gd (.bool t) f p = f t := nrX rfl
theorem qex (f : Bool → Prop) (p : Prop) : gd xg f p = p := propext ⟨fun h => h.2, fun h => ⟨rfl, h⟩⟩
theorem qid (f : Bool → Prop) (p : Prop) : gd (.v (.tuple #[])) f p = p := qex f p
theorem qus : type_of% @wbC.eq_1 := nrX @wbC.eq_1
theorem qu1 : type_of% @wbC.eq_2 := nrX @wbC.eq_2
theorem qwv : type_of% @wbC.eq_3 := nrX @wbC.eq_3
theorem qye : type_of% @wbC.eq_4 := nrX @wbC.eq_4
theorem qwa : type_of% @wbC.eq_5 := nrX @wbC.eq_5
theorem qxl : type_of% @wbC.eq_6 := nrX @wbC.eq_6
theorem qw5 : type_of% @wbC.eq_7 := nrX @wbC.eq_7
theorem qxk : type_of% @wbC.eq_8 := nrX @wbC.eq_8
theorem qx8 : type_of% @wbC.eq_9 := nrX @wbC.eq_9
theorem qqx : type_of% @wbC.eq_10 := nrX @wbC.eq_10
theorem qql : type_of% @wbC.eq_11 := nrX @wbC.eq_11
theorem qq0 : type_of% @wbC.eq_12 := nrX @wbC.eq_12
theorem qwz : type_of% @wbL.eq_1 := nrX @wbL.eq_1
theorem qyn : type_of% @wbL.eq_2 := nrX @wbL.eq_2
theorem qvg : type_of% @wbL.eq_3 := nrX @wbL.eq_3
theorem qyc : type_of% @wbL.eq_4 := nrX @wbL.eq_4
theorem qvq (P : Program) (B : za) (n0 nt : Nat) (K : St → Prop) (s : St) (dst : Option Nat) (d : Nat) (b : Bool) (k : AK) (l : List AI) : wbL P B n0 nt (⟨dst, some (d, b), k⟩ :: l) K s =
    gd (get s.env d) (fun t => d < nt ∧ (if t = b then wbK B k ⟨(d, .bool b) :: s.env, s.hp⟩ (fun v hp' => wbL P B n0 nt l K ⟨xu dst v ((d, .bool b) :: s.env), hp'⟩)
          (WR P n0 nt (⟨dst, .none, k⟩ :: l) K ⟨(d, .bool b) :: s.env, s.hp⟩)
        else wbL P B n0 nt l K ⟨xu dst xg ((d, .bool (!b)) :: s.env), s.hp⟩)) (wbL P B n0 nt l K ⟨xu dst xg s.env, s.hp⟩) := nrX rfl
theorem qyi : type_of% @wbT.eq_1 := nrX @wbT.eq_1
theorem qvb : type_of% @wbT.eq_2 := nrX @wbT.eq_2
theorem qyb (P : Program) (B : za) (cf : Bool) (K : St → Prop) (s : St) (dst : Option Nat) (d : Nat) (b : Bool) (k : AK) (l : List AI) : wbT P B cf (⟨dst, some (d, b), k⟩ :: l) K s =
    gd (get s.env d) (fun t => if t = b then wbK B k ⟨(d, .bool b) :: s.env, s.hp⟩ (fun v hp' => (k.Vx = true → cf = true → ∃ x, hp' = s.hp ++ x) ∧ wbT P B cf l K ⟨xu dst v ((d, .bool b) :: s.env), hp'⟩) False
        else wbT P B cf l K ⟨xu dst xg ((d, .bool (!b)) :: s.env), s.hp⟩) (wbT P B cf l K ⟨xu dst xg s.env, s.hp⟩) := nrX rfl
theorem qwc : type_of% @wbK.eq_1 := nrX @wbK.eq_1
theorem qv3 : type_of% @wbK.eq_2 := nrX @wbK.eq_2
theorem qv5 : type_of% @wbK.eq_3 := nrX @wbK.eq_3
theorem qnw : type_of% @qbd.eq_1 := nrX @qbd.eq_1
theorem qn0 (P : Program) (B : za) (cf : Bool) (K : St → Prop) (s : St) (dst : Option Nat) (d : Nat) (b : Bool) (k : AK) : qbd P B cf ⟨dst, some (d, b), k⟩ K s =
    gd (get s.env d) (fun t => if t = b then wbK B k ⟨(d, .bool b) :: s.env, s.hp⟩ (fun v hp' => (k.Vx = true → cf = true → ∃ x, hp' = s.hp ++ x) ∧ K ⟨xu dst v ((d, .bool b) :: s.env), hp'⟩) False
        else K ⟨xu dst xg ((d, .bool (!b)) :: s.env), s.hp⟩) (K ⟨xu dst xg s.env, s.hp⟩) := nrX rfl
theorem qqm : type_of% @Uh.eq_1 := nrX @Uh.eq_1
theorem qq4 : type_of% @Uh.eq_2 := nrX @Uh.eq_2
theorem qrv : type_of% @Uh.eq_3 := nrX @Uh.eq_3
theorem qrz (K : St → Prop) (Q : AX → St → Prop) (s : St) : AX.then K Q .normal s = K s := nrX rfl
theorem qq7 (K : St → Prop) (Q : AX → St → Prop) (s : St) : AX.then K Q .ret s = Q .ret s := nrX rfl
theorem qq1 (K : St → Prop) (Q : AX → St → Prop) (s : St) (i : Nat) : AX.then K Q (.exit i) s = Q (.exit i) s := nrX rfl
theorem qvn (Q : AX → St → Prop) (s : St) (i j : Nat) : AX.inBlock i Q (.exit j) s = if j = i then Q .normal s else Q (.exit j) s := nrX rfl
theorem qxe (Q : AX → St → Prop) (s : St) (i : Nat) : AX.inBlock i Q .normal s = Q .normal s := nrX rfl
theorem qu7 (Q : AX → St → Prop) (s : St) (i : Nat) : AX.inBlock i Q .ret s = Q .ret s := nrX rfl
theorem wbE : type_of% (And.intro @qus (And.intro @qu1 (And.intro @qwv (And.intro @qye (And.intro @qwa (And.intro @qxl (And.intro @qw5 (And.intro @qxk (And.intro @qx8 (And.intro @qqx (And.intro @qql (And.intro @qq0 (And.intro @qwz (And.intro @qyn (And.intro @qvg (And.intro @qyc (And.intro @qvq (And.intro @qyi (And.intro @qvb (And.intro @qyb (And.intro @qwc (And.intro @qv3 (And.intro @qv5 (And.intro @qnw (And.intro @qn0 (And.intro @qqm (And.intro @qq4 (And.intro @qrv (And.intro @qrz (And.intro @qq7 (And.intro @qq1 (And.intro @qvn (And.intro @qxe (And.intro @qu7 (And.intro @qrb (And.intro @qex @qid)))))))))))))))))))))))))))))))))))) := (And.intro @qus (And.intro @qu1 (And.intro @qwv (And.intro @qye (And.intro @qwa (And.intro @qxl (And.intro @qw5 (And.intro @qxk (And.intro @qx8 (And.intro @qqx (And.intro @qql (And.intro @qq0 (And.intro @qwz (And.intro @qyn (And.intro @qvg (And.intro @qyc (And.intro @qvq (And.intro @qyi (And.intro @qvb (And.intro @qyb (And.intro @qwc (And.intro @qv3 (And.intro @qv5 (And.intro @qnw (And.intro @qn0 (And.intro @qqm (And.intro @qq4 (And.intro @qrv (And.intro @qrz (And.intro @qq7 (And.intro @qq1 (And.intro @qvn (And.intro @qxe (And.intro @qu7 (And.intro @qrb (And.intro @qex @qid))))))))))))))))))))))))))))))))))))
end Go.Am

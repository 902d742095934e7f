/- One operation of the model, by the abstract machine. -/
import Derived.Test.YtabenjpidndpeaaAmAll
namespace Go.Am
set_option linter.unusedVariables false
set_option linter.unusedSimpArgs false

section
variable {P : Program} {X : Ctx} {ι : Nat → Loc} {s : St} {a : Act} {w : World} {o : Oper} {v : AV} {hp' : List AO}

theorem map_some' {α β : Type} {x : Option α} {f : α → β} {y : β} (h : x.map f = some y) : ∃ z, x = some z ∧ f z = y := by
  cases x with
  | none => cases h
  | some z => exact ⟨z, rfl, by simpa using h⟩

theorem arr1 {α : Type} {a : Array α} {x : α} (h : a.toList = [x]) : a = #[x] := by cases a; simp_all
theorem arr2 {α : Type} {a : Array α} {x y : α} (h : a.toList = [x, y]) : a = #[x, y] := by cases a; simp_all

theorem ok_lenA (hok : Ok X ι s a w) {x : Operand} {t e : TypeId} {n : Nat} (ho : o.op = .call { callee := .builtin .len, args := #[x], argTypes := #[t] }) (ht : P.underlying t = some (.array n e))
    (hs : astep s.env s.hp (.mov (.c (.int .i64 n))) = some (v, hp')) : Res X s a ((execOp a.eval o).run P w) v hp' := by
  simp only [astep, ev, Option.some.injEq, Prod.mk.injEq] at hs
  obtain ⟨rfl, rfl⟩ := hs
  have : (execOp a.eval o).run P w = .ok (.value (gam ι (.int .i64 n))) w := by
    unfold execOp; rw [ho]
    simp only [resolve, List.map_toArray, List.map_cons, List.map_nil, Sem.run_bind, Sem.run_pure, Result.andThen_ok, invoke, builtin, Builtin.len_]
    simp [r_underlying ht, goInt, gam]
  rw [this]
  exact Res.same hok fun _ => ⟨trivial, rfl⟩

set_option maxHeartbeats 1600000 in
theorem astep_ok (hok : Ok X ι s a w) {ao : AOp} (hc : cOp P o = some ao) (hs : astep s.env s.hp ao = some (v, hp')) : Res X s a ((execOp a.eval o).run P w) v hp' := by
  unfold cOp at hc
  split at hc
  · rename_i x ho; cases hc; exact ok_mov hok (.inl ho) hs
  · rename_i x ho; cases hc; exact ok_mov hok (.inr ho) hs
  · rename_i ho; cases hc; exact ok_pick hok ho hs
  · rename_i ho; obtain ⟨z, hz, rfl⟩ := map_some' hc; exact ok_alloc hok ho hz hs
  · rename_i ho; cases hc; exact ok_box hok ho hs
  · rename_i ho
    split at hc
    · rename_i z fs hz ht
      split at hc
      · rename_i hall
        obtain ⟨qs, hq, rfl⟩ := map_some' hc
        exact ok_buildS hok ho ht hz hall hq hs
      · cases hc
    · rename_i z len e hz ht
      split at hc
      · rename_i n hn; cases hc; exact ok_buildA hok ho ht hz hn hs
      · cases hc
    · cases hc
  · rename_i ho
    split at hc
    · rename_i e ht
      split at hc
      · rename_i n z hn hz
        split at hc
        · rename_i hcond; cases hc; exact ok_mkslc hok ho ht hz hn hcond hs
        · cases hc
      · cases hc
    · cases hc
  · rename_i ho
    split at hc
    · rename_i d hd
      split at hc
      · rename_i hag; obtain ⟨n, hn, rfl⟩ := map_some' hc; exact ok_loadN hok ho hd hag hn hs
      · rename_i hag; cases hc; exact ok_load1 hok ho hd (by simpa using hag) hs
    · cases hc
  · rename_i ho
    split at hc
    · rename_i d n hd hn
      split at hc
      · cases hc; exact ok_storeN hok ho hn hs
      · split at hc
        · rename_i h1; subst h1; cases hc; exact ok_store1 hok ho hn hs
        · cases hc
    · cases hc
  · rename_i ho; cases hc; exact ok_nilchk hok ho hs
  · rename_i op t x y t' ho
    split at hc
    · rename_i d hd
      split at hc
      · cases hc; exact ok_bin hok ho hs
      · cases hc; exact ok_bin hok ho hs
      · split at hc
        · cases hc; exact ok_eqb (neg := false) hok ho hd hs
        · cases hc; exact ok_eqb (neg := true) hok ho hd hs
        · cases hc
      · split at hc
        · cases hc
        · rename_i hg
          split at hc
          · rename_i hk; cases hc; exact ok_eqs (neg := false) hok ho hd hk rfl (by simpa using hg) hs
          · rename_i hk; cases hc; exact ok_eqs (neg := true) hok ho hd hk rfl (by simpa using hg) hs
          · cases hc
      · split at hc
        · cases hc
        · rename_i hg
          split at hc
          · rename_i hk; cases hc; exact ok_eqs (neg := false) hok ho hd hk rfl (by simpa using hg) hs
          · rename_i hk; cases hc; exact ok_eqs (neg := true) hok ho hd hk rfl (by simpa using hg) hs
          · cases hc
      · split at hc
        · cases hc; exact ok_eqnil (neg := false) hok ho rfl hd hs
        · cases hc; exact ok_eqnil (neg := true) hok ho rfl hd hs
        · cases hc
      · cases hc
    · cases hc
  · rename_i ho; cases hc; exact ok_un hok ho hs
  · rename_i ho
    split at hc
    · rename_i h1 h2; cases hc; exact ok_conv hok ho h1 h2 hs
    · rename_i h1 h2; cases hc; exact ok_strid hok ho h1 h2 hs
    · rename_i h1 h2
      split at hc
      · rename_i h3; cases hc; exact ok_b2s hok ho h1 h2 h3 hs
      · cases hc
    · cases hc
  · rename_i ho; cases hc; exact ok_mkfn hok ho hs
  · rename_i ho
    split at hc
    · cases hc; exact ok_mkmap hok ho hs
    · cases hc
  · rename_i ho
    split at hc
    · rename_i e ht
      split at hc
      · rename_i h1 h2 h3; cases hc; exact ok_mkslice hok ho ht h3 h1 h2 hs
      · cases hc
    · cases hc
  · rename_i ho
    split at hc
    · rename_i ht; cases hc; exact ok_substr hok ho ht hs
    · rename_i ht; obtain ⟨n, hn, rfl⟩ := map_some' hc; exact ok_reslc hok ho ht hn hs
    · cases hc
  · rename_i ho
    split at hc
    · rename_i fs ht
      split at hc
      · rename_i f hf
        split at hc
        · rename_i n hn
          split at hc
          · rename_i hn0; cases hc; exact ok_faddr hok ho ht hf hn hn0 hs
          · cases hc
        · cases hc
      · cases hc
    · cases hc
  · rename_i ho
    split at hc
    · rename_i fs ht
      split at hc
      · rename_i f hf
        split at hc
        · rename_i n d hn hd; cases hc; exact ok_field hok ho ht hf hn hd hs
        · cases hc
      · cases hc
    · cases hc
  · rename_i ho
    split at hc
    · rename_i ht; obtain ⟨n, hn, rfl⟩ := map_some' hc; exact ok_iaddrA hok ho ht hn hs
    · rename_i ht; obtain ⟨n, hn, rfl⟩ := map_some' hc; exact ok_iaddrS hok ho ht hn hs
    · cases hc
  · rename_i ho
    split at hc
    · rename_i ht
      split at hc
      · rename_i hn hd; cases hc; exact ok_idxA hok ho ht hn hd hs
      · cases hc
    · rename_i ht; cases hc; exact ok_idxS hok ho ht hs
    · cases hc
  · rename_i ho
    split at hc
    · rename_i ht
      split at hc
      · rename_i hk htd hz; cases hc; exact ok_lookup hok ho ht hk htd hz hs
      · cases hc
    · cases hc
  · rename_i ho
    split at hc
    · rename_i ht
      split at hc
      · rename_i hk htd; cases hc; exact ok_mapupd hok (.inl ho) ht hk htd hs
      · cases hc
    · cases hc
  · rename_i ho
    split at hc
    · rename_i ht
      split at hc
      · rename_i hk htd; cases hc; exact ok_mapupd hok (.inr ho) ht hk htd hs
      · cases hc
    · cases hc
  · rename_i ho
    split at hc
    · rename_i ht; cases hc; exact ok_rangeM hok ho ht hs
    · cases hc
  · rename_i ho; cases hc; simp [astep] at hs
  · rename_i ho; cases hc; exact ok_entry hok ho hs
  · rename_i ho; cases hc; exact ok_ext hok ho hs
  · rename_i args ats ho
    split at hc
    · rename_i x t h1 h2
      have := arr1 h1; have := arr1 h2; subst args; subst ats
      split at hc
      · rename_i ht; cases hc; exact ok_lenS hok ho ht hs
      · rename_i ht; cases hc; exact ok_lenC hok ho ht hs
      · rename_i ht; cases hc; exact ok_lenM hok ho ht hs
      · rename_i ht; cases hc; exact ok_lenA hok ho ht hs
      · cases hc
    · cases hc
  · rename_i args ats ho
    split at hc
    · rename_i x y st yt h1 h2
      have := arr2 h1; have := arr2 h2; subst args; subst ats
      split at hc
      · rename_i e d ht hd
        split at hc
        · cases hc
        · rename_i hnd
          split at hc
          · rename_i h3 h4 h5
            split at hc
            · rename_i h6; cases hc; exact ok_append hok ho ht hd (by rintro k rfl; exact hnd rfl) h3 h4 h5 h6 hs
            · cases hc
          · cases hc
      · cases hc
    · cases hc
  · rename_i args ats ho
    split at hc
    · rename_i x y h1
      have := arr2 h1; subst args
      cases hc; exact ok_min hok ho hs
    · cases hc
  · rename_i args ats ho
    split at hc
    · rename_i x y h1
      have := arr2 h1; subst args
      cases hc; exact ok_max hok ho hs
    · cases hc
  · cases hc

end
end Go.Am

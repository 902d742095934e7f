/- The abstract machine's operations are the model's: strings and slices cut, made and appended to. -/
import Derived.Test.YtabenjpidndpeaaAmSound3
namespace Go.Am
set_option linter.unusedVariables false

section
variable {P : Program} {X : Ctx} {ι : Nat → Loc} {s : St} {a : Act} {w : World} {o : Oper} {v : AV} {hp' : List AO}

theorem sliceBound_ok {k : IntKind} {i : Int} {y : Nat} {c : BoundsCode} (h : 0 ≤ i ∧ i ≤ y) : (Instr.sliceBound (.int k i) y c).run P w = .ok i.toNat w := by
  simp only [Instr.sliceBound, asIntOf, Sem.run_bind, Sem.run_pure, Result.andThen_ok, Sem.run_ite, h, and_self, if_true]

theorem lim_ok (hok : Ok X ι s a w) (isS : Bool) {lo hi : Option Operand} {len cap cap' : Nat} {l h : Nat} (hc : cap ≤ cap')
    (hl : lim ((lo.map Opd.of).map (ev s.env)) ((hi.map Opd.of).map (ev s.env)) len cap = some (l, h)) (hlc : len ≤ cap) :
    (Instr.sliceBounds isS len cap' (lo.map a.eval) (hi.map a.eval) none).run P w = .ok (l, h, cap') w ∧ l ≤ h ∧ h ≤ cap ∧ (hi = none → h = len) := by
  unfold lim at hl
  split at hl
  · rename_i e1 e2
    have : hi = none := by cases hi <;> simp_all
    have : lo = none := by cases lo <;> simp_all
    subst hi; subst lo
    cases hl
    exact ⟨by simp [Instr.sliceBounds], by omega, hlc, fun _ => rfl⟩
  · rename_i k i e1 e2
    have : hi = none := by cases hi <;> simp_all
    subst hi
    cases lo with
    | none => simp at e2
    | some x =>
      simp only [Option.map_some, Option.some.injEq] at e2
      obtain ⟨h1, hl⟩ := chk_some hl
      cases hl
      have h2 := (ev_eq hok e2 (by simp)).2
      refine ⟨?_, by omega, hlc, fun _ => rfl⟩
      simp only [Option.map_some, Option.map_none, h2, gam, Instr.sliceBounds, Sem.run_bind, Sem.run_pure, Result.andThen_ok, Option.isSome_none, Bool.false_eq_true, if_false, sliceBound_ok h1]
  · rename_i k i e1 e2
    have : lo = none := by cases lo <;> simp_all
    subst lo
    cases hi with
    | none => simp at e1
    | some x =>
      simp only [Option.map_some, Option.some.injEq] at e1
      obtain ⟨h1, hl⟩ := chk_some hl
      cases hl
      have h2 := (ev_eq hok e1 (by simp)).2
      have h1' : 0 ≤ i ∧ i ≤ (cap' : Int) := by omega
      refine ⟨?_, by omega, by omega, fun e => by cases e⟩
      simp only [Option.map_some, Option.map_none, h2, gam, Instr.sliceBounds, Sem.run_bind, Sem.run_pure, Result.andThen_ok, sliceBound_ok h1']
  · rename_i k i k' j e1 e2
    cases hi with
    | none => simp at e1
    | some x =>
      cases lo with
      | none => simp at e2
      | some y =>
        simp only [Option.map_some, Option.some.injEq] at e1 e2
        obtain ⟨h1, hl⟩ := chk_some hl
        obtain ⟨h3, hl⟩ := chk_some hl
        cases hl
        have h2 := (ev_eq hok e1 (by simp)).2
        have h4 := (ev_eq hok e2 (by simp)).2
        have h1' : 0 ≤ i ∧ i ≤ (cap' : Int) := by omega
        have h3' : 0 ≤ j ∧ j ≤ (i.toNat : Int) := by omega
        refine ⟨?_, by omega, by omega, fun e => by cases e⟩
        simp only [Option.map_some, h2, h4, gam, Instr.sliceBounds, Sem.run_bind, Sem.run_pure, Result.andThen_ok, sliceBound_ok h1', Option.isSome_none, Bool.false_eq_true, if_false, sliceBound_ok h3']
  · cases hl

theorem ok_substr (hok : Ok X ι s a w) {t : TypeId} {x : Operand} {lo hi : Option Operand} (ho : o.op = .slice t x lo hi none) (ht : P.underlying t = some .string)
    (hs : astep s.env s.hp (.substr (Opd.of x) (lo.map Opd.of) (hi.map Opd.of)) = some (v, hp')) : Res X s a ((execOp a.eval o).run P w) v hp' := by
  simp only [astep] at hs
  split at hs
  · rename_i r hx
    split at hs
    · rename_i l h hl
      simp only [Option.some.injEq, Prod.mk.injEq] at hs
      obtain ⟨rfl, rfl⟩ := hs
      obtain ⟨hr, hlh, hh, _⟩ := lim_ok (P := P) hok false (Nat.le_refl _) hl (Nat.le_refl _)
      have h1 := (ev_eq hok hx (by simp)).2
      have : (execOp a.eval o).run P w = .ok (.value (gam ι (.str ((r.take h).drop l)))) w := by
        unfold execOp; rw [ho]
        simp only [h1, gam, Instr.sliceAt, Sem.run_bind, r_underlying ht, Result.andThen_ok, Instr.slice, Option.map_none, Option.isSome_none, Bool.false_eq_true, if_false, bsize, hr, Sem.run_pure]
        simp only [Result.ok.injEq, Next.value.injEq, Value.string.injEq, and_true]
        apply ByteArray.ext
        simp [ByteArray.data_extract, List.drop_take]
      rw [this]
      exact Res.same hok fun _ => ⟨trivial, rfl⟩
    · cases hs
  · cases hs

theorem ok_b2s (hok : Ok X ι s a w) {t u e : TypeId} {x : Operand} (ho : o.op = .convert t u x) (ht : P.underlying t = some (.slice e)) (hu : P.underlying u = some .string)
    (he : P.underlying e = some (.int .u8)) (hs : astep s.env s.hp (.b2s (Opd.of x)) = some (v, hp')) : Res X s a ((execOp a.eval o).run P w) v hp' := by
  have start : ∀ (ad : Option Addr) (n c : Nat) (r : ByteArray), a.eval x = .slice ad n c → (Conv.bytesToString (.slice ad n c)).run P w = .ok (.string r) w →
      (execOp a.eval o).run P w = .ok (.value (.string r)) w := by
    intro ad n c r h1 h2
    unfold execOp; rw [ho]
    simp only [convert, Sem.run_bind, r_underlying ht, r_underlying hu, Result.andThen_ok, h1, r_underlying he, h2, Sem.run_pure]
  simp only [astep] at hs
  split at hs
  · rename_i b off len ex c hx
    split at hs
    · rename_i l hl
      obtain ⟨hlen, hs⟩ := chk_some hs
      split at hs
      · rename_i r hr
        simp only [Option.some.injEq, Prod.mk.injEq] at hs
        obtain ⟨rfl, rfl⟩ := hs
        have h1 := (ev_eq hok hx (by simp)).2
        rw [start _ _ _ ⟨r.toArray⟩ h1]
        · exact Res.same hok fun _ => ⟨trivial, rfl⟩
        cases hnull : (ι b).null with
        | true =>
          have hll : l.length = 0 := by
            rcases Nat.eq_zero_or_pos l.length with h | h
            · exact h
            · rw [null_of_lt hok hl h] at hnull; cases hnull
          have : len = 0 := by omega
          subst this
          simp only [List.take_zero, toBytes, Option.some.injEq] at hr
          subst hr
          simp only [cond_true, Conv.bytesToString, Sem.run_pure]; rfl
        | false =>
          simp only [cond_false, Conv.bytesToString, Sem.run_bind]
          have hlen' : (gams ι ((l.drop off).take len)).length = len := by rw [gams_length, List.length_take, List.length_drop]; omega
          have hc : ∀ j v, (gams ι ((l.drop off).take len))[j]? = some v → w.cell? (((ι b).addr.add off).add j) = some v := by
            intro j u hu
            rw [gams_get] at hu
            cases hq : ((l.drop off).take len)[j]? with
            | none => rw [hq] at hu; cases hu
            | some q =>
              rw [hq] at hu
              simp only [Option.map_some, Option.some.injEq] at hu
              subst hu
              rw [Addr.add_add]
              refine (rd_cell hok.heap hl (i := off + j) ?_).2.2
              rw [List.getElem?_take] at hq
              split at hq
              · rw [List.getElem?_drop] at hq; exact hq
              · cases hq
          have := run_loadCells (P := P) hc
          rw [hlen'] at this
          rw [this]
          simp only [Result.andThen_ok]
          generalize (l.drop off).take len = q at hr
          clear this hc hlen' hlen hl
          have key : ∀ (f : Value → ByteArray → Sem (ForInStep ByteArray)) (hf : ∀ n r, (f (.int .u8 n) r).run P w = .ok (.yield (r.push (UInt8.ofNat n.toNat))) w)
              (q : List AV) (r : List UInt8) (acc : ByteArray), toBytes q = some r → (forIn (gams ι q).toArray acc f).run P w = .ok ⟨acc.data ++ r.toArray⟩ w := by
            intro f hf q
            induction q with
            | nil => intro r acc h; simp only [toBytes, Option.some.injEq] at h; subst h; simp [gams]
            | cons x q ih =>
              intro r acc h
              unfold toBytes at h
              split at h
              · simp_all
              · rename_i n r' he
                simp only [List.cons.injEq] at he
                obtain ⟨rfl, rfl⟩ := he
                split at h
                · rename_i r2 hr2
                  simp only [Option.some.injEq] at h
                  subst h
                  have := ih r2 (acc.push (UInt8.ofNat n.toNat)) hr2
                  simp only [gams, gam, List.forIn_toArray, List.forIn_cons, Sem.run_bind, hf, Result.andThen_ok] at this ⊢
                  rw [this]
                  congr 1
                  apply ByteArray.ext
                  simp [ByteArray.push]
                · cases h
              · cases h
          rw [key _ (fun n r => rfl) q r _ hr]
          simp [Result.andThen, ByteArray.empty, ByteArray.emptyWithCapacity]
          rfl
      · cases hs
    · cases hs
  · rename_i n c hx
    simp only [Option.some.injEq, Prod.mk.injEq] at hs
    obtain ⟨rfl, rfl⟩ := hs
    have h1 := (ev_eq hok hx (by simp)).2
    rw [start none _ _ ⟨#[]⟩ h1 (by simp only [Conv.bytesToString, Sem.run_pure]; rfl)]
    exact Res.same hok fun _ => ⟨trivial, rfl⟩
  · cases hs

end
end Go.Am

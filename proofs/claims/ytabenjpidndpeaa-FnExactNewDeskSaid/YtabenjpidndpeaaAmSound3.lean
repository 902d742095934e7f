/- The abstract machine's operations are the model's: parts, indexes, slices, lengths. -/
import Derived.Test.YtabenjpidndpeaaAmSound2
namespace Go.Am
set_option linter.unusedVariables false

section
variable {P : Program} {X : Ctx} {ι : Nat → Loc} {s : St} {a : Act} {w : World} {o : Oper} {v : AV} {hp' : List AO}

theorem bsize (l : List UInt8) : (⟨l.toArray⟩ : ByteArray).size = l.length := rfl

theorem part_cell {t : TypeId} {d : TypeDesc} {cs : Array Value} {off : Nat} {x : Value} (ht : P.underlying t = some d) (hd : isAggD d = false) (hx : cs[off]? = some x) :
    (part t cs off).run P w = .ok x w := by
  simp only [part, Sem.run_bind, r_isAgg ht, hd, Result.andThen_ok, Bool.false_eq_true, if_false, hx, Sem.run_pure]
theorem part_agg {t : TypeId} {d : TypeDesc} {cs : Array Value} {off n : Nat} (ht : P.underlying t = some d) (hd : isAggD d = true) (hn : tsize P t = some n) :
    (part t cs off).run P w = .ok (.agg (cs.extract off (off + n))) w := by
  simp only [part, Sem.run_bind, r_isAgg ht, hd, Result.andThen_ok, if_true, r_sizeOf hn, Sem.run_pure]
theorem extract_gams (l : List AV) (off n : Nat) : (gams ι l).toArray.extract off (off + n) = (gams ι ((l.drop off).take n)).toArray := by
  rw [gams_take, gams_drop]; simp

theorem part_run {t : TypeId} {d : TypeDesc} {l : List AV} {off n : Nat} (ht : P.underlying t = some d) (hn : tsize P t = some n) {r : AV}
    (h : cond (isAggD d) (chk (off + n ≤ l.length) (some (.agg ((l.drop off).take n), s.hp))) (match l[off]? with | some v => some (v, s.hp) | none => none) = some (r, hp')) :
    hp' = s.hp ∧ (part t (gams ι l).toArray off).run P w = .ok (gam ι r) w ∧ ∀ k, AV.unders k l → r.under k := by
  cases hd : isAggD d with
  | true =>
    rw [hd] at h
    obtain ⟨_, h⟩ := chk_some h
    simp only [Option.some.injEq, Prod.mk.injEq] at h
    obtain ⟨rfl, rfl⟩ := h
    refine ⟨rfl, ?_, fun k hk => unders_take (unders_drop hk)⟩
    rw [part_agg ht hd hn, extract_gams]; rfl
  | false =>
    rw [hd] at h
    simp only [cond_false] at h
    split at h
    · rename_i x hx
      simp only [Option.some.injEq, Prod.mk.injEq] at h
      obtain ⟨rfl, rfl⟩ := h
      refine ⟨rfl, ?_, fun k hk => unders_get hk hx⟩
      exact part_cell ht hd (by rw [List.getElem?_toArray, gams_get, hx]; rfl)
    · cases h

theorem ok_field (hok : Ok X ι s a w) {t : TypeId} {fs : Array Field} {f : Field} {i n : Nat} {d : TypeDesc} {x : Operand} (ho : o.op = .field t x i) (ht : P.underlying t = some (.struct fs))
    (hf : fs[i]? = some f) (hn : tsize P f.type = some n) (hd : P.underlying f.type = some d) (hs : astep s.env s.hp (.field f.offset n (isAggD d) (Opd.of x)) = some (v, hp')) :
    Res X s a ((execOp a.eval o).run P w) v hp' := by
  simp only [astep] at hs
  split at hs
  · rename_i l hx
    obtain ⟨hu, h1⟩ := ev_eq hok hx (by simp)
    obtain ⟨rfl, hr, hun⟩ := part_run (P := P) (w := w) (ι := ι) hd hn hs
    have : (execOp a.eval o).run P w = .ok (.value (gam ι v)) w := by
      unfold execOp; rw [ho]
      simp only [h1, gam, Instr.field, Sem.run_bind, r_underlying ht, Result.andThen_ok, hf, asAgg, Sem.run_pure, hr]
    rw [this]
    exact Res.same hok fun _ => ⟨hun _ hu, rfl⟩
  · cases hs

theorem ok_iaddrA (hok : Ok X ι s a w) {t e : TypeId} {len n : Nat} {x i : Operand} (ho : o.op = .indexAddr t x i) (ht : P.underlying t = some (.array len e)) (hn : tsize P e = some n)
    (hs : astep s.env s.hp (.iaddrA len n (Opd.of x) (Opd.of i)) = some (v, hp')) : Res X s a ((execOp a.eval o).run P w) v hp' := by
  simp only [astep] at hs
  split at hs
  · rename_i b off k j hx hi
    obtain ⟨hj, hs⟩ := chk_some hs
    simp only [Option.some.injEq, Prod.mk.injEq] at hs
    obtain ⟨rfl, rfl⟩ := hs
    obtain ⟨hu, h1⟩ := ev_eq hok hx (by simp)
    have h2 := (ev_eq hok hi (by simp)).2
    have : (execOp a.eval o).run P w = .ok (.value (gam ι (.ptr b (off + j.toNat * n)))) w := by
      unfold execOp; rw [ho]
      simp only [h1, h2, gam, Instr.indexAt, asIntOf, Sem.run_bind, r_underlying ht, Result.andThen_ok, Instr.sureAddr, Sem.run_pure, Sem.run_ite, hj, and_self, if_true, r_sizeOf hn, Addr.add_add]
    rw [this]
    exact Res.same hok fun _ => ⟨hu, rfl⟩
  · cases hs

theorem null_of_lt (hok : Ok X ι s a w) {b : Nat} {l : List AV} (hl : rd s.hp b = some l) {i : Nat} (hi : i < l.length) : (ι b).null = false :=
  (rd_cell hok.heap hl (List.getElem?_eq_getElem hi)).1

theorem ok_iaddrS (hok : Ok X ι s a w) {t e : TypeId} {n : Nat} {x i : Operand} (ho : o.op = .indexAddr t x i) (ht : P.underlying t = some (.slice e)) (hn : tsize P e = some n)
    (hs : astep s.env s.hp (.iaddrS n (Opd.of x) (Opd.of i)) = some (v, hp')) : Res X s a ((execOp a.eval o).run P w) v hp' := by
  simp only [astep] at hs
  split at hs
  · rename_i b off len ex c k j hx hi
    split at hs
    · rename_i l hl
      obtain ⟨⟨hj, hlt⟩, hs⟩ := chk_some hs
      simp only [Option.some.injEq, Prod.mk.injEq] at hs
      obtain ⟨rfl, rfl⟩ := hs
      obtain ⟨hu, h1⟩ := ev_eq hok hx (by simp)
      have h2 := (ev_eq hok hi (by simp)).2
      have hnull := null_of_lt hok hl hlt
      have : (execOp a.eval o).run P w = .ok (.value (gam ι (.ptr b (off + j.toNat * n)))) w := by
        unfold execOp; rw [ho]
        simp only [h1, h2, gam, hnull, cond_false, Instr.indexAt, asIntOf, Sem.run_bind, r_underlying ht, Result.andThen_ok, Sem.run_pure, Sem.run_ite, hj, and_self, if_true, r_sizeOf hn, Addr.add_add]
      rw [this]
      exact Res.same hok fun _ => ⟨hu, rfl⟩
    · cases hs
  · cases hs

theorem ok_idxA (hok : Ok X ι s a w) {t e : TypeId} {len n : Nat} {d : TypeDesc} {x i : Operand} (ho : o.op = .index t x i) (ht : P.underlying t = some (.array len e)) (hn : tsize P e = some n)
    (hd : P.underlying e = some d) (hs : astep s.env s.hp (.idxA len n (isAggD d) (Opd.of x) (Opd.of i)) = some (v, hp')) : Res X s a ((execOp a.eval o).run P w) v hp' := by
  simp only [astep] at hs
  split at hs
  · rename_i l k j hx hi
    obtain ⟨hj, hs⟩ := chk_some hs
    obtain ⟨hu, h1⟩ := ev_eq hok hx (by simp)
    have h2 := (ev_eq hok hi (by simp)).2
    obtain ⟨rfl, hr, hun⟩ := part_run (P := P) (w := w) (ι := ι) hd hn hs
    have : (execOp a.eval o).run P w = .ok (.value (gam ι v)) w := by
      unfold execOp; rw [ho]
      simp only [h1, h2, gam, Instr.index, asIntOf, Sem.run_bind, r_underlying ht, Result.andThen_ok, Sem.run_pure, Sem.run_ite, hj, and_self, if_true, r_sizeOf hn, hr]
    rw [this]
    exact Res.same hok fun _ => ⟨hun _ hu, rfl⟩
  · cases hs

theorem ok_idxS (hok : Ok X ι s a w) {t : TypeId} {x i : Operand} (ho : o.op = .index t x i) (ht : P.underlying t = some .string)
    (hs : astep s.env s.hp (.idxS (Opd.of x) (Opd.of i)) = some (v, hp')) : Res X s a ((execOp a.eval o).run P w) v hp' := by
  simp only [astep] at hs
  split at hs
  · rename_i l k j hx hi
    obtain ⟨hj, hs⟩ := chk_some hs
    simp only [Option.some.injEq, Prod.mk.injEq] at hs
    obtain ⟨rfl, rfl⟩ := hs
    have h1 := (ev_eq hok hx (by simp)).2
    have h2 := (ev_eq hok hi (by simp)).2
    have hlt : j.toNat < l.length := by omega
    have hg : (⟨l.toArray⟩ : ByteArray)[j.toNat]? = some (l.getD j.toNat 0) := by
      have : j.toNat < (⟨l.toArray⟩ : ByteArray).size := by simpa [ByteArray.size] using hlt
      rw [getElem?_pos (⟨l.toArray⟩ : ByteArray) j.toNat this]
      congr 1
      rw [List.getD_eq_getElem?_getD, List.getElem?_eq_getElem hlt]
      rfl
    have : (execOp a.eval o).run P w = .ok (.value (gam ι (.int .u8 (l.getD j.toNat 0).toNat))) w := by
      unfold execOp; rw [ho]
      simp only [h1, h2, gam, Instr.index, asIntOf, Sem.run_bind, r_underlying ht, Result.andThen_ok, Sem.run_pure, hj.1, if_true, hg]
    rw [this]
    exact Res.same hok fun _ => ⟨trivial, rfl⟩
  · cases hs

theorem ok_ext (hok : Ok X ι s a w) {i : Nat} {x : Operand} (ho : o.op = .extract x i)
    (hs : astep s.env s.hp (.ext i (Opd.of x)) = some (v, hp')) : Res X s a ((execOp a.eval o).run P w) v hp' := by
  simp only [astep] at hs
  split at hs
  · rename_i l hx
    split at hs
    · rename_i u hu
      simp only [Option.some.injEq, Prod.mk.injEq] at hs
      obtain ⟨rfl, rfl⟩ := hs
      obtain ⟨h0, h1⟩ := ev_eq hok hx (by simp)
      have : (execOp a.eval o).run P w = .ok (.value (gam ι u)) w := by
        unfold execOp; rw [ho]
        simp only [h1, gam, Instr.extract, List.getElem?_toArray, gams_get, hu, Option.map_some]; rfl
      rw [this]
      exact Res.same hok fun _ => ⟨unders_get h0 hu, rfl⟩
    · cases hs
  · cases hs

theorem ok_min (hok : Ok X ι s a w) {x y : Operand} {ats : Array TypeId} (ho : o.op = .call { callee := .builtin .min, args := #[x, y], argTypes := ats })
    (hs : astep s.env s.hp (.minmax true (Opd.of x) (Opd.of y)) = some (v, hp')) : Res X s a ((execOp a.eval o).run P w) v hp' := by
  simp only [astep] at hs
  split at hs
  · rename_i k i k' j hx hy
    obtain ⟨hk, hs2⟩ := chk_some hs
    clear hs
    subst hk
    simp only [Option.some.injEq, Prod.mk.injEq] at hs2
    obtain ⟨rfl, rfl⟩ := hs2
    have h1 := (ev_eq hok hx (by simp)).2
    have h2 := (ev_eq hok hy (by simp)).2
    have : (execOp a.eval o).run P w = .ok (.value (gam ι (.int k (if j < i then j else i)))) w := by
      unfold execOp; rw [ho]
      simp only [resolve, List.map_toArray, List.map_cons, List.map_nil, h1, h2, gam, Sem.run_bind, Sem.run_pure, Result.andThen_ok, invoke, builtin, Builtin.min_, List.foldlM, Builtin.min2]
    rw [this]
    exact Res.same hok fun _ => ⟨trivial, rfl⟩
  · cases hs

theorem ok_max (hok : Ok X ι s a w) {x y : Operand} {ats : Array TypeId} (ho : o.op = .call { callee := .builtin .max, args := #[x, y], argTypes := ats })
    (hs : astep s.env s.hp (.minmax false (Opd.of x) (Opd.of y)) = some (v, hp')) : Res X s a ((execOp a.eval o).run P w) v hp' := by
  simp only [astep] at hs
  split at hs
  · rename_i k i k' j hx hy
    obtain ⟨hk, hs2⟩ := chk_some hs
    clear hs
    subst hk
    simp only [Option.some.injEq, Prod.mk.injEq] at hs2
    obtain ⟨rfl, rfl⟩ := hs2
    have h1 := (ev_eq hok hx (by simp)).2
    have h2 := (ev_eq hok hy (by simp)).2
    have : (execOp a.eval o).run P w = .ok (.value (gam ι (.int k (if j > i then j else i)))) w := by
      unfold execOp; rw [ho]
      simp only [resolve, List.map_toArray, List.map_cons, List.map_nil, h1, h2, gam, Sem.run_bind, Sem.run_pure, Result.andThen_ok, invoke, builtin, Builtin.max_, List.foldlM, Builtin.max2]
    rw [this]
    exact Res.same hok fun _ => ⟨trivial, rfl⟩
  · cases hs

theorem ok_lenS (hok : Ok X ι s a w) {x : Operand} {t : TypeId} (ho : o.op = .call { callee := .builtin .len, args := #[x], argTypes := #[t] }) (ht : P.underlying t = some .string)
    (hs : astep s.env s.hp (.len .str (Opd.of x)) = some (v, hp')) : Res X s a ((execOp a.eval o).run P w) v hp' := by
  simp only [astep] at hs
  split at hs
  · rename_i l hx
    simp only [Option.some.injEq, Prod.mk.injEq] at hs
    obtain ⟨rfl, rfl⟩ := hs
    have h1 := (ev_eq hok hx (by simp)).2
    have : (execOp a.eval o).run P w = .ok (.value (gam ι (.int .i64 l.length))) w := by
      unfold execOp; rw [ho]
      simp only [resolve, List.map_toArray, List.map_cons, List.map_nil, h1, gam, Sem.run_bind, Sem.run_pure, Result.andThen_ok, invoke, builtin, Builtin.len_]
      simp [r_underlying ht, goInt, bsize]
    rw [this]
    exact Res.same hok fun _ => ⟨trivial, rfl⟩
  · cases hs

theorem ok_lenC (hok : Ok X ι s a w) {x : Operand} {t e : TypeId} (ho : o.op = .call { callee := .builtin .len, args := #[x], argTypes := #[t] }) (ht : P.underlying t = some (.slice e))
    (hs : astep s.env s.hp (.len .slc (Opd.of x)) = some (v, hp')) : Res X s a ((execOp a.eval o).run P w) v hp' := by
  have key : ∀ (ad : Option Addr) (n c : Nat), a.eval x = .slice ad n c → (execOp a.eval o).run P w = .ok (.value (.int .i64 n)) w := by
    intro ad n c h1
    unfold execOp; rw [ho]
    simp only [resolve, List.map_toArray, List.map_cons, List.map_nil, h1, Sem.run_bind, Sem.run_pure, Result.andThen_ok, invoke, builtin, Builtin.len_]
    simp [r_underlying ht, goInt]
  simp only [astep] at hs
  split at hs
  · rename_i hx
    simp only [Option.some.injEq, Prod.mk.injEq] at hs
    obtain ⟨rfl, rfl⟩ := hs
    rw [key _ _ _ (ev_eq hok hx (by simp)).2]
    exact Res.same hok fun _ => ⟨trivial, rfl⟩
  · rename_i hx
    simp only [Option.some.injEq, Prod.mk.injEq] at hs
    obtain ⟨rfl, rfl⟩ := hs
    rw [key _ _ _ (ev_eq hok hx (by simp)).2]
    exact Res.same hok fun _ => ⟨trivial, rfl⟩
  · cases hs

theorem ok_lenM (hok : Ok X ι s a w) {x : Operand} {t k e : TypeId} (ho : o.op = .call { callee := .builtin .len, args := #[x], argTypes := #[t] }) (ht : P.underlying t = some (.map k e))
    (hs : astep s.env s.hp (.len .map (Opd.of x)) = some (v, hp')) : Res X s a ((execOp a.eval o).run P w) v hp' := by
  simp only [astep] at hs
  split at hs
  · rename_i b hx
    split at hs
    · rename_i es ck hb
      simp only [Option.some.injEq, Prod.mk.injEq] at hs
      obtain ⟨rfl, rfl⟩ := hs
      have h1 := (ev_eq hok hx (by simp)).2
      obtain ⟨_, hn, blk, ha, hh⟩ := hok.heap.rel _ _ hb
      have hg : (getObj (ι b).addr.block).run P w = .ok (.map (es.map (gamE ι)).toArray ck) w := by
        rw [ha]; simp [getObj, Sem.run, hh]
      have : (execOp a.eval o).run P w = .ok (.value (gam ι (.int .i64 es.length))) w := by
        unfold execOp; rw [ho]
        simp only [resolve, List.map_toArray, List.map_cons, List.map_nil, h1, gam, Sem.run_bind, Sem.run_pure, Result.andThen_ok, invoke, builtin, Builtin.len_]
        simp [r_underlying ht, goInt, hg]
      rw [this]
      exact Res.same hok fun _ => ⟨trivial, rfl⟩
    · cases hs
  · cases hs

end
end Go.Am

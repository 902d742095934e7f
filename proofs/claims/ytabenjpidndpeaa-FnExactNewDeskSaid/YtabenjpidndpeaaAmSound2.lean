/- The abstract machine's operations are the model's: stores, addresses, arithmetic, slices. -/
import Derived.Test.YtabenjpidndpeaaAmSound
import Derived.Laws.Strings
import Derived.Laws.StructEq
namespace Go.Am
set_option linter.unusedVariables false

section
variable {P : Program} {X : Ctx} {ι : Nat → Loc} {s : St} {a : Act} {w : World} {o : Oper} {v : AV} {hp' : List AO}

theorem over_one {l : List AV} {off : Nat} {x : AV} (h : off < l.length) : over l off [x] = l.set off x := by
  unfold over
  rw [List.set_eq_take_append_cons_drop, if_pos h]
  simp

theorem list_set_self {α : Type} {l : List α} {i : Nat} {x : α} (h : l[i]? = some x) : l.set i x = l := by
  apply List.ext_getElem?
  intro j
  rw [List.getElem?_set]
  split
  · rename_i e; subst e
    split
    · exact h.symm
    · rename_i hj; rw [List.getElem?_eq_none (by omega)] at h; cases h
  · rfl

theorem Value.oneCell'_cells {v : Value} (h : v.oneCell' = true) : v.cells = #[v] := by
  cases v <;> simp_all [Value.cells, Value.oneCell']

theorem ok_store1 (hok : Ok X ι s a w) {t : TypeId} {x y : Operand} (ho : o.op = .store t x y) (hn : tsize P t = some 1)
    (hs : astep s.env s.hp (.store1 (Opd.of x) (Opd.of y)) = some (v, hp')) : Res X s a ((execOp a.eval o).run P w) v hp' := by
  simp only [astep] at hs
  split at hs
  · rename_i b off hx
    split at hs
    · rename_i l hl
      obtain ⟨⟨hlen, hone⟩, hs⟩ := chk_some hs
      simp only [Option.some.injEq, Prod.mk.injEq] at hs
      obtain ⟨rfl, rfl⟩ := hs
      have h2 := (ev_eq hok hx (by simp)).2
      have hyt : ev s.env (Opd.of y) ≠ .top := by intro h; rw [h] at hone; cases hone
      obtain ⟨hyu, hy⟩ := ev_ok hok y hyt
      obtain ⟨w', hr, hok'⟩ := store_run (P := P) hok (vs := [ev s.env (Opd.of y)]) (off := off) hl (by simp; omega) (by simp [hone]) ⟨hyu, trivial⟩ (by simp)
      rw [over_one hlen] at hok'
      have hcs : (a.eval y).cells = #[gam ι (ev s.env (Opd.of y))] := by rw [hy, Value.oneCell'_cells (AV.one_gam hone)]
      have : (execOp a.eval o).run P w = .ok .skip w' := by
        unfold execOp; rw [ho]
        simp only [h2, gam, Instr.storeAt, Instr.sureAddr, storeVar, Sem.run_bind, Sem.run_pure, Result.andThen_ok, r_sizeOf hn, hcs, List.size_toArray, List.length_singleton, ne_eq, not_true, if_false]
        simp only [gams] at hr
        rw [hr]; rfl
      rw [this]
      exact ⟨ι, w', undef, .inr ⟨rfl, rfl⟩, fun _ => ⟨trivial, rfl⟩, hok'⟩
    · cases hs
  · cases hs

theorem ok_storeN (hok : Ok X ι s a w) {t : TypeId} {n : Nat} {x y : Operand} (ho : o.op = .store t x y) (hn : tsize P t = some n)
    (hs : astep s.env s.hp (.storeN n (Opd.of x) (Opd.of y)) = some (v, hp')) : Res X s a ((execOp a.eval o).run P w) v hp' := by
  simp only [astep] at hs
  split at hs
  · rename_i b off vs hx hy
    split at hs
    · rename_i l hl
      obtain ⟨⟨hlen, hvl, hone⟩, hs⟩ := chk_some hs
      simp only [Option.some.injEq, Prod.mk.injEq] at hs
      obtain ⟨rfl, rfl⟩ := hs
      have h2 := (ev_eq hok hx (by simp)).2
      obtain ⟨hyu, h3⟩ := ev_eq hok hy (by simp)
      have hcs : (a.eval y).cells = (gams ι vs).toArray := by rw [h3]; rfl
      have run : ∀ (r : Result Unit), (storeCells ((ι b).addr.add off) (gams ι vs)).run P w = r →
          (execOp a.eval o).run P w = r.andThen fun _ w' => .ok .skip w' := by
        intro r hr
        unfold execOp; rw [ho]
        simp only [h2, gam, Instr.storeAt, Instr.sureAddr, storeVar, Sem.run_bind, Sem.run_pure, Result.andThen_ok, r_sizeOf hn, hcs, List.size_toArray, gams_length, hvl, ne_eq, not_true, if_false]
        rw [← hr]
      by_cases hne : vs = []
      · subst hne
        rw [run (.ok () w) rfl]
        refine ⟨ι, w, undef, .inr ⟨rfl, rfl⟩, fun _ => ⟨trivial, rfl⟩, ?_⟩
        have : wrl s.hp b (over l off []) = s.hp := by
          have e : over l off [] = l := by simp [over]
          rw [e]
          unfold wrl wrt at *
          split at hl <;> simp only [Option.some.injEq, reduceCtorEq] at hl <;> subst hl <;> rename_i hb <;> simp only [hb, AO.withl]
          · exact list_set_self hb
          · exact list_set_self hb
        rw [this]; exact hok
      · obtain ⟨w', hr, hok'⟩ := store_run (P := P) hok (vs := vs) (off := off) hl (by omega) hone hyu hne
        rw [run _ hr]
        exact ⟨ι, w', undef, .inr ⟨rfl, rfl⟩, fun _ => ⟨trivial, rfl⟩, hok'⟩
    · cases hs
  · cases hs

theorem ok_nilchk (hok : Ok X ι s a w) {x : Operand} (ho : o.op = .nilCheck x) (hs : astep s.env s.hp (.nilchk (Opd.of x)) = some (v, hp')) :
    Res X s a ((execOp a.eval o).run P w) v hp' := by
  simp only [astep] at hs
  split at hs
  · rename_i b off hx
    simp only [Option.some.injEq, Prod.mk.injEq] at hs
    obtain ⟨rfl, rfl⟩ := hs
    obtain ⟨h1, h2⟩ := ev_eq hok hx (by simp)
    have : (execOp a.eval o).run P w = .ok (.value (a.eval x)) w := by
      unfold execOp; rw [ho]; simp only [h2, gam]; rfl
    rw [this]
    exact Res.same hok fun _ => ⟨h1, h2⟩
  · rename_i f l1 l2 hx
    simp only [Option.some.injEq, Prod.mk.injEq] at hs
    obtain ⟨rfl, rfl⟩ := hs
    obtain ⟨h1, h2⟩ := ev_eq hok hx (by simp)
    have : (execOp a.eval o).run P w = .ok (.value (a.eval x)) w := by
      unfold execOp; rw [ho]; simp only [h2, gam]; rfl
    rw [this]
    exact Res.same hok fun _ => ⟨h1, h2⟩
  · cases hs

theorem abin_ok (ι : Nat → Loc) {op : BinOp} {x y v : AV} (h : abin op x y = some v) (t : TypeId) (P : Program) (w : World) :
    (binOp op t (gam ι x) (gam ι y)).run P w = .ok (gam ι v) w ∧ v ≠ .top ∧ ∀ n, v.under n := by
  unfold abin at h
  split at h
  all_goals try simp only [chk] at h
  all_goals (repeat (split at h))
  all_goals cases h
  all_goals refine ⟨?_, by simp, fun _ => trivial⟩
  all_goals subst_vars
  all_goals simp only [gam, binOp]
  all_goals first
    | (simp [Op.intArith, wrapK]; done)
    | (simp [Op.intDiv, wrapK, *]; done)
    | (simp [Op.intBits, wrapK]; done)
    | (simp [Op.intCmp]; done)
    | (simp [Op.shift, wrapK, Int.not_lt.2 ‹_›]; done)
    | (simp [Op.stringOp]; done)
    | skip
  · rename_i hk
    have e : (⟨(‹List UInt8›.toArray : Array UInt8)⟩ : ByteArray) = ⟨(‹List UInt8›.toArray : Array UInt8)⟩ := rfl
    simp only [Op.stringOp]
    rw [if_neg]
    · simp only [Sem.run_pure, Result.ok.injEq, Value.string.injEq, and_true]
      apply ByteArray.ext
      simp
    · simp only [ByteArray.size, List.size_toArray]
      have : IntKind.i64.max = 9223372036854775807 := rfl
      rw [this]; omega
  all_goals simp [Op.stringOp, ByteArray.toList_mk]

theorem eqGuard_int {op : BinOp} {t : TypeId} {x y : Operand} {u v : Value} (h1 : ∀ l, u ≠ .agg l) (h2 : u ≠ .nilIface) : (eqGuard op t x y u v).run P w = .ok () w := by
  unfold eqGuard
  cases op <;> simp <;> (cases u <;> simp_all)

theorem ok_bin (hok : Ok X ι s a w) {op : BinOp} {t t' : TypeId} {x y : Operand} (ho : o.op = .binOp op t x y t')
    (hs : astep s.env s.hp (.bin op (Opd.of x) (Opd.of y)) = some (v, hp')) : Res X s a ((execOp a.eval o).run P w) v hp' := by
  simp only [astep] at hs
  split at hs
  · rename_i u hu
    simp only [Option.some.injEq, Prod.mk.injEq] at hs
    obtain ⟨rfl, rfl⟩ := hs
    obtain ⟨hr, ht, hun⟩ := abin_ok ι hu t P w
    have hx : ev s.env (Opd.of x) ≠ .top := by
      intro h; rw [h] at hu; unfold abin at hu; split at hu <;> simp_all
    have hy : ev s.env (Opd.of y) ≠ .top := by
      intro h; rw [h] at hu; unfold abin at hu; split at hu <;> simp_all
    have h1 := (ev_ok hok x hx).2
    have h2 := (ev_ok hok y hy).2
    have hg : (eqGuard op t x y (a.eval x) (a.eval y)).run P w = .ok () w := by
      rw [h1]
      apply eqGuard_int
      · intro l h; unfold abin at hu; split at hu <;> simp_all [gam]
      · intro h; unfold abin at hu; split at hu <;> simp_all [gam]
    have : (execOp a.eval o).run P w = .ok (.value (gam ι u)) w := by
      unfold execOp; rw [ho]
      simp only [Sem.run_bind, hg, Result.andThen_ok]
      rw [h1, h2, hr]; rfl
    rw [this]
    exact Res.same hok fun _ => ⟨hun _, rfl⟩
  · cases hs

theorem ok_un (hok : Ok X ι s a w) {op : UnOp} {t : TypeId} {x : Operand} (ho : o.op = .unOp op t x)
    (hs : astep s.env s.hp (.un op (Opd.of x)) = some (v, hp')) : Res X s a ((execOp a.eval o).run P w) v hp' := by
  simp only [astep] at hs
  split at hs
  · rename_i u hu
    simp only [Option.some.injEq, Prod.mk.injEq] at hs
    obtain ⟨rfl, rfl⟩ := hs
    unfold aun at hu
    split at hu
    · rename_i k n hx
      cases hu
      have h1 := (ev_eq hok hx (by simp)).2
      have : (execOp a.eval o).run P w = .ok (.value (gam ι (.int k (wrapK k (0 - n))))) w := by
        unfold execOp; rw [ho]; simp only [h1, gam, Op.unary, Op.intArith]; rfl
      rw [this]
      exact Res.same hok fun _ => ⟨trivial, rfl⟩
    · rename_i b hx
      cases hu
      have h1 := (ev_eq hok hx (by simp)).2
      have : (execOp a.eval o).run P w = .ok (.value (gam ι (.bool (!b)))) w := by
        unfold execOp; rw [ho]; simp only [h1, gam, Op.unary]; rfl
      rw [this]
      exact Res.same hok fun _ => ⟨trivial, rfl⟩
    · cases hu
  · cases hs

theorem ok_conv (hok : Ok X ι s a w) {t u : TypeId} {j k : IntKind} {x : Operand} (ho : o.op = .convert t u x) (ht : P.underlying t = some (.int j)) (hu : P.underlying u = some (.int k))
    (hs : astep s.env s.hp (.conv k (Opd.of x)) = some (v, hp')) : Res X s a ((execOp a.eval o).run P w) v hp' := by
  simp only [astep] at hs
  split at hs
  · rename_i k' n hx
    simp only [Option.some.injEq, Prod.mk.injEq] at hs
    obtain ⟨rfl, rfl⟩ := hs
    have h1 := (ev_eq hok hx (by simp)).2
    have : (execOp a.eval o).run P w = .ok (.value (gam ι (.int k (wrapK k n)))) w := by
      unfold execOp; rw [ho]
      simp only [h1, gam, convert, Sem.run_bind, r_underlying ht, r_underlying hu, Result.andThen_ok, Conv.intToInt, Sem.run_pure]; rfl
    rw [this]
    exact Res.same hok fun _ => ⟨trivial, rfl⟩
  · cases hs

theorem ok_strid (hok : Ok X ι s a w) {t u : TypeId} {x : Operand} (ho : o.op = .convert t u x) (ht : P.underlying t = some .string) (hu : P.underlying u = some .string)
    (hs : astep s.env s.hp (.strid (Opd.of x)) = some (v, hp')) : Res X s a ((execOp a.eval o).run P w) v hp' := by
  simp only [astep] at hs
  split at hs
  · rename_i l hl
    simp only [Option.some.injEq, Prod.mk.injEq] at hs
    obtain ⟨rfl, rfl⟩ := hs
    have h1 := (ev_eq hok hl (by simp)).2
    have : (execOp a.eval o).run P w = .ok (.value (gam ι (.str l))) w := by
      unfold execOp; rw [ho]
      simp only [h1, gam, convert, Sem.run_bind, r_underlying ht, r_underlying hu, Result.andThen_ok, Sem.run_pure]
    rw [this]
    exact Res.same hok fun _ => ⟨trivial, rfl⟩
  · cases hs

theorem evs_ok (hok : Ok X ι s a w) : ∀ (l : List Operand), (l.all fun x => match ev s.env (Opd.of x) with | .top => false | _ => true) = true →
    AV.unders s.hp.length (l.map fun x => ev s.env (Opd.of x)) ∧ l.map a.eval = gams ι (l.map fun x => ev s.env (Opd.of x))
  | [], _ => ⟨trivial, rfl⟩
  | x :: l, h => by
    simp only [List.all_cons, Bool.and_eq_true] at h
    obtain ⟨h1, h2⟩ := evs_ok hok l h.2
    have hx : ev s.env (Opd.of x) ≠ .top := by intro e; rw [e] at h; cases h.1
    obtain ⟨h3, h4⟩ := ev_ok hok x hx
    exact ⟨⟨h3, h1⟩, by simp only [List.map_cons, gams, h2, h4]⟩

theorem ok_mkfn (hok : Ok X ι s a w) {f : FuncId} {first caps : Array Operand} (ho : o.op = .makeFunc (.func f) first caps)
    (hs : astep s.env s.hp (.mkfn f (first.toList.map Opd.of) (caps.toList.map Opd.of)) = some (v, hp')) : Res X s a ((execOp a.eval o).run P w) v hp' := by
  simp only [astep] at hs
  obtain ⟨⟨h1, h2⟩, hs⟩ := chk_some hs
  simp only [Option.some.injEq, Prod.mk.injEq] at hs
  obtain ⟨rfl, rfl⟩ := hs
  simp only [List.all_map] at h1 h2
  obtain ⟨h3, h4⟩ := evs_ok hok first.toList h1
  obtain ⟨h5, h6⟩ := evs_ok hok caps.toList h2
  simp only [List.map_map]
  have : (execOp a.eval o).run P w = .ok (.value (.func (.func f) (first.map a.eval) (caps.map a.eval))) w := by
    unfold execOp; rw [ho]; rfl
  rw [this]
  refine Res.same hok fun _ => ⟨⟨h3, h5⟩, ?_⟩
  simp only [gam]
  have e1 : first.map a.eval = (gams ι (first.toList.map fun x => ev s.env (Opd.of x))).toArray := by rw [← h4, ← Array.toList_map]
  have e2 : caps.map a.eval = (gams ι (caps.toList.map fun x => ev s.env (Opd.of x))).toArray := by rw [← h6, ← Array.toList_map]
  rw [e1, e2]; rfl

theorem ok_faddr (hok : Ok X ι s a w) {t : TypeId} {fs : Array Field} {f : Field} {i n : Nat} {x : Operand} (ho : o.op = .fieldAddr t x i) (ht : P.underlying t = some (.struct fs))
    (hf : fs[i]? = some f) (hn : tsize P f.type = some n) (hn0 : n ≠ 0) (hs : astep s.env s.hp (.faddr f.offset (Opd.of x)) = some (v, hp')) :
    Res X s a ((execOp a.eval o).run P w) v hp' := by
  simp only [astep] at hs
  split at hs
  · rename_i b off hx
    simp only [Option.some.injEq, Prod.mk.injEq] at hs
    obtain ⟨rfl, rfl⟩ := hs
    obtain ⟨hu, h1⟩ := ev_eq hok hx (by simp)
    have : (execOp a.eval o).run P w = .ok (.value (gam ι (.ptr b (off + f.offset)))) w := by
      unfold execOp; rw [ho]
      simp only [h1, gam, Instr.fieldAt, Sem.run_bind, r_underlying ht, Result.andThen_ok, hf, Instr.sureAddr, fieldPlace, Sem.run_pure, r_sizeOf hn, hn0, if_false, Addr.add_add]
    rw [this]
    exact Res.same hok fun _ => ⟨hu, rfl⟩
  · cases hs

end
end Go.Am

/- The abstract machine's operations are the model's. -/
import Derived.Test.YtabenjpidndpeaaAmOps
namespace Go.Am
set_option linter.unusedVariables false

section
variable {P : Program} {w : World} {t : TypeId}
theorem r_underlying {d : TypeDesc} (h : P.underlying t = some d) : (underlying t).run P w = .ok d w := by simp [underlying, h]
theorem r_sizeOf {n : Nat} (h : tsize P t = some n) : (sizeOf t).run P w = .ok n w := by
  unfold tsize at h
  cases hi : P.info? t with
  | none => rw [hi] at h; cases h
  | some i => rw [hi] at h; simp only [Option.map_some, Option.some.injEq] at h; simp [sizeOf, typeInfo, hi, h]
theorem r_bytes {n : Nat} (h : tbytes P t = some n) : ∃ i, (typeInfo t).run P w = .ok i w ∧ i.bytes = n := by
  unfold tbytes at h
  cases hi : P.info? t with
  | none => rw [hi] at h; cases h
  | some i => rw [hi] at h; simp only [Option.map_some, Option.some.injEq] at h; exact ⟨i, by simp [typeInfo, hi], h⟩
theorem r_zero {z : Value} (h : (P.info? t).bind (·.zero) = some z) : (zeroValue t).run P w = .ok z w := by
  cases hi : P.info? t with
  | none => rw [hi] at h; cases h
  | some i => rw [hi] at h; simp only [Option.bind_some] at h; simp [zeroValue, typeInfo, hi, h]
theorem r_isAgg {d : TypeDesc} (h : P.underlying t = some d) : (isAgg t).run P w = .ok (isAggD d) w := by
  simp only [isAgg, Sem.run_bind, r_underlying h, Result.andThen_ok]
  cases d <;> rfl
theorem r_load1 {d : TypeDesc} {ad : Addr} {v : Value} (h : P.underlying t = some d) (hd : isAggD d = false) (hc : w.cell? ad = some v) : (loadVar t ad).run P w = .ok v w := by
  simp only [loadVar, Sem.run_bind, r_isAgg h, hd, Result.andThen_ok, Bool.false_eq_true, if_false, run_load, hc]
theorem r_loadN {d : TypeDesc} {ad : Addr} {vs : List Value} (h : P.underlying t = some d) (hd : isAggD d = true) (hn : tsize P t = some vs.length)
    (hc : ∀ j v, vs[j]? = some v → w.cell? (ad.add j) = some v) : (loadVar t ad).run P w = .ok (.agg vs.toArray) w := by
  simp only [loadVar, Sem.run_bind, r_isAgg h, hd, Result.andThen_ok, if_true, r_sizeOf hn, run_loadCells hc, Sem.run_pure]
end

/-- What an operation of the model comes to. -/
def Res (X : Ctx) (s : St) (a : Act) (r : Result Next) (v : AV) (hp' : List AO) : Prop :=
  ∃ ι' w' v', (r = .ok (.value v') w' ∨ (r = .ok .skip w' ∧ v' = undef)) ∧ (v ≠ .top → v.under hp'.length ∧ v' = gam ι' v) ∧ Ok X ι' ⟨s.env, hp'⟩ a w'

section
variable {P : Program} {X : Ctx} {ι : Nat → Loc} {s : St} {a : Act} {w : World} {o : Oper} {v : AV} {hp' : List AO}

theorem ev_ok (hok : Ok X ι s a w) (x : Operand) (ht : ev s.env (Opd.of x) ≠ .top) :
    (ev s.env (Opd.of x)).under s.hp.length ∧ a.eval x = gam ι (ev s.env (Opd.of x)) := by
  cases x with
  | tmp n =>
    obtain ⟨hb, he⟩ := hok.env n ht
    refine ⟨hb, ?_⟩
    simp only [ev, Opd.of]
    simp [Act.eval, Array.getD_eq_getD_getElem?, he]
  | const c => exact ⟨under_ofConst' _ _, (gam_ofConst' _ _).symm⟩
  | global g => exact ⟨trivial, rfl⟩
  | func f => exact ⟨⟨trivial, trivial⟩, rfl⟩

theorem ev_eq (hok : Ok X ι s a w) {x : Operand} {v : AV} (h : ev s.env (Opd.of x) = v) (ht : v ≠ .top) : v.under s.hp.length ∧ a.eval x = gam ι v := by
  subst h; exact ev_ok hok x ht

theorem Res.same (hok : Ok X ι s a w) {v' : Value} (hv : v ≠ .top → v.under s.hp.length ∧ v' = gam ι v) : Res X s a (.ok (.value v') w) v s.hp :=
  ⟨ι, w, v', .inl rfl, hv, hok⟩

theorem ok_mov (hok : Ok X ι s a w) {x : Operand} (ho : o.op = .move x ∨ o.op = .assign x) (hs : astep s.env s.hp (.mov (Opd.of x)) = some (v, hp')) :
    Res X s a ((execOp a.eval o).run P w) v hp' := by
  simp only [astep, Option.some.injEq, Prod.mk.injEq] at hs
  obtain ⟨rfl, rfl⟩ := hs
  have : (execOp a.eval o).run P w = .ok (.value (a.eval x)) w := by
    unfold execOp; rcases ho with ho | ho <;> rw [ho] <;> rfl
  rw [this]
  exact Res.same hok (ev_ok hok x)

theorem ok_pick (hok : Ok X ι s a w) {c x y : Operand} (ho : o.op = .pick c x y) (hs : astep s.env s.hp (.pick (Opd.of c) (Opd.of x) (Opd.of y)) = some (v, hp')) :
    Res X s a ((execOp a.eval o).run P w) v hp' := by
  simp only [astep] at hs
  split at hs
  · rename_i t hc
    simp only [Option.some.injEq, Prod.mk.injEq] at hs
    obtain ⟨rfl, rfl⟩ := hs
    have h1 := (ev_eq hok hc (by simp)).2
    have : (execOp a.eval o).run P w = .ok (.value (if t then a.eval x else a.eval y)) w := by
      unfold execOp; rw [ho]; simp only [h1, gam, asBool]; rfl
    rw [this]
    cases t
    · exact Res.same hok (ev_ok hok y)
    · exact Res.same hok (ev_ok hok x)
  · cases hs

theorem alloc_rel {l : List AV} {ty : TypeId} (hl : AV.unders s.hp.length l) :
    ORel (put ι s.hp.length ⟨⟨w.heap.size, 0, none⟩, false, 0⟩) (w.alloc (.cells (gams ι l).toArray ty)).heap ⟨⟨w.heap.size, 0, none⟩, false, 0⟩ (.cells l) := by
  refine ⟨rfl, w.heap.size, (gams ι l).toArray, ty, (0, 0), rfl, ?_, ?_, ?_⟩
  · show (w.heap.push _)[w.heap.size]? = _; simp
  · exact (gams_agree put_lt l hl)
  · intro i _ h; exact absurd h.2 (by simp)

theorem Res.alloc (hok : Ok X ι s a w) {l : List AV} {ty : TypeId} {av : AV} {v' : Value} (hl : AV.unders s.hp.length l) (hu : av.under (s.hp.length + 1))
    (hv : v' = gam (put ι s.hp.length ⟨⟨w.heap.size, 0, none⟩, false, 0⟩) av) :
    Res X s a (.ok (.value v') (w.alloc (.cells (gams ι l).toArray ty))) av (s.hp ++ [.cells l]) :=
  ⟨_, _, v', .inl rfl, fun _ => ⟨by simpa using hu, hv⟩, hok.alloc (.cells l) _ 0 (unders_mono (by omega) l hl) (alloc_rel hl)⟩

theorem ok_alloc (hok : Ok X ι s a w) {t : TypeId} {z : List AV} (ho : o.op = .alloc t) (hz : zeroC P t = some z) (hs : astep s.env s.hp (.alloc z) = some (v, hp')) :
    Res X s a ((execOp a.eval o).run P w) v hp' := by
  simp only [astep, Option.some.injEq, Prod.mk.injEq] at hs
  obtain ⟨rfl, rfl⟩ := hs
  unfold zeroC at hz
  cases hz0 : (P.info? t).bind (·.zero) with
  | none => rw [hz0] at hz; cases hz
  | some zv =>
    rw [hz0] at hz
    simp only [Option.map_some, Option.some.injEq] at hz
    subst hz
    have e : zv.cells = (gams ι (zv.cells.toList.map ofConst)).toArray := by rw [gams_ofConst]
    have : (execOp a.eval o).run P w = .ok (.value (.pointer (some ⟨w.heap.size, 0, none⟩))) (w.alloc (.cells (gams ι (zv.cells.toList.map ofConst)).toArray t)) := by
      unfold execOp; rw [ho, ← e]
      simp only [Instr.alloc, newVar, newRow, Sem.run_bind, r_zero hz0, Result.andThen_ok, Sem.run_pure, run_newObj]
      rfl
    rw [this]
    exact Res.alloc hok (unders_ofConst _ _) (by simp [AV.under]) (by simp [gam, put_self, Addr.add_base])

theorem ok_box (hok : Ok X ι s a w) {t : TypeId} {x : Operand} (ho : o.op = .box t x) (hs : astep s.env s.hp (.box (Opd.of x)) = some (v, hp')) :
    Res X s a ((execOp a.eval o).run P w) v hp' := by
  simp only [astep] at hs
  split at hs
  · rename_i l hl
    simp only [Option.some.injEq, Prod.mk.injEq] at hs
    obtain ⟨rfl, rfl⟩ := hs
    obtain ⟨ht, hu, hc⟩ := AV.cells_ok hl
    obtain ⟨h1, h2⟩ := ev_ok hok x ht
    have e : (a.eval x).cells = (gams ι l).toArray := by rw [h2, ← hc ι]
    have : (execOp a.eval o).run P w = .ok (.value (.pointer (some ⟨w.heap.size, 0, none⟩))) (w.alloc (.cells (gams ι l).toArray t)) := by
      unfold execOp; rw [ho, ← e]
      simp only [Instr.box, newVar, newRow, Sem.run_bind, Result.andThen_ok, Sem.run_pure, run_newObj]
      rfl
    rw [this]
    exact Res.alloc hok (hu _ h1) (by simp [AV.under]) (by simp [gam, put_self, Addr.add_base])
  · cases hs

theorem ok_load1 (hok : Ok X ι s a w) {t : TypeId} {d : TypeDesc} {x : Operand} (ho : o.op = .load t x) (hd : P.underlying t = some d) (hg : isAggD d = false)
    (hs : astep s.env s.hp (.load1 (Opd.of x)) = some (v, hp')) : Res X s a ((execOp a.eval o).run P w) v hp' := by
  simp only [astep] at hs
  split at hs
  · rename_i b off hx
    split at hs
    · rename_i l hl
      split at hs
      · rename_i u hu
        simp only [Option.some.injEq, Prod.mk.injEq] at hs
        obtain ⟨rfl, rfl⟩ := hs
        obtain ⟨_, hun, hc⟩ := rd_cell hok.heap hl hu
        have h2 := (ev_eq hok hx (by simp)).2
        have : (execOp a.eval o).run P w = .ok (.value (gam ι u)) w := by
          unfold execOp; rw [ho]
          simp only [h2, gam, Instr.loadAt, Instr.sureAddr, Sem.run_bind, Sem.run_pure, Result.andThen_ok, r_load1 hd hg hc]
        rw [this]
        exact Res.same hok fun _ => ⟨hun, rfl⟩
      · cases hs
    · cases hs
  · cases hs

theorem loadN_run (hok : Ok X ι s a w) {t : TypeId} {d : TypeDesc} (hd : P.underlying t = some d) (hg : isAggD d = true) {n b off : Nat} (hn : tsize P t = some n) {l : List AV}
    (hl : rd s.hp b = some l) (hlen : off + n ≤ l.length) : (loadVar t ((ι b).addr.add off)).run P w = .ok (.agg (gams ι ((l.drop off).take n)).toArray) w := by
  have hlen' : (gams ι ((l.drop off).take n)).length = n := by rw [gams_length, List.length_take, List.length_drop]; omega
  refine r_loadN hd hg (by rw [hlen']; exact hn) fun j u hu => ?_
  rw [gams_get] at hu
  cases hq : ((l.drop off).take n)[j]? with
  | none => rw [hq] at hu; cases hu
  | some q =>
    rw [hq] at hu
    simp only [Option.map_some, Option.some.injEq] at hu
    subst hu
    rw [Addr.add_add]
    refine (rd_cell hok.heap hl (i := off + j) ?_).2.2
    rw [List.getElem?_take] at hq
    split at hq
    · rw [List.getElem?_drop] at hq; exact hq
    · cases hq

theorem ok_loadN (hok : Ok X ι s a w) {t : TypeId} {d : TypeDesc} {n : Nat} {x : Operand} (ho : o.op = .load t x) (hd : P.underlying t = some d) (hg : isAggD d = true) (hn : tsize P t = some n)
    (hs : astep s.env s.hp (.loadN n (Opd.of x)) = some (v, hp')) : Res X s a ((execOp a.eval o).run P w) v hp' := by
  simp only [astep] at hs
  split at hs
  · rename_i b off hx
    split at hs
    · rename_i l hl
      obtain ⟨hlen, hs⟩ := chk_some hs
      simp only [Option.some.injEq, Prod.mk.injEq] at hs
      obtain ⟨rfl, rfl⟩ := hs
      have h2 := (ev_eq hok hx (by simp)).2
      have : (execOp a.eval o).run P w = .ok (.value (.agg (gams ι ((l.drop off).take n)).toArray)) w := by
        unfold execOp; rw [ho]
        simp only [h2, gam, Instr.loadAt, Instr.sureAddr, Sem.run_bind, Sem.run_pure, Result.andThen_ok, loadN_run hok hd hg hn hl hlen]
      rw [this]
      exact Res.same hok fun _ => ⟨unders_take (unders_drop (rd_under hok.heap hl)), rfl⟩
    · cases hs
  · cases hs

/-- A part of a block that may be written, written over. -/
theorem store_run (hok : Ok X ι s a w) {b off : Nat} {l vs : List AV} (hl : wrt s.hp b = some l) (hlen : off + vs.length ≤ l.length) (hone : vs.all AV.one = true)
    (hu : AV.unders s.hp.length vs) (hne : vs ≠ []) :
    ∃ w', (storeCells ((ι b).addr.add off) (gams ι vs)).run P w = .ok () w' ∧ Ok X ι ⟨s.env, wrl s.hp b (over l off vs)⟩ a w' := by
  have hne' : gams ι vs ≠ [] := by cases vs <;> simp_all [gams]
  have hone' : ∀ v ∈ gams ι vs, v.oneCell' = true := by
    rw [gams_map]; intro v hv
    obtain ⟨q, hq, rfl⟩ := List.mem_map.1 hv
    exact AV.one_gam (List.all_eq_true.1 hone q hq)
  have hpos : 0 < l.length := by cases vs <;> simp_all <;> omega
  unfold wrt at hl
  split at hl <;> simp only [Option.some.injEq, reduceCtorEq] at hl <;> subst hl <;> rename_i l hb
  · obtain ⟨hun, hn, blk, c, ty, fz, ha, hh, hc, hcalm⟩ := hok.heap.rel _ _ hb
    have hsz : c.size = l.length := by rw [← Array.length_toList, hc, gams_length]
    rw [ha, Addr.add_base, run_storeCells (gams ι vs) w c off 0 hh hcalm hone' (by rw [gams_length]; omega), if_neg hne']
    refine ⟨_, rfl, ?_⟩
    have := hok.set (j := b) (o := .cells l) (o' := .cells (over l off vs)) (ob := .cells (c.toList.take (off + 0) ++ gams ι vs ++ c.toList.drop (off + 0 + (gams ι vs).length)).toArray ty fz)
      hb rfl hn (unders_over hun hu) ?_
    · simp only [wrl, hb, AO.withl]; rw [ha] at this; exact this
    · refine ⟨hn, blk, _, ty, fz, ha, (by rw [ha]; exact setBlk_get hh), ?_, ?_⟩
      · rw [gams_over, hc, Nat.add_zero]
      · intro i hi; refine hcalm i ?_
        simp only [List.size_toArray, List.length_append, List.length_take, List.length_drop, gams_length, Array.length_toList] at hi; omega
  · rename_i sz
    obtain ⟨hun, h2⟩ := hok.heap.rel _ _ hb
    rcases h2 with ⟨_, _, rfl⟩ | ⟨hn, blk, c, ty, fz, ex, ha, hh, hc, hcalm, hcap⟩
    · simp at hpos
    have hsz : c.size = l.length + ex.length := by rw [← Array.length_toList, hc, List.length_append, gams_length]
    rw [ha, Addr.add_base, run_storeCells (gams ι vs) w c off 0 hh hcalm hone' (by rw [gams_length]; omega), if_neg hne']
    refine ⟨_, rfl, ?_⟩
    have hszn : (c.toList.take (off + 0) ++ gams ι vs ++ c.toList.drop (off + 0 + (gams ι vs).length)).toArray.size = c.size := by
      simp only [List.size_toArray, List.length_append, List.length_take, List.length_drop, gams_length, Array.length_toList]; omega
    have := hok.set (j := b) (o := .vec sz l) (o' := .vec sz (over l off vs)) (ob := .cells (c.toList.take (off + 0) ++ gams ι vs ++ c.toList.drop (off + 0 + (gams ι vs).length)).toArray ty fz)
      hb rfl hn (unders_over hun hu) ?_
    · simp only [wrl, hb, AO.withl]; rw [ha] at this; exact this
    · refine .inr ⟨hn, blk, _, ty, fz, ex, ha, (by rw [ha]; exact setBlk_get hh), ?_, ?_, ?_⟩
      · simp only [Nat.add_zero]
        rw [gams_over, hc, List.take_append_of_le_length (by rw [gams_length]; omega), List.drop_append_of_le_length (by simp only [gams_length]; omega)]
        simp only [List.append_assoc]
      · intro i hi; exact hcalm i (by rw [hszn] at hi; exact hi)
      · rw [hszn]; exact hcap

end
end Go.Am

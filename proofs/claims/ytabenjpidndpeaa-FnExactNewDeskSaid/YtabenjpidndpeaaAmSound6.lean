/- The abstract machine's append is the model's. -/
import Derived.Test.YtabenjpidndpeaaAmSound5
namespace Go.Am
set_option linter.unusedVariables false
set_option linter.unusedSimpArgs false

section
variable {P : Program} {X : Ctx} {ι : Nat → Loc} {s : St} {a : Act} {w : World} {o : Oper} {v : AV} {hp' : List AO}

theorem cells_run {w1 : World} (hh : HOk ι s.hp w1.heap) {b off n : Nat} {l : List AV} (hl : rd s.hp b = some l) (hlen : off + n ≤ l.length) :
    (loadCells ((ι b).addr.add off) n).run P w1 = .ok (gams ι ((l.drop off).take n)).toArray w1 := by
  have hlen' : (gams ι ((l.drop off).take n)).length = n := by rw [gams_length, List.length_take, List.length_drop]; omega
  have hc : ∀ j v, (gams ι ((l.drop off).take n))[j]? = some v → w1.cell? (((ι b).addr.add off).add j) = some v := by
    intro j u hu
    rw [gams_get] at hu
    cases hq : ((l.drop off).take n)[j]? with
    | none => rw [hq] at hu; cases hu
    | some q =>
      rw [hq] at hu
      simp only [Option.map_some, Option.some.injEq] at hu
      subst hu
      rw [Addr.add_add]
      refine (rd_cell hh hl (i := off + j) ?_).2.2
      rw [List.getElem?_take] at hq
      split at hq
      · rw [List.getElem?_drop] at hq; exact hq
      · cases hq
  have := run_loadCells (P := P) hc
  rwa [hlen'] at this

theorem null_len {w1 : World} (hh : HOk ι s.hp w1.heap) {b : Nat} {l : List AV} (hl : rd s.hp b = some l) (hn : (ι b).null = true) : l = [] := by
  rcases Nat.eq_zero_or_pos l.length with h | h
  · exact List.length_eq_zero_iff.1 h
  · have := (rd_cell hh hl (List.getElem?_eq_getElem h)).1
    rw [this] at hn; cases hn

theorem src_ok (hok : Ok X ι s a w) {size n : Nat} {ys : List AV} {y : Operand} (h : src s.hp size (ev s.env (Opd.of y)) = some (n, ys)) :
    (∀ w1, (Builtin.lenOf (a.eval y)).run P w1 = .ok n w1) ∧ (∀ w1 : World, w1.heap = w.heap → (Builtin.firstCells size n (a.eval y)).run P w1 = .ok (gams ι ys).toArray w1) ∧
      ys.length = n * size ∧ AV.unders s.hp.length ys := by
  unfold src at h
  split at h
  · rename_i b off n' ex c hy
    split at h
    · rename_i l hl
      obtain ⟨hlen, h⟩ := chk_some h
      simp only [Option.some.injEq, Prod.mk.injEq] at h
      obtain ⟨rfl, rfl⟩ := h
      have h1 := (ev_eq hok hy (by simp)).2
      refine ⟨fun w1 => by rw [h1]; rfl, fun w1 hw => ?_, by rw [List.length_take, List.length_drop]; omega, unders_take (unders_drop (rd_under hok.heap hl))⟩
      rw [h1]
      simp only [gam]
      cases hn : (ι b).null with
      | true =>
        have := null_len hok.heap hl hn
        subst this
        simp only [cond_true, Builtin.firstCells, List.drop_nil, List.take_nil, gams]; rfl
      | false =>
        simp only [cond_false, Builtin.firstCells]
        exact cells_run (by rw [hw]; exact hok.heap) hl hlen
    · cases h
  · rename_i n' c hy
    obtain ⟨hz, h⟩ := chk_some h
    simp only [Option.some.injEq, Prod.mk.injEq] at h
    obtain ⟨rfl, rfl⟩ := h
    have h1 := (ev_eq hok hy (by simp)).2
    subst hz
    exact ⟨fun w1 => by rw [h1]; rfl, fun w1 _ => by rw [h1]; rfl, by simp, trivial⟩
  · rename_i l hy
    obtain ⟨hz, h⟩ := chk_some h
    simp only [Option.some.injEq, Prod.mk.injEq] at h
    obtain ⟨rfl, rfl⟩ := h
    have h1 := (ev_eq hok hy (by simp)).2
    subst hz
    refine ⟨fun w1 => by rw [h1]; rfl, fun w1 _ => ?_, by simp, ?_⟩
    · rw [h1]
      simp only [gam, Builtin.firstCells, Sem.run_pure]
      congr 1
      apply Array.ext'
      simp only [gams_map, List.map_map, Array.toList_map, ByteArray.data_extract, Array.toList_extract, List.extract_eq_take_drop, List.drop_zero, Nat.sub_zero, List.take_length]
      rfl
    · rw [unders_iff]; intro q hq; obtain ⟨c, _, rfl⟩ := List.mem_map.1 hq; trivial
  · cases h

theorem growBy_le (need : Nat) : ∀ (r c : Nat), Builtin.growBy need r c ≤ max c (2 * need + 768) := by
  intro r
  induction r with
  | zero => intro c; simp only [Builtin.growBy]; omega
  | succ r ih =>
    intro c
    simp only [Builtin.growBy]
    split
    · omega
    · have h1 := ih (c + (c + 768) / 4); omega

theorem nextcap_le {need cap : Nat} (h : cap < need) : Builtin.nextslicecap need cap ≤ 2 * need + 768 := by
  unfold Builtin.nextslicecap
  split
  · omega
  · split
    · omega
    · have := growBy_le need 4 cap; omega

theorem room_ok {need cap bytes : Nat} (h : cap < need) (hb : need * bytes ≤ 1099511627776) (hb1 : bytes ≤ 65536) : ¬ (Builtin.nextslicecap need cap * bytes > 281474976710656) := by
  have h1 := nextcap_le h
  have h2 : Builtin.nextslicecap need cap * bytes ≤ (2 * need + 768) * bytes := Nat.mul_le_mul_right _ h1
  have h3 : (2 * need + 768) * bytes = 2 * (need * bytes) + 768 * bytes := by rw [Nat.add_mul, Nat.mul_assoc]
  omega

theorem tbytes_some {e : TypeId} {b : Nat} (h : tbytes P e = some b) : ∃ i, P.info? e = some i ∧ i.bytes = b := by
  unfold tbytes at h
  cases hi : P.info? e with
  | none => rw [hi] at h; cases h
  | some i => rw [hi] at h; simp only [Option.map_some, Option.some.injEq] at h; exact ⟨i, rfl, h⟩

/-- Append where there is room. -/
theorem append_room {base : Option Addr} {yv : Value} {sLen sCap n size : Nat} {st yt e : TypeId} {d : TypeDesc} {new : Array Value} {ty : TypeId} {w' : World}
    (hst : P.underlying st = some (.slice e)) (hyt : P.underlying yt = some d) (hd : ∀ k, d ≠ .int k) (hn : tsize P e = some size)
    (hlen : (Builtin.lenOf yv).run P w = .ok n w) (hnew : (Builtin.firstCells size n yv).run P w = .ok new w) (hroom : sLen + n ≤ sCap)
    (hstore : ∀ ad, base = some ad → (storeCells (ad.add (sLen * size)) new.toList).run P w = .ok () w') (hnil : base = none → w' = w) :
    (Builtin.append_ #[st, yt] ty #[.slice base sLen sCap, yv]).run P w = .ok (.slice base (sLen + n) sCap) w' := by
  cases d
  case int k => exact absurd rfl (hd k)
  all_goals
    unfold Builtin.append_
    simp only [List.getElem?_toArray, List.getElem?_cons_zero, List.getElem?_cons_succ, Sem.run_bind, r_underlying hst, Result.andThen_ok, r_sizeOf hn, r_underlying hyt, Sem.run_pure,
      Bool.false_eq_true, if_false, hlen, hroom, if_true, Bool.not_false, hnew]
    cases base with
    | none => simp only [hnil rfl, Sem.run_pure, Result.andThen_ok]
    | some ad => simp only [Sem.run_bind, hstore ad rfl, Sem.run_pure, Result.andThen_ok]

/-- Append where a new row is laid. -/
theorem append_grow {yv : Value} {base : Option Addr} {sLen sCap n size bytes : Nat} {st yt e : TypeId} {d : TypeDesc} {old new : Array Value} {ty : TypeId} {z : List AV}
    (hst : P.underlying st = some (.slice e)) (hyt : P.underlying yt = some d) (hd : ∀ k, d ≠ .int k) (hn : tsize P e = some size)
    (hby : tbytes P e = some bytes) (hz : zeroC P e = some z) (hzl : z.length = size) (hs1 : 1 ≤ size)
    (hlen : (Builtin.lenOf yv).run P w = .ok n w) (hold : (Builtin.firstCells size sLen (.slice base sLen sCap)).run P w.drew = .ok old w.drew)
    (hnew : (Builtin.firstCells size n yv).run P w.drew = .ok new w.drew) (hroom : ¬ sLen + n ≤ sCap)
    (hb : (sLen + n) * bytes ≤ 1099511627776) (hb0 : 1 ≤ bytes) (hb1 : bytes ≤ 65536) :
    ∃ cap, sLen + n ≤ cap ∧ (Builtin.append_ #[st, yt] ty #[.slice base sLen sCap, yv]).run P w =
      .ok (.slice (some ⟨w.heap.size, 0, none⟩) (sLen + n) cap) (w.drew.alloc (.cells (old ++ new ++ (gams ι (rep (cap - (sLen + n)) z)).toArray) e)) := by
  obtain ⟨i, hi, hib⟩ := tbytes_some hby
  obtain ⟨zv, hzv, hze⟩ := zeroC_some hz
  have hg : ¬ (Builtin.nextslicecap (sLen + n) sCap * bytes > 2 ^ 48) := room_ok (need := sLen + n) (cap := sCap) (bytes := bytes) (by omega) hb hb1
  have hmax : ¬ (((sLen + n : Nat) : Int) > IntKind.i64.max ∧ (False ∨ bytes = 0)) := by
    rintro ⟨_, h | h⟩
    · cases h
    · omega
  refine ⟨(sLen + n) + w.tape w.drawn (.appendCap (sLen + n) sCap e) % (2 ^ 63 - (sLen + n)), by omega, ?_⟩
  have hrest : ∀ k, Builtin.zeroCells zv.cells k = (gams ι (rep k z)).toArray := by
    intro k
    have hl : zv.cells.size = size := by rw [← hzl, hze]; simp
    rw [Builtin.zeroCells, hl]
    have := zeros_eq (ι := ι) (k := k) hze hzl hs1
    rw [hl] at this; exact this
  cases d
  case int k => exact absurd rfl (hd k)
  all_goals
    unfold Builtin.append_
    simp only [List.getElem?_toArray, List.getElem?_cons_zero, List.getElem?_cons_succ, Sem.run_bind, r_underlying hst, Result.andThen_ok, r_sizeOf hn, r_underlying hyt, Sem.run_pure,
      Bool.false_eq_true, if_false, hlen, hroom, Bool.not_false, typeInfo, run_program, hi, hib, hmax, if_true]
    rw [if_neg hg]
    simp only [Sem.run_bind, run_choose, Question.forced, Question.cut, Bool.false_eq_true, if_false, Result.andThen_ok, run_askRoom, Sem.run_pure, run_program, hi]
    rw [show ({ heap := w.heap, tape := w.tape, drawn := w.drawn + 1, os := w.os, output := w.output } : World) = w.drew from rfl]
    simp only [hold, Result.andThen_ok, hnew, r_zero hzv, hrest, newRow, Sem.run_bind, run_newObj, Sem.run_pure]
    rfl


theorem setBlk_self {w : World} {b : Nat} {o : Obj} (h : w.heap[b]? = some o) : setBlk w b o = w := by
  have : w.heap.setIfInBounds b o = w.heap := by
    apply Array.ext_getElem?
    intro i
    rw [Array.getElem?_setIfInBounds]
    split
    · rename_i e; subst e
      split
      · exact h.symm
      · rename_i hlt; exact absurd (Array.getElem?_eq_some_iff.1 h).1 hlt
    · rfl
  unfold setBlk
  rw [this]

theorem calm_zero (n : Nat) : calm (0, 0) n := fun i _ h => absurd h.2 (by simp)

/-- What a new row behind an append is. -/
theorem grow_res (hok : Ok X ι s a w) {hp1 : List AO} (h1 : Ok X ι ⟨s.env, hp1⟩ a w) (hl1 : hp1.length = s.hp.length) {L ys z : List AV} {size need cap : Nat} {e : TypeId} (hL : AV.unders s.hp.length L)
    (hys : AV.unders s.hp.length ys) (hsz : L.length + ys.length = need * size) (hz : z.length = size) (hcap : need ≤ cap) :
    Res X s a (.ok (.value (.slice (some ⟨w.heap.size, 0, none⟩) need cap)) (w.drew.alloc (.cells ((gams ι L).toArray ++ (gams ι ys).toArray ++ (gams ι (rep (cap - need) z)).toArray) e)))
      (.slc s.hp.length 0 need false 0) (hp1 ++ [.vec size (L ++ ys)]) := by
  have hu : AV.unders hp1.length (L ++ ys) := by rw [hl1]; exact unders_append.2 ⟨hL, hys⟩
  have h2 := h1.drew.alloc (.vec size (L ++ ys)) (.cells ((gams ι L).toArray ++ (gams ι ys).toArray ++ (gams ι (rep (cap - need) z)).toArray) e) cap
    (unders_mono (by simp) _ hu) (.inr ⟨rfl, w.heap.size, ((gams ι L).toArray ++ (gams ι ys).toArray ++ (gams ι (rep (cap - need) z)).toArray), e, (0, 0), gams ι (rep (cap - need) z), rfl, by show (w.heap.push _)[w.heap.size]? = _; simp, ?_, calm_zero _, ?_⟩)
  · refine ⟨_, _, _, .inl rfl, fun _ => ⟨by simp [AV.under, hl1], ?_⟩, h2⟩
    rw [← hl1]
    simp [gam, put_self, Addr.add_base]
  · rw [← gams_agree (put_lt (ι := ι)) _ hu, gams_append]
    simp
  · simp only [Array.size_append, List.size_toArray, gams_length, rep_length, hz]
    rw [hsz, ← Nat.add_mul]; congr 1; omega

theorem ok_append (hok : Ok X ι s a w) {st yt e : TypeId} {d : TypeDesc} {x y : Operand} {size bytes : Nat} {z : List AV} (ho : o.op = .call { callee := .builtin .append, args := #[x, y], argTypes := #[st, yt] })
    (hst : P.underlying st = some (.slice e)) (hyt : P.underlying yt = some d) (hd : ∀ k, d ≠ .int k) (hn : tsize P e = some size) (hby : tbytes P e = some bytes)
    (hz : zeroC P e = some z) (hzl : z.length = size)
    (hs : astep s.env s.hp (.append size bytes (Opd.of x) (Opd.of y)) = some (v, hp')) : Res X s a ((execOp a.eval o).run P w) v hp' := by
  have start : ∀ r : Result Value, (Builtin.append_ #[st, yt] o.type #[a.eval x, a.eval y]).run P w = r → (execOp a.eval o).run P w = r.andThen fun v w' => .ok (.value v) w' := by
    intro r hr
    unfold execOp; rw [ho]
    simp only [resolve, List.map_toArray, List.map_cons, List.map_nil, Sem.run_bind, Sem.run_pure, Result.andThen_ok, invoke, builtin]
    rw [hr]
  simp only [astep] at hs
  split at hs
  · rename_i n ys hsrc
    obtain ⟨hlen, hfirst, hyl, hyu⟩ := src_ok (P := P) hok hsrc
    split at hs
    · rename_i b len ex c hx
      obtain ⟨hbu, h1⟩ := ev_eq hok hx (by simp)
      split at hs
      · -- a grown row
        rename_i sz l hb
        obtain ⟨⟨hq1, hq2, hq3, hll, hone, hroomb, hb1, hs1⟩, hs2⟩ := chk_some hs
        clear hs
        subst hq1 hq2 hq3
        simp only [Option.some.injEq, Prod.mk.injEq] at hs2
        obtain ⟨rfl, rfl⟩ := hs2
        obtain ⟨hlu, hrel⟩ := hok.heap.rel _ _ hb
        have hrd : rd s.hp b = some l := by simp [rd, hb]
        have htl : (l.take (len * sz)).length = len * sz := by rw [List.length_take]; omega
        simp only [gam, Nat.sub_zero, Addr.add_zero, cond_false] at h1
        by_cases hroom : len + n ≤ (ι b).cap
        · rcases hrel with ⟨hnull, hcap, hl0⟩ | ⟨hnull, blk, cc, ty, fz, exx, ha, hh, hc, hcalm, hcs⟩
          · -- nil, and nothing comes
            subst hl0
            have hz0 : len = 0 ∧ n = 0 := by omega
            obtain ⟨rfl, rfl⟩ := hz0
            have hy0 : ys = [] := List.length_eq_zero_iff.1 (by omega)
            subst hy0
            have hr := append_room (P := P) (w := w) (w' := w) (ty := o.type) (base := none) (yv := a.eval y) (sLen := 0) (sCap := (ι b).cap) hst hyt hd hn (hlen w) (hfirst w rfl) hroom (fun ad h => by cases h) (fun _ => rfl)
            have e : a.eval x = .slice none 0 (ι b).cap := by rw [h1, hnull]; rfl
            rw [← e] at hr
            rw [start _ hr, show List.take (0 * sz) ([] : List AV) ++ [] = [] from by simp]
            refine ⟨_, _, _, .inl rfl, fun _ => ⟨by simp [AV.under], ?_⟩, hok.move (l := ι b) (o' := .vec sz []) hb rfl trivial rfl rfl (.inl ⟨hnull, hcap, rfl⟩)⟩
            simp [gam, put_self, hnull, e]
          · -- there is room
            have hcl : cc.size = l.length + exx.length := by rw [← Array.length_toList, hc, List.length_append, gams_length]
            have hfit : len * sz + ys.length ≤ cc.size := by
              rw [hyl, ← Nat.add_mul, ← hcs]; exact Nat.mul_le_mul_right _ hroom
            have hone' : ∀ v ∈ gams ι ys, v.oneCell' = true := by
              rw [gams_map]; intro v hv
              obtain ⟨q, hq, rfl⟩ := List.mem_map.1 hv
              exact AV.one_gam (List.all_eq_true.1 hone q hq)
            have hst0 := run_storeCells (P := P) (gams ι ys) w cc (len * sz) 0 hh hcalm hone' (by rw [gams_length]; omega)
            have hr := append_room (P := P) (w := w) (ty := o.type) (base := some (ι b).addr) (yv := a.eval y) (sLen := len) (sCap := (ι b).cap) hst hyt hd hn (hlen w) (hfirst w rfl) hroom
              (fun ad h => by cases h; rw [ha, Addr.add_base]; exact hst0) (fun h => by cases h)
            have e : a.eval x = .slice (some (ι b).addr) len (ι b).cap := by rw [h1, hnull]; rfl
            rw [← e] at hr
            rw [start _ hr]
            -- the row as it stands behind the stores
            have hset : Ok X ι ⟨s.env, s.hp.set b (.vec sz (l.take (len * sz) ++ ys))⟩ a
                (if gams ι ys = [] then w else setBlk w blk (.cells (cc.toList.take (len * sz + 0) ++ gams ι ys ++ cc.toList.drop (len * sz + 0 + (gams ι ys).length)).toArray ty fz)) := by
              have hnew : gams ι (l.take (len * sz) ++ ys) = cc.toList.take (len * sz) ++ gams ι ys := by
                rw [gams_append, gams_take, hc, List.take_append_of_le_length (by rw [gams_length]; exact hll)]
              have hu : AV.unders s.hp.length (l.take (len * sz) ++ ys) := unders_append.2 ⟨unders_take hlu, hyu⟩
              by_cases hy0 : gams ι ys = []
              · rw [if_pos hy0]
                have e0 : setBlk w (ι b).addr.block (.cells cc ty fz) = w := by
                  rw [ha]; exact setBlk_self hh
                have := hok.set (j := b) (o' := .vec sz (l.take (len * sz) ++ ys)) (ob := .cells cc ty fz) hb rfl hnull hu
                  (.inr ⟨hnull, blk, cc, ty, fz, cc.toList.drop (len * sz), ha, by rw [ha]; exact setBlk_get hh, by rw [hnew, hy0, List.append_nil, List.take_append_drop], hcalm, hcs⟩)
                rwa [e0] at this
              · rw [if_neg hy0]
                have := hok.set (j := b) (o' := .vec sz (l.take (len * sz) ++ ys))
                  (ob := .cells (cc.toList.take (len * sz + 0) ++ gams ι ys ++ cc.toList.drop (len * sz + 0 + (gams ι ys).length)).toArray ty fz) hb rfl hnull hu
                  (.inr ⟨hnull, blk, _, ty, fz, cc.toList.drop (len * sz + 0 + (gams ι ys).length), ha, by rw [ha]; exact setBlk_get hh, by simp only [Nat.add_zero]; rw [hnew], ?_, ?_⟩)
                · rw [ha] at this; exact this
                · intro i hi; refine hcalm i ?_
                  simp only [List.size_toArray, List.length_append, List.length_take, List.length_drop, gams_length, Array.length_toList] at hi; omega
                · simp only [List.size_toArray, List.length_append, List.length_take, List.length_drop, gams_length, Array.length_toList]; omega
            have hbl : b < s.hp.length := (List.getElem?_eq_some_iff.1 hb).1
            have hget : (s.hp.set b (.vec sz (l.take (len * sz) ++ ys)))[b]? = some (.vec sz (l.take (len * sz) ++ ys)) := List.getElem?_set_self hbl
            have hrl := (hset.heap.rel b _ hget)
            try simp only [List.length_set] at hrl
            have hmv := hset.move (l := ι b) (o' := .vec sz (l.take (len * sz) ++ ys)) hget rfl (AO.under_mono (by simp) _ hrl.1) rfl rfl
              (hrl.2.keep (n := s.hp.length) (AO.under_mono (by simp) _ hrl.1) (by simp only [List.length_set]; exact put_lt) fun _ _ => rfl)
            simp only [List.length_set, List.set_set] at hmv
            refine ⟨_, _, _, .inl rfl, fun _ => ⟨by simp [AV.under], ?_⟩, hmv⟩
            simp [gam, put_self, hnull, Addr.add_zero]
        · -- a new row
          have hold : (Builtin.firstCells sz len (.slice (cond (ι b).null none (some (ι b).addr)) len (ι b).cap)).run P w.drew = .ok (gams ι (l.take (len * sz))).toArray w.drew := by
            cases hnull : (ι b).null with
            | true =>
              have := null_len hok.heap hrd hnull
              subst this
              simp only [cond_true, Builtin.firstCells, List.take_nil, gams, Sem.run_pure]
            | false =>
              simp only [cond_false, Builtin.firstCells]
              have := cells_run (P := P) (w1 := w.drew) (off := 0) hok.drew.heap hrd (n := len * sz) (by omega)
              rwa [Addr.add_zero, List.drop_zero] at this
          obtain ⟨cap, hcap, hr⟩ := append_grow (P := P) (ι := ι) (w := w) (ty := o.type) (yv := a.eval y) hst hyt hd hn hby hz hzl hs1 (hlen w) hold (hfirst w.drew rfl) hroom hroomb hb1.1 hb1.2
          rw [← h1] at hr
          rw [start _ hr]
          exact grow_res hok (hok.kill b) (by simp) (unders_take hlu) hyu (by rw [htl, hyl, ← Nat.add_mul]) hzl hcap
      · -- a row that is known whole
        rename_i l hb
        obtain ⟨⟨hq1, hq2, hll, hone, hroomb, hb1, hs1⟩, hs2⟩ := chk_some hs
        clear hs
        subst hq1 hq2
        simp only [Option.some.injEq, Prod.mk.injEq] at hs2
        obtain ⟨rfl, rfl⟩ := hs2
        obtain ⟨hlu, hnull, blk, cc, ty, fz, ha, hh, hc, hcalm⟩ := hok.heap.rel _ _ hb
        have hrd : rd s.hp b = some l := by simp [rd, hb]
        simp only [gam, Addr.add_zero, cond_true, hnull, cond_false] at h1
        by_cases hroom : c + n ≤ c
        · have hn0 : n = 0 := by omega
          subst hn0
          have hy0 : ys = [] := List.length_eq_zero_iff.1 (by omega)
          subst hy0
          have hr := append_room (P := P) (w := w) (w' := w) (ty := o.type) (base := some (ι b).addr) (yv := a.eval y) (sLen := c) (sCap := c) hst hyt hd hn (hlen w) (hfirst w rfl) hroom
            (fun ad h => rfl) (fun h => rfl)
          rw [← h1] at hr
          rw [start _ hr]
          refine ⟨_, _, _, .inl rfl, fun _ => ⟨by simp [AV.under], ?_⟩, hok.move (l := ⟨(ι b).addr, false, c⟩) (o' := .vec size (l ++ [])) hb rfl (by rw [List.append_nil]; exact unders_mono (by omega) _ hlu) rfl hnull.symm
            (.inr ⟨rfl, blk, cc, ty, fz, [], ha, hh, by rw [hc, List.append_nil, List.append_nil]; exact gams_agree put_lt l hlu, hcalm, ?_⟩)⟩
          · simp [gam, put_self, Addr.add_zero]
          · rw [← Array.length_toList, hc, gams_length, hll]
        · have hold : (Builtin.firstCells size c (.slice (some (ι b).addr) c c)).run P w.drew = .ok (gams ι l).toArray w.drew := by
            simp only [Builtin.firstCells]
            have := cells_run (P := P) (w1 := w.drew) (off := 0) hok.drew.heap hrd (n := c * size) (by omega)
            rwa [Addr.add_zero, List.drop_zero, List.take_of_length_le (by omega)] at this
          obtain ⟨cap, hcap, hr⟩ := append_grow (P := P) (ι := ι) (w := w) (ty := o.type) (yv := a.eval y) hst hyt hd hn hby hz hzl hs1 (hlen w) hold (hfirst w.drew rfl) hroom hroomb hb1.1 hb1.2
          rw [← h1] at hr
          rw [start _ hr]
          exact grow_res hok (hok.kill b) (by simp) hlu hyu (by rw [hll, hyl, ← Nat.add_mul]) hzl hcap
      · cases hs
    · rename_i hx
      obtain ⟨⟨hone, hroomb, hb1, hs1⟩, hs⟩ := chk_some hs
      simp only [Option.some.injEq, Prod.mk.injEq] at hs
      obtain ⟨rfl, rfl⟩ := hs
      have h1 := (ev_eq hok hx (by simp)).2
      simp only [gam] at h1
      by_cases hroom : 0 + n ≤ 0
      · have hn0 : n = 0 := by omega
        subst hn0
        have hy0 : ys = [] := List.length_eq_zero_iff.1 (by omega)
        subst hy0
        have hr := append_room (P := P) (w := w) (w' := w) (ty := o.type) (base := none) (yv := a.eval y) (sLen := 0) (sCap := 0) hst hyt hd hn (hlen w) (hfirst w rfl) hroom (fun ad h => by cases h) (fun _ => rfl)
        rw [← h1] at hr
        rw [start _ hr]
        refine ⟨_, _, _, .inl rfl, fun _ => ⟨by simp [AV.under], ?_⟩, hok.null size⟩
        simp [h1, gam, put_self, Loc.nil]
      · obtain ⟨cap, hcap, hr⟩ := append_grow (P := P) (ι := ι) (w := w) (ty := o.type) (yv := a.eval y) (base := none) (sLen := 0) (sCap := 0) (old := #[]) hst hyt hd hn hby hz hzl hs1 (hlen w) rfl (hfirst w.drew rfl) hroom (by rw [Nat.zero_add]; exact hroomb) hb1.1 hb1.2
        rw [← h1] at hr
        rw [start _ hr]
        have := grow_res (e := e) (z := z) (L := []) hok hok rfl trivial hyu (need := 0 + n) (size := size) (cap := cap) (by rw [hyl]; simp) hzl hcap
        simpa [gams] using this
    · cases hs
  · cases hs

end
end Go.Am

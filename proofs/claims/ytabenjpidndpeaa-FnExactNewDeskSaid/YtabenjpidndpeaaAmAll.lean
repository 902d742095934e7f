/- The abstract machine's operations are the model's: all of them. -/
import Derived.Test.YtabenjpidndpeaaAmEq
namespace Go.Am
set_option linter.unusedVariables false
set_option linter.unusedSimpArgs false

section
variable {P : Program} {X : Ctx} {ι : Nat → Loc} {s : St} {a : Act} {w : World} {o : Oper} {v : AV} {hp' : List AO}

theorem ok_eqs (hok : Ok X ι s a w) {neg : Bool} {t t' : TypeId} {td : TypeDesc} {ks : List LT} {x y : Operand} (ho : o.op = .binOp (cond neg .neq .eql) t x y t') (ht : P.underlying t = some td)
    (hk : leaves P 20 t = some ks) (hag : isAggD td = true) (hg : P.eqGuardType P.depth t = false)
    (hs : astep s.env s.hp (.eqs neg ks (Opd.of x) (Opd.of y)) = some (v, hp')) : Res X s a ((execOp a.eval o).run P w) v hp' := by
  simp only [astep] at hs
  split at hs
  · rename_i l l' hx hy
    split at hs
    · rename_i r hr
      simp only [Option.some.injEq, Prod.mk.injEq] at hs
      obtain ⟨rfl, rfl⟩ := hs
      have h1 := (ev_eq hok hx (by simp)).2
      have h2 := (ev_eq hok hy (by simp)).2
      have hq := equal_ok (P := P) (w := w) (ι := ι) 20 9980 t ks td l l' r hk ht hr
      rw [hag] at hq
      simp only [mkv, cond_true] at hq
      have : (execOp a.eval o).run P w = .ok (.value (gam ι (.bool (cond neg (!r) r)))) w := by
        unfold execOp; rw [ho]
        simp only [h1, h2, gam, Sem.run_bind]
        rw [run_eqGuard_agg w _ t x y _ _ hg]
        cases neg
        · simp only [cond_false, Result.andThen_ok]; rw [run_eql_struct, hq]; rfl
        · simp only [cond_true, Result.andThen_ok]; rw [run_neq_struct, hq]; rfl
      rw [this]
      exact Res.same hok fun _ => ⟨trivial, rfl⟩
    · cases hs
  · cases hs

theorem ok_eqb (hok : Ok X ι s a w) {neg : Bool} {t t' : TypeId} {x y : Operand} (ho : o.op = .binOp (cond neg .neq .eql) t x y t') (ht : P.underlying t = some .bool)
    (hs : astep s.env s.hp (.eqb neg (Opd.of x) (Opd.of y)) = some (v, hp')) : Res X s a ((execOp a.eval o).run P w) v hp' := by
  simp only [astep] at hs
  split at hs
  · rename_i u u' hx hy
    simp only [Option.some.injEq, Prod.mk.injEq] at hs
    obtain ⟨rfl, rfl⟩ := hs
    have h1 := (ev_eq hok hx (by simp)).2
    have h2 := (ev_eq hok hy (by simp)).2
    have : (execOp a.eval o).run P w = .ok (.value (gam ι (.bool (cond neg (!(u == u')) (u == u'))))) w := by
      unfold execOp; rw [ho]
      simp only [h1, h2, gam, Sem.run_bind]
      have hg0 : (eqGuard (cond neg .neq .eql) t x y (.bool u) (.bool u')).run P w = .ok () w := eqGuard_int (fun l h => by cases h) (by simp)
      rw [hg0]
      simp only [Result.andThen_ok]
      have hq : (Op.equal t (.bool u) (.bool u')).run P w = .ok (u == u') w := run_equalIn_bool' w 9999 t u u' ht
      cases neg
      · simp only [cond_false, binOp, Sem.run_bind, hq, Result.andThen_ok, Sem.run_pure]
      · simp only [cond_true, binOp, Sem.run_bind, hq, Result.andThen_ok, Sem.run_pure]
    rw [this]
    exact Res.same hok fun _ => ⟨trivial, rfl⟩
  · cases hs

theorem ok_eqnil (hok : Ok X ι s a w) {neg : Bool} {t t' e : TypeId} {x y : Operand} (ho : o.op = .binOp (cond neg .neq .eql) t x y t') (hy : y = .const (.pointer none)) (ht : P.underlying t = some (.pointer e))
    (hs : astep s.env s.hp (.eqnil neg (Opd.of x)) = some (v, hp')) : Res X s a ((execOp a.eval o).run P w) v hp' := by
  subst hy
  have run : ∀ (p : Option Addr), a.eval x = .pointer p → (execOp a.eval o).run P w = .ok (.value (.bool (cond neg (!p.isNone) p.isNone))) w := by
    intro p hp
    unfold execOp; rw [ho]
    have hg0 : (eqGuard (cond neg .neq .eql) t x (.const (.pointer none)) (.pointer p) (.pointer none)).run P w = .ok () w := eqGuard_int (fun l h => by cases h) (by simp)
    have hqd : ∀ d, (Op.equalIn (d + 1) t (.pointer p) (.pointer none)).run P w = .ok p.isNone w := fun d => by
      simp only [Op.equalIn, Sem.run_bind, r_underlying ht, Result.andThen_ok]
      cases p <;> rfl
    have hq : (Op.equal t (.pointer p) (.pointer none)).run P w = .ok p.isNone w := hqd 9999
    have he : a.eval (.const (.pointer none)) = .pointer none := rfl
    simp only [hp, he, Sem.run_bind, hg0, Result.andThen_ok]
    cases neg
    · simp only [cond_false, binOp, Sem.run_bind, hq, Result.andThen_ok, Sem.run_pure]
    · simp only [cond_true, binOp, Sem.run_bind, hq, Result.andThen_ok, Sem.run_pure]
  simp only [astep] at hs
  split at hs
  · rename_i b off hx
    simp only [Option.some.injEq, Prod.mk.injEq] at hs
    obtain ⟨rfl, rfl⟩ := hs
    rw [run _ (ev_eq hok hx (by simp)).2]
    exact Res.same hok fun _ => ⟨trivial, by cases neg <;> rfl⟩
  · rename_i hx
    simp only [Option.some.injEq, Prod.mk.injEq] at hs
    obtain ⟨rfl, rfl⟩ := hs
    rw [run _ (ev_eq hok hx (by simp)).2]
    exact Res.same hok fun _ => ⟨trivial, by cases neg <;> rfl⟩
  · cases hs

theorem map_obj (hok : Ok X ι s a w) {b : Nat} {es : List AE} {ck : Nat} (hb : s.hp[b]? = some (.map es ck)) : (getObj (ι b).addr.block).run P w = .ok (.map (es.map (gamE ι)).toArray ck) w := by
  obtain ⟨_, hn, blk, ha, hh⟩ := hok.heap.rel _ _ hb
  rw [ha]; simp [getObj, Sem.run, hh]

theorem kok_key {ks : List LT} {agg : Bool} {x : AV} (h : kok ks agg x = true) : x ≠ .top ∧ keq ks agg x x = some true := by
  unfold kok at h
  have h1 : ∃ r, keq ks agg x x = some r := by
    cases hq : keq ks agg x x with
    | none => rw [hq] at h; cases h
    | some r => exact ⟨r, rfl⟩
  obtain ⟨r, hr⟩ := h1
  have self : ∀ (ks : List LT) (l : List AV) (r : Bool), leqs ks l l = some r → r = true := by
    intro ks
    induction ks with
    | nil => intro l r h; cases l <;> simp_all [leqs]
    | cons k ks ih =>
      intro l r h
      cases l with
      | nil => simp [leqs] at h
      | cons x l =>
        simp only [leqs] at h
        split at h
        · rename_i u v hu hv
          have hv' := ih l v hv
          have hu' : u = true := by
            cases k
            · obtain ⟨k', x', y', e1, e2, e3⟩ := leq_int hu; rw [e1] at e2; cases e2; simpa using e3
            · obtain ⟨x', y', e1, e2, e3⟩ := leq_bool hu; rw [e1] at e2; cases e2; simpa using e3
            · obtain ⟨x', y', e1, e2, e3⟩ := leq_str hu; rw [e1] at e2; cases e2; simpa using e3
          simp only [Option.some.injEq] at h
          rw [← h, hu', hv']; rfl
        · cases h
  obtain ⟨l1, l2, hl, e1, e2⟩ := keq_cells hr
  refine ⟨?_, ?_⟩
  · rintro rfl
    unfold keq at hr
    split at hr
    · rename_i e _ ; cases e
    · have := leqs_length _ _ _ _ hr
      match ks, this.1, hr with
      | [k], _, hr => have := leq_one hr; cases k <;> simp [leq] at this
    · cases hr
  · unfold keq at hr ⊢
    split at hr
    · rw [self _ _ _ hr] at hr; exact hr
    · rw [self _ _ _ hr] at hr; exact hr
    · cases hr

theorem checkKey_key {ks : List LT} {td : TypeDesc} {t : TypeId} {x : AV} {emp : Bool} (hk : leaves P 20 t = some ks) (ht : P.underlying t = some td) (h : keq ks (isAggD td) x x = some true) :
    (Instr.checkKey emp 10000 t (gam ι x)).run P w = .ok () w := by
  obtain ⟨l1, l2, hl, e1, e2⟩ := keq_cells h
  have e12 := (leqs_true (ι := ι) hl).1
  subst e12
  rw [← e1 ι]
  exact checkKey_ok (P := P) (w := w) (ι := ι) (emp := emp) 20 9980 t ks td l1 hk ht hl

theorem ok_lookup (hok : Ok X ι s a w) {t kt e : TypeId} {td : TypeDesc} {ks : List LT} {z : Value} {ok : Bool} {m k : Operand} (ho : o.op = .lookup t m k ok) (ht : P.underlying t = some (.map kt e))
    (hk : leaves P 20 kt = some ks) (htd : P.underlying kt = some td) (hz : (P.info? e).bind (·.zero) = some z)
    (hs : astep s.env s.hp (.lookup ks (isAggD td) (ofConst' z) ok (Opd.of m) (Opd.of k)) = some (v, hp')) : Res X s a ((execOp a.eval o).run P w) v hp' := by
  simp only [astep] at hs
  split at hs
  · rename_i b hm
    split at hs
    · rename_i es ck hb
      obtain ⟨hkok, hs⟩ := chk_some hs
      obtain ⟨hkt, hkk⟩ := kok_key hkok
      obtain ⟨hku, h1⟩ := ev_ok hok k hkt
      have h2 := (ev_eq hok hm (by simp)).2
      have hck : ∀ emp, (Instr.checkKey emp 10000 kt (a.eval k)).run P w = .ok () w := fun emp => by rw [h1]; exact checkKey_key hk htd hkk
      have run : ∀ r, findK ks (isAggD td) (ev s.env (Opd.of k)) es 0 = some r → (execOp a.eval o).run P w =
          .ok (.value (cond ok (.tuple #[(r.map fun p => gam ι p.2.val).getD z, .bool r.isSome]) ((r.map fun p => gam ι p.2.val).getD z))) w := by
        intro r hr
        have hf := findKey_ok (P := P) (w := w) (ι := ι) hk htd hr
        rw [← h1] at hf
        unfold execOp; rw [ho]
        simp only [h2, gam, Instr.lookup, Sem.run_bind, r_underlying ht, Result.andThen_ok, map_obj (P := P) hok hb, Sem.run_pure, hck, hf]
        cases r with
        | none => simp only [Option.map_none, Sem.run_bind, r_zero hz, Result.andThen_ok, Sem.run_pure]; cases ok <;> rfl
        | some p => simp only [Option.map_some, Sem.run_pure, Result.andThen_ok]; cases ok <;> rfl
      split at hs
      · rename_i i e0 hf
        simp only [Option.some.injEq, Prod.mk.injEq] at hs
        obtain ⟨rfl, rfl⟩ := hs
        rw [run _ hf]
        obtain ⟨_, hg, _⟩ := findK_some _ _ _ _ hf
        have hu := ((hok.heap.rel _ _ hb).1 e0 (List.mem_of_getElem? hg)).2
        refine Res.same hok fun _ => ?_
        cases ok
        · exact ⟨hu, rfl⟩
        · exact ⟨⟨hu, trivial, trivial⟩, rfl⟩
      · rename_i hf
        simp only [Option.some.injEq, Prod.mk.injEq] at hs
        obtain ⟨rfl, rfl⟩ := hs
        rw [run _ hf]
        refine Res.same hok fun _ => ?_
        cases ok
        · exact ⟨under_ofConst' _ _, (gam_ofConst' ι z).symm⟩
        · refine ⟨⟨under_ofConst' _ _, trivial, trivial⟩, ?_⟩
          simp only [Option.map_none, Option.getD_none, cond_true, gam, gams, gam_ofConst']; rfl
      · cases hs
    · cases hs
  · cases hs

theorem ok_mapupd (hok : Ok X ι s a w) {t kt e : TypeId} {td : TypeDesc} {ks : List LT} {m k x : Operand} (ho : o.op = .mapUpdate t m k x ∨ o.op = .insert t m k x) (ht : P.underlying t = some (.map kt e))
    (hk : leaves P 20 kt = some ks) (htd : P.underlying kt = some td)
    (hs : astep s.env s.hp (.mapupd ks (isAggD td) (Opd.of m) (Opd.of k) (Opd.of x)) = some (v, hp')) : Res X s a ((execOp a.eval o).run P w) v hp' := by
  simp only [astep] at hs
  split at hs
  · cases hs
  · rename_i b hm hxt
    have hxt' : ev s.env (Opd.of x) ≠ .top := fun h => hxt h
    split at hs
    · rename_i es ck hb
      obtain ⟨hkok, hs⟩ := chk_some hs
      obtain ⟨hkt, hkk⟩ := kok_key hkok
      obtain ⟨hku, h1⟩ := ev_ok hok k hkt
      obtain ⟨hxu, h3⟩ := ev_ok hok x hxt'
      have h2 := (ev_eq hok hm (by simp)).2
      have hck : ∀ emp, (Instr.checkKey emp 10000 kt (a.eval k)).run P w = .ok () w := fun emp => by rw [h1]; exact checkKey_key hk htd hkk
      obtain ⟨hesu, hnull, blk, ha, hh⟩ := hok.heap.rel _ _ hb
      have hset : ∀ ob, (setObj (ι b).addr.block ob).run P w = .ok () (setBlk w (ι b).addr.block ob) := by
        intro ob; rw [ha]; simp [setObj, Sem.run, hh, setBlk]
      have hsb2 : ∀ ob, (setBlk w (ι b).addr.block ob).heap[blk]? = some ob := fun ob => by rw [ha]; exact setBlk_get hh
      have start : (execOp a.eval o).run P w = ((Instr.mapUpdate t (a.eval m) (a.eval k) (a.eval x)).run P w).andThen fun _ w' => .ok .skip w' := by
        unfold execOp; rcases ho with ho | ho <;> rw [ho] <;> simp only [Sem.run_bind, Sem.run_pure]
      rw [start]
      split at hs
      · rename_i i e0 hf
        simp only [Option.some.injEq, Prod.mk.injEq] at hs
        obtain ⟨rfl, rfl⟩ := hs
        obtain ⟨_, hg, hkeq⟩ := findK_some _ _ _ _ hf
        rw [Nat.sub_zero] at hg
        obtain ⟨hke, hsb⟩ := keq_true (ι := ι) hkeq
        have hfk := findKey_ok (P := P) (w := w) (ι := ι) hk htd hf
        rw [← h1] at hfk
        have hkey : ((es.map (gamE ι)).toArray[i]?).map (·.key) = some (a.eval k) := by
          simp [hg, gamE, h1, hke]
        have hst : Instr.sameBits 10000 (a.eval k) (a.eval k) = true := by rw [h1]; exact hsb 9999
        simp only [h2, gam, Instr.mapUpdate, Sem.run_bind, r_underlying ht, Result.andThen_ok, map_obj (P := P) hok hb, hck, hfk, Option.map_some]
        have hkts : (Instr.keyThatStays (((((es.map (gamE ι)).toArray[i]?).map (·.key))).getD (a.eval k)) (a.eval k)).run P w = .ok (a.eval k) w := by
          rw [hkey]; simp only [Option.getD_some, Instr.keyThatStays, hst, if_true, Sem.run_pure]
        rw [hkts]
        simp only [Result.andThen_ok, hset]
        refine ⟨ι, _, undef, .inr ⟨rfl, rfl⟩, fun _ => ⟨trivial, rfl⟩, hok.set hb rfl hnull ?_ ⟨hnull, blk, ha, (hsb2 _).trans ?_⟩⟩
        · intro e1 he1
          rcases List.mem_or_eq_of_mem_set he1 with h | h
          · exact hesu e1 h
          · subst h; exact ⟨hku, hxu⟩
        · congr 2
          apply Array.ext_getElem?
          intro j
          simp only [Array.getElem?_modify, List.getElem?_toArray, List.getElem?_map, List.getElem?_set]
          by_cases hij : i = j
          · subst hij
            have hlt : i < es.length := (List.getElem?_eq_some_iff.1 hg).1
            simp only [if_true, hg, Option.map_some, hlt, gamE, h1, h3]
          · simp only [hij, if_false]
      · rename_i hf
        simp only [Option.some.injEq, Prod.mk.injEq] at hs
        obtain ⟨rfl, rfl⟩ := hs
        have hfk := findKey_ok (P := P) (w := w) (ι := ι) hk htd hf
        rw [← h1] at hfk
        simp only [h2, gam, Instr.mapUpdate, Sem.run_bind, r_underlying ht, Result.andThen_ok, map_obj (P := P) hok hb, hck, hfk, Option.map_none, hset]
        refine ⟨ι, _, undef, .inr ⟨rfl, rfl⟩, fun _ => ⟨trivial, rfl⟩, hok.set hb rfl hnull ?_ ⟨hnull, blk, ha, (hsb2 _).trans ?_⟩⟩
        · intro e1 he1
          rcases List.mem_append.1 he1 with h | h
          · exact hesu e1 h
          · rw [List.mem_singleton] at h; subst h; exact ⟨hku, hxu⟩
        · simp only [List.map_append, List.map_cons, List.map_nil, gamE, h1, h3, List.push_toArray]
      · cases hs
    · cases hs
  · cases hs

end
end Go.Am

/- The abstract machine's operations are the model's: slices made and appended to; maps made and gone through; structs built. -/
import Derived.Test.YtabenjpidndpeaaAmSound4
namespace Go.Am
set_option linter.unusedVariables false
set_option linter.unusedSimpArgs false

section
variable {P : Program} {X : Ctx} {ι : Nat → Loc} {s : St} {a : Act} {w : World} {o : Oper} {v : AV} {hp' : List AO}

theorem ok_mkmap (hok : Ok X ι s a w) {t : TypeId} (ho : o.op = .makeMap t none) (hs : astep s.env s.hp .mkmap = some (v, hp')) : Res X s a ((execOp a.eval o).run P w) v hp' := by
  simp only [astep, Option.some.injEq, Prod.mk.injEq] at hs
  obtain ⟨rfl, rfl⟩ := hs
  have : (execOp a.eval o).run P w = .ok (.value (.map (some w.heap.size))) (w.alloc (.map #[] 0)) := by
    unfold execOp; rw [ho]; rfl
  rw [this]
  refine ⟨_, _, _, .inl rfl, fun _ => ⟨by simp [AV.under], ?_⟩, hok.alloc (.map [] 0) _ 0 (fun e he => by cases he) ?_⟩
  · simp [gam, put_self]
  · exact ⟨rfl, w.heap.size, rfl, by show (w.heap.push _)[w.heap.size]? = _; simp⟩

theorem ok_rangeM (hok : Ok X ι s a w) {t k e : TypeId} {x : Operand} (ho : o.op = .range t x) (ht : P.underlying t = some (.map k e))
    (hs : astep s.env s.hp (.rangeM (Opd.of x)) = some (v, hp')) : Res X s a ((execOp a.eval o).run P w) v hp' := by
  simp only [astep] at hs
  split at hs
  · rename_i b hx
    split at hs
    · rename_i es ck hb
      simp only [Option.some.injEq, Prod.mk.injEq] at hs
      obtain ⟨rfl, rfl⟩ := hs
      obtain ⟨hu, h1⟩ := ev_eq hok hx (by simp)
      obtain ⟨_, hn, blk, ha, hh⟩ := hok.heap.rel _ _ hb
      have hg : (getObj (ι b).addr.block).run P w = .ok (.map (es.map (gamE ι)).toArray ck) w := by
        rw [ha]; simp [getObj, Sem.run, hh]
      have : (execOp a.eval o).run P w = .ok (.value (.pointer (some ⟨w.heap.size, 0, none⟩))) (w.alloc (.mapIter (some (ι b).addr.block) ck #[] ck)) := by
        unfold execOp; rw [ho]
        simp only [h1, gam, Instr.range, Sem.run_bind, r_underlying ht, Result.andThen_ok, hg, Sem.run_pure, run_newObj]
        rfl
      rw [this]
      refine ⟨_, _, _, .inl rfl, fun _ => ⟨by simp [AV.under], ?_⟩, hok.alloc (.miter (some b) ck [] ck) _ 0 (fun b' hb' => by cases hb'; exact Nat.lt_succ_of_lt hu) ?_⟩
      · simp [gam, put_self, Addr.add_base]
      · refine ⟨rfl, w.heap.size, rfl, ?_⟩
        rw [show (w.alloc (.mapIter (some (ι b).addr.block) ck #[] ck)).heap[w.heap.size]? = some (.mapIter (some (ι b).addr.block) ck #[] ck) from by show (w.heap.push _)[w.heap.size]? = _; simp]
        simp only [Option.map_some, ← put_lt b hu]
    · cases hs
  · cases hs

theorem ok_entry (hok : Ok X ι s a w) {x : Operand} (ho : o.op = .entry x) (hs : astep s.env s.hp (.entry (Opd.of x)) = some (v, hp')) : Res X s a ((execOp a.eval o).run P w) v hp' := by
  simp only [astep] at hs
  split at hs
  · rename_i r hx
    split at hs
    · rename_i m since seen last hr
      split at hs
      · rename_i es ck stamp hm hst
        obtain ⟨hck, hs2⟩ := chk_some hs
        clear hs
        subst hck
        split at hs2
        · rename_i e he
          simp only [Option.some.injEq, Prod.mk.injEq] at hs2
          obtain ⟨rfl, rfl⟩ := hs2
          obtain ⟨hu, h1⟩ := ev_eq hok hx (by simp)
          obtain ⟨hmu, hn, blk, ha, hh⟩ := hok.heap.rel _ _ hr
          obtain ⟨heu, hn2, blk2, ha2, hh2⟩ := hok.heap.rel _ _ hm
          have hg : (getObj blk).run P w = .ok (.mapIter (some (ι m).addr.block) since seen.toArray ck) w := by
            simp [getObj, Sem.run, hh]
          have hg2 : (getObj (ι m).addr.block).run P w = .ok (.map (es.map (gamE ι)).toArray ck) w := by
            rw [ha2]; simp [getObj, Sem.run, hh2]
          have hback : seen.toArray.back? = some stamp := by simpa using hst
          have hfind : (es.map (gamE ι)).toArray.find? (fun e => e.born == stamp) = some (gamE ι e) := by
            have : ((fun e : MapEntry => e.born == stamp) ∘ gamE ι) = fun e => e.born == stamp := rfl
            rw [List.find?_toArray, List.find?_map, this, he]; rfl
          have : (execOp a.eval o).run P w = .ok (.value (gam ι (.tup [e.key, e.val]))) w := by
            unfold execOp; rw [ho]
            simp only [h1, gam, ha, Addr.add_base, Instr.entry, Sem.run_bind, hg, Result.andThen_ok, hback, hg2, bne_self_eq_false, Bool.false_eq_true, if_false, hfind, Sem.run_pure, gams, gamE]
          rw [this]
          have hmem := List.mem_of_find?_eq_some he
          exact Res.same hok fun _ => ⟨⟨(heu e hmem).1, (heu e hmem).2, trivial⟩, rfl⟩
        · cases hs2
      · cases hs
    · cases hs
  · cases hs

/-! ### Structs built -/

theorem fold_over (vs : List Value) : ∀ (k : Nat) (cs : Array Value) (off : Nat), off + k + vs.length ≤ cs.size →
    (vs.zipIdx k).foldl (fun (cs : Array Value) (p : Value × Nat) => cs.setIfInBounds (off + p.2) p.1) cs = (cs.toList.take (off + k) ++ vs ++ cs.toList.drop (off + k + vs.length)).toArray := by
  induction vs with
  | nil => intro k cs off h; simp
  | cons v vs ih =>
    intro k cs off h
    simp only [List.length_cons] at h
    have hlt : off + k < cs.size := by omega
    simp only [List.zipIdx_cons, List.foldl_cons]
    rw [ih (k + 1) _ off (by simp; omega)]
    have e : (cs.setIfInBounds (off + k) v).toList = cs.toList.take (off + k) ++ v :: cs.toList.drop (off + k + 1) := by
      rw [Array.toList_setIfInBounds, List.set_eq_take_append_cons_drop, if_pos (by simpa using hlt)]
    rw [e]
    have hlen : (cs.toList.take (off + k)).length = off + k := by simp; omega
    have t1 : (cs.toList.take (off + k) ++ v :: cs.toList.drop (off + k + 1)).take (off + (k + 1)) = cs.toList.take (off + k) ++ [v] := by
      rw [show off + (k + 1) = (cs.toList.take (off + k)).length + 1 from by rw [hlen]; omega, List.take_length_add_append]; rfl
    have t2 : (cs.toList.take (off + k) ++ v :: cs.toList.drop (off + k + 1)).drop (off + (k + 1) + vs.length) = cs.toList.drop (off + k + (v :: vs).length) := by
      rw [show off + (k + 1) + vs.length = (cs.toList.take (off + k)).length + (vs.length + 1) from by rw [hlen]; omega, List.drop_length_add_append]
      simp only [List.drop_succ_cons, List.drop_drop, List.length_cons]
      congr 1; omega
    rw [t1, t2]
    simp only [List.append_assoc, List.cons_append, List.nil_append]

def matchP (pl : Nat → Option (Nat × Nat)) : List (Nat × Operand) → List (Nat × Nat × Opd) → Prop
  | [], [] => True
  | (i, x) :: r, (off, n, y) :: r' => pl i = some (off, n) ∧ y = Opd.of x ∧ matchP pl r r'
  | _, _ => False

theorem fill_ok (hok : Ok X ι s a w) {pl : Nat → Option (Nat × Nat)} : ∀ (ps : List (Nat × Operand)) (qs : List (Nat × Nat × Opd)) (l l' : List AV), matchP pl ps qs →
    AV.unders s.hp.length l → fillA s.env qs l = some l' →
    Instr.fill pl (gams ι l).toArray (ps.map fun (i, x) => (i, a.eval x)) = some (gams ι l').toArray ∧ AV.unders s.hp.length l'
  | [], [], l, l', _, hu, h => by simp only [fillA, Option.some.injEq] at h; subst h; exact ⟨rfl, hu⟩
  | [], _ :: _, _, _, h, _, _ => h.elim
  | _ :: _, [], _, _, h, _, _ => h.elim
  | (i, x) :: ps, (off, n, y) :: qs, l, l', ⟨h1, h2, h3⟩, hu, h => by
    subst h2
    simp only [fillA] at h
    split at h
    · rename_i c hc
      split at h
      · rename_i hcond
        obtain ⟨ht, hcu, hcc⟩ := AV.cells_ok hc
        obtain ⟨h4, h5⟩ := ev_ok hok x ht
        have e : (a.eval x).cells = (gams ι c).toArray := by rw [h5, ← hcc ι]
        have hsz : (a.eval x).cells.size = n := by rw [e]; simp [gams_length, hcond.1]
        obtain ⟨h6, h7⟩ := fill_ok hok ps qs (over l off c) l' h3 (unders_over hu (hcu _ h4)) h
        refine ⟨?_, h7⟩
        simp only [List.map_cons, Instr.fill, h1]
        rw [if_neg]
        · rw [← h6]
          congr 1
          rw [← Array.foldl_toList, Array.toList_zipIdx, e]
          have := fold_over (gams ι c) 0 (gams ι l).toArray off (by simp [gams_length]; omega)
          rw [this, gams_over]
          rfl
        · simp only [hsz, bne_self_eq_false, Bool.false_or, decide_eq_true_eq, Nat.not_lt, List.size_toArray, gams_length]
          simp only [ne_eq, not_true_eq_false, decide_false, Bool.false_or, decide_eq_true_eq]; omega
      · cases h
    · cases h

theorem partsOf_ok {P : Program} {fs : Array Field} {pl : Nat → Option (Nat × Nat)} (hpl : ∀ i f n, fs[i]? = some f → tsize P f.type = some n → pl i = some (f.offset, n)) :
    ∀ (ps : List (Nat × Operand)) (qs : List (Nat × Nat × Opd)), partsOf P fs ps = some qs → matchP pl ps qs
  | [], qs, h => by simp only [partsOf, Option.some.injEq] at h; subst h; trivial
  | (i, x) :: ps, qs, h => by
    simp only [partsOf] at h
    split at h
    · rename_i f hf
      split at h
      · rename_i n l hn hl
        simp only [Option.some.injEq] at h
        subst h
        exact ⟨hpl i f n hf hn, rfl, partsOf_ok hpl ps l hl⟩
      · cases h
    · cases h

theorem run_mapM {α β : Type} {P : Program} {w : World} {g : α → Sem β} {h : α → β} : ∀ (l : List α), (∀ x ∈ l, (g x).run P w = .ok (h x) w) → (l.mapM g).run P w = .ok (l.map h) w
  | [], _ => by simp
  | x :: l, hx => by
    rw [List.mapM_cons]
    simp only [Sem.run_bind, hx x (by simp), Result.andThen_ok, run_mapM l (fun y hy => hx y (by simp [hy])), Sem.run_pure, List.map_cons]

theorem zeroC_some {P : Program} {t : TypeId} {z : List AV} (h : zeroC P t = some z) : ∃ zv, (P.info? t).bind (·.zero) = some zv ∧ z = zv.cells.toList.map ofConst := by
  unfold zeroC at h
  cases hz : (P.info? t).bind (·.zero) with
  | none => rw [hz] at h; cases h
  | some zv => rw [hz] at h; simp only [Option.map_some, Option.some.injEq] at h; exact ⟨zv, rfl, h.symm⟩

theorem ok_buildS (hok : Ok X ι s a w) {t : TypeId} {fs : Array Field} {z : List AV} {parts : Array (Nat × Operand)} {qs : List (Nat × Nat × Opd)} (ho : o.op = .build t parts)
    (ht : P.underlying t = some (.struct fs)) (hz : zeroC P t = some z) (hall : fs.toList.all (fun f => (tsize P f.type).isSome) = true) (hq : partsOf P fs parts.toList = some qs)
    (hs : astep s.env s.hp (.build z qs) = some (v, hp')) : Res X s a ((execOp a.eval o).run P w) v hp' := by
  simp only [astep] at hs
  split at hs
  · rename_i l hl
    simp only [Option.some.injEq, Prod.mk.injEq] at hs
    obtain ⟨rfl, rfl⟩ := hs
    obtain ⟨zv, hzv, rfl⟩ := zeroC_some hz
    have hm : (fs.mapM (m := Sem) fun f => do pure (f.offset, ← sizeOf f.type)).run P w = .ok (fs.map fun f => (f.offset, (tsize P f.type).getD 0)) w := by
      rw [Array.mapM_eq_mapM_toList]
      rw [Sem.run_map, run_mapM (h := fun f : Field => (f.offset, (tsize P f.type).getD 0)) fs.toList]
      · simp only [Result.andThen_ok, ← Array.toList_map]
      · intro f hf
        have := List.all_eq_true.1 hall f hf
        cases hn : tsize P f.type with
        | none => rw [hn] at this; cases this
        | some n => simp only [Sem.run_bind, r_sizeOf hn, Result.andThen_ok, Sem.run_pure, Option.getD_some]
    obtain ⟨h1, h2⟩ := fill_ok hok parts.toList qs _ l (partsOf_ok (pl := fun i => (fs.map fun f => (f.offset, (tsize P f.type).getD 0))[i]?) (fun i f n hf hn => by simp [hf, hn]) _ _ hq) (unders_ofConst _ _) hl
    rw [gams_ofConst] at h1
    have : (execOp a.eval o).run P w = .ok (.value (gam ι (.agg l))) w := by
      unfold execOp; rw [ho]
      simp only [Instr.build, Sem.run_bind, r_zero hzv, Result.andThen_ok, Sem.run_pure, r_underlying ht, hm]
      have e : (parts.map fun (x : Nat × Operand) => match x with | (i, x) => (i, a.eval x)).toList = parts.toList.map fun (i, x) => (i, a.eval x) := by simp
      rw [e]
      simp only [Array.toArray_toList] at h1
      rw [h1]; rfl
    rw [this]
    exact Res.same hok fun _ => ⟨h2, rfl⟩
  · cases hs

theorem matchP_arr {n : Nat} : ∀ (ps : List (Nat × Operand)), matchP (fun i => some (i * n, n)) ps (ps.map fun (i, x) => (i * n, n, Opd.of x))
  | [] => trivial
  | (i, x) :: ps => ⟨rfl, rfl, matchP_arr ps⟩

theorem ok_buildA (hok : Ok X ι s a w) {t e : TypeId} {len n : Nat} {z : List AV} {parts : Array (Nat × Operand)} (ho : o.op = .build t parts)
    (ht : P.underlying t = some (.array len e)) (hz : zeroC P t = some z) (hn : tsize P e = some n)
    (hs : astep s.env s.hp (.build z (parts.toList.map fun (i, x) => (i * n, n, Opd.of x))) = some (v, hp')) : Res X s a ((execOp a.eval o).run P w) v hp' := by
  simp only [astep] at hs
  split at hs
  · rename_i l hl
    simp only [Option.some.injEq, Prod.mk.injEq] at hs
    obtain ⟨rfl, rfl⟩ := hs
    obtain ⟨zv, hzv, rfl⟩ := zeroC_some hz
    obtain ⟨h1, h2⟩ := fill_ok hok parts.toList _ _ l (matchP_arr parts.toList) (unders_ofConst _ _) hl
    rw [gams_ofConst] at h1
    have : (execOp a.eval o).run P w = .ok (.value (gam ι (.agg l))) w := by
      unfold execOp; rw [ho]
      simp only [Instr.build, Sem.run_bind, r_zero hzv, Result.andThen_ok, Sem.run_pure, r_underlying ht, r_sizeOf hn]
      have e : (parts.map fun (x : Nat × Operand) => match x with | (i, x) => (i, a.eval x)).toList = parts.toList.map fun (i, x) => (i, a.eval x) := by simp
      rw [e]
      simp only [Array.toArray_toList] at h1
      rw [h1]; rfl
    rw [this]
    exact Res.same hok fun _ => ⟨h2, rfl⟩
  · cases hs

theorem rep_length (k : Nat) (z : List AV) : (rep k z).length = k * z.length := by
  induction k with
  | zero => simp [rep]
  | succ k ih => simp only [rep, List.length_append, ih, Nat.add_mul, Nat.one_mul]; omega
theorem rep_get (z : List AV) : ∀ (k i : Nat), i < k * z.length → (rep k z)[i]? = z[i % z.length]?
  | 0, i, h => by omega
  | k + 1, i, h => by
    simp only [rep]
    rcases Nat.lt_or_ge i z.length with hi | hi
    · rw [List.getElem?_append_left hi, Nat.mod_eq_of_lt hi]
    · rw [List.getElem?_append_right hi, rep_get z k (i - z.length) (by rw [Nat.add_mul, Nat.one_mul] at h; omega), Nat.mod_eq_sub_mod hi]
theorem unders_rep {n : Nat} {z : List AV} (h : AV.unders n z) : ∀ k, AV.unders n (rep k z)
  | 0 => trivial
  | k + 1 => unders_append.2 ⟨h, unders_rep h k⟩

theorem map_range0 {f g : Nat → Value} : (Array.range 0).map f = (Array.range 0).map g := by simp

theorem zeros_eq {zv : Value} {z : List AV} {n k : Nat} (hz : z = zv.cells.toList.map ofConst) (hn : z.length = n) (hn1 : 1 ≤ n) :
    (Array.range (k * n)).map (fun i => zv.cells[i % zv.cells.size]!) = (gams ι (rep k z)).toArray := by
  have hl : zv.cells.size = n := by rw [← hn, hz]; simp
  apply Array.ext_getElem?
  intro i
  have e0 : (gams ι (rep k z)).toArray[i]? = (gams ι (rep k z))[i]? := by simp
  rw [Array.getElem?_map, e0, gams_get]
  rcases Nat.lt_or_ge i (k * n) with hi | hi
  · rw [Array.getElem?_range, if_pos hi, rep_get z k i (by rw [hn]; exact hi), hn, hz, List.getElem?_map]
    have hm : i % n < zv.cells.size := by rw [hl]; exact Nat.mod_lt _ (by omega)
    simp only [Option.map_some, hl]
    rw [Array.getElem?_toList, Array.getElem?_eq_getElem hm]
    simp only [Option.map_some, gam_ofConst]
    rw [getElem!_pos zv.cells (i % n) hm]
  · rw [Array.getElem?_eq_none (by simpa using hi), List.getElem?_eq_none (by rw [rep_length, hn]; exact hi)]
    rfl

theorem ok_mkslc (hok : Ok X ι s a w) {t e : TypeId} {len n : Nat} {z : List AV} {parts : Array (Nat × Operand)} (ho : o.op = .buildSlice t len parts)
    (ht : P.underlying t = some (.slice e)) (hz : zeroC P e = some z) (hn : tsize P e = some n) (hc : z.length = n ∧ 1 ≤ n ∧ len * n ≤ 16777216)
    (hs : astep s.env s.hp (.mkslc len (rep len z) (parts.toList.map fun (i, x) => (i * n, n, Opd.of x))) = some (v, hp')) : Res X s a ((execOp a.eval o).run P w) v hp' := by
  simp only [astep] at hs
  split at hs
  · rename_i l hl
    simp only [Option.some.injEq, Prod.mk.injEq] at hs
    obtain ⟨rfl, rfl⟩ := hs
    obtain ⟨zv, hzv, hze⟩ := zeroC_some hz
    have hzu : AV.unders s.hp.length z := by rw [hze]; exact unders_ofConst _ _
    obtain ⟨h1, h2⟩ := fill_ok hok parts.toList _ _ l (matchP_arr parts.toList) (unders_rep hzu len) hl
    rw [← zeros_eq (ι := ι) hze hc.1 hc.2.1] at h1
    have : (execOp a.eval o).run P w = .ok (.value (.slice (some ⟨w.heap.size, 0, none⟩) len len)) (w.alloc (.cells (gams ι l).toArray e)) := by
      unfold execOp; rw [ho]
      have e0 : (parts.map fun (x : Nat × Operand) => match x with | (i, x) => (i, a.eval x)).toList = parts.toList.map fun (i, x) => (i, a.eval x) := by simp
      have hlim : ¬ (len * n > 2 ^ 24) := by have := hc.2.2; omega
      simp only [Instr.buildSlice, Sem.run_bind, Result.andThen_ok, r_underlying ht, r_sizeOf hn, hlim, if_false]
      by_cases h0 : len * n = 0
      · have hlen0 : len = 0 := by rcases Nat.mul_eq_zero.1 h0 with h | h <;> omega
        subst hlen0
        simp only [Nat.zero_mul, if_true, Sem.run_bind, Sem.run_pure, Result.andThen_ok, e0]
        simp only [Nat.zero_mul] at h1
        have er : (Array.range 0).map (fun i => (#[] : Array Value)[i % (#[] : Array Value).size]!) = (Array.range 0).map (fun i => zv.cells[i % zv.cells.size]!) := map_range0
        rw [er, h1]
        simp only [newRow, Sem.run_bind, run_newObj, Result.andThen_ok, Sem.run_pure]
        rfl
      · simp only [h0, if_false, Sem.run_bind, r_zero hzv, Result.andThen_ok, Sem.run_pure, e0, h1, newRow, run_newObj]
        rfl
    rw [this]
    exact Res.alloc hok h2 (by simp [AV.under]) (by simp [gam, put_self, Addr.add_base])
  · cases hs

theorem wrap_id64 {x : Int} (h0 : -9223372036854775808 ≤ x) (h1 : x ≤ 9223372036854775807) : IntKind.i64.wrap x = x := by
  unfold IntKind.wrap
  simp [IntKind.bits, IntKind.signed]
  omega

theorem ok_mkslice (hok : Ok X ι s a w) {t e : TypeId} {n b : Nat} {z : List AV} {x y : Operand} (ho : o.op = .makeSlice t x y)
    (ht : P.underlying t = some (.slice e)) (hz : zeroC P e = some z) (hn : tsize P e = some n) (hb : tbytes P e = some b)
    (hs : astep s.env s.hp (.mkslice n b z (Opd.of x) (Opd.of y)) = some (v, hp')) : Res X s a ((execOp a.eval o).run P w) v hp' := by
  simp only [astep] at hs
  split at hs
  · rename_i k l k' c hx hy
    obtain ⟨⟨h0, h1, h2, h3, h4, h5⟩, hs⟩ := chk_some hs
    simp only [Option.some.injEq, Prod.mk.injEq] at hs
    obtain ⟨rfl, rfl⟩ := hs
    have hx1 := (ev_eq hok hx (by simp)).2
    have hy1 := (ev_eq hok hy (by simp)).2
    obtain ⟨zv, hzv, hze⟩ := zeroC_some hz
    obtain ⟨i, hi, hib⟩ := r_bytes (P := P) (w := w) hb
    have hzu : AV.unders s.hp.length z := by rw [hze]; exact unders_ofConst _ _
    have hcb : c ≤ 281474976710656 := by
      have : c * 1 ≤ c * b := Int.mul_le_mul_of_nonneg_left (by omega) (by omega)
      omega
    have w1 : IntKind.i64.wrap c = c := wrap_id64 (by omega) (by omega)
    have w2 : IntKind.i64.wrap l = l := wrap_id64 (by omega) (by omega)
    have hbc : ¬ ((b : Int) * c > 2 ^ 48) := by rw [Int.mul_comm]; omega
    have : (execOp a.eval o).run P w = .ok (.value (.slice (some ⟨w.heap.size, 0, none⟩) l.toNat c.toNat)) (w.alloc (.cells (gams ι (rep c.toNat z)).toArray e)) := by
      unfold execOp; rw [ho]
      have g1 : ¬ c < 0 := by omega
      have g2 : ¬ l < 0 := by omega
      have g3 : ¬ l > c := by omega
      simp only [hx1, hy1, gam, Instr.makeSlice, Sem.run_bind, r_underlying ht, Result.andThen_ok, asInt, asIntOf, Sem.run_pure, hi, w1, w2, hib, g1, g2, g3, hbc, decide_false, Bool.or_false, Bool.false_or, Bool.false_eq_true, if_false, run_askRoom, r_sizeOf hn]
      rw [← zeros_eq (ι := ι) hze h4 h5]
      by_cases hc0 : c.toNat * n = 0
      · have hcz : c.toNat = 0 := by rcases Nat.mul_eq_zero.1 hc0 with h | h <;> omega
        rw [hcz, Nat.zero_mul, map_range0 (f := fun i => zv.cells[i % zv.cells.size]!) (g := fun i => (#[] : Array Value)[i % (#[] : Array Value).size]!)]
        simp only [hcz, Nat.zero_mul, if_true, Sem.run_pure, Result.andThen_ok, newRow, Sem.run_bind, run_newObj]
        rfl
      · simp only [hc0, if_false, Sem.run_bind, r_zero hzv, Result.andThen_ok, Sem.run_pure, newRow, run_newObj]
        rfl
    rw [this]
    exact Res.alloc hok (unders_rep hzu _) (by simp [AV.under]) (by simp [gam, put_self, Addr.add_base])
  · cases hs

end
end Go.Am

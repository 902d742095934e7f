/- The abstract machine's comparisons and maps are the model's. -/
import Derived.Test.YtabenjpidndpeaaAmSound7
namespace Go.Am
set_option linter.unusedVariables false
set_option linter.unusedSimpArgs false

theorem leqs_split : ∀ (ks ks' : List LT) (a b : List AV) (r : Bool), leqs (ks ++ ks') a b = some r →
    ∃ r1 r2, leqs ks (a.take ks.length) (b.take ks.length) = some r1 ∧ leqs ks' (a.drop ks.length) (b.drop ks.length) = some r2 ∧ r = (r1 && r2) ∧ ks.length ≤ a.length ∧ ks.length ≤ b.length
  | [], ks', a, b, r, h => ⟨true, r, by simp [leqs], by simpa using h, by simp, by simp, by simp⟩
  | k :: ks, ks', [], b, r, h => by simp [leqs] at h
  | k :: ks, ks', _ :: _, [], r, h => by simp [leqs] at h
  | k :: ks, ks', x :: a, y :: b, r, h => by
    simp only [List.cons_append, leqs] at h
    split at h
    · rename_i u v hu hv
      simp only [Option.some.injEq] at h
      obtain ⟨r1, r2, h1, h2, h3, h4, h5⟩ := leqs_split ks ks' a b v hv
      refine ⟨u && r1, r2, ?_, h2, ?_, by simpa using h4, by simpa using h5⟩
      · simp only [List.length_cons, List.take_succ_cons, leqs, hu, h1]
      · rw [← h, h3, Bool.and_assoc]
    · cases h

theorem leqs_length : ∀ (ks : List LT) (a b : List AV) (r : Bool), leqs ks a b = some r → a.length = ks.length ∧ b.length = ks.length
  | [], [], [], _, _ => ⟨rfl, rfl⟩
  | [], [], _ :: _, _, h => by simp [leqs] at h
  | [], _ :: _, _, _, h => by simp [leqs] at h
  | _ :: _, [], _, _, h => by simp [leqs] at h
  | _ :: _, _ :: _, [], _, h => by simp [leqs] at h
  | k :: ks, x :: a, y :: b, r, h => by
    simp only [leqs] at h
    split at h
    · rename_i u v hu hv
      have := leqs_length ks a b v hv
      simp [this.1, this.2]
    · cases h

section
variable {P : Program} {w : World} {ι : Nat → Loc}

/-- A value of a type, by its cells. -/
def mkv (ι : Nat → Loc) (agg : Bool) (l : List AV) : Value := cond agg (.agg (gams ι l).toArray) (gam ι (l.headD .top))

theorem part_mkv {t : TypeId} {d : TypeDesc} {l : List AV} {off n : Nat} (ht : P.underlying t = some d) (hn : tsize P t = some n) (hlen : off + n ≤ l.length) (h1 : isAggD d = false → n = 1) :
    (part t (gams ι l).toArray off).run P w = .ok (mkv ι (isAggD d) ((l.drop off).take n)) w := by
  cases hd : isAggD d with
  | true => rw [part_agg ht hd hn, extract_gams]; rfl
  | false =>
    have hn1 := h1 hd
    subst hn1
    have hlt : off < l.length := by omega
    rw [part_cell ht hd (x := gam ι l[off]) (by rw [List.getElem?_toArray, gams_get, List.getElem?_eq_getElem hlt]; rfl)]
    simp only [mkv, cond_false]
    rw [List.drop_eq_getElem_cons hlt]
    rfl

/-- The shape of a type that has leaves. -/
theorem leaves_under {d : Nat} {t : TypeId} {ks : List LT} (h : leaves P d t = some ks) : ∃ td, P.underlying t = some td ∧ (isAggD td = false → ks.length = 1) := by
  cases d with
  | zero => simp [leaves] at h
  | succ d =>
    simp only [leaves] at h
    split at h <;> first
      | (cases h; exact ⟨_, ‹_›, fun _ => rfl⟩)
      | (exact ⟨_, ‹_›, fun hh => by simp [isAggD] at hh⟩)
      | cases h

theorem repL_length (n : Nat) (k : List LT) : (repL n k).length = n * k.length := by
  induction n with
  | zero => simp [repL]
  | succ n ih => simp only [repL, List.length_append, ih, Nat.add_mul, Nat.one_mul]; omega

theorem eqFields_ok {d D : Nat} {l1 l2 : List AV}
    (ih : ∀ t ks td l1 l2 r, leaves P d t = some ks → P.underlying t = some td → leqs ks l1 l2 = some r → (Op.equalIn (D + d) t (mkv ι (isAggD td) l1) (mkv ι (isAggD td) l2)).run P w = .ok r w) :
    ∀ (fs : List Field) (off : Nat) (ks : List LT) (r : Bool), leavesF (leaves P d) P fs off = some ks → leqs ks (l1.drop off) (l2.drop off) = some r →
      (Op.eqFields (D + d) (gams ι l1).toArray (gams ι l2).toArray fs).run P w = .ok r w
  | [], off, ks, r, h, hr => by
    simp only [leavesF, Option.some.injEq] at h
    subst h
    have := leqs_length _ _ _ _ hr
    have h1 : l1.drop off = [] := List.length_eq_zero_iff.1 this.1
    have h2 : l2.drop off = [] := List.length_eq_zero_iff.1 this.2
    rw [h1, h2] at hr
    simp only [leqs, Option.some.injEq] at hr
    subst hr; rfl
  | f :: fs, off, ks, r, h, hr => by
    simp only [leavesF] at h
    split at h
    · rename_i k n hk hn
      split at h
      · rename_i hc
        obtain ⟨hname, hoff, hkl⟩ := hc
        split at h
        · rename_i rest hrest
          simp only [Option.some.injEq] at h
          subst h
          obtain ⟨r1, r2, h1, h2, h3, h4, h5⟩ := leqs_split k rest _ _ r hr
          rw [List.length_drop] at h4 h5
          obtain ⟨td, htd, hag⟩ := leaves_under hk
          subst hkl
          have hone : isAggD td = false → k.length = 1 := hag
          simp only [Op.eqFields, hname, ne_eq, not_false_eq_true, if_true, Sem.run_bind]
          by_cases hk0 : k.length = 0
          · have hag' : isAggD td = true := by cases hq : isAggD td with | true => rfl | false => have := hone hq; omega
            rw [hoff, part_agg htd hag' hn, Result.andThen_ok, part_agg htd hag' hn]
            simp only [Result.andThen_ok, extract_gams]
            have e1 := ih f.type k td _ _ r1 hk htd h1
            rw [hag'] at e1
            simp only [mkv, cond_true] at e1
            rw [e1]
            simp only [Result.andThen_ok]
            cases r1 with
            | false => simp only [Bool.not_false, if_true, Sem.run_pure, h3, Bool.false_and]
            | true =>
              simp only [Bool.not_true, Bool.false_eq_true, if_false, h3, Bool.true_and]
              exact eqFields_ok ih fs _ rest r2 hrest (by rw [List.drop_drop, List.drop_drop] at h2; exact h2)
          · rw [hoff, part_mkv htd hn (by omega) hone, Result.andThen_ok, part_mkv htd hn (by omega) hone, Result.andThen_ok, ih f.type k td _ _ r1 hk htd h1, Result.andThen_ok]
            cases r1 with
            | false => simp only [Bool.not_false, if_true, Sem.run_pure, h3, Bool.false_and]
            | true =>
              simp only [Bool.not_true, Bool.false_eq_true, if_false, h3, Bool.true_and]
              exact eqFields_ok ih fs _ rest r2 hrest (by rw [List.drop_drop, List.drop_drop] at h2; exact h2)
        · cases h
      · cases h
    · cases h


theorem leq_int {a b : AV} {r : Bool} (h : leq .int a b = some r) : ∃ k x y, a = .int k x ∧ b = .int k y ∧ r = (x == y) := by
  cases a <;> simp only [leq, reduceCtorEq] at h
  cases b <;> simp only [reduceCtorEq] at h
  split at h
  · rename_i hk; subst hk; cases h; exact ⟨_, _, _, rfl, rfl, rfl⟩
  · cases h
theorem leq_bool {a b : AV} {r : Bool} (h : leq .bool a b = some r) : ∃ x y, a = .bool x ∧ b = .bool y ∧ r = (x == y) := by
  cases a <;> simp only [leq, reduceCtorEq] at h
  cases b <;> simp only [reduceCtorEq] at h
  cases h; exact ⟨_, _, rfl, rfl, rfl⟩
theorem leq_str {a b : AV} {r : Bool} (h : leq .str a b = some r) : ∃ x y, a = .str x ∧ b = .str y ∧ r = (x == y) := by
  cases a <;> simp only [leq, reduceCtorEq] at h
  cases b <;> simp only [reduceCtorEq] at h
  cases h; exact ⟨_, _, rfl, rfl, rfl⟩

theorem leq_one {k : LT} {a b : AV} {r : Bool} (h : leqs [k] [a] [b] = some r) : leq k a b = some r := by
  simp only [leqs] at h
  split at h
  · rename_i x y hx hy
    simp only [Option.some.injEq] at hy h
    subst hy
    rw [hx, ← h, Bool.and_true]
  · cases h

theorem leqs_one {k : LT} {l l' : List AV} {r : Bool} (h : leqs [k] l l' = some r) : ∃ a b, l = [a] ∧ l' = [b] ∧ leq k a b = some r := by
  obtain ⟨h1, h2⟩ := leqs_length _ _ _ _ h
  match l, l', h1, h2 with
  | [a], [b], _, _ => exact ⟨a, b, rfl, rfl, leq_one h⟩

/-- The elements of an array, compared one after the other. -/
theorem eqElems_ok {d D n : Nat} {e : TypeId} {td : TypeDesc} {k : List LT} {l1 l2 : List AV} (hk : leaves P d e = some k) (hn : tsize P e = some n) (hkl : k.length = n) (htd : P.underlying e = some td)
    (ih : ∀ t ks td l1 l2 r, leaves P d t = some ks → P.underlying t = some td → leqs ks l1 l2 = some r → (Op.equalIn (D + d) t (mkv ι (isAggD td) l1) (mkv ι (isAggD td) l2)).run P w = .ok r w)
    {β : Type} (f : Nat → β → Sem (ForInStep β)) (b0 bF : β) (g : β → Bool) (hg0 : g b0 = true) (hgF : g bF = false)
    (hf : ∀ i b, (f i b).run P w = ((part e (gams ι l1).toArray (i * n)).run P w).andThen fun x w1 => ((part e (gams ι l2).toArray (i * n)).run P w1).andThen fun y w2 =>
        ((Op.equalIn (D + d) e x y).run P w2).andThen fun r w3 => if (!r) = true then .ok (.done bF) w3 else .ok (.yield b0) w3) :
    ∀ (m i : Nat) (r : Bool), leqs (repL m k) (l1.drop (i * n)) (l2.drop (i * n)) = some r → ∃ b, (forIn (List.range' i m) b0 f).run P w = .ok b w ∧ g b = r
  | 0, i, r, hr => by
    have := leqs_length _ _ _ _ hr
    simp only [repL, List.length_nil] at this
    have h1 : l1.drop (i * n) = [] := List.length_eq_zero_iff.1 this.1
    have h2 : l2.drop (i * n) = [] := List.length_eq_zero_iff.1 this.2
    rw [h1, h2] at hr
    simp only [repL, leqs, Option.some.injEq] at hr
    exact ⟨b0, by simp, by rw [hg0, hr]⟩
  | m + 1, i, r, hr => by
    simp only [repL] at hr
    obtain ⟨r1, r2, h1, h2, h3, h4, h5⟩ := leqs_split k _ _ _ r hr
    rw [List.length_drop] at h4 h5
    obtain ⟨td', htd', hag⟩ := leaves_under hk
    rw [htd] at htd'; cases htd'
    have e1 := ih e k td _ _ r1 hk htd h1
    have hrun : (f i b0).run P w = if (!r1) = true then .ok (.done bF) w else .ok (.yield b0) w := by
      rw [hf]
      by_cases hk0 : k.length = 0
      · have hag' : isAggD td = true := by cases hq : isAggD td with | true => rfl | false => have := hag hq; omega
        rw [part_agg htd hag' hn, Result.andThen_ok, part_agg htd hag' hn, Result.andThen_ok, extract_gams, extract_gams]
        rw [hag', hkl] at e1
        simp only [mkv, cond_true] at e1
        rw [e1, Result.andThen_ok]
      · rw [part_mkv htd hn (by omega) (by rw [← hkl]; exact hag), Result.andThen_ok, part_mkv htd hn (by omega) (by rw [← hkl]; exact hag), Result.andThen_ok]
        rw [hkl] at e1
        rw [e1, Result.andThen_ok]
    simp only [List.range'_succ, List.forIn_cons, Sem.run_bind, hrun]
    cases r1 with
    | false => exact ⟨bF, by simp, by rw [hgF, h3]; rfl⟩
    | true =>
      simp only [Bool.not_true, Bool.false_eq_true, if_false, Result.andThen_ok]
      obtain ⟨b, hb, hgb⟩ := eqElems_ok hk hn hkl htd ih f b0 bF g hg0 hgF hf m (i + 1) r2 (by
        rw [List.drop_drop, List.drop_drop] at h2
        rw [Nat.add_mul, Nat.one_mul, ← hkl]; rw [← hkl] at h2; exact h2)
      exact ⟨b, hb, by rw [hgb, h3]; rfl⟩

theorem equal_ok : ∀ (d D : Nat) (t : TypeId) (ks : List LT) (td : TypeDesc) (l1 l2 : List AV) (r : Bool), leaves P d t = some ks → P.underlying t = some td → leqs ks l1 l2 = some r →
    (Op.equalIn (D + d) t (mkv ι (isAggD td) l1) (mkv ι (isAggD td) l2)).run P w = .ok r w
  | 0, _, _, _, _, _, _, _, h, _, _ => by simp [leaves] at h
  | d + 1, D, t, ks, td, l1, l2, r, h, htd, hr => by
    simp only [leaves] at h
    rw [htd] at h
    cases td <;> simp only [reduceCtorEq] at h
    case int k =>
      cases h
      obtain ⟨a, b, rfl, rfl, hl⟩ := leqs_one hr
      obtain ⟨k1, x, y, rfl, rfl, rfl⟩ := leq_int hl
      simp only [isAggD, mkv, cond_false, List.headD_cons, gam]
      exact run_equalIn_int w (D + d) t _ _ _ _ htd
    case bool =>
      cases h
      obtain ⟨a, b, rfl, rfl, hl⟩ := leqs_one hr
      obtain ⟨x, y, rfl, rfl, rfl⟩ := leq_bool hl
      simp only [isAggD, mkv, cond_false, List.headD_cons, gam]
      exact run_equalIn_bool' w (D + d) t _ _ htd
    case string =>
      cases h
      obtain ⟨a, b, rfl, rfl, hl⟩ := leqs_one hr
      obtain ⟨x, y, rfl, rfl, rfl⟩ := leq_str hl
      simp only [isAggD, mkv, cond_false, List.headD_cons, gam]
      rw [show D + (d + 1) = (D + d) + 1 from rfl, run_equalIn_string w (D + d) t _ _ htd, ByteArray.toList_mk, ByteArray.toList_mk]
    case struct fs =>
      split at h
      · cases h
      · rename_i hst
        have hfo : P.fieldsOf t = fs := by simp [Program.fieldsOf, htd]
        simp only [isAggD, mkv, cond_true]
        rw [show D + (d + 1) = (D + d) + 1 from rfl, run_equalIn_struct w (D + d) t _ _ (by rw [hfo]; exact htd) (by simpa using hst), hfo]
        exact eqFields_ok (equal_ok d D) fs.toList 0 ks r h (by simpa using hr)
    case array n e =>
      split at h
      · rename_i k m hk hm
        split at h
        · rename_i hkl
          simp only [Option.some.injEq] at h
          subst h
          obtain ⟨tde, htde, _⟩ := leaves_under hk
          simp only [isAggD, mkv, cond_true]
          rw [show D + (d + 1) = (D + d) + 1 from rfl]
          simp only [Op.equalIn, Sem.run_bind, r_underlying htd, Result.andThen_ok, r_sizeOf hm]
          rw [Std.Legacy.Range.forIn_eq_forIn_range']
          simp only [Std.Legacy.Range.size, Nat.sub_zero, Nat.add_sub_cancel, Nat.div_one]
          obtain ⟨b, hb, hg⟩ := eqElems_ok (P := P) (w := w) (ι := ι) hk hm hkl htde (equal_ok d D)
            (fun i (__s : Option Bool × Unit) => do
              let __do_lift ← part e (gams ι l1).toArray (i * m)
              let __do_lift_1 ← part e (gams ι l2).toArray (i * m)
              let __do_lift ← Op.equalIn (D + d) e __do_lift __do_lift_1
              if (!__do_lift) = true then pure (ForInStep.done (some false, ())) else pure (ForInStep.yield (none, ())))
            (none, ()) (some false, ()) (fun b => match b.1 with | some r => r | none => true) rfl rfl
            (fun i b => by
              simp only [Sem.run_bind]
              generalize (part e (gams ι l1).toArray (i * m)).run P w = q1
              cases q1 with
              | halt h w' => rfl
              | ok x w1 =>
                simp only [Result.andThen_ok]
                generalize (part e (gams ι l2).toArray (i * m)).run P w1 = q2
                cases q2 with
                | halt h w' => rfl
                | ok y w2 =>
                  simp only [Result.andThen_ok]
                  generalize (Op.equalIn (D + d) e x y).run P w2 = q3
                  cases q3 with
                  | halt h w' => rfl
                  | ok z w3 => cases z <;> rfl) n 0 r (by simpa using hr)
          rw [hb]
          simp only [Result.andThen_ok]
          obtain ⟨b1, b2⟩ := b
          cases b1 <;> (simp only at hg; subst hg; rfl)
        · cases h
      · cases h


/-! ### Keys -/

theorem keyFields_ok {d D : Nat} {emp : Bool} {l : List AV}
    (ih : ∀ t ks td l, leaves P d t = some ks → P.underlying t = some td → leqs ks l l = some true → (Instr.checkKey emp (D + d) t (mkv ι (isAggD td) l)).run P w = .ok () w)
    {β : Type} (f : Field → β → Sem (ForInStep β)) (b0 : β)
    (hf : ∀ fl b, fl.name ≠ "_" → (f fl b).run P w = ((part fl.type (gams ι l).toArray fl.offset).run P w).andThen fun x w1 => ((Instr.checkKey emp (D + d) fl.type x).run P w1).andThen fun _ w3 => .ok (.yield b0) w3) :
    ∀ (fs : List Field) (off : Nat) (ks : List LT), leavesF (leaves P d) P fs off = some ks → leqs ks (l.drop off) (l.drop off) = some true →
      (forIn fs b0 f).run P w = .ok b0 w
  | [], off, ks, h, hr => by simp
  | fl :: fs, off, ks, h, hr => by
    simp only [leavesF] at h
    split at h
    · rename_i k n hk hn
      split at h
      · rename_i hc
        obtain ⟨hname, hoff, hkl⟩ := hc
        split at h
        · rename_i rest hrest
          simp only [Option.some.injEq] at h
          subst h
          obtain ⟨r1, r2, h1, h2, h3, h4, h5⟩ := leqs_split k rest _ _ true hr
          have hr12 : r1 = true ∧ r2 = true := Bool.and_eq_true_iff.1 h3.symm
          obtain ⟨rfl, rfl⟩ := hr12
          rw [List.length_drop] at h4
          obtain ⟨td, htd, hag⟩ := leaves_under hk
          subst hkl
          have hrun : (f fl b0).run P w = .ok (.yield b0) w := by
            rw [hf fl b0 hname]
            by_cases hk0 : k.length = 0
            · have hag' : isAggD td = true := by cases hq : isAggD td with | true => rfl | false => have := hag hq; omega
              rw [hoff, part_agg htd hag' hn, Result.andThen_ok, extract_gams]
              have e1 := ih fl.type k td _ hk htd h1
              rw [hag'] at e1
              simp only [mkv, cond_true] at e1
              rw [e1]; rfl
            · rw [hoff, part_mkv htd hn (by omega) hag, Result.andThen_ok, ih fl.type k td _ hk htd h1]; rfl
          simp only [List.forIn_cons, Sem.run_bind, hrun, Result.andThen_ok]
          exact keyFields_ok ih f b0 hf fs _ rest hrest (by rw [List.drop_drop] at h2; exact h2)
        · cases h
      · cases h
    · cases h

theorem keyElems_ok {d D n : Nat} {emp : Bool} {e : TypeId} {td : TypeDesc} {k : List LT} {l : List AV} (hk : leaves P d e = some k) (hn : tsize P e = some n) (hkl : k.length = n) (htd : P.underlying e = some td)
    (ih : ∀ t ks td l, leaves P d t = some ks → P.underlying t = some td → leqs ks l l = some true → (Instr.checkKey emp (D + d) t (mkv ι (isAggD td) l)).run P w = .ok () w)
    {β : Type} (f : Nat → β → Sem (ForInStep β)) (b0 : β)
    (hf : ∀ i b, (f i b).run P w = ((part e (gams ι l).toArray (i * n)).run P w).andThen fun x w1 => ((Instr.checkKey emp (D + d) e x).run P w1).andThen fun _ w3 => .ok (.yield b0) w3) :
    ∀ (m i : Nat), leqs (repL m k) (l.drop (i * n)) (l.drop (i * n)) = some true → (forIn (List.range' i m) b0 f).run P w = .ok b0 w
  | 0, i, hr => by simp
  | m + 1, i, hr => by
    simp only [repL] at hr
    obtain ⟨r1, r2, h1, h2, h3, h4, h5⟩ := leqs_split k _ _ _ true hr
    have hr12 : r1 = true ∧ r2 = true := Bool.and_eq_true_iff.1 h3.symm
    obtain ⟨rfl, rfl⟩ := hr12
    rw [List.length_drop] at h4
    obtain ⟨td', htd', hag⟩ := leaves_under hk
    rw [htd] at htd'; cases htd'
    have e1 := ih e k td _ hk htd h1
    have hrun : (f i b0).run P w = .ok (.yield b0) w := by
      rw [hf]
      by_cases hk0 : k.length = 0
      · have hag' : isAggD td = true := by cases hq : isAggD td with | true => rfl | false => have := hag hq; omega
        rw [part_agg htd hag' hn, Result.andThen_ok, extract_gams]
        rw [hag', hkl] at e1
        simp only [mkv, cond_true] at e1
        rw [e1]; rfl
      · rw [part_mkv htd hn (by omega) (by rw [← hkl]; exact hag), Result.andThen_ok]
        rw [hkl] at e1
        rw [e1]; rfl
    simp only [List.range'_succ, List.forIn_cons, Sem.run_bind, hrun, Result.andThen_ok]
    exact keyElems_ok hk hn hkl htd ih f b0 hf m (i + 1) (by
      rw [List.drop_drop] at h2
      rw [Nat.add_mul, Nat.one_mul, ← hkl]; rw [← hkl] at h2; exact h2)

theorem checkKey_ok {emp : Bool} : ∀ (d D : Nat) (t : TypeId) (ks : List LT) (td : TypeDesc) (l : List AV), leaves P d t = some ks → P.underlying t = some td → leqs ks l l = some true →
    (Instr.checkKey emp (D + d) t (mkv ι (isAggD td) l)).run P w = .ok () w
  | 0, _, _, _, _, _, h, _, _ => by simp [leaves] at h
  | d + 1, D, t, ks, td, l, h, htd, hr => by
    simp only [leaves] at h
    rw [htd] at h
    rw [show D + (d + 1) = (D + d) + 1 from rfl]
    cases td <;> simp only [reduceCtorEq] at h
    case int k => simp only [Instr.checkKey, Sem.run_bind, r_underlying htd, Result.andThen_ok, isAggD, mkv, cond_false]; cases gam ι (l.headD .top) <;> rfl
    case bool => simp only [Instr.checkKey, Sem.run_bind, r_underlying htd, Result.andThen_ok, isAggD, mkv, cond_false]; cases gam ι (l.headD .top) <;> rfl
    case string => simp only [Instr.checkKey, Sem.run_bind, r_underlying htd, Result.andThen_ok, isAggD, mkv, cond_false]; cases gam ι (l.headD .top) <;> rfl
    case struct fs =>
      split at h
      · cases h
      · simp only [Instr.checkKey, Sem.run_bind, r_underlying htd, Result.andThen_ok, isAggD, mkv, cond_true]
        rw [← Array.forIn_toList]
        have := keyFields_ok (P := P) (w := w) (ι := ι) (emp := emp) (l := l) (checkKey_ok d D)
          (fun f (__s : PUnit) =>
            if f.name ≠ "_" then do
              let __do_lift ← part f.type (gams ι l).toArray f.offset
              Instr.checkKey emp (D + d) f.type __do_lift
              pure (ForInStep.yield PUnit.unit)
            else pure (ForInStep.yield PUnit.unit)) PUnit.unit
          (fun fl b hn => by
            simp only [hn, ne_eq, not_false_eq_true, if_true, Sem.run_bind]
            generalize (part fl.type (gams ι l).toArray fl.offset).run P w = q
            cases q with
            | ok x w1 =>
              simp only [Result.andThen_ok]
              generalize (Instr.checkKey emp (D + d) fl.type x).run P w1 = q2
              cases q2 <;> rfl
            | halt _ _ => rfl) fs.toList 0 ks h (by simpa using hr)
        rw [this]; rfl
    case array n e =>
      split at h
      · rename_i k m hk hm
        split at h
        · rename_i hkl
          simp only [Option.some.injEq] at h
          subst h
          obtain ⟨tde, htde, _⟩ := leaves_under hk
          simp only [Instr.checkKey, Sem.run_bind, r_underlying htd, Result.andThen_ok, isAggD, mkv, cond_true, r_sizeOf hm]
          rw [Std.Legacy.Range.forIn_eq_forIn_range']
          simp only [Std.Legacy.Range.size, Nat.sub_zero, Nat.add_sub_cancel, Nat.div_one]
          have := keyElems_ok (P := P) (w := w) (ι := ι) (emp := emp) (l := l) hk hm hkl htde (checkKey_ok d D)
            (fun i (__s : PUnit) => do
              let __do_lift ← sizeOf e
              let __do_lift ← part e (gams ι l).toArray (i * __do_lift)
              Instr.checkKey emp (D + d) e __do_lift
              pure (ForInStep.yield PUnit.unit)) PUnit.unit
            (fun i b => by
              simp only [Sem.run_bind, r_sizeOf hm, Result.andThen_ok]
              generalize (part e (gams ι l).toArray (i * m)).run P w = q
              cases q with
              | ok x w1 =>
                simp only [Result.andThen_ok]
                generalize (Instr.checkKey emp (D + d) e x).run P w1 = q2
                cases q2 <;> rfl
              | halt _ _ => rfl) n 0 (by simpa using hr)
          rw [this]; rfl
        · cases h
      · cases h


/-- A key's value by its cells. -/
theorem keq_cells {ks : List LT} {agg : Bool} {x y : AV} {r : Bool} (h : keq ks agg x y = some r) :
    ∃ l1 l2, leqs ks l1 l2 = some r ∧ (∀ ι, mkv ι agg l1 = gam ι x) ∧ (∀ ι, mkv ι agg l2 = gam ι y) := by
  unfold keq at h
  split at h
  · rename_i l l' e1 e2 e3; exact ⟨_, _, h, fun _ => rfl, fun _ => rfl⟩
  · exact ⟨_, _, h, fun _ => rfl, fun _ => rfl⟩
  · cases h

theorem keq_equal {ks : List LT} {td : TypeDesc} {t : TypeId} {x y : AV} {r : Bool} (hk : leaves P 20 t = some ks) (ht : P.underlying t = some td) (h : keq ks (isAggD td) x y = some r) :
    (Op.equal t (gam ι x) (gam ι y)).run P w = .ok r w := by
  obtain ⟨l1, l2, hl, e1, e2⟩ := keq_cells h
  rw [← e1 ι, ← e2 ι]
  exact equal_ok 20 9980 t ks td l1 l2 r hk ht hl

theorem leq_true {k : LT} {a b : AV} (h : leq k a b = some true) : a = b ∧ ∀ n, Instr.sameBits n (gam ι a) (gam ι a) = true := by
  cases k
  · obtain ⟨k, x, y, rfl, rfl, e⟩ := leq_int h
    have := eq_of_beq e.symm; subst this
    exact ⟨rfl, fun n => by cases n <;> simp [gam, Instr.sameBits]⟩
  · obtain ⟨x, y, rfl, rfl, e⟩ := leq_bool h
    have := eq_of_beq e.symm; subst this
    exact ⟨rfl, fun n => by cases n <;> simp [gam, Instr.sameBits]⟩
  · obtain ⟨x, y, rfl, rfl, e⟩ := leq_str h
    have := eq_of_beq e.symm; subst this
    exact ⟨rfl, fun n => by cases n <;> simp [gam, Instr.sameBits, beq_toListBytes]⟩

theorem leqs_true : ∀ {ks : List LT} {a b : List AV}, leqs ks a b = some true → a = b ∧ ∀ n, ∀ x ∈ a, Instr.sameBits n (gam ι x) (gam ι x) = true
  | [], [], [], _ => ⟨rfl, fun _ _ h => by cases h⟩
  | [], [], _ :: _, h => by simp [leqs] at h
  | [], _ :: _, _, h => by simp [leqs] at h
  | _ :: _, [], _, h => by simp [leqs] at h
  | _ :: _, _ :: _, [], h => by simp [leqs] at h
  | k :: ks, x :: a, y :: b, h => by
    simp only [leqs] at h
    split at h
    · rename_i u v hu hv
      simp only [Option.some.injEq] at h
      obtain ⟨rfl, rfl⟩ := Bool.and_eq_true_iff.1 h
      obtain ⟨rfl, h1⟩ := leq_true (ι := ι) hu
      obtain ⟨rfl, h2⟩ := leqs_true hv
      refine ⟨rfl, fun n z hz => ?_⟩
      rcases List.mem_cons.1 hz with rfl | hz
      · exact h1 n
      · exact h2 n z hz
    · cases h

theorem keq_true {ks : List LT} {agg : Bool} {x y : AV} (h : keq ks agg x y = some true) : x = y ∧ ∀ n, Instr.sameBits (n + 1) (gam ι x) (gam ι x) = true := by
  unfold keq at h
  split at h
  · rename_i l l'
    obtain ⟨rfl, h2⟩ := leqs_true (ι := ι) h
    refine ⟨rfl, fun n => ?_⟩
    simp only [gam, Instr.sameBits, beq_self_eq_true, Bool.true_and, List.all_eq_true]
    rintro ⟨p, q⟩ hpq
    have : p = q ∧ p ∈ gams ι l := by
      rw [gams_map] at hpq ⊢
      have := List.of_mem_zip hpq
      have hz : ∀ (L : List Value) (p q : Value), (p, q) ∈ L.zip L → p = q := by
        intro L; induction L with
        | nil => intro p q h; cases h
        | cons a L ih => intro p q h; rcases List.mem_cons.1 h with h | h; cases h; rfl; exact ih p q h
      exact ⟨hz _ p q hpq, this.1⟩
    obtain ⟨rfl, hp⟩ := this
    rw [gams_map] at hp
    obtain ⟨z, hz, rfl⟩ := List.mem_map.1 hp
    exact h2 n z hz
  · obtain ⟨e, h2⟩ := leqs_true (ι := ι) h
    simp only [List.cons.injEq, and_true] at e
    exact ⟨e, fun n => h2 _ _ (by simp)⟩
  · cases h

theorem leaves_flat {d : Nat} {ks : List LT} {td : TypeDesc} {t : TypeId} (hk : leaves P d t = some ks) (ht : P.underlying t = some td) (hag : isAggD td = false) :
    ((∃ k, td = .int k) ∧ ks = [.int]) ∨ (td = .bool ∧ ks = [.bool]) ∨ (td = .string ∧ ks = [.str]) := by
  cases d with
  | zero => simp [leaves] at hk
  | succ d =>
    simp only [leaves] at hk
    rw [ht] at hk
    cases td <;> simp only [reduceCtorEq, Option.some.injEq] at hk
    case int k => exact .inl ⟨⟨k, rfl⟩, hk.symm⟩
    case bool => exact .inr (.inl ⟨rfl, hk.symm⟩)
    case string => exact .inr (.inr ⟨rfl, hk.symm⟩)
    case struct => simp [isAggD] at hag
    case array => simp [isAggD] at hag

/-- The search for a key. -/
theorem findAsking_ok {ks : List LT} {td : TypeDesc} {t : TypeId} {k : AV} (hk : leaves P 20 t = some ks) (ht : P.underlying t = some td) :
    ∀ (es : List AE) (i : Nat) (r : Option (Nat × AE)), findK ks (isAggD td) k es i = some r →
      (Instr.findAsking t (gam ι k) (es.map (gamE ι)) i).run P w = .ok (r.map fun p => (p.1, gam ι p.2.val)) w
  | [], i, r, h => by simp only [findK, Option.some.injEq] at h; subst h; rfl
  | e :: es, i, r, h => by
    simp only [findK] at h
    simp only [List.map_cons, Instr.findAsking, Sem.run_bind]
    split at h
    · rename_i hq
      simp only [Option.some.injEq] at h
      subst h
      have : (Op.equal t (gam ι k) (gamE ι e).key).run P w = .ok true w := keq_equal hk ht hq
      rw [this]; rfl
    · rename_i hq
      have : (Op.equal t (gam ι k) (gamE ι e).key).run P w = .ok false w := keq_equal hk ht hq
      rw [this]
      exact findAsking_ok hk ht es (i + 1) r h
    · cases h

theorem findNow_ok {ks : List LT} {td : TypeDesc} {t : TypeId} {k : AV} (hk : leaves P 20 t = some ks) (ht : P.underlying t = some td) (hag : isAggD td = false) :
    ∀ (es : List AE) (i : Nat) (r : Option (Nat × AE)), findK ks (isAggD td) k es i = some r →
      Instr.findNow td (gam ι k) (es.map (gamE ι)) i = some (r.map fun p => (p.1, gam ι p.2.val))
  | [], i, r, h => by simp only [findK, Option.some.injEq] at h; subst h; rfl
  | e :: es, i, r, h => by
    simp only [findK] at h
    simp only [List.map_cons, Instr.findNow]
    have key : ∀ b, keq ks (isAggD td) k e.key = some b → Instr.sameNow td (gam ι k) (gamE ι e).key = some b := by
      intro b hb
      rw [hag] at hb
      simp only [keq] at hb
      rcases leaves_flat hk ht hag with ⟨⟨k0, rfl⟩, rfl⟩ | ⟨rfl, rfl⟩ | ⟨rfl, rfl⟩
      · obtain ⟨k', x, y, e1, e2, rfl⟩ := leq_int (leq_one hb); simp [gamE, e1, e2, gam, Instr.sameNow]
      · obtain ⟨x, y, e1, e2, rfl⟩ := leq_bool (leq_one hb); simp [gamE, e1, e2, gam, Instr.sameNow]
      · obtain ⟨x, y, e1, e2, rfl⟩ := leq_str (leq_one hb); simp [gamE, e1, e2, gam, Instr.sameNow, beq_toListBytes]
    split at h
    · rename_i hq
      simp only [Option.some.injEq] at h
      subst h
      rw [key _ hq]; rfl
    · rename_i hq
      rw [key _ hq]
      exact findNow_ok hk ht hag es (i + 1) r h
    · cases h

theorem findKey_ok {ks : List LT} {td : TypeDesc} {t : TypeId} {k : AV} (hk : leaves P 20 t = some ks) (ht : P.underlying t = some td) {es : List AE} {r : Option (Nat × AE)}
    (h : findK ks (isAggD td) k es 0 = some r) : (Instr.findKey t (gam ι k) (es.map (gamE ι))).run P w = .ok (r.map fun p => (p.1, gam ι p.2.val)) w := by
  simp only [Instr.findKey, Sem.run_bind, r_underlying ht, Result.andThen_ok]
  cases hag : isAggD td with
  | false => rw [findNow_ok hk ht hag es 0 r h]; rfl
  | true =>
    cases es with
    | nil => simp only [findK, Option.some.injEq] at h; subst h; rfl
    | cons e es =>
      have : Instr.findNow td (gam ι k) ((e :: es).map (gamE ι)) 0 = none := by
        simp only [List.map_cons, Instr.findNow]
        have : Instr.sameNow td (gam ι k) (gamE ι e).key = none := by cases td <;> simp [isAggD] at hag <;> rfl
        rw [this]
      rw [this]
      exact findAsking_ok hk ht (e :: es) 0 r h

theorem findK_some {ks : List LT} {agg : Bool} {k : AV} : ∀ (es : List AE) (i : Nat) (j : Nat) (e : AE), findK ks agg k es i = some (some (j, e)) → i ≤ j ∧ es[j - i]? = some e ∧ keq ks agg k e.key = some true
  | [], i, j, e, h => by simp [findK] at h
  | x :: es, i, j, e, h => by
    simp only [findK] at h
    split at h
    · rename_i hq
      simp only [Option.some.injEq, Prod.mk.injEq] at h
      obtain ⟨rfl, rfl⟩ := h
      exact ⟨Nat.le_refl _, by simp, hq⟩
    · obtain ⟨h1, h2, h3⟩ := findK_some es (i + 1) j e h
      refine ⟨by omega, ?_, h3⟩
      rw [show j - i = (j - (i + 1)) + 1 from by omega]
      simpa using h2
    · cases h

end
end Go.Am

/- The abstract machine's operations are the model's: slices of slices; all together. -/
import Derived.Test.YtabenjpidndpeaaAmSound6
namespace Go.Am
set_option linter.unusedVariables false
set_option linter.unusedSimpArgs false

section
variable {P : Program} {X : Ctx} {ι : Nat → Loc} {s : St} {a : Act} {w : World} {o : Oper} {v : AV} {hp' : List AO}

/-- A number of a block of which nothing is told. -/
theorem Ok.dead (h : Ok X ι s a w) (l : Loc) : Ok X (Am.put ι s.hp.length l) ⟨s.env, s.hp ++ [.dead]⟩ a w := by
  have old : ∀ {j c}, At (Am.put ι s.hp.length l) (s.hp ++ [.dead]) j c → j < s.hp.length := by
    rintro j c ⟨x, hx, hl, _⟩
    rcases Nat.lt_or_ge j s.hp.length with hj | hj
    · exact hj
    · have : j = s.hp.length := by
        have := (List.getElem?_eq_some_iff.1 hx).1
        simp at this; omega
      subst this
      rw [List.getElem?_concat_length] at hx
      cases hx; cases hl
  refine h.mem put_lt (by simp) ⟨fun j x hx => ?_, fun i j c hi hj => ?_⟩ ?_ h.world
  · rw [List.length_append, List.length_singleton]
    rcases Nat.lt_or_ge j s.hp.length with hj | hj
    · rw [List.getElem?_append_left hj] at hx
      obtain ⟨h1, h2⟩ := h.heap.rel j x hx
      rw [← put_lt j hj]
      exact ⟨AO.under_mono (by omega) _ h1, h2.keep h1 put_lt fun _ _ => rfl⟩
    · have : j = s.hp.length := by
        have := (List.getElem?_eq_some_iff.1 hx).1
        simp at this; omega
      subst this
      rw [List.getElem?_concat_length] at hx
      cases hx
      exact ⟨trivial, trivial⟩
  · have h1 := old hi.at_
    have h2 := old hj
    obtain ⟨x, hx, hw, hn, hb⟩ := hi
    obtain ⟨y, hy, hw2, hn2, hb2⟩ := hj
    rw [List.getElem?_append_left h1] at hx
    rw [List.getElem?_append_left h2] at hy
    rw [← put_lt i h1] at hn hb
    rw [← put_lt j h2] at hn2 hb2
    exact h.heap.inj i j c ⟨x, hx, hw, hn, hb⟩ ⟨y, hy, hw2, hn2, hb2⟩
  · rintro j c hj
    have h1 := old hj.at_
    obtain ⟨x, hx, hw, hn, hb⟩ := hj
    rw [List.getElem?_append_left h1] at hx
    rw [← put_lt j h1] at hn hb
    exact h.dom j c ⟨x, hx, hw, hn, hb⟩

theorem cap_ok (hok : Ok X ι s a w) {b off len c size : Nat} {ex : Bool} {r : List AV} (hr : rd s.hp b = some r) (hlen : off + len * size ≤ r.length) (h : capOk s.hp b off len ex c size = true) :
    len ≤ cond ex c ((ι b).cap - c) := by
  cases ex with
  | true => simpa [capOk] using h
  | false =>
    simp only [capOk, cond_false] at h ⊢
    split at h
    · rename_i sz l hb
      simp only [decide_eq_true_eq] at h
      obtain ⟨rfl, rfl, h1⟩ := h
      obtain ⟨_, h2⟩ := hok.heap.rel _ _ hb
      simp only [rd, hb, Option.some.injEq] at hr
      subst hr
      rcases h2 with ⟨_, hc0, rfl⟩ | ⟨_, blk, cc, ty, fz, exx, _, _, hc, _, hcs⟩
      · simp only [List.length_nil, Nat.le_zero, Nat.add_eq_zero_iff, Nat.mul_eq_zero] at hlen
        omega
      · have hcl : cc.size = l.length + exx.length := by rw [← Array.length_toList, hc, List.length_append, gams_length]
        have : (c + len) * sz ≤ (ι b).cap * sz := by rw [Nat.add_mul, hcs]; omega
        have := Nat.le_of_mul_le_mul_right this (by omega)
        omega
    · cases h

theorem ok_reslc (hok : Ok X ι s a w) {t e : TypeId} {n : Nat} {x : Operand} {lo hi : Option Operand} (ho : o.op = .slice t x lo hi none) (ht : P.underlying t = some (.slice e)) (hn : tsize P e = some n)
    (hs : astep s.env s.hp (.reslc n (Opd.of x) (lo.map Opd.of) (hi.map Opd.of)) = some (v, hp')) : Res X s a ((execOp a.eval o).run P w) v hp' := by
  simp only [astep] at hs
  split at hs
  · rename_i b off len ex c hx
    split at hs
    · rename_i r hr
      split at hs
      · rename_i l h hl
        obtain ⟨⟨hlen, hcap⟩, hs⟩ := chk_some hs
        obtain ⟨hbu, h1⟩ := ev_eq hok hx (by simp)
        have hcl := cap_ok hok hr hlen hcap
        obtain ⟨hlim, hlh, hh, _⟩ := lim_ok (P := P) (cap' := cond ex c ((ι b).cap - c)) hok true hcl hl (Nat.le_refl _)
        have run : (execOp a.eval o).run P w = .ok (.value (.slice (if cond ex c ((ι b).cap - c) = l then cond (ι b).null none (some ((ι b).addr.add off)) else (cond (ι b).null none (some ((ι b).addr.add off))).map (·.add (l * n))) (h - l) (cond ex c ((ι b).cap - c) - l))) w := by
          unfold execOp; rw [ho]
          simp only [h1, gam, Instr.sliceAt, Sem.run_bind, r_underlying ht, Result.andThen_ok, Instr.slice, Option.map_none, hlim, r_sizeOf hn, Sem.run_pure]
        split at hs
        · rename_i hc
          simp only [Option.some.injEq, Prod.mk.injEq] at hs
          obtain ⟨rfl, rfl⟩ := hs
          rw [run]
          refine Res.same hok fun _ => ⟨hbu, ?_⟩
          simp only [gam]
          congr 1
          · rcases hc with rfl | hc
            · cases (ι b).null <;> simp [Addr.add_zero]
            · rw [if_neg (by omega)]
              cases (ι b).null <;> simp [Addr.add_add]
          · cases ex <;> simp only [cond_true, cond_false]; omega
        · rename_i hc
          simp only [Option.some.injEq, Prod.mk.injEq] at hs
          obtain ⟨rfl, rfl⟩ := hs
          rw [run]
          refine ⟨_, _, _, .inl rfl, fun _ => ⟨by simp [AV.under], ?_⟩, hok.dead ⟨if cond ex c ((ι b).cap - c) = l then (ι b).addr.add off else ((ι b).addr.add off).add (l * n), (ι b).null, cond ex c ((ι b).cap - c) - l⟩⟩
          have e0 : h - l = 0 := by omega
          simp only [gam, put_self, e0, Nat.sub_zero, cond_false, Addr.add_zero]
          congr 1
          cases (ι b).null <;> simp
          split <;> rfl
      · cases hs
    · cases hs
  · cases hs

end
end Go.Am

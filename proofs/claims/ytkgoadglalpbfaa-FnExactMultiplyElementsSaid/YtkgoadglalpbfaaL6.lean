/- Contracts: stack.follow as a callee. -/
import Derived.Test.YtkgoadglalpbfaaL5
namespace Go.Proofs.Ytkgoadglalpbfaa
open Go.Am Go.Dia
open Nat renaming reduceAdd → nA, reduceMul → nM, reduceSub → nS, reduceEqDiff → nE, reduceLT → nL, reduceLeDiff → nD, reduceBEq → nB
open Int renaming reduceEq → iE, reduceNe → iN, reduceBEq → iB, reduceBNe → iC, reduceLT → iL, reduceLE → iD, reduceAdd → iA, reduceSub → iS, reduceMul → iM
set_option linter.unusedSimpArgs false
set_option linter.unusedVariables false
set_option maxRecDepth 4000
set_option maxHeartbeats 1000000
def qiu : List AV → Option (Nat × Nat × List Bool)
  | .ptr a 0 :: .ptr b 0 :: rest => match Jv (rest.take 8), rest.drop 8 with
    | some met, [.fn 145 [] []] => chk (met.length = 8) (some (a, b, met))
    | _, _ => none
  | _ => none
theorem qax {a b : Nat} {met : List Bool} (h : met.length = 8) : qiu (stk a b met) = some (a, b, met) := by
  have h1 : (bls met).length = 8 := by rw [wg, h]
  have h2 : List.take 8 (bls met ++ [.fn 145 [] []]) = bls met := List.take_left' h1
  have h3 : List.drop 8 (bls met ++ [.fn 145 [] []]) = [.fn 145 [] []] := List.drop_left' h1
  simp only [stk, qiu, h2, h3, Uh, chk, h, if_true]
theorem qlr {l : List AV} {a b : Nat} {met : List Bool} (h : qiu l = some (a, b, met)) : l = stk a b met ∧ met.length = 8 := by
  unfold qiu at h
  split at h
  · rename_i a' b' rest
    split at h
    · rename_i met' h1 h2
      obtain ⟨h3, h4⟩ := qm h
      simp only [Option.some.injEq, Prod.mk.injEq] at h4
      obtain ⟨rfl, rfl, rfl⟩ := h4
      refine ⟨?_, h3⟩
      have h5 := Wh h1
      conv => lhs; rw [← List.take_append_drop 8 rest, h5, h2]
      rfl
    · cases h
  · cases h
def rdD (hp : List AO) (b : Nat) : Option (Int × List Nat) := match rd hp b with
  | some L => bg (L.take 17)
  | none => none
open Classical in
noncomputable def bc : BE := fun hp xs => match xs with
  | [.ptr b 0, .bool w, .int .i64 i, .int .i64 st] => match hp[b]? with
    | some (.cells l) => match qiu l with
      | some (b1, b2, met) => match rdD hp b1, rdD hp b2 with
        | some (n, d), some (n', e) => chk ((n' = n ∧ 0 ≤ n) ∧ (isS n.toNat d = true ∧ isS n.toNat e = true) ∧ b1 ≠ b ∧ b2 ≠ b)
          (if st = -1 then chk ((0 ≤ i ∧ i < 2 * n) ∧ w = decide (n ≤ i)) (some (.int .i64 (pr n.toNat d e i.toNat : Nat), hp.set b (.cells (stk b1 b2 (fol n.toNat d e (!w) i.toNat met)))))
          else chk ((st = i ∧ w = true ∧ 0 ≤ i ∧ i < n) ∧ (∀ x, mt met x ↔ Seen n.toNat d e i.toNat x) ∧ ¬ Seen n.toNat d e i.toNat i.toNat) (some (.int .i64 (-1), hp.set b (.cells (stk b1 b2 (Yu n.toNat d e i.toNat met))))))
        | _, _ => none
      | none => none
    | _ => none
  | _ => none
open Classical in
theorem qpw : Am.Callee Try.prog 155 bc := Callee.fp fun hp xs v hp' he => by
  unfold bc at he
  split at he
  · rename_i b w i st
    split at he
    · rename_i l hb
      split at he
      · rename_i b1 b2 met hs1
        obtain ⟨rfl, hm⟩ := qlr hs1
        split at he
        · rename_i n d n' e hd1 he1
          obtain ⟨⟨⟨a1, a2⟩, ⟨a3, a4⟩, a5, a6⟩, he2⟩ := qm he
          subst a1
          obtain ⟨N, rfl⟩ : ∃ N : Nat, n' = N := ⟨n'.toNat, by omega⟩
          simp only [Int.toNat_natCast] at a3 a4 he2
          have rdd : ∀ {b : Nat} {m : List Nat}, rdD hp b = some ((N : Int), m) → okD m ∧ Fits hp (ofL [(b, 0)]) b 0 (.ro (dia N m)) ∧ ∃ L, rd hp b = some L ∧ 17 ≤ L.length ∧ L.take 17 = dia N m := fun {b m} h => by
            unfold rdD at h
            split at h
            · rename_i L hL
              obtain ⟨e1, hok⟩ := xa h
              have hlen : (dia (N : Int) m).length = 17 := by rw [qe, hok.1]
              have hLl : 17 ≤ L.length := by
                have := congrArg List.length e1
                rw [hlen, List.length_take] at this
                omega
              exact ⟨hok, ⟨L, hL, by rw [hlen]; omega, by rw [List.drop_zero, qd _ _ (qh _ _), hlen]; exact e1⟩, L, hL, hLl, e1⟩
            · cases h
          obtain ⟨hd, _, L1, r1, r2, r3⟩ := rdd hd1
          obtain ⟨he', _, L2, q1, q2, q3⟩ := rdd he1
          have hlen : ∀ {m : List Nat}, okD m → (dia (N : Int) m).length = 17 := fun h => by rw [qe, h.1]
          have hfit : Yx hp (ofL [(b, 0), (b1, 0), (b2, 0)]) [(b, 0), (b1, 0), (b2, 0)] (H3 N d e met) :=
            ⟨⟨rfl, by rw [hb]; simp only [AO.ren, Vw]; simp [AV.ren, ofL, stk]⟩, ⟨L1, r1, by rw [hlen hd]; omega, by rw [List.drop_zero, qd _ _ (qh _ _), hlen hd]; exact r3⟩, ⟨L2, q1, by rw [hlen he']; omega, by rw [List.drop_zero, qd _ _ (qh _ _), hlen he']; exact q3⟩, trivial⟩
          have hap : ∀ met, Jk [(b, 0), (b1, 0), (b2, 0)] (H3 N d e met) = true := fun met => by simp [Jk, H3, AO.wr, a5, a6]
          have hun : ∀ met, AO.G7 3 (H3 N d e met) := fun met => ⟨qfj (by omega) (by omega), qk _ _ (qh _ _), qk _ _ (qh _ _), trivial⟩
          split at he2
          · rename_i hst
            subst hst
            obtain ⟨⟨⟨c1, c2⟩, c3⟩, he3⟩ := qm he2
            simp only [Option.some.injEq, Prod.mk.injEq] at he3
            obtain ⟨rfl, rfl⟩ := he3
            obtain ⟨k, rfl⟩ : ∃ k : Nat, i = k := ⟨i.toNat, by omega⟩
            simp only [Int.toNat_natCast]
            have hw : w = !decide (k < N) := by
              rw [c3, Bool.eq_iff_iff]; simp
            obtain ⟨f, met', hf⟩ := Vf a3 a4 (i := k) (by omega) met
            have hfo := qd1 hf
            subst hw
            rw [Bool.not_not, hfo]
            refine ⟨[(b, 0), (b1, 0), (b2, 0)], [.ptr 0 0, .bool (!decide (k < N)), .int .i64 k, .int .i64 (-1)], H3 N d e met, _, _, qmw N d e hd he' a3 a4 hf (by omega) hm, by simp [AV.ren, AV.zt, ofL], by simp [wh], hfit, hap met, hun met, ⟨by simp [AV.under, H3], trivial, trivial, trivial, trivial⟩, by simp [AV.ren, AV.zt], ?_⟩
            simp [after, upd, AO.wr, AO.ren, H3, Vw, AV.ren, qd _ _ (qh _ _)]
            simp [Ren.ext, ofL, stk]
          · obtain ⟨⟨⟨c1, c2, c3, c4⟩, c5, c6⟩, he3⟩ := qm he2
            simp only [Option.some.injEq, Prod.mk.injEq] at he3
            obtain ⟨rfl, rfl⟩ := he3
            subst c1; subst c2
            obtain ⟨k, rfl⟩ : ∃ k : Nat, st = k := ⟨st.toNat, by omega⟩
            simp only [Int.toNat_natCast] at c5 c6 ⊢
            refine ⟨[(b, 0), (b1, 0), (b2, 0)], [.ptr 0 0, .bool true, .int .i64 k, .int .i64 k], H3 N d e met, _, _, qlq N d e hd he' a3 a4 (by omega) hm c5 c6, by simp [AV.ren, AV.zt, ofL], by simp [wh], hfit, hap met, hun met, ⟨by simp [AV.under, H3], trivial, trivial, trivial, trivial⟩, by simp [AV.ren, AV.zt], ?_⟩
            simp [after, upd, AO.wr, AO.ren, H3, Vw, AV.ren, qd _ _ (qh _ _)]
            simp [Ren.ext, ofL, stk]
        · cases he
      · cases he
    · cases he
  · cases he
noncomputable def B83 : z7 := (B82.put 155 (bc))
theorem qh3 : ze Try.prog B83 := (qcy.put (qpw))
end Go.Proofs.Ytkgoadglalpbfaa

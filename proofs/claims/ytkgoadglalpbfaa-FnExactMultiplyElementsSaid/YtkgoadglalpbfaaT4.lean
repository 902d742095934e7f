/- Two elements that a law is handed, off their readings. -/
import Derived.Test.YtkgoadglalpbfaaK5
import Derived.Test.YtkgoadglalpbfaaT2
namespace Go.Proofs.Ytkgoadglalpbfaa
open Go.Am Go.Dia Go.ChangeShapes
open Nat renaming reduceAdd → nA, reduceMul → nM, reduceSub → nS, reduceEqDiff → nE, reduceLT → nL, reduceLeDiff → nD, reduceBEq → nB
open Int renaming reduceEq → iE, reduceNe → iN, reduceBEq → iB, reduceBNe → iC, reduceLT → iL, reduceLE → iD, reduceAdd → iA, reduceSub → iS, reduceMul → iM
set_option linter.unusedSimpArgs false
set_option linter.unusedVariables false
set_option maxRecDepth 4000
set_option maxHeartbeats 1000000
theorem qir {ι ι' : Nat → Am.Loc} {heap : Array Obj} {l : Am.Loc} {H : List AO} {X : AV} {ts : List (Int × List Nat × Int)} (hX : K5 H X ts) {o : AO} (ho : o ∈ H) (h : kl ι heap l o) : kl ι' heap l o := by
  rcases hX.2 with ⟨_, rfl, _⟩ | ⟨_, rfl, _⟩ | ⟨all, _, _, _, rfl, _⟩
  · cases ho
  · rw [List.mem_singleton] at ho; subst ho; trivial
  · rw [List.mem_singleton] at ho; subst ho
    rcases h with h | ⟨hn, blk, off, c, ty, fz, pre, ex, ha, h1, h2, h3⟩
    · exact .inl h
    · refine .inr ⟨hn, blk, off, c, ty, fz, pre, ex, ha, h1, h2, ?_⟩
      rw [h3, va (ι := ι) (ι' := ι') (n := 0) (fun j hj => by omega) _ (qk _ _ (qa _))]
theorem qfl {H : List AO} {X : AV} {ts : List (Int × List Nat × Int)} (hX : K5 H X ts) : (H = [] ∧ X = .v (.slice none 0 0) ∧ ts = []) ∨ ∃ (o : AO) (n c : Nat), H = [o] ∧ X = .slc 0 0 n true c ∧ (∀ ids, o.within ids = true) ∧ (∀ ρ, o.ren ρ = o) ∧ (∀ n, o.under n) ∧ ∀ hp : List AO, Zt (hp ++ [o]) (.slc hp.length 0 n true c) = some ts ∧ ∀ rest, Zt (hp ++ o :: rest) (.slc hp.length 0 n true c) = some ts := by
  have ha := qcp hX
  rcases hX.2 with ⟨rfl, rfl, rfl⟩ | ⟨rfl, rfl, rfl⟩ | ⟨all, cap, rfl, hc, rfl, hall, _⟩
  · exact .inl ⟨rfl, rfl, rfl⟩
  · refine .inr ⟨_, _, _, rfl, rfl, fun ids => rfl, fun ρ => rfl, fun n => trivial, fun hp => ⟨?_, fun rest => ?_⟩⟩
    · simp [Zt]
    · simp [Zt]
  · have h1 : ∀ hp rest : List AO, Zt (hp ++ .ro (qq all) :: rest) (.slc hp.length 0 ts.length true cap) = some ts := fun hp rest => by
      rw [← ha []]
      simp [Zt]
    refine .inr ⟨_, _, _, rfl, rfl, fun ids => qc _ _ (qa _), fun ρ => by simp only [AO.ren, qd _ _ (qa _)], fun n => qk _ _ (qa _), fun hp => ⟨h1 hp [], fun rest => h1 hp rest⟩⟩
theorem qt1 {H1 H2 : List AO} {X Y : AV} {ts us : List (Int × List Nat × Int)} {heap : Array Obj} {l1 l2 : Am.Loc} (hX : K5 H1 X ts) (hY : K5 H2 Y us)
    (h1 : ∀ o ∈ H1, kl (fun _ => l1) heap l1 o ∧ o.wr = false) (h2 : ∀ o ∈ H2, kl (fun _ => l2) heap l2 o ∧ o.wr = false) :
    ∃ (Y' : AV) (ι : Nat → Am.Loc), qog (H1 ++ H2) X Y' ts us ∧ (∀ o ∈ H1 ++ H2, o.wr = false) ∧ HOk ι (H1 ++ H2) heap ∧ (∀ p c n : Int, gam (fun _ => l1) (.agg [.int .i64 p, .int .i64 c, .int .i64 n, X]) = gam ι (.agg [.int .i64 p, .int .i64 c, .int .i64 n, X])) ∧
      ∀ p c n : Int, gam (fun _ => l2) (.agg [.int .i64 p, .int .i64 c, .int .i64 n, Y]) = gam ι (.agg [.int .i64 p, .int .i64 c, .int .i64 n, Y']) := by
  have hw : ∀ o ∈ H1 ++ H2, o.wr = false := fun o ho => by
    rcases List.mem_append.1 ho with h | h
    · exact (h1 o h).2
    · exact (h2 o h).2
  have hinj : ∀ (ι : Nat → Am.Loc) (i j b : Nat), AtW ι (H1 ++ H2) i b → At ι (H1 ++ H2) j b → i = j := fun ι i j b hi _ => by
    obtain ⟨o, ho, hw', _⟩ := hi
    rw [hw o (List.mem_of_getElem? ho)] at hw'; cases hw'
  have a1 : ∀ o ∈ H1, ∀ ι', kl ι' heap l1 o := fun o ho ι' => qir hX ho (h1 o ho).1
  have a2 : ∀ o ∈ H2, ∀ ι', kl ι' heap l2 o := fun o ho ι' => qir hY ho (h2 o ho).1
  have hokX := hX.1
  have hokY := hY.1
  rcases qfl hX with ⟨rfl, rfl, rfl⟩ | ⟨o, nx, cx, rfl, rfl, k1, k2, k3, k4⟩ <;> rcases qfl hY with ⟨rfl, rfl, rfl⟩ | ⟨o', ny, cy, rfl, rfl, q1, q2, q3, q4⟩
  · refine ⟨.v (.slice none 0 0), fun _ => l1, ⟨fun rest => rfl, fun rest => rfl, ⟨hokX, hokY⟩, fun j o h => (by simp at h), ⟨trivial, trivial⟩, .inl ⟨rfl, rfl, rfl⟩⟩, hw, ⟨fun j o h => (by simp at h), hinj _⟩, fun _ _ _ => rfl, fun _ _ _ => rfl⟩
  · refine ⟨.slc 0 0 ny true cy, fun _ => l2, ⟨fun rest => rfl, fun rest => (q4 []).2 rest, ⟨hokX, hokY⟩, ?_, ⟨trivial, by simp [AV.under]⟩, .inr (.inr (.inl ⟨_, _, _, rfl, rfl, rfl, q1, q2⟩))⟩, hw, ⟨?_, hinj _⟩, fun _ _ _ => rfl, fun _ _ _ => rfl⟩
    · intro j o h
      have := List.mem_of_getElem? h
      simp only [List.nil_append, List.mem_singleton] at this
      subst this; exact q3 _
    · intro j o h
      have := List.mem_of_getElem? h
      simp only [List.nil_append, List.mem_singleton] at this
      subst this; exact ⟨q3 _, a2 _ (List.mem_singleton.2 rfl) _⟩
  · refine ⟨.v (.slice none 0 0), fun _ => l1, ⟨fun rest => (k4 []).2 rest, fun rest => rfl, ⟨hokX, hokY⟩, ?_, ⟨by simp [AV.under], trivial⟩, .inr (.inl ⟨_, _, _, rfl, rfl, rfl, k1, k2⟩)⟩, hw, ⟨?_, hinj _⟩, fun _ _ _ => rfl, fun _ _ _ => rfl⟩
    · intro j o h
      have := List.mem_of_getElem? h
      simp only [List.append_nil, List.mem_singleton] at this
      subst this; exact k3 _
    · intro j o h
      have := List.mem_of_getElem? h
      simp only [List.append_nil, List.mem_singleton] at this
      subst this; exact ⟨k3 _, a1 _ (List.mem_singleton.2 rfl) _⟩
  · refine ⟨.slc 1 0 ny true cy, fun j => if j = 0 then l1 else l2, ⟨fun rest => (k4 []).2 (o' :: rest), fun rest => (q4 [o]).2 rest, ⟨hokX, hokY⟩, ?_, ⟨by simp [AV.under], by simp [AV.under]⟩, .inr (.inr (.inr ⟨_, _, _, _, _, _, rfl, rfl, rfl, k1, k2, q1, q2⟩))⟩, hw, ⟨?_, hinj _⟩, fun _ _ _ => rfl, fun _ _ _ => rfl⟩
    · intro j w h
      have := List.mem_of_getElem? h
      simp only [List.cons_append, List.nil_append, List.mem_cons, List.not_mem_nil, or_false] at this
      rcases this with rfl | rfl
      · exact k3 _
      · exact q3 _
    · intro j w h
      match j with
      | 0 => simp at h; subst h; exact ⟨k3 _, a1 _ (List.mem_singleton.2 rfl) _⟩
      | 1 => simp at h; subst h; exact ⟨q3 _, a2 _ (List.mem_singleton.2 rfl) _⟩
      | j + 2 => simp at h
end Go.Proofs.Ytkgoadglalpbfaa

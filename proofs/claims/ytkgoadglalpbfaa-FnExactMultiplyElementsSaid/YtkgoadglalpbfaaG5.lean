/- Contracts: sums of elements, the spec's side. -/
import Derived.Test.YtkgoadglalpbfaaG4
namespace Go.Proofs.Ytkgoadglalpbfaa
open Go.Am Go.Dia
open Nat renaming reduceAdd → nA, reduceMul → nM, reduceSub → nS, reduceEqDiff → nE, reduceLT → nL, reduceLeDiff → nD, reduceBEq → nB
open Int renaming reduceEq → iE, reduceNe → iN, reduceBEq → iB, reduceBNe → iC, reduceLT → iL, reduceLE → iD, reduceAdd → iA, reduceSub → iS, reduceMul → iM
set_option linter.unusedSimpArgs false
set_option linter.unusedVariables false
set_option maxRecDepth 4000
set_option maxHeartbeats 1000000
def Kg : AC := .seq (.region [o0 1 (.box (.t 0)),o0 2 (.alloc [.int .i64 0,.int .i64 0,.int .i64 0,(.v (.slice none 0 0))])]) (.seq (.region [oF 3 0 1,oL 4 3,oF 5 1 1,oL 6 5,oF 7 2 1,oL 8 7,o0 9 (.gr 0 [] []),o0 10 (.build [.int .i64 0,.int .i64 0,.int .i64 0,(.v (.slice none 0 0))] [(0,1,.t 4),(1,1,.t 6),(2,1,.t 8),(3,1,.t 9)]),oS 4 2 10]) .ret)
theorem qhr : zy Try.prog 70 = some ⟨11, Kg, [.kd 2 4]⟩ := by kernel_rfl
theorem qhm (p c n : Int) (k : Nat) :
    Am.Fn Try.prog 70 [elemV p c n 0 k] [.ro []] (fun v H' => v = elemV p c n 1 0 ∧ H' = [.ro [], .vec 18 []]) := by
  refine Am.Fn.ofW qq9 mixed qhr (by simp [elemV, AV.q7, AV.under]) (Zu rfl) ?_
  simp (maxSteps := 3000000) only [qf, zH, Kg, qb, elemV, iE, iN, iB, iC, iL, iD, iA, iS, iM, rep, qb, zZ, ↓qp, ↓reduceIte, reduceCtorEq, nA, nM, nS, nE, nL, nD]; try simp only [qb, zY]
  refine ⟨rfl, _, qz.trans (qz.zc [2]) (qz.vec 3 0 18 (by decide) rfl rfl rfl rfl), ?_⟩
  refine Ret.zw [0, 3] ⟨⟨by simp, rfl, by decide⟩, ?_⟩ (rs := [.agg [.int .i64 p, .int .i64 c, .int .i64 n, .slc 3 0 0 false 0]]) ?_ rfl (by simp [xc]) ?_ ⟨?_, ?_⟩
  · simp only [zc, z6, zV, ↓reduceIte, nE, reduceCtorEq, nB]
    simp only [zK, ↓reduceIte, reduceCtorEq, nE, nB, nA]
  · simp only [zc, z6, zV, ↓reduceIte, nE, reduceCtorEq, nB]
    rfl
  · intro j l; match j with
    | 0 => simp [zi, Yi, AO.xr, AO.ren]
    | 1 => simp [zi, Yi, AO.xr, AO.ren]
    | j + 2 => simp [zi]
  · simp only [xc]
    simp only [zL, ↓reduceIte, reduceCtorEq, nE, nA]
  · rfl
def kg : BE := fun hp xs => match xs with
  | [.agg [.int .i64 p, .int .i64 c, .int .i64 n, .slc b 0 k false 0]] => match rd hp b with
    | some _ => some (elemV p c n hp.length 0, hp ++ [.vec 18 []])
    | none => none
  | _ => none
theorem quu : Am.Callee Try.prog 70 kg := Callee.fp fun hp xs v hp' he => by
  unfold kg at he
  split at he
  · rename_i p c n b k
    split at he
    · rename_i L hL
      simp only [Option.some.injEq, Prod.mk.injEq] at he
      obtain ⟨rfl, rfl⟩ := he
      refine ⟨[(b, 0)], [elemV p c n 0 k], _, _, _, qhm p c n k, by simp [elemV, AV.ren, AV.zt, ofL], rfl, ⟨⟨L, hL, by simp, by simp [AV.zt]⟩, trivial⟩, rfl, ⟨trivial, trivial⟩, ⟨⟨trivial, trivial, trivial, by simp [AV.under], trivial⟩, trivial⟩, by simp [elemV, AV.ren, AV.zt, Ren.ext], ?_⟩
      simp [after, upd, AO.wr, AO.ren, AV.zt]
    · cases he
  · cases he
def B36 : z7 := (B35.put 70 (kg))
theorem qwl : ze Try.prog B36 := (qq9.put (quu))
theorem qdt {n n' : Nat} {m m' : List Nat} (h : isS n m = true) (h' : isS n' m' = true) (hm : m.length = 16) (hm' : m'.length = 16) (e : xw n m = xw n' m') : n = n' ∧ m = m' := by
  rw [Gf n m hm] at h
  rw [Gf n' m' hm'] at h'
  simp only [isI, Bool.and_eq_true, beq_iff_eq] at h h'
  have h1 := h.2.2
  rw [e, h'.2.2] at h1
  simp only [Option.some.injEq, Prod.mk.injEq] at h1
  exact ⟨h1.1.symm, h1.2.symm⟩
structure wk (p n : Int) (ts : List (Int × List Nat × Int)) : Prop where
  ok : okT ts
  dia : ∀ t ∈ ts, t.1 = n ∧ isS n.toNat t.2.1 = true
  fac : ∀ t ∈ ts, 1 ≤ t.2.2 ∧ t.2.2 ≤ p - 1
  up : upT ts
theorem wk.fit {p n : Int} {ts : List (Int × List Nat × Int)} (h : wk p n ts) (hp : p ≤ 1000000) (hl : ts.length ≤ 1000000) : qpt n ts :=
  ⟨hl, fun t ht => (h.dia t ht).1, fun t ht => by have := h.fac t ht; omega, h.up⟩
theorem Vr {p c n : Int} {ts : List (Int × List Nat × Int)} (ho : okT ts) (h : js p c n ts = true) : wk p n ts := by
  simp only [js, Bool.and_eq_true, decide_eq_true_eq, List.all_eq_true, List.mem_range] at h
  have hg : ∀ i (hi : i < ts.length), isS ts[i].1.toNat ts[i].2.1 = true ∧ ts[i].1 = n ∧ (1 ≤ ts[i].2.2 ∧ ts[i].2.2 ≤ p - 1) ∧ (i = 0 ∨ ltT (ts.getD (i - 1) zT) ts[i] = true) := fun i hi => by
    have := h.2 i hi
    simp only [Xa, u5 hi, Bool.and_eq_true, Bool.or_eq_true, beq_iff_eq, decide_eq_true_eq] at this
    exact ⟨this.1.1.1, this.1.1.2, this.1.2, this.2⟩
  have hstep : ∀ i j, i < j → ∀ (hj : j < ts.length), ltT (ts.getD i zT) (ts.getD j zT) = true := by
    intro i j hij
    induction j with
    | zero => omega
    | succ j ih =>
      intro hj
      have h1 := (hg (j + 1) hj).2.2.2
      have h2 : ltT (ts.getD j zT) (ts.getD (j + 1) zT) = true := by
        rcases h1 with h1 | h1
        · omega
        · rw [u5 hj]; exact h1
      by_cases e : i = j
      · subst e; exact h2
      · exact yj _ _ _ (ih (by omega) (by omega)) h2
  refine ⟨ho, fun t ht => ?_, fun t ht => ?_, ?_⟩
  · obtain ⟨i, hi, rfl⟩ := List.mem_iff_getElem.1 ht
    have := hg i hi
    refine ⟨this.2.1, ?_⟩
    rw [← this.2.1]; exact this.1
  · obtain ⟨i, hi, rfl⟩ := List.mem_iff_getElem.1 ht
    exact (hg i hi).2.2.1
  · unfold upT
    rw [List.pairwise_iff_getElem]
    intro i j hi hj hij
    have := hstep i j hij hj
    rwa [u5 hi, u5 hj] at this
def Gd (p n : Int) (m : List Nat) (kk : Int) : List (Int × List Nat × Int) → List (Int × List Nat × Int)
  | [] => [(n, m, kk)]
  | t :: l => if ltT t (n, m, 0) then t :: Gd p n m kk l else
    if t.1 = n ∧ t.2.1 = m then (if (t.2.2 + kk).emod p = 0 then [] else [(n, m, (t.2.2 + kk).emod p)]) ++ l else (n, m, kk) :: t :: l
theorem qor (t : Int × List Nat × Int) (l : List (Int × List Nat × Int)) (n : Int) (m : List Nat) : Yh (t :: l) n m = if ltT t (n, m, 0) = true then Yh l n m + 1 else 0 := by
  unfold Yh
  rw [List.takeWhile_cons]
  split <;> rfl
theorem Kd (p n : Int) (m : List Nat) (k : Int) (ts : List (Int × List Nat × Int)) : yy p ts n m k = if k.emod p = 0 then ts else Gd p n m (k.emod p) ts := by
  unfold yy
  split
  · rfl
  · rename_i hk
    induction ts with
    | nil => simp [Yh, Gd]
    | cons t l ih =>
      rw [qor]
      unfold Gd
      by_cases h : ltT t (n, m, 0) = true
      · simp only [if_pos h, List.length_cons, Nat.add_lt_add_iff_right, List.getD_cons_succ, List.take_succ_cons, List.drop_succ_cons]
        rw [← ih]
        split <;> simp
      · simp only [if_neg h, List.length_cons, List.getD_cons_zero, List.take_zero, List.drop_zero, List.nil_append, List.drop_succ_cons]
        by_cases h2 : t.1 = n ∧ t.2.1 = m
        · rw [if_pos ⟨by omega, h2⟩, if_pos h2]
        · rw [if_neg (fun h3 => h2 h3.2), if_neg h2]
theorem qjn {p n : Int} {m : List Nat} {kk : Int} : ∀ {ts : List (Int × List Nat × Int)}, (Gd p n m kk ts).length ≤ ts.length + 1
  | [] => Nat.le_refl _
  | t :: l => by
    unfold Gd
    split
    · have := qjn (p := p) (n := n) (m := m) (kk := kk) (ts := l)
      simp only [List.length_cons]; omega
    · split
      · split <;> simp <;> omega
      · simp
theorem Vs {p n : Int} {m : List Nat} {kk : Int} {u : Int × List Nat × Int} : ∀ {ts : List (Int × List Nat × Int)}, u ∈ Gd p n m kk ts → u ∈ ts ∨ (u.1 = n ∧ u.2.1 = m ∧ (u.2.2 = kk ∨ ∃ f : Int, u.2.2 = (f + kk).emod p ∧ (f + kk).emod p ≠ 0))
  | [], h => by
    rw [Gd, List.mem_singleton] at h
    subst h; exact .inr ⟨rfl, rfl, .inl rfl⟩
  | t :: l, h => by
    unfold Gd at h
    split at h
    · rcases List.mem_cons.1 h with rfl | h
      · exact .inl (List.mem_cons_self ..)
      · rcases Vs h with h | h
        · exact .inl (List.mem_cons_of_mem _ h)
        · exact .inr h
    · split at h
      · split at h
        · exact .inl (List.mem_cons_of_mem _ h)
        · rename_i hne
          rcases List.mem_cons.1 h with rfl | h
          · exact .inr ⟨rfl, rfl, .inr ⟨t.2.2, rfl, hne⟩⟩
          · exact .inl (List.mem_cons_of_mem _ h)
      · rcases List.mem_cons.1 h with rfl | h
        · exact .inr ⟨rfl, rfl, .inl rfl⟩
        · exact .inl h
theorem qxi {t u u' : Int × List Nat × Int} (h1 : u.1 = u'.1) (h2 : u.2.1 = u'.2.1) : ltT t u = ltT t u' := by unfold ltT txt; rw [h1, h2]
theorem qvx {t t' u : Int × List Nat × Int} (h1 : t.1 = t'.1) (h2 : t.2.1 = t'.2.1) : ltT t u = ltT t' u := by unfold ltT txt; rw [h1, h2]
theorem qof {p n : Int} {m : List Nat} {kk : Int} (hm : okD m) (hs : isS n.toNat m = true) : ∀ {ts : List (Int × List Nat × Int)}, okT ts → (∀ t ∈ ts, t.1 = n ∧ isS n.toNat t.2.1 = true) → upT ts → upT (Gd p n m kk ts)
  | [], _, _, _ => by unfold Gd upT; exact List.pairwise_singleton _ _
  | t :: l, ho, hd, hu => by
    have hu' := List.pairwise_cons.1 hu
    have ih := qof (p := p) (kk := kk) hm hs (ts := l) (fun u h => ho u (List.mem_cons_of_mem _ h)) (fun u h => hd u (List.mem_cons_of_mem _ h)) hu'.2
    unfold Gd
    split
    · rename_i hlt
      refine List.pairwise_cons.2 ⟨fun u hu2 => ?_, ih⟩
      rcases Vs hu2 with h | ⟨h1, h2, _⟩
      · exact hu'.1 u h
      · rw [qxi (u' := (n, m, 0)) h1 h2]; exact hlt
    · rename_i hlt
      split
      · rename_i he
        split
        · exact hu'.2
        · refine List.pairwise_cons.2 ⟨fun u hu2 => ?_, hu'.2⟩
          rw [qvx (t' := t) he.1.symm he.2.symm]
          exact hu'.1 u hu2
      · rename_i he
        have hx : ltT (n, m, kk) t = true := by
          cases hb : ltT (n, m, kk) t with
          | true => rfl
          | false =>
            exfalso
            have hdt := hd t (List.mem_cons_self ..)
            have e := Zl _ _ (Bool.eq_false_iff.2 hlt) hb
            unfold txt at e
            simp only [hdt.1] at e
            exact he ⟨hdt.1, (qdt hdt.2 hs (ho t (List.mem_cons_self ..)).1 hm.1 e).2⟩
        refine List.pairwise_cons.2 ⟨fun u hu2 => ?_, hu⟩
        rcases List.mem_cons.1 hu2 with rfl | h
        · exact hx
        · exact yj _ _ _ hx (hu'.1 u h)
theorem qp6 {p n : Int} {m : List Nat} {k : Int} {ts : List (Int × List Nat × Int)} (hp : 0 < p) (hm : okD m) (hs : isS n.toNat m = true) (h : wk p n ts) : wk p n (yy p ts n m k) := by
  rw [Kd]
  split
  · exact h
  · rename_i hk
    have b1 : 0 ≤ k.emod p := Int.emod_nonneg k (by omega)
    have b2 : k.emod p < p := Int.emod_lt_of_pos k hp
    refine ⟨fun u hu => ?_, fun u hu => ?_, fun u hu => ?_, qof hm hs h.ok h.dia h.up⟩
    · rcases Vs hu with h1 | ⟨_, h2, _⟩
      · exact h.ok u h1
      · rw [h2]; exact hm
    · rcases Vs hu with h1 | ⟨h1, h2, _⟩
      · exact h.dia u h1
      · rw [h2]; exact ⟨h1, hs⟩
    · rcases Vs hu with h1 | ⟨_, _, h3 | ⟨f, h3, h4⟩⟩
      · exact h.fac u h1
      · omega
      · have c1 : 0 ≤ (f + k.emod p).emod p := Int.emod_nonneg _ (by omega)
        have c2 : (f + k.emod p).emod p < p := Int.emod_lt_of_pos _ hp
        omega
theorem qt6 {p n : Int} {m : List Nat} {k : Int} {ts : List (Int × List Nat × Int)} : (yy p ts n m k).length ≤ ts.length + 1 := by
  rw [Kd]; split
  · omega
  · exact qjn
end Go.Proofs.Ytkgoadglalpbfaa

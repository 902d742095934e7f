/- Contracts: products of diagrams, the implementation, as callees. -/
import Derived.Test.YtkgoadglalpbfaaL7
namespace Go.Proofs.Ytkgoadglalpbfaa
open Go.Am Go.Dia
open Nat renaming reduceAdd → nA, reduceMul → nM, reduceSub → nS, reduceEqDiff → nE, reduceLT → nL, reduceLeDiff → nD, reduceBEq → nB
open Int renaming reduceEq → iE, reduceNe → iN, reduceBEq → iB, reduceBNe → iC, reduceLT → iL, reduceLE → iD, reduceAdd → iA, reduceSub → iS, reduceMul → iM
set_option linter.unusedSimpArgs false
set_option linter.unusedVariables false
set_option maxRecDepth 4000
set_option maxHeartbeats 1000000
noncomputable def Va : BE := fun hp xs => match xs with
  | [.ptr b1 0, .ptr b2 0, .fn 145 [] [], .fn 146 [] [.ptr b3 0], .fn 147 [] [.ptr b4 0]] => match rdD hp b1, rdD hp b2, hp[b3]?, hp[b4]? with
    | some (n, d), some (n', e), some (.cells l), some (.cells [.int .i64 k]) => match bg l with
      | some (n2, m) => chk ((n' = n ∧ n2 = n ∧ 0 ≤ n ∧ k = 0) ∧ (isS n.toNat d = true ∧ isS n.toNat e = true) ∧ m = List.replicate 16 0 ∧ b3 ≠ b1 ∧ b4 ≠ b1 ∧ b3 ≠ b2 ∧ b4 ≠ b2 ∧ b4 ≠ b3)
          (some (.tup [], (hp.set b3 (.cells (dia n (j2 n.toNat d e)))).set b4 (.cells [.int .i64 (lpN n.toNat d e n.toNat : Nat)])))
      | none => none
    | _, _, _, _ => none
  | _ => none
theorem qjg {hp : List AO} {b N : Nat} {m : List Nat} (h : rdD hp b = some ((N : Int), m)) : okD m ∧ ∀ ρ, Fits hp ρ b 0 (.ro (dia N m)) := by
  unfold rdD at h
  split at h
  · rename_i L hL
    obtain ⟨e1, hok⟩ := xa h
    have hlen : (dia (N : Int) m).length = 17 := by rw [qe, hok.1]
    have hLl : 17 ≤ L.length := by
      have := congrArg List.length e1
      rw [hlen, List.length_take] at this
      omega
    exact ⟨hok, fun ρ => ⟨L, hL, by rw [hlen]; omega, by rw [List.drop_zero, qd _ _ (qh _ _), hlen]; exact e1⟩⟩
  · cases h
theorem qom : Am.Callee Try.prog 144 Va := Callee.fp fun hp xs v hp' he => by
  unfold Va at he
  split at he
  · rename_i b1 b2 b3 b4
    split at he
    · rename_i n d n' e l k hd1 he1 h3 h4
      split at he
      · rename_i n2 m hm1
        obtain ⟨⟨⟨a1, a2, a3, a4⟩, ⟨a5, a6⟩, a7, a8, a9, a10, a11, a12⟩, he2⟩ := qm he
        simp only [Option.some.injEq, Prod.mk.injEq] at he2
        obtain ⟨rfl, rfl⟩ := he2
        obtain ⟨rfl, hm⟩ := xa hm1
        subst a1; subst a2; subst a4; subst a7
        obtain ⟨N, rfl⟩ : ∃ N : Nat, n2 = N := ⟨n2.toNat, by omega⟩
        simp only [Int.toNat_natCast] at a5 a6 ⊢
        obtain ⟨hd, f1⟩ := qjg hd1
        obtain ⟨he', f2⟩ := qjg he1
        refine ⟨[(b1, 0), (b2, 0), (b3, 0), (b4, 0)], [.ptr 0 0, .ptr 1 0, .fn 145 [] [], .fn 146 [] [.ptr 2 0], .fn 147 [] [.ptr 3 0]], H4 N d e (List.replicate 16 0) 0, _, _, qi0 N d e hd he' a5 a6, by simp [AV.ren, AV.zt, ofL], by simp [wh],
          ⟨f1 _, f2 _, ⟨rfl, by rw [h3]; simp only [AO.ren, qd _ _ (qh _ _)]⟩, ⟨rfl, by rw [h4]; simp [AO.ren, AV.zt, AV.ren]⟩, trivial⟩, by simp [Jk, H4, AO.wr, a8, a9, a10, a11, a12], ⟨qk _ _ (qh _ _), qk _ _ (qh _ _), qk _ _ (qh _ _), ⟨trivial, trivial⟩, trivial⟩, by simp [AV.q7, AV.under, H4], by simp [AV.ren, AV.zt], ?_⟩
        simp [after, upd, AO.wr, AO.ren, H4, AV.zt, AV.ren, qd _ _ (qh _ _)]
      · cases he
    · cases he
  · cases he
noncomputable def B84 : z7 := (B83.put 144 (Va))
theorem qm8 : ze Try.prog B84 := (qh3.put (qom))
theorem qam : B84 145 = some (qu gp) := rfl
theorem qaq : B84 146 = some (Yd) := rfl
theorem qar : B84 147 = some (ba) := rfl
theorem qat : B84 144 = some (Va) := rfl
def Kx : AT := (.one (oN 14 17 6) (.alt (oL 15 7) (.one (oS 17 4 14) (.one (oM 5 15) (.nil))) (.alt (oS 17 4 14) (.one (oL 15 7) (.one (oM 5 15) (.nil))) (.none))))
def qfr : AC := .seq (.region [o0 2 (.box (.t 0)),o0 3 (.box (.t 1)),o0 4 (.alloc [.int .i64 0,.int .u8 0,.int .u8 0,.int .u8 0,.int .u8 0,.int .u8 0,.int .u8 0,.int .u8 0,.int .u8 0,.int .u8 0,.int .u8 0,.int .u8 0,.int .u8 0,.int .u8 0,.int .u8 0,.int .u8 0,.int .u8 0]),oI 5 0]) (.seq (.region [oF 8 0 2,oL 9 8,o0 10 (.build [.int .i64 0,.int .u8 0,.int .u8 0,.int .u8 0,.int .u8 0,.int .u8 0,.int .u8 0,.int .u8 0,.int .u8 0,.int .u8 0,.int .u8 0,.int .u8 0,.int .u8 0,.int .u8 0,.int .u8 0,.int .u8 0,.int .u8 0] [(0,1,.t 9)]),o0 6 (.alloc [.int .i64 0,.int .u8 0,.int .u8 0,.int .u8 0,.int .u8 0,.int .u8 0,.int .u8 0,.int .u8 0,.int .u8 0,.int .u8 0,.int .u8 0,.int .u8 0,.int .u8 0,.int .u8 0,.int .u8 0,.int .u8 0,.int .u8 0]),o0 7 (.alloc [.int .i64 0]),oS 17 6 10,⟨none,none,.op (.Zc (.t 7) (.c (.int .i64 0)))⟩]) (.seq (.region [o0 11 (.qe3 146 [] [.t 6]),o0 12 (.qe3 147 [] [.t 7]),⟨some 13,none,.call (.c (.fn 144 [] [])) [.t 2,.t 3,(.c (.fn 145 [] [])),.t 11,.t 12]⟩]) (.seq (.tree false Kx) .ret)))
theorem qon : zy Try.prog 127 = some ⟨16, qfr, [.kd 4 17, .slot 5]⟩ := by kernel_rfl
theorem qo5 (N : Nat) (d e : List Nat) (hd : okD d) (he : okD e) (hds : isS N d = true) (hes : isS N e = true) :
    Am.Fn Try.prog 127 [.agg (dia N d), .agg (dia N e)] [] (fun v H' => v = .tup [.agg (dia N (j2 N d e)), .int .i64 (lpN N d e N : Nat)] ∧ H' = []) := by
  refine Am.Fn.jw (R := fun v => v = _) qm8 mixed qon (by simp) (by simp) ?_
  obtain ⟨hN, hpd, _⟩ := ji hds
  have hdl := hd.1
  have hel := he.1
  have hdo := zd (n := (N : Int)) hd
  have heo := zd (n := (N : Int)) he
  have hzo := zd (n := (N : Int)) (m := List.replicate 16 0) ⟨by simp, fun y hy => by simp at hy; omega⟩
  have hN0 : (0 : Int) ≤ (N : Int) := by omega
  simp (maxSteps := 3000000) only [qf, zH, qfr, qam, qaq, qar, qat, gp, ba, Va, Yd, rdD, xq, yo, Ge, qe, hdl, hel, vu, xd, vh zg zg, List.length_replicate, q9 hdl, q9 hel, hdo, heo, hzo, hds, hes, hN0, Int.toNat_natCast, AV.one, and_self, true_and, and_true, Ne, not_false_iff, not_false_eq_true, Nat.reduceEqDiff, reduceCtorEq, List.all_nil, List.all_cons, List.map_nil, List.map_cons, Bool.and_self, iE, iN, iB, iC, iL, iD, iA, iS, iM, qb, zZ, ↓qp, ↓reduceIte, reduceCtorEq, nA, nM, nS, nE, nL, nD]; try simp only [qb, zY]
  have hp16 : (j2 N d e).length = 16 := yn N d e N
  refine WA.Y0 qm8 (fun s => s = ⟨[(5, .int .i64 (lpN N d e N : Nat)), (4, .ptr 2 0)], [.cells (dia N d), .cells (dia N e), .cells (dia N (j2 N d e)), .cells (dia N (j2 N d e)), .cells [.int .i64 (lpN N d e N : Nat)]]⟩) ?_ ?_
  · unfold Kx
    simp (maxSteps := 3000000) only [qf, zH, b9, Qx, qe, hp16, q9 hp16, xd, vh zg hp16, List.length_replicate, Nat.le_refl, AV.one, iE, iN, iB, iC, iL, iD, iA, iS, iM, qb, zZ, ↓qp, ↓reduceIte, reduceCtorEq, nA, nM, nS, nE, nL, nD]; try simp only [qb, zY]
    repeat' (with_reducible refine And.intro ?_ ?_)
    all_goals exact ⟨_, qz.zc [5, 4], rfl⟩
  rintro s rfl
  simp (maxSteps := 3000000) only [qf, zH, qe, hp16, q9 hp16, iE, iN, iB, iC, iL, iD, iA, iS, iM, qb, zZ, ↓qp, ↓reduceIte, reduceCtorEq, nA, nM, nS, nE, nL, nD]; try simp only [qb, zY]
  simp only [qh, Bool.and_self]
noncomputable def B85 : z7 := (B84.put 127 (qu vy))
theorem qmo : ze Try.prog B85 := (qm8.put (qct qo5))
end Go.Proofs.Ytkgoadglalpbfaa

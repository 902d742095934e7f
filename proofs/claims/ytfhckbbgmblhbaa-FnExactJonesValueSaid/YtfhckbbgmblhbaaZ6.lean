/- Contracts of functions of the program, and plain laws, part 6: each text of this part is proved without further condition. -/
import Derived.Test.YtfhckbbgmblhbaaZ5
import Derived.Test.YtfhckbbgmblhbaaZ4
import Derived.Test.YtfhckbbgmblhbaaAmC
import Derived.OpenShut
namespace Go.Proofs.Ytfhckbbgmblhbaa
open Go.Am Go.Dia
open Nat renaming reduceAdd → nA, reduceMul → nM, reduceSub → nS, reduceEqDiff → nE, reduceLT → nL, reduceLeDiff → nD, reduceBEq → nB
open Int renaming reduceEq → iE, reduceNe → iN, reduceBEq → iB, reduceBNe → iC, reduceLT → iL, reduceLE → iD, reduceAdd → iA, reduceSub → iS, reduceMul → iM
set_option linter.unusedSimpArgs false
set_option linter.unusedVariables false
set_option maxRecDepth 4000
set_option maxHeartbeats 1000000
theorem Jo : q0m 168 = some (V3 1 g_n) := rfl
def qdb : AC := .skip
theorem qla : zk Try.prog 163 = some ⟨2, qdb, []⟩ := by kernel_rfl
theorem qnw (i : Int) : Am.Fn Try.prog 163 [.int .i64 i] [] (fun v H' => v = .tup [] ∧ H' = []) := by
  refine Am.Fn.xo (R := fun v => v = _) qjm mixed qla (by simp) (by simp) ?_
  simp (maxSteps := 3000000) only [qf, zH, qdb, Jo, g_n, iE, iN, iB, iC, iL, iD, iA, iS, iM, qa, zZ, ↓qt, ↓reduceIte, reduceCtorEq, nA, nM, nS, nE, nL, nD]; try simp only [qa, zY]
def Qh : List AV → Option AV
  | [.int .i64 _] => some (.tup [])
  | _ => none
theorem qx4 : Am.Callee Try.prog 163 (qk Qh) := Am.Callee.plain fun xs v he => by
  unfold Qh at he
  split at he
  · cases he; exact ⟨rfl, rfl, qnw _⟩
  · cases he
def qdt : AC := .region [oL 1 0,oK 2 .add 1 1,oT 0 2]
theorem qmm : zk Try.prog 164 = some ⟨3, qdt, []⟩ := by kernel_rfl
theorem qku (k : Nat) (hk : k ≤ 1000) : Am.Fn Try.prog 164 [.ptr 0 0] [.cells [.int .i64 k]] (fun r H' => r = .tup [] ∧ H' = [.cells [.int .i64 (k + 1 : Nat)]]) := by
  refine Am.Fn.ofB qjm mixed qmm (by simp [AV.qn, AV.under]) (fun j o hj => by
    match j, hj with
    | 0, hj => cases hj; exact ⟨trivial, trivial⟩
    | j + 1, hj => simp at hj) ?_
  have hw : qm .i64 ((k : Int) + 1) = ((k + 1 : Nat) : Int) := by rw [wrap64 (by omega) (by omega)]; rfl
  simp (maxSteps := 3000000) only [qf, zH, qdt, Jo, g_n, hw, AV.one, iE, iN, iB, iC, iL, iD, iA, iS, iM, qa, zZ, ↓qt, ↓reduceIte, reduceCtorEq, nA, nM, nS, nE, nL, nD]; try simp only [qa, zY]
  refine Ret.xv [0] ⟨⟨Nat.le_refl 1, rfl, by decide⟩, ?_⟩ (rs := []) rfl rfl (by simp [xa]) ?_ ⟨rfl, ?_⟩
  · simp only [qe _ _ (qd _ _), zK, ↓reduceIte, reduceCtorEq, nE, nB, nA]
  · intro j l; cases j <;> simp [q9, AO.ren]
  · simp only [qb _ _ (qd _ _), zL, ↓reduceIte, reduceCtorEq, nE, nA]
theorem qrw : Am.Callee Try.prog 164 xg := Callee.fp fun hp xs v hp' he => by
  unfold xg at he
  split at he
  · rename_i b
    split at he
    · rename_i k hb
      obtain ⟨⟨a1, a2⟩, he2⟩ := ql he
      simp only [Option.some.injEq, Prod.mk.injEq] at he2
      obtain ⟨rfl, rfl⟩ := he2
      obtain ⟨k', rfl⟩ : ∃ k' : Nat, k = k' := ⟨k.toNat, by omega⟩
      refine ⟨[(b, 0)], [.ptr 0 0], _, _, _, qku k' (by omega), by simp [AV.ren, AV.zg, ofL], by simp [je], ⟨⟨rfl, by simp only [AO.ren, AV.zg, AV.ren]; exact hb⟩, trivial⟩, rfl, ⟨⟨trivial, trivial⟩, trivial⟩, ⟨by simp [AV.under], trivial⟩, by simp [AV.ren, AV.zg], ?_⟩
      simp [after, upd, AO.wr, AO.ren, AV.zg, AV.ren]
    · cases he
  · cases he
noncomputable def qxf : zh := ((q0m.put 163 (qk Qh)).put 164 (xg))
theorem qej : qq Try.prog qxf := ((qjm.put (qx4)).put (qrw))
theorem jw : qxf 168 = some (V3 1 g_n) := rfl
theorem vq : qxf 163 = some (qk Qh) := rfl
theorem vn : qxf 164 = some (xg) := rfl
def H2 (N : Nat) (m : List Nat) (k : Nat) : List AO := [.ro (dia N m), .cells [.int .i64 k]]
theorem qv0 {N : Nat} {m : List Nat} {k n : Nat} : ∀ (j : Nat) (o : AO), (H2 N m k)[j]? = some o → o.under n := fun j o hj => by
  match j, hj with
  | 0, hj => cases hj; exact qi _ _ (qd _ _)
  | 1, hj => cases hj; exact ⟨trivial, trivial⟩
  | j + 2, hj => simp [H2] at hj
def u3 : AC := .seq (.seq (.region [oM 23 9,o0 24 (.zz 16 1 (.t 7) (.t 23)),oL 25 24,o0 26 (.un .not (.t 25))]) (.cond 26 .skip (.exit 2))) (.block 3 (.seq (.region [oM 27 0,oM 28 9,o0 29 (.jn (.t 27)),oF 30 1 29,o0 31 (.zz 16 1 (.t 30) (.t 28)),oL 32 31,o0 33 (.conv .i64 (.t 32)),oM 10 33]) (.seq (.region [oM 34 9,oM 35 10,o0 36 (.zz 16 1 (.t 7) (.t 34)),⟨none,none,.op (.bq (.t 36) (.c (.bool true)))⟩,o0 37 (.zz 16 1 (.t 7) (.t 35)),⟨none,none,.op (.bq (.t 37) (.c (.bool true)))⟩]) (.seq (.region [oM 38 1,oM 39 9,⟨some 40,none,.call (.t 38) [.t 39]⟩]) (.region [oM 41 10,oM 42 6,oP 43 .add 41 42,oM 44 6,o0 45 (.bin .mul (.c (.int .i64 2)) (.t 44)),oP 46 .rem 43 45,oM 9 46])))))
def Zf : AC := .region [oM 47 2,⟨some 48,none,.call (.t 47) []⟩]
def uz : AC := .region [oK 49 .add 16 1,oM 16 49]
def wa : AC := .seq (.region [oP 17 .lss 16 15]) (.seq (.cond 17 .skip (.exit 0)) (.seq (.block 1 (.seq (.region [oM 18 16,oM 8 18]) (.seq (.seq (.region [oM 19 8,o0 20 (.zz 16 1 (.t 7) (.t 19)),oL 21 20]) (.cond 21 (.exit 1) .skip)) (.seq (.seq (.region [oM 22 8,oM 9 22]) (.block 2 (.loop u3))) Zf)))) uz))
def Jh : AC := .seq (.region [oM 11 0,oC 12 168 [.t 11],o0 13 (.build [(.bool false),(.bool false),(.bool false),(.bool false),(.bool false),(.bool false),(.bool false),(.bool false),(.bool false),(.bool false),(.bool false),(.bool false),(.bool false),(.bool false),(.bool false),(.bool false)] []),o0 7 (.alloc [(.bool false),(.bool false),(.bool false),(.bool false),(.bool false),(.bool false),(.bool false),(.bool false),(.bool false),(.bool false),(.bool false),(.bool false),(.bool false),(.bool false),(.bool false),(.bool false)]),oM 6 12,oS 16 7 13]) (.seq (.region [oM 14 6,o0 15 (.bin .mul (.c (.int .i64 2)) (.t 14)),oI 16 0]) (.block 0 (.loop wa)))
theorem Kb : zk Try.prog 162 = some ⟨50, Jh, []⟩ := by kernel_rfl
theorem qkz (N : Nat) (m : List Nat) (hm : okD m) (hs : isS N m = true) :
    Am.Fn Try.prog 162 [.ptr 0 0, .fn 163 [] [], .fn 164 [] [.ptr 1 0]] (H2 N m 0) (fun v H' => v = .tup [] ∧ H' = H2 N m (clN N m)) := by
  refine Am.Fn.ofB qej mixed Kb (by simp [AV.qn, AV.under, H2]) qv0 ?_
  obtain ⟨hN, hp, _⟩ := z6 hs
  have hml := hm.1
  have w2 : qm .i64 (2 * (N : Int)) = ((2 * N : Nat) : Int) := by rw [wrap64 (by omega) (by omega)]; omega
  unfold H2
  simp (maxSteps := 3000000) only [qf, zH, Jh, jw, vq, vn, xg, g_n, Qh, w2, qg, hml, gw, Uj, iE, iN, iB, iC, iL, iD, iA, iS, iM, qa, zZ, ↓qt, ↓reduceIte, reduceCtorEq, nA, nM, nS, nE, nL, nD]; try simp only [qa, zY]
  refine ⟨rfl, ?_⟩
  refine WA.jq qej (fun s => ∃ i : Nat, i ≤ 2 * N ∧ s = ⟨[(0, .ptr 0 0), (1, .fn 163 [] []), (2, .fn 164 [] [.ptr 1 0]), (6, .int .i64 N), (7, .ptr 2 0), (15, .int .i64 (2 * N : Nat)), (16, .int .i64 i)], [.ro (dia N m), .cells [.int .i64 ((clO N m i).2 : Nat)], .cells (bls (clO N m i).1)]⟩)
    (fun s => match get s.env 16 with | .int _ x => 2 * N - x.toNat | _ => 0) ⟨_, qv.qw [0, 1, 2, 6, 7, 15, 16], 0, by omega, rfl⟩ ?_
  rintro s ⟨i, hi, rfl⟩
  have hw : qm .i64 ((i : Int) + 1) = ((i + 1 : Nat) : Int) := by rw [wrap64 (by omega) (by omega)]; rfl
  have hle := qjp N m i
  have hlen := qeh N m i
  by_cases hlt : i < 2 * N
  · have hli : (i : Int) < ((2 * N : Nat) : Int) := by omega
    obtain ⟨g1, _⟩ := vz (show i < 16 by omega)
    have g2 : i < 16 := by omega
    have g3 := G1 (l := (clO N m i).1) (i := i) (by omega)
    by_cases hx : (clO N m i).1.getD i false = true
    · have e := qf0 hx
      simp (maxSteps := 3000000) only [qf, zH, wa, uz, jw, vq, vn, xg, g_n, Qh, w2, hw, hli, g1, g2, g3, hx, zs, hlen, iE, iN, iB, iC, iL, iD, iA, iS, iM, qa, zZ, ↓qt, ↓reduceIte, reduceCtorEq, nA, nM, nS, nE, nL, nD]; try simp only [qa, zY]
      refine ⟨_, qv.qw [0, 1, 2, 6, 7, 15, 16], ⟨i + 1, by omega, ?_⟩, ?_⟩
      · simp only [zL, ↓reduceIte, reduceCtorEq, nE, nA]; rw [e]
      · simp only [zL, ↓reduceIte, reduceCtorEq, nE, nA]; omega
    · have hx' : (clO N m i).1.getD i false = false := by simpa using hx
      have e := qea hx
      simp (maxSteps := 3000000) only [qf, zH, wa, jw, vq, vn, xg, g_n, Qh, w2, hw, hli, g1, g2, g3, hx', zs, hlen, iE, iN, iB, iC, iL, iD, iA, iS, iM, qa, zZ, ↓qt, ↓reduceIte, reduceCtorEq, nA, nM, nS, nE, nL, nD]; try simp only [qa, zY]
      refine WA.jq qej (fun s => ∃ (f x : Nat) (l : List Bool), ClA N m (clS N m 17 (clO N m i).1 i) f l x ∧ s = ⟨[(0, .ptr 0 0), (1, .fn 163 [] []), (2, .fn 164 [] [.ptr 1 0]), (6, .int .i64 N), (7, .ptr 2 0), (15, .int .i64 (2 * N : Nat)), (16, .int .i64 i), (9, .int .i64 x)], [.ro (dia N m), .cells [.int .i64 ((clO N m i).2 : Nat)], .cells (bls l)]⟩)
        (fun s : St => match s.hp[2]? with | some (AO.cells l) => bl l | _ => 0) ⟨_, qv.qw [0, 1, 2, 6, 7, 15, 16, 9], 17, i, (clO N m i).1, ⟨rfl, by have := qg7 (clO N m i).1; omega, hlt, hlen⟩, rfl⟩ ?_
      rintro s ⟨f, x, l, hA, rfl⟩
      have hxn := hA.2.2.1
      have hll := hA.2.2.2
      obtain ⟨g4, _⟩ := vz (show x < 16 by omega)
      have g5 : x < 16 := by omega
      have g6 := G1 (l := l) (i := x) (by omega)
      by_cases hlx : l.getD x false = true
      · have e2 := qm7 hA hlx
        have h1000 : (0 : Int) ≤ (((clO N m i).2 : Nat) : Int) ∧ (((clO N m i).2 : Nat) : Int) ≤ 1000 := by omega
        have hs1 : (((clO N m i).2 : Nat) : Int) + 1 = (((clO N m i).2 + 1 : Nat) : Int) := rfl
        simp (maxSteps := 3000000) only [qf, zH, u3, Zf, uz, jw, vq, vn, xg, g_n, Qh, hw, g4, g5, g6, hlx, h1000, hs1, zs, hll, Bool.not_true, iE, iN, iB, iC, iL, iD, iA, iS, iM, qa, zZ, ↓qt, ↓reduceIte, reduceCtorEq, nA, nM, nS, nE, nL, nD]; try simp only [qa, zY]
        refine ⟨_, qv.qw [0, 1, 2, 6, 7, 15, 16], ⟨i + 1, by omega, ?_⟩, ?_⟩
        · simp only [zL, ↓reduceIte, reduceCtorEq, nE, nA]; rw [e, ← e2]
        · simp only [zL, ↓reduceIte, reduceCtorEq, nE, nA]; omega
      · have hlx' : l.getD x false = false := by simpa using hlx
        obtain ⟨f', rfl, hA'⟩ := qn0 hN hA hlx'
        have hy := (hp x hxn).1
        obtain ⟨g7, _⟩ := vz (show m.getD x 0 < 16 by omega)
        have g8 : m.getD x 0 < 16 := by omega
        have d1 := Jw (n := (N : Int)) (m := m) (i := x) (by omega)
        have v1 : qm .i64 ((m.getD x 0 : Nat) : Int) = ((m.getD x 0 : Nat) : Int) := kp (by omega)
        have v2 : qm .i64 (((m.getD x 0 : Nat) : Int) + (N : Int)) = ((m.getD x 0 + N : Nat) : Int) := by rw [wrap64 (by omega) (by omega)]; rfl
        have v3 : ¬ ((2 * N : Nat) : Int) = 0 := by omega
        have f1 := Qo (met := l) (k := x) (by omega) hlx'
        have f2 := Yd (met := l.set x true) (k := m.getD x 0)
        simp (maxSteps := 3000000) only [qf, zH, u3, jw, vq, vn, xg, g_n, Qh, w2, g4, g5, g6, g7, g8, hlx', zs, G0, hll, List.length_set, d1, v1, v2, v3, qzj, qg, hml, AV.one, Bool.not_false, and_self, iE, iN, iB, iC, iL, iD, iA, iS, iM, qa, zZ, ↓qt, ↓reduceIte, reduceCtorEq, nA, nM, nS, nE, nL, nD]; try simp only [qa, zY]
        refine ⟨_, qv.qw [0, 1, 2, 6, 7, 15, 16, 9], ⟨f', _, _, hA', ?_⟩, ?_⟩
        · simp only [zL, ↓reduceIte, reduceCtorEq, nE, nA]
        · simp only [zL, ↓reduceIte, reduceCtorEq, nE, nA]; omega
  · have hli : ¬ (i : Int) < ((2 * N : Nat) : Int) := by omega
    obtain rfl : i = 2 * N := by omega
    simp (maxSteps := 3000000) only [qf, zH, wa, jw, vq, vn, xg, g_n, Qh, w2, hli, Int.lt_irrefl, iE, iN, iB, iC, iL, iD, iA, iS, iM, qa, zZ, ↓qt, ↓reduceIte, reduceCtorEq, nA, nM, nS, nE, nL, nD]; try simp only [qa, zY]
    refine Ret.xv [0, 1] ⟨⟨by simp, rfl, by decide⟩, ?_⟩ (rs := []) rfl rfl (by simp [xa]) ?_ ⟨rfl, ?_⟩
    · simp only [qe _ _ (qd _ _), zK, ↓reduceIte, reduceCtorEq, nE, nB, nA]
    · intro j l h
      match j, h with
      | 0, _ => exact ⟨_, rfl⟩
      | 1, h => simp [q9, AO.ren] at h
      | j + 2, h => simp [q9] at h
    · simp only [qb _ _ (qd _ _), zL, ↓reduceIte, reduceCtorEq, nE, nA]
      rfl
def Yc : BE := fun hp xs => match xs with
  | [.ptr b1 0, .fn 163 [] [], .fn 164 [] [.ptr b4 0]] => match rdD hp b1, hp[b4]? with
    | some (n, m), some (.cells [.int .i64 k]) => chk ((0 ≤ n ∧ k = 0) ∧ isS n.toNat m = true ∧ b4 ≠ b1) (some (.tup [], hp.set b4 (.cells [.int .i64 (clN n.toNat m : Nat)])))
    | _, _ => none
  | _ => none
theorem qtg : Am.Callee Try.prog 162 Yc := Callee.fp fun hp xs v hp' he => by
  unfold Yc at he
  split at he
  · rename_i b1 b4
    split at he
    · rename_i n m k hd1 h4
      obtain ⟨⟨⟨a1, a2⟩, a3, a4⟩, he2⟩ := ql he
      simp only [Option.some.injEq, Prod.mk.injEq] at he2
      obtain ⟨rfl, rfl⟩ := he2
      subst a2
      obtain ⟨N, rfl⟩ : ∃ N : Nat, n = N := ⟨n.toNat, by omega⟩
      simp only [Int.toNat_natCast] at a3 ⊢
      obtain ⟨hd, f1⟩ := qe5 hd1
      refine ⟨[(b1, 0), (b4, 0)], [.ptr 0 0, .fn 163 [] [], .fn 164 [] [.ptr 1 0]], H2 N m 0, _, _, qkz N m hd a3, by simp [AV.ren, AV.zg, ofL], by simp [je],
        ⟨f1 _, ⟨rfl, by rw [h4]; simp [AO.ren, AV.zg, AV.ren]⟩, trivial⟩, by simp [Jf, H2, AO.wr, a4], ⟨qi _ _ (qd _ _), ⟨trivial, trivial⟩, trivial⟩, by simp [AV.qn, AV.under, H2], by simp [AV.ren, AV.zg], ?_⟩
      simp [after, upd, AO.wr, AO.ren, H2, AV.zg, AV.ren, qb _ _ (qd _ _)]
    · cases he
  · cases he
noncomputable def qt8 : zh := (qxf.put 162 (Yc))
theorem qrn : qq Try.prog qt8 := (qej.put (qtg))
theorem qak : qt8 163 = some (qk Qh) := rfl
theorem qbd : qt8 164 = some (xg) := rfl
theorem Vy : qt8 162 = some (Yc) := rfl
def qi1 : AC := .seq (.region [o0 1 (.box (.t 0)),oI 2 0]) (.seq (.region [o0 3 (.alloc [.int .i64 0]),⟨none,none,.op (.bq (.t 3) (.c (.int .i64 0)))⟩]) (.seq (.region [o0 4 (.qd4 164 [] [.t 3]),⟨some 5,none,.call (.c (.fn 162 [] [])) [.t 1,(.c (.fn 163 [] [])),.t 4]⟩]) (.seq (.region [oL 6 3,oM 2 6]) .ret)))
theorem qsu : zk Try.prog 126 = some ⟨7, qi1, [.slot 2]⟩ := by kernel_rfl
theorem qtl (N : Nat) (m : List Nat) (hm : okD m) (hs : isS N m = true) :
    Am.Fn Try.prog 126 [.agg (dia N m)] [] (fun v H' => v = .int .i64 (clN N m : Nat) ∧ H' = []) := by
  refine Am.Fn.xo (R := fun v => v = _) qrn mixed qsu (by simp) (by simp) ?_
  have hml := hm.1
  have hdo := q8 (n := (N : Int)) hm
  have hN0 : (0 : Int) ≤ (N : Int) := by omega
  simp (maxSteps := 3000000) only [qf, zH, qi1, qak, qbd, Vy, Yc, xg, Qh, rdD, qg, hml, za hml, j2, hdo, hs, hN0, Int.toNat_natCast, AV.one, and_self, true_and, and_true, Ne, iE, iN, iB, iC, iL, iD, iA, iS, iM, qa, zZ, ↓qt, ↓reduceIte, reduceCtorEq, nA, nM, nS, nE, nL, nD]; try simp only [qa, zY]
  exact ⟨rfl, rfl⟩
noncomputable def qom : zh := (qt8.put 126 (qk Uw))
theorem qaz : qq Try.prog qom := (qrn.put (qnc qtl))
end Go.Proofs.Ytfhckbbgmblhbaa
namespace Go.Proofs.Ytfhckbbgmblhbaa
open Go.Am Go.Dia
open Nat renaming reduceAdd → nA, reduceMul → nM, reduceSub → nS, reduceEqDiff → nE, reduceLT → nL, reduceLeDiff → nD, reduceBEq → nB
open Int renaming reduceEq → iE, reduceNe → iN, reduceBEq → iB, reduceBNe → iC, reduceLT → iL, reduceLE → iD, reduceAdd → iA, reduceSub → iS, reduceMul → iM
set_option linter.unusedSimpArgs false
set_option linter.unusedVariables false
set_option maxRecDepth 4000
set_option maxHeartbeats 2000000
theorem qmy (N : Nat) (m : List Nat) : ∀ i, 1 ≤ (clO N m (i + 1)).2
  | 0 => by rw [qea (by simp [clO])]; simp [clO]
  | i + 1 => by
    have := qmy N m i
    by_cases h : (clO N m (i + 1)).1.getD (i + 1) false = true
    · rw [qf0 h]; exact this
    · rw [qea h]; show 1 ≤ (clO N m (i + 1)).2 + 1; omega
theorem quk {N : Nat} {m : List Nat} (hN : 1 ≤ N ∧ N ≤ 8) : 1 ≤ clN N m ∧ clN N m ≤ 16 := by
  have h1 := qmy N m (2 * N - 1)
  have h2 := qjp N m (2 * N)
  rw [show 2 * N - 1 + 1 = 2 * N by omega] at h1
  unfold clN; omega
def trK (p c : Int) (j : Nat) (t : Int × List Nat × Int) : Int := t.2.2 * jz p c (clN t.1.toNat t.2.1 - j)
def trU (p c : Int) (j : Nat) (ts : List (Int × List Nat × Int)) : Int := ts.foldl (fun acc t => acc + trK p c j t) 0
theorem qf5 {p c : Int} {j : Nat} {ts : List (Int × List Nat × Int)} {k : Nat} (h : k < ts.length) : trU p c j (ts.take (k + 1)) = trU p c j (ts.take k) + trK p c j ts[k] := by
  rw [List.take_succ_eq_append_getElem h, trU, List.foldl_append]; rfl
theorem qp5 {p c n : Int} {j : Nat} {ts : List (Int × List Nat × Int)} (hp : 2 ≤ p ∧ p ≤ 97) (hg : xd p n ts) {k : Nat} (h : k < ts.length) : 0 ≤ trK p c j ts[k] ∧ trK p c j ts[k] ≤ 9216 := by
  have h1 := hg.fac _ (List.getElem_mem h)
  have h2 := qa9 (c := c) hp.1 (clN ts[k].1.toNat ts[k].2.1 - j)
  have h3 : trK p c j ts[k] ≤ 96 * 96 := Int.mul_le_mul (by omega) (by omega) h2.1 (by omega)
  exact ⟨Int.mul_nonneg (by omega) h2.1, by omega⟩
theorem qkg {p c n : Int} {j : Nat} {ts : List (Int × List Nat × Int)} (hp : 2 ≤ p ∧ p ≤ 97) (hg : xd p n ts) : ∀ k, k ≤ ts.length → 0 ≤ trU p c j (ts.take k) ∧ trU p c j (ts.take k) ≤ 9216 * k
  | 0, _ => by simp [trU]
  | k + 1, hk => by
    have h1 := qkg (c := c) (j := j) hp hg k (by omega)
    have h2 := qp5 (c := c) (j := j) hp hg (k := k) (by omega)
    rw [qf5 (by omega)]
    omega
noncomputable def qd3 (p a n : Int) (w : List Int) : Int := (trU p (gi p a) 1 (Z8 p a n w)).emod p
theorem gb : qom 80 = some (qk Uw) := rfl
theorem Qp : qom 69 = some (qk yy) := rfl
theorem gv : qom 55 = some (Q0) := rfl
def Zt : AC := .seq (.seq (.region [oM 17 11,oF 18 3 9,oL 19 18,o0 20 (.len .slc (.t 19)),oP 21 .lss 17 20]) (.cond 21 .skip (.exit 0))) (.seq (.block 1 (.draw true [oM 24 10,oF 25 3 9,oL 26 25,oM 27 11,oX 28 18 26 27,oF 29 17 28,oL 30 29,oM 31 0,oF 32 1 9,oL 33 32,oF 34 3 9,oL 35 34,oM 36 11,oX 37 18 35 36,oF 38 0 37,oN 39 17 38,oM 45 0,oC 40 80 [.t 39],oK 41 .sub 40 1,oC 42 69 [.t 31,.t 33,.t 41],oP 43 .mul 30 42,oP 44 .add 24 43,oP 46 .rem 44 45,oM 10 46])) (.region [oM 22 11,oK 23 .add 22 1,oM 11 23]))
def V6 : AC := .seq (.region [oM 47 10,oM 8 47]) .ret
def Gx : AC := .seq (.region [oI 8 0]) (.seq (.region [oM 12 0,oM 13 1,oM 14 2,oM 15 3,oC 16 55 [.t 12,.t 13,.t 14,.t 15],oZ 9,oS 4 9 16,oI 10 0]) (.seq (.seq (.region [oI 11 0]) (.block 0 (.loop Zt))) V6))
theorem qgf : zk Try.prog 60 = some ⟨48, Gx, [.slot 8]⟩ := by kernel_rfl
theorem qf1 (p a n : Int) (w : List Int) (h : okI p a) (hn : 2 ≤ n ∧ n ≤ 6) (hl : w.length ≤ 24) (hbw : w.any (vw n) = false) :
    Am.Fn Try.prog 60 [.int .i64 p, .int .i64 a, .int .i64 n, .slc 0 0 w.length false 0] [.ro (z8 w)] (fun v H' => v = .int .i64 (qd3 p a n w) ∧ H' = [.ro (z8 w)]) := by
  refine Am.Fn.xo (R := fun v => v = _) qaz mixed qgf (by simp [AV.qn, AV.under]) (jv (qo _)) ?_
  have hws := uf w
  have hla := zw w
  have hb := vu h.1
  have ha := h.2
  have hlb := W4 h
  have hbr := Q1 h hn hbw w.length (Nat.le_refl _)
  rw [List.take_length] at hbr
  have hg := hbr.1
  have hbl := hbr.2
  unfold qd3
  simp (maxSteps := 3000000) only [qf, zH, Gx, gb, Qp, gv, Q0, Uw, yy, wz, elemV, j0, qb _ _ (qc _), qb _ _ (qd _ _), hws, hla, hl, h, hn, hbw, and_self, iE, iN, iB, iC, iL, iD, iA, iS, iM, qa, zZ, ↓qt, ↓reduceIte, reduceCtorEq, nA, nM, nS, nE, nL, nD]; try simp only [qa, zY]
  generalize Z8 p a n w = ts at *
  generalize gi p a = c at *
  have hal := zb hg.ok
  refine ⟨rfl, ?_⟩
  refine WA.jq qaz (fun s => ∃ k : Nat, k ≤ ts.length ∧ s = ⟨[(0, .int .i64 p), (9, .ptr 1 0), (10, .int .i64 ((trU p c 1 (ts.take k)).emod p)), (11, .int .i64 k)], [.ro (z8 w), .cells [.int .i64 p, .int .i64 c, .int .i64 n, .slc 2 0 ts.length false 0], .vec 18 (qy ts)]⟩)
    (fun s => match get s.env 11 with | .int _ x => ts.length - x.toNat | _ => 0) ⟨_, qv.can [0, 9, 10, 11] (by simp only [Y6, zC, nB, nD, nA, nE, ↓reduceIte, reduceCtorEq]; rfl), 0, by omega, ?_⟩ ?_
  · simp only [qb _ _ (qc _), qb _ _ (qo _), zL, ↓reduceIte, reduceCtorEq, nE, nA]
    rfl
  rintro s ⟨k, hk, rfl⟩
  by_cases hlt : k < ts.length
  · have hw : qm .i64 ((k : Int) + 1) = ((k + 1 : Nat) : Int) := by rw [wrap64 (by omega) (by omega)]; rfl
    have hli : (k : Int) < (ts.length : Int) := by omega
    have hk0 : (0 : Int) ≤ k := by omega
    have hd := Qm hg.ok hlt
    have hf := Yr hg.ok hlt
    have hok := hg.ok _ (List.getElem_mem hlt)
    have hsz := hg.dia _ (List.getElem_mem hlt)
    have hfc := hg.fac _ (List.getElem_mem hlt)
    have hsu := qf5 (p := p) (c := c) (j := 1) hlt
    have hkb := qp5 (c := c) (j := 1) hb hg hlt
    have hub := qkg (c := c) (j := 1) hb hg k hk
    have hem : 0 ≤ (trU p c 1 (ts.take k)).emod p ∧ (trU p c 1 (ts.take k)).emod p ≤ p - 1 := ⟨Int.emod_nonneg _ (by omega), Int.le_sub_one_of_lt (Int.emod_lt_of_pos _ (by omega))⟩
    have hkd : trK p c 1 ts[k] = ts[k].2.2 * jz p c (clN n.toNat ts[k].2.1 - 1) := by unfold trK; rw [hsz.1]
    rw [hsz.1] at hd
    have hsm := hsz.2
    have hcb := quk (m := ts[k].2.1) (z6 hsm).1
    have hb1 : k * 18 < ts.length * 18 := by omega
    have hb2 : k * 18 + 17 ≤ ts.length * 18 := by omega
    have hb3 : k * 18 + 17 < ts.length * 18 := by omega
    have hn0 : 0 ≤ n := by omega
    have hwc : qm .i64 (((clN n.toNat ts[k].2.1 : Nat) : Int) - 1) = ((clN n.toNat ts[k].2.1 - 1 : Nat) : Int) := by rw [wrap64 (by omega) (by omega)]; omega
    have hcb2 : (0 : Int) ≤ ((clN n.toNat ts[k].2.1 - 1 : Nat) : Int) ∧ ((clN n.toNat ts[k].2.1 - 1 : Nat) : Int) ≤ 1000000 := by omega
    have hwm : qm .i64 (ts[k].2.2 * jz p c (clN n.toNat ts[k].2.1 - 1)) = trK p c 1 ts[k] := by rw [← hkd]; exact wrap64 (by omega) (by omega)
    have hwa : qm .i64 ((trU p c 1 (ts.take k)).emod p + trK p c 1 ts[k]) = (trU p c 1 (ts.take k)).emod p + trK p c 1 ts[k] := wrap64 (by omega) (by omega)
    have hp0 : ¬ p = 0 := by omega
    have htm : ((trU p c 1 (ts.take k)).emod p + trK p c 1 ts[k]).tmod p = (trU p c 1 (ts.take (k + 1))).emod p := by
      rw [Int.tmod_eq_emod_of_nonneg (by omega), hsu]; exact Int.emod_add_emod _ _ _
    simp (maxSteps := 3000000) only [qf, zH, Zt, gb, Qp, gv, Q0, Uw, yy, wz, elemV, j0, qb _ _ (qc _), qb _ _ (qd _ _), hli, hk0, hal, hb1, hb2, hb3, hd, hf, hw, q8 hok, hsm, hn0, hwc, hcb2, hb, hlb, hwm, hwa, hp0, htm, Int.toNat_natCast, qg, and_self, iE, iN, iB, iC, iL, iD, iA, iS, iM, qa, zZ, ↓qt, ↓reduceIte, reduceCtorEq, nA, nM, nS, nE, nL, nD]; try simp only [qa, zY]
    repeat' refine And.intro (by first | rfl | exact ⟨_, rfl⟩) ?_
    refine ⟨_, qv.can [0, 9, 10, 11] (by simp only [Y6, zC, nB, nD, nA, nE, ↓reduceIte, reduceCtorEq]; rfl), ⟨k + 1, by omega, ?_⟩, ?_⟩
    · simp only [qb _ _ (qc _), qb _ _ (qo _), zL, ↓reduceIte, reduceCtorEq, nE, nA]
    · simp only [zL, ↓reduceIte, reduceCtorEq, nE, nA]; omega
  · have hli : ¬ (k : Int) < (ts.length : Int) := by omega
    obtain rfl : k = ts.length := by omega
    simp (maxSteps := 3000000) only [qf, zH, Zt, V6, gb, Qp, gv, Q0, Uw, yy, wz, elemV, j0, qb _ _ (qc _), qb _ _ (qd _ _), hli, Int.lt_irrefl, iE, iN, iB, iC, iL, iD, iA, iS, iM, qa, zZ, ↓qt, ↓reduceIte, reduceCtorEq, nA, nM, nS, nE, nL, nD]; try simp only [qa, zY]
    rw [List.take_length]
    exact ⟨⟨_, rfl⟩, rfl⟩
theorem Jg : qom 126 = some (qk Uw) := rfl
theorem X2 : qom 75 = some (qk jo) := rfl
def gu : AC := .seq (.region [oP 14 .lss 13 12]) (.seq (.cond 14 .skip (.exit 0)) (.seq (.block 1 (.seq (.region [oX 15 18 11 13,oN 16 18 15,o0 7 (.alloc [.int .i64 0,.int .u8 0,.int .u8 0,.int .u8 0,.int .u8 0,.int .u8 0,.int .u8 0,.int .u8 0,.int .u8 0,.int .u8 0,.int .u8 0,.int .u8 0,.int .u8 0,.int .u8 0,.int .u8 0,.int .u8 0,.int .u8 0,.int .i64 0]),oS 18 7 16]) (.draw true [oM 17 5,oF 18 17 7,oL 19 18,oM 20 0,o0 21 (.jn (.t 20)),oF 22 1 21,oL 23 22,oF 24 0 7,oN 25 17 24,oM 27 1,oM 29 0,o0 30 (.jn (.t 29)),oF 31 0 30,oL 32 31,oC 26 126 [.t 25],oP 28 .sub 26 27,oC 33 75 [.t 23,.t 28,.t 32],oP 34 .mul 19 33,oP 35 .add 17 34,oM 5 35]))) (.region [oK 36 .add 13 1,oM 13 36])))
def Xv : AC := .seq (.region [oM 37 5,oM 38 0,o0 39 (.jn (.t 38)),oF 40 0 39,oL 41 40,oP 42 .rem 37 41,oM 4 42]) .ret
def Wk : AC := .seq (.region [oI 4 0]) (.seq (.region [oI 5 0]) (.seq (.seq (.region [oM 8 0,o0 9 (.jn (.t 8)),oF 10 3 9,oL 11 10,o0 12 (.len .slc (.t 11)),oI 13 0]) (.block 0 (.loop gu))) Xv))
theorem qas : zk Try.prog 61 = some ⟨43, Wk, [.slot 4]⟩ := by kernel_rfl
theorem qr9 (p c n : Int) (j : Nat) (ts : List (Int × List Nat × Int)) (hj : j ≤ 1) (hb : 2 ≤ p ∧ p ≤ 97) (hlb : 0 ≤ c ∧ c ≤ p - 1) (hn : 1 ≤ n ∧ n ≤ 8) (hg : xd p n ts) (hl : ts.length ≤ 300) :
    Am.Fn Try.prog 61 [.ptr 1 0, .int .i64 j] [.ro (qy ts), .ro (elC p c n ts.length)] (fun v H' => v = .int .i64 ((trU p c j ts).emod p) ∧ H' = [.ro (qy ts), .ro (elC p c n ts.length)]) := by
  refine Am.Fn.xo (R := fun v => v = _) qaz mixed qas (by simp [AV.qn, AV.under]) ?_ ?_
  · intro j o hj
    match j, hj with
    | 0, hj => cases hj; exact qi _ _ (qc _)
    | 1, hj => cases hj; exact ⟨trivial, trivial, trivial, by simp [AV.under], trivial⟩
    | j + 2, hj => simp at hj
  have hal := zb hg.ok
  have hp0 : ¬ p = 0 := by omega
  simp (maxSteps := 3000000) only [qf, zH, Wk, Jg, X2, Uw, jo, elC, hal, iE, iN, iB, iC, iL, iD, iA, iS, iM, qa, zZ, ↓qt, ↓reduceIte, reduceCtorEq, nA, nM, nS, nE, nL, nD]; try simp only [qa, zY]
  refine WA.jq qaz (fun s => ∃ k : Nat, k ≤ ts.length ∧ s = ⟨[(0, .ptr 1 0), (1, .int .i64 j), (5, .int .i64 (trU p c j (ts.take k))), (11, .slc 0 0 ts.length false 0), (12, .int .i64 ts.length), (13, .int .i64 k)], [.ro (qy ts), .ro [.int .i64 p, .int .i64 c, .int .i64 n, .slc 0 0 ts.length false 0]]⟩)
    (fun s => match get s.env 13 with | .int _ x => ts.length - x.toNat | _ => 0) ⟨_, qv.qw [0, 1, 5, 11, 12, 13], 0, by omega, rfl⟩ ?_
  rintro s ⟨k, hk, rfl⟩
  by_cases hlt : k < ts.length
  · have hw : qm .i64 ((k : Int) + 1) = ((k + 1 : Nat) : Int) := by rw [wrap64 (by omega) (by omega)]; rfl
    have hli : (k : Int) < (ts.length : Int) := by omega
    have hk0 : (0 : Int) ≤ k := by omega
    have hg0 := Xw hg.ok hlt
    have hok := hg.ok _ (List.getElem_mem hlt)
    have hsz := hg.dia _ (List.getElem_mem hlt)
    have hfc := hg.fac _ (List.getElem_mem hlt)
    have hsu := qf5 (p := p) (c := c) (j := j) hlt
    have hkb := qp5 (c := c) (j := j) hb hg hlt
    have hub := qkg (c := c) (j := j) hb hg k hk
    have hkd : trK p c j ts[k] = ts[k].2.2 * jz p c (clN n.toNat ts[k].2.1 - j) := by unfold trK; rw [hsz.1]
    have hov := ka (t := (0, List.replicate 16 0, 0)) (u := ts[k]) (by simp) hok.1
    have htl := xq hok
    have htd := Bz hok
    have htf := Z6 hok
    rw [hsz.1] at htd
    have hsm := hsz.2
    have hcb := quk (m := ts[k].2.1) (z6 hsm).1
    have hb1 : k * 18 < ts.length * 18 := by omega
    have hb2 : k * 18 + 18 ≤ ts.length * 18 := by omega
    have hn0 : 0 ≤ n := by omega
    have hwc : qm .i64 (((clN n.toNat ts[k].2.1 : Nat) : Int) - (j : Int)) = ((clN n.toNat ts[k].2.1 - j : Nat) : Int) := by rw [wrap64 (by omega) (by omega)]; omega
    have hcb2 : (0 : Int) ≤ ((clN n.toNat ts[k].2.1 - j : Nat) : Int) ∧ ((clN n.toNat ts[k].2.1 - j : Nat) : Int) ≤ 1000000 := by omega
    have hwm : qm .i64 (ts[k].2.2 * jz p c (clN n.toNat ts[k].2.1 - j)) = trK p c j ts[k] := by rw [← hkd]; exact wrap64 (by omega) (by omega)
    have hwa : qm .i64 (trU p c j (ts.take k) + trK p c j ts[k]) = trU p c j (ts.take (k + 1)) := by rw [hsu]; exact wrap64 (by omega) (by omega)
    simp (maxSteps := 3000000) only [qf, zH, gu, Jg, X2, Uw, jo, hli, hk0, hal, hb1, hb2, hg0, jr, htl, htd, htf, vy, yk, hov, hw, q8 hok, hsm, hn0, hwc, hcb2, hb, hlb, hwm, hwa, Int.toNat_natCast, qg, List.length_replicate, Nat.le_refl, and_self, iE, iN, iB, iC, iL, iD, iA, iS, iM, qa, zZ, ↓qt, ↓reduceIte, reduceCtorEq, nA, nM, nS, nE, nL, nD]; try simp only [qa, zY]
    repeat' refine And.intro (by first | rfl | exact ⟨_, rfl⟩) ?_
    refine ⟨_, qv.can [0, 1, 5, 11, 12, 13] (by simp only [Y6, zC, nB, nD, nA, nE, ↓reduceIte, reduceCtorEq]; rfl), ⟨k + 1, by omega, ?_⟩, ?_⟩
    · simp only [qb _ _ (qc _), zL, ↓reduceIte, reduceCtorEq, nE, nA]
    · simp only [zL, ↓reduceIte, reduceCtorEq, nE, nA]; omega
  · have hli : ¬ (k : Int) < (ts.length : Int) := by omega
    obtain rfl : k = ts.length := by omega
    have hub := qkg (c := c) (j := j) hb hg ts.length (Nat.le_refl _)
    rw [List.take_length] at hub
    simp (maxSteps := 3000000) only [qf, zH, gu, Xv, Jg, X2, Uw, jo, hli, hp0, Int.lt_irrefl, List.take_length, iE, iN, iB, iC, iL, iD, iA, iS, iM, qa, zZ, ↓qt, ↓reduceIte, reduceCtorEq, nA, nM, nS, nE, nL, nD]; try simp only [qa, zY]
    rw [Int.tmod_eq_emod_of_nonneg hub.1]
    exact ⟨⟨_, rfl⟩, rfl⟩
def u9 : BE := fun hp xs => match xs with
  | [.ptr b 0, .int .i64 j] => match rd hp b with
    | some (.int .i64 p :: .int .i64 c :: .int .i64 n :: .slc ba 0 la false 0 :: _) => match rd hp ba with
      | some L => match Vz la L with
        | some a => chk ((0 ≤ j ∧ j ≤ 1) ∧ ((2 ≤ p ∧ p ≤ 97) ∧ (0 ≤ c ∧ c ≤ p - 1) ∧ (1 ≤ n ∧ n ≤ 8)) ∧ Kr p n a ∧ la ≤ 300) (some (.int .i64 ((trU p c j.toNat a).emod p), hp))
        | none => none
      | none => none
    | _ => none
  | _ => none
theorem qx7 : Am.Callee Try.prog 61 u9 := Callee.fp fun hp xs v hp' he => by
  unfold u9 at he
  split at he
  · rename_i b j
    split at he
    · rename_i p c n ba la L0 hL0
      split at he
      · rename_i L hL
        split at he
        · rename_i a h1
          obtain ⟨⟨⟨a1, a2⟩, ⟨a3, a4, a7⟩, a5, a6⟩, he2⟩ := ql he
          simp only [Option.some.injEq, Prod.mk.injEq] at he2
          obtain ⟨rfl, rfl⟩ := he2
          obtain ⟨e1, e2, e3, e4⟩ := Q3 h1
          have g1 := zb e2
          have hgg := a5.qjv e2
          obtain ⟨k, rfl⟩ : ∃ k : Nat, j = k := ⟨j.toNat, by omega⟩
          rw [Int.toNat_natCast]
          have hfn := qr9 p c n k a (by omega) a3 a4 a7 hgg (by omega)
          refine ⟨[(ba, 0), (b, 0)], [.ptr 1 0, .int .i64 k], _, _, _, hfn, by simp [AV.ren, AV.zg, ofL], rfl,
            ⟨⟨L, hL, by omega, by rw [List.drop_zero, qb _ _ (qc _), g1, e1]; exact e3⟩, ⟨_, hL0, by simp, by simp [AV.zg, AV.ren, ofL, e1]⟩, trivial⟩, rfl,
            ⟨qi _ _ (qc _), ⟨trivial, trivial, trivial, by simp [AV.under], trivial⟩, trivial⟩, ⟨by simp [AV.under], trivial, trivial⟩, by simp [AV.ren], ?_⟩
          simp [after, upd, AO.wr]
        · cases he
      · cases he
    · cases he
  · cases he
noncomputable def J4 : BE := fun hp xs => match xs with
  | [.int .i64 p, .int .i64 a, .int .i64 n, .slc b 0 k false 0] => match rd hp b with
    | some L => match Bw L with
      | some w => chk ((k = w.length ∧ k ≤ 24) ∧ okI p a ∧ (2 ≤ n ∧ n ≤ 6) ∧ w.any (vw n) = false) (some (.int .i64 (qd3 p a n w), hp))
      | none => none
    | none => none
  | _ => none
theorem q18 : Am.Callee Try.prog 60 J4 := Callee.fp fun hp xs v hp' he => by
  unfold J4 at he
  split at he
  · rename_i p a n b k
    split at he
    · rename_i L hL
      split at he
      · rename_i w hw
        have h9 := ql he
        clear he
        obtain ⟨⟨⟨k1, k2⟩, h1, h2, h3⟩, h8⟩ := h9
        simp only [Option.some.injEq, Prod.mk.injEq] at h8
        obtain ⟨rfl, rfl⟩ := h8
        subst k1
        have e1 := wh hw
        subst e1
        refine ⟨[(b, 0)], [.int .i64 p, .int .i64 a, .int .i64 n, .slc 0 0 w.length false 0], _, _, _, qf1 p a n w h1 h2 k2 h3, by simp [AV.ren, AV.zg, ofL], rfl, ⟨⟨_, hL, by simp, by simp [qb _ _ (qo _)]⟩, trivial⟩, rfl, ⟨qi _ _ (qo _), trivial⟩, ?_, by simp [AV.ren], ?_⟩
        · simp [AV.under, AV.qn]
        · simp [after, upd, AO.wr]
      · cases he
    · cases he
  · cases he
noncomputable def q14 : zh := ((qom.put 61 (u9)).put 60 (J4))
theorem qyn : qq Try.prog q14 := ((qaz.put (qx7)).put (q18))
def qc1 (F : Int → Int → Int → List Int → Int × Int) : BE := fun hp xs => match xs with
  | [.int .i64 p, .int .i64 a, .int .i64 n, .slc b 0 k false 0] => match rd hp b with
    | some L => match Bw L with
      | some w => chk (k = w.length ∧ k ≤ 2000000) (some (.tup [.int .i64 (F p a n w).1, .int .i64 (F p a n w).2], hp))
      | none => none
    | none => none
  | _ => none
theorem qnk {f : FuncId} {F : Int → Int → Int → List Int → Int × Int} (hf : ∀ (p a n : Int) (w : List Int), w.length ≤ 2000000 → Am.Fn Try.prog f [.int .i64 p, .int .i64 a, .int .i64 n, .slc 0 0 w.length false 0] [.ro (z8 w)] (fun v H' => v = .tup [.int .i64 (F p a n w).1, .int .i64 (F p a n w).2] ∧ H' = [.ro (z8 w)])) : Am.Callee Try.prog f (qc1 F) := Callee.fp fun hp xs v hp' he => by
  unfold qc1 at he
  split at he
  · rename_i p a n b k
    split at he
    · rename_i L hL
      split at he
      · rename_i w hw
        have h9 := ql he
        clear he
        obtain ⟨⟨k1, k2⟩, h8⟩ := h9
        simp only [Option.some.injEq, Prod.mk.injEq] at h8
        obtain ⟨rfl, rfl⟩ := h8
        subst k1
        have e1 := wh hw
        subst e1
        refine ⟨[(b, 0)], [.int .i64 p, .int .i64 a, .int .i64 n, .slc 0 0 w.length false 0], _, _, _, hf p a n w k2, by simp [AV.ren, AV.zg, ofL], rfl, ⟨⟨_, hL, by simp, by simp [qb _ _ (qo _)]⟩, trivial⟩, rfl, ⟨qi _ _ (qo _), trivial⟩, ?_, by simp [AV.ren, AV.zg], ?_⟩
        · simp [AV.under, AV.qn]
        · simp [after, upd, AO.wr]
      · cases he
    · cases he
  · cases he
noncomputable def qgq : zh := q14
theorem qaj : qq Try.prog qgq := qyn
def wri (w : List Int) : Int := w.foldl (fun acc d => if 0 < d then acc + 1 else acc - 1) 0
theorem qfm {w : List Int} {k : Nat} (h : k < w.length) : wri (w.take (k + 1)) = if 0 < w[k] then wri (w.take k) + 1 else wri (w.take k) - 1 := by
  rw [List.take_succ_eq_append_getElem h, wri, List.foldl_append]; rfl
theorem qf2 {w : List Int} : ∀ k : Nat, k ≤ w.length → -(k : Int) ≤ wri (w.take k) ∧ wri (w.take k) ≤ k
  | 0, _ => by simp [wri]
  | k + 1, h => by
    have := qf2 (w := w) k (by omega)
    rw [qfm (by omega)]
    split <;> omega
theorem xk : qgq 61 = some (u9) := rfl
theorem yc : qgq 59 = some (Q0) := rfl
theorem vo : qgq 72 = some (qk xh) := rfl
theorem ya : qgq 75 = some (qk jo) := rfl
theorem ue : qgq 76 = some (qk xi) := rfl
theorem jk : qgq 67 = some (qk xj) := rfl
theorem wi : qgq 70 = some (qk xm) := rfl
theorem j8 : qgq 69 = some (qk yy) := rfl
theorem jl : qgq 60 = some (J4) := rfl
def ki : AC := .seq (.seq (.region [oM 5 4,oM 6 0,o0 7 (.len .slc (.t 6)),oP 8 .lss 5 7]) (.cond 8 .skip (.exit 0))) (.seq (.block 1 (.seq (.region [oM 11 0,oM 12 4,oX 13 1 11 12,oL 14 13,oK 15 .gtr 14 0]) (.cond 15 (.region [oM 16 3,oK 17 .add 16 1,oM 3 17]) (.region [oM 18 3,oK 19 .sub 18 1,oM 3 19])))) (.region [oM 9 4,oK 10 .add 9 1,oM 4 10]))
def Yq : AC := .seq (.region [oM 20 3,oM 2 20]) .ret
def Ko : AC := .seq (.region [oI 2 0]) (.seq (.region [oI 3 0]) (.seq (.seq (.region [oI 4 0]) (.block 0 (.loop ki))) Yq))
theorem qht : zk Try.prog 127 = some ⟨21, Ko, [.slot 2]⟩ := by kernel_rfl
theorem qhi (w : List Int) (hl : w.length ≤ 1000) :
    Am.Fn Try.prog 127 [.slc 0 0 w.length false 0] [.ro (z8 w)] (fun v H' => v = .int .i64 (wri w) ∧ H' = [.ro (z8 w)]) := by
  refine Am.Fn.xo (R := fun v => v = _) qaj mixed qht (by simp [AV.qn, AV.under]) (jv (qo _)) ?_
  have hla := zw w
  simp (maxSteps := 3000000) only [qf, zH, Ko, xk, yc, vo, ya, ue, jk, wi, j8, jl, Q0, J4, xh, jo, xm, yy, xi, xj, u9, hla, iE, iN, iB, iC, iL, iD, iA, iS, iM, qa, zZ, ↓qt, ↓reduceIte, reduceCtorEq, nA, nM, nS, nE, nL, nD]; try simp only [qa, zY]
  refine WA.jq qaj (fun s => ∃ k : Nat, k ≤ w.length ∧ s = ⟨[(0, .slc 0 0 w.length false 0), (3, .int .i64 (wri (w.take k))), (4, .int .i64 k)], [.ro (z8 w)]⟩)
    (fun s => match get s.env 4 with | .int _ x => w.length - x.toNat | _ => 0) ⟨_, qv.qw [0, 3, 4], 0, by omega, rfl⟩ ?_
  rintro s ⟨k, hk, rfl⟩
  by_cases hlt : k < w.length
  · have hw : qm .i64 ((k : Int) + 1) = ((k + 1 : Nat) : Int) := by rw [wrap64 (by omega) (by omega)]; rfl
    have hli : (k : Int) < (w.length : Int) := by omega
    have hk0 : (0 : Int) ≤ k := by omega
    have hg : w.getD k 0 = w[k] := by simp [hlt]
    have hbd := qf2 (w := w) k hk
    have hs := qfm hlt
    have w1 : qm .i64 (wri (w.take k) + 1) = wri (w.take k) + 1 := wrap64 (by omega) (by omega)
    have w2 : qm .i64 (wri (w.take k) - 1) = wri (w.take k) - 1 := wrap64 (by omega) (by omega)
    by_cases hp : 0 < w[k]
    · rw [if_pos hp] at hs
      replace w1 := w1.trans hs.symm
      simp (maxSteps := 3000000) only [qf, zH, ki, xk, yc, vo, ya, ue, jk, wi, j8, jl, Q0, J4, xh, jo, xm, yy, xi, xj, u9, hli, hk0, hw, hla, hlt, hg, hp, w1, and_self, iE, iN, iB, iC, iL, iD, iA, iS, iM, qa, zZ, ↓qt, ↓reduceIte, reduceCtorEq, nA, nM, nS, nE, nL, nD]; try simp only [qa, zY]
      refine ⟨_, qv.qw [0, 3, 4], ⟨k + 1, by omega, ?_⟩, ?_⟩
      · simp only [zL, ↓reduceIte, reduceCtorEq, nE, nA]
      · simp only [zL, ↓reduceIte, reduceCtorEq, nE, nA]; omega
    · rw [if_neg hp] at hs
      replace w2 := w2.trans hs.symm
      simp (maxSteps := 3000000) only [qf, zH, ki, xk, yc, vo, ya, ue, jk, wi, j8, jl, Q0, J4, xh, jo, xm, yy, xi, xj, u9, hli, hk0, hw, hla, hlt, hg, hp, w2, and_self, iE, iN, iB, iC, iL, iD, iA, iS, iM, qa, zZ, ↓qt, ↓reduceIte, reduceCtorEq, nA, nM, nS, nE, nL, nD]; try simp only [qa, zY]
      refine ⟨_, qv.qw [0, 3, 4], ⟨k + 1, by omega, ?_⟩, ?_⟩
      · simp only [zL, ↓reduceIte, reduceCtorEq, nE, nA]
      · simp only [zL, ↓reduceIte, reduceCtorEq, nE, nA]; omega
  · have hli : ¬ (k : Int) < (w.length : Int) := by omega
    obtain rfl : k = w.length := by omega
    simp (maxSteps := 3000000) only [qf, zH, ki, Yq, hli, Int.lt_irrefl, List.take_length, iE, iN, iB, iC, iL, iD, iA, iS, iM, qa, zZ, ↓qt, ↓reduceIte, reduceCtorEq, nA, nM, nS, nE, nL, nD]; try simp only [qa, zY]
    exact ⟨_, rfl⟩
def Xg : AC := .seq (.region [oP 9 .lss 8 7]) (.seq (.cond 9 .skip (.exit 0)) (.seq (.block 1 (.seq (.region [oX 10 1 6 8,oL 11 10,oM 5 11]) (.seq (.region [oM 12 5,oK 13 .gtr 12 0]) (.cond 13 (.region [oM 14 3,oK 15 .add 14 1,oM 3 15]) (.region [oM 16 3,oK 17 .sub 16 1,oM 3 17]))))) (.region [oK 18 .add 8 1,oM 8 18])))
def Kg : AC := .seq (.region [oM 19 3,oM 2 19]) .ret
def qfv : AC := .seq (.region [oI 2 0]) (.seq (.region [oI 3 0]) (.seq (.seq (.region [oM 6 0,o0 7 (.len .slc (.t 6)),oI 8 0]) (.block 0 (.loop Xg))) Kg))
theorem qpk : zk Try.prog 128 = some ⟨20, qfv, [.slot 2]⟩ := by kernel_rfl
theorem qo3 (w : List Int) (hl : w.length ≤ 1000) :
    Am.Fn Try.prog 128 [.slc 0 0 w.length false 0] [.ro (z8 w)] (fun v H' => v = .int .i64 (wri w) ∧ H' = [.ro (z8 w)]) := by
  refine Am.Fn.xo (R := fun v => v = _) qaj mixed qpk (by simp [AV.qn, AV.under]) (jv (qo _)) ?_
  have hla := zw w
  simp (maxSteps := 3000000) only [qf, zH, qfv, xk, yc, vo, ya, ue, jk, wi, j8, jl, Q0, J4, xh, jo, xm, yy, xi, xj, u9, hla, iE, iN, iB, iC, iL, iD, iA, iS, iM, qa, zZ, ↓qt, ↓reduceIte, reduceCtorEq, nA, nM, nS, nE, nL, nD]; try simp only [qa, zY]
  refine WA.jq qaj (fun s => ∃ k : Nat, k ≤ w.length ∧ s = ⟨[(3, .int .i64 (wri (w.take k))), (6, .slc 0 0 w.length false 0), (7, .int .i64 w.length), (8, .int .i64 k)], [.ro (z8 w)]⟩)
    (fun s => match get s.env 8 with | .int _ x => w.length - x.toNat | _ => 0) ⟨_, qv.qw [3, 6, 7, 8], 0, by omega, rfl⟩ ?_
  rintro s ⟨k, hk, rfl⟩
  by_cases hlt : k < w.length
  · have hw : qm .i64 ((k : Int) + 1) = ((k + 1 : Nat) : Int) := by rw [wrap64 (by omega) (by omega)]; rfl
    have hli : (k : Int) < (w.length : Int) := by omega
    have hk0 : (0 : Int) ≤ k := by omega
    have hg : w.getD k 0 = w[k] := by simp [hlt]
    have hbd := qf2 (w := w) k hk
    have hs := qfm hlt
    have w1 : qm .i64 (wri (w.take k) + 1) = wri (w.take k) + 1 := wrap64 (by omega) (by omega)
    have w2 : qm .i64 (wri (w.take k) - 1) = wri (w.take k) - 1 := wrap64 (by omega) (by omega)
    by_cases hp : 0 < w[k]
    · rw [if_pos hp] at hs
      replace w1 := w1.trans hs.symm
      simp (maxSteps := 3000000) only [qf, zH, Xg, xk, yc, vo, ya, ue, jk, wi, j8, jl, Q0, J4, xh, jo, xm, yy, xi, xj, u9, hli, hk0, hw, hla, hlt, hg, hp, w1, and_self, iE, iN, iB, iC, iL, iD, iA, iS, iM, qa, zZ, ↓qt, ↓reduceIte, reduceCtorEq, nA, nM, nS, nE, nL, nD]; try simp only [qa, zY]
      refine ⟨_, qv.qw [3, 6, 7, 8], ⟨k + 1, by omega, ?_⟩, ?_⟩
      · simp only [zL, ↓reduceIte, reduceCtorEq, nE, nA]
      · simp only [zL, ↓reduceIte, reduceCtorEq, nE, nA]; omega
    · rw [if_neg hp] at hs
      replace w2 := w2.trans hs.symm
      simp (maxSteps := 3000000) only [qf, zH, Xg, xk, yc, vo, ya, ue, jk, wi, j8, jl, Q0, J4, xh, jo, xm, yy, xi, xj, u9, hli, hk0, hw, hla, hlt, hg, hp, w2, and_self, iE, iN, iB, iC, iL, iD, iA, iS, iM, qa, zZ, ↓qt, ↓reduceIte, reduceCtorEq, nA, nM, nS, nE, nL, nD]; try simp only [qa, zY]
      refine ⟨_, qv.qw [3, 6, 7, 8], ⟨k + 1, by omega, ?_⟩, ?_⟩
      · simp only [zL, ↓reduceIte, reduceCtorEq, nE, nA]
      · simp only [zL, ↓reduceIte, reduceCtorEq, nE, nA]; omega
  · have hli : ¬ (k : Int) < (w.length : Int) := by omega
    obtain rfl : k = w.length := by omega
    simp (maxSteps := 3000000) only [qf, zH, Xg, Kg, hli, Int.lt_irrefl, List.take_length, iE, iN, iB, iC, iL, iD, iA, iS, iM, qa, zZ, ↓qt, ↓reduceIte, reduceCtorEq, nA, nM, nS, nE, nL, nD]; try simp only [qa, zY]
    exact ⟨_, rfl⟩
def Ks : BE := fun hp xs => match xs with
  | [.slc b 0 k false 0] => match rd hp b with
    | some L => match Bw L with
      | some w => chk (k = w.length ∧ k ≤ 1000) (some (.int .i64 (wri w), hp))
      | none => none
    | none => none
  | _ => none
theorem qn7 {f : FuncId} (hf : ∀ (w : List Int), w.length ≤ 1000 → Am.Fn Try.prog f [.slc 0 0 w.length false 0] [.ro (z8 w)] (fun v H' => v = .int .i64 (wri w) ∧ H' = [.ro (z8 w)])) : Am.Callee Try.prog f Ks := Callee.fp fun hp xs v hp' he => by
  unfold Ks at he
  split at he
  · rename_i b k
    split at he
    · rename_i L hL
      split at he
      · rename_i w hw
        have h9 := ql he
        clear he
        obtain ⟨⟨k1, k2⟩, h8⟩ := h9
        simp only [Option.some.injEq, Prod.mk.injEq] at h8
        obtain ⟨rfl, rfl⟩ := h8
        subst k1
        have e1 := wh hw
        subst e1
        refine ⟨[(b, 0)], [.slc 0 0 w.length false 0], _, _, _, hf w k2, by simp [AV.ren, AV.zg, ofL], rfl, ⟨⟨_, hL, by simp, by simp [qb _ _ (qo _)]⟩, trivial⟩, rfl, ⟨qi _ _ (qo _), trivial⟩, ?_, by simp [AV.ren, AV.zg], ?_⟩
        · simp [AV.under, AV.qn]
        · simp [after, upd, AO.wr]
      · cases he
    · cases he
  · cases he
noncomputable def qb1 : zh := ((qgq.put 127 (Ks)).put 128 (Ks))
theorem qj9 : qq Try.prog qb1 := ((qaj.put (qn7 qhi)).put (qn7 qo3))
theorem vr : qb1 61 = some (u9) := rfl
theorem Qe : qb1 59 = some (Q0) := rfl
theorem bz : qb1 72 = some (qk xh) := rfl
theorem Qd : qb1 75 = some (qk jo) := rfl
theorem Zg : qb1 76 = some (qk xi) := rfl
theorem yl : qb1 67 = some (qk xj) := rfl
theorem ko : qb1 70 = some (qk xm) := rfl
theorem uy : qb1 69 = some (qk yy) := rfl
theorem yn : qb1 60 = some (J4) := rfl
theorem y7 : qb1 127 = some (Ks) := rfl
theorem km : qb1 128 = some (Ks) := rfl
noncomputable def Kc (p b : Int) : Int := ((-b * b).tmod p * b).emod p
noncomputable def qaf (p a n : Int) (w : List Int) : Int := (qd3 p a n w * jz p (if wri w < 0 then Kc p a else Kc p (xt p a)) (wri w).natAbs).tmod p
theorem qa6 {p b : Int} (hp : 2 ≤ p ∧ p ≤ 97) (h : 1 ≤ b ∧ b ≤ p - 1) : qm .i64 ((-b * b).tmod p * b) = (-b * b).tmod p * b ∧ qm .i64 (-b * b) = -b * b ∧ qm .i64 (0 - b) = -b := by
  have q := qmz hp.2 h
  have e1 : -b * b = -(b * b) := Int.neg_mul ..
  have e2 : (-b * b).tmod p = -((b * b).tmod p) := by rw [e1, Int.neg_tmod]
  have s0 : 0 ≤ (b * b).tmod p := Int.tmod_nonneg _ q.1
  have s1 : (b * b).tmod p < p := Int.tmod_lt_of_pos _ (by omega)
  have e3 : (-b * b).tmod p * b = -((b * b).tmod p * b) := by rw [e2, Int.neg_mul]
  have s2 : 0 ≤ (b * b).tmod p * b := Int.mul_nonneg s0 (by omega)
  have s3 : (b * b).tmod p * b ≤ 96 * 96 := Int.mul_le_mul (by omega) (by omega) (by omega) (by omega)
  exact ⟨wrap64 (by omega) (by omega), wrap64 (by omega) (by omega), by rw [wrap64 (by omega) (by omega)]; omega⟩
theorem qek {p b : Int} (hp : 2 ≤ p ∧ p ≤ 97) : 0 ≤ Kc p b ∧ Kc p b ≤ p - 1 := ⟨Int.emod_nonneg _ (by omega), Int.le_sub_one_of_lt (Int.emod_lt_of_pos _ (by omega))⟩
theorem qep {p x y : Int} {k : Nat} (hp : 2 ≤ p ∧ p ≤ 97) (h : 0 ≤ y ∧ y ≤ p - 1) : qm .i64 (y * jz p x k) = y * jz p x k := by
  have h2 := qa9 (c := x) hp.1 k
  have h3 : y * jz p x k ≤ 96 * 96 := Int.mul_le_mul (by omega) (by omega) h2.1 (by omega)
  have h4 : 0 ≤ y * jz p x k := Int.mul_nonneg h.1 h2.1
  exact wrap64 (by omega) (by omega)
theorem qro {p a n : Int} {w : List Int} (hp : 2 ≤ p ∧ p ≤ 97) : 0 ≤ qd3 p a n w ∧ qd3 p a n w ≤ p - 1 := ⟨Int.emod_nonneg _ (by omega), Int.le_sub_one_of_lt (Int.emod_lt_of_pos _ (by omega))⟩
def Yu : AC := .seq (.region [oI 8 0]) (.seq (.region [oM 12 3,oC 13 127 [.t 12],oM 14 0,oM 15 1,oC 16 67 [.t 14,.t 15],oM 9 13,oM 10 16]) (.seq (.seq (.region [oM 17 9,oK 18 .lss 17 0]) (.cond 18 (.seq (.region [oM 19 9,o0 20 (.un .neg (.t 19)),oM 9 20]) (.region [oM 21 1,oM 10 21])) .skip)) (.seq (.region [oM 22 0,oM 23 10,o0 24 (.un .neg (.t 23)),oM 25 10,oP 26 .mul 24 25,oM 27 0,oP 28 .rem 26 27,oM 29 10,oP 30 .mul 28 29,oC 31 70 [.t 22,.t 30],oM 11 31]) (.seq (.region [oM 32 0,oM 33 1,oM 34 2,oM 35 3,oC 36 60 [.t 32,.t 33,.t 34,.t 35],oM 37 0,oM 38 11,oM 39 9,oC 40 69 [.t 37,.t 38,.t 39],oP 41 .mul 36 40,oM 42 0,oP 43 .rem 41 42,oM 8 43]) .ret))))
theorem qkm : zk Try.prog 62 = some ⟨44, Yu, [.slot 8]⟩ := by kernel_rfl
theorem qkr (p a n : Int) (w : List Int) (h : okI p a) (hn : 2 ≤ n ∧ n ≤ 6) (hl : w.length ≤ 24) (hbw : w.any (vw n) = false) :
    Am.Fn Try.prog 62 [.int .i64 p, .int .i64 a, .int .i64 n, .slc 0 0 w.length false 0] [.ro (z8 w)] (fun v H' => v = .int .i64 (qaf p a n w) ∧ H' = [.ro (z8 w)]) := by
  refine Am.Fn.xo (R := fun v => v = _) qj9 mixed qkm (by simp [AV.qn, AV.under]) (jv (qo _)) ?_
  have hws := uf w
  have hla := zw w
  have hb := vu h.1
  have ha := h.2
  have hlb := W4 h
  have hv := (Xy h.1 h.2).1
  have hbr := Q1 h hn hbw w.length (Nat.le_refl _)
  rw [List.take_length] at hbr
  have hg1 := hbr.1.dec
  have htp := jh hbr.1.ok
  have hbl : (Z8 p a n w).length ≤ 300 := by omega
  have c1 : 1 ≤ n ∧ n ≤ 8 := by omega
  have hl2 : w.length ≤ 1000 := by omega
  have hem : (trU p (gi p a) 1 (Z8 p a n w)).emod p = qd3 p a n w := rfl
  have hbd := qf2 (w := w) w.length (Nat.le_refl _)
  rw [List.take_length] at hbd
  have p1 : 0 < p ∧ p ≤ 1000000 := by omega
  have hp0 : ¬ p = 0 := by omega
  have hbb := qro (a := a) (n := n) (w := w) hb
  by_cases hneg : wri w < 0
  · obtain ⟨e, he⟩ : ∃ e : Nat, wri w = -(e : Int) := ⟨(wri w).natAbs, by omega⟩
    have ej : qaf p a n w = (qd3 p a n w * jz p (Kc p a) e).tmod p := by
      unfold qaf; rw [if_pos hneg, he]; simp
    rw [ej]
    rw [he] at hneg
    have w0 : qm .i64 (0 - -(e : Int)) = (e : Int) := by rw [wrap64 (by omega) (by omega)]; omega
    have he0 : (0 : Int) ≤ (e : Int) ∧ (e : Int) ≤ 1000000 := by omega
    obtain ⟨w1, w2, w3⟩ := qa6 hb ha
    have hx : ((-a * a).tmod p * a).emod p = Kc p a := rfl
    have hxb := qek (b := a) hb
    have wf := qep (x := Kc p a) (k := e) hb hbb
    simp (maxSteps := 3000000) only [qf, zH, Yu, vr, Qe, bz, Qd, Zg, yl, ko, uy, yn, y7, km, Q0, J4, xh, jo, xm, yy, xi, xj, u9, Ks, wz, elemV, j0, qb _ _ (qc _), qb _ _ (qd _ _), hws, hla, hl, hl2, h, hn, hbw, he, hneg, w0, he0, w1, w2, w3, hx, hxb, wf, p1, hp0, hb, hlb, c1, hg1, htp, hbl, hem, Int.toNat_one, Int.toNat_natCast, and_self, iE, iN, iB, iC, iL, iD, iA, iS, iM, qa, zZ, ↓qt, ↓reduceIte, reduceCtorEq, nA, nM, nS, nE, nL, nD]; try simp only [qa, zY]
    exact ⟨_, rfl⟩
  · obtain ⟨e, he⟩ : ∃ e : Nat, wri w = (e : Int) := ⟨(wri w).natAbs, by omega⟩
    have ej : qaf p a n w = (qd3 p a n w * jz p (Kc p (xt p a)) e).tmod p := by
      unfold qaf; rw [if_neg hneg, he]; simp
    rw [ej]
    rw [he] at hneg
    have he0 : (0 : Int) ≤ (e : Int) ∧ (e : Int) ≤ 1000000 := by omega
    obtain ⟨w1, w2, w3⟩ := qa6 hb hv
    have hx : ((-(xt p a) * xt p a).tmod p * xt p a).emod p = Kc p (xt p a) := rfl
    have hxb := qek (b := xt p a) hb
    have wf := qep (x := Kc p (xt p a)) (k := e) hb hbb
    simp (maxSteps := 3000000) only [qf, zH, Yu, vr, Qe, bz, Qd, Zg, yl, ko, uy, yn, y7, km, Q0, J4, xh, jo, xm, yy, xi, xj, u9, Ks, wz, elemV, j0, qb _ _ (qc _), qb _ _ (qd _ _), hws, hla, hl, hl2, h, hn, hbw, he, hneg, he0, w1, w2, w3, hx, hxb, wf, p1, hp0, hb, hlb, c1, hg1, htp, hbl, hem, Int.toNat_one, Int.toNat_natCast, and_self, iE, iN, iB, iC, iL, iD, iA, iS, iM, qa, zZ, ↓qt, ↓reduceIte, reduceCtorEq, nA, nM, nS, nE, nL, nD]; try simp only [qa, zY]
    exact ⟨_, rfl⟩
def qcd : AC := .seq (.region [oI 8 0]) (.seq (.region [oM 12 0,oM 13 1,oM 14 2,oM 15 3,oC 16 59 [.t 12,.t 13,.t 14,.t 15],oM 17 3,oC 18 128 [.t 17],oM 19 1,oM 20 0,oC 21 72 [.t 19,.t 20],oZ 9,oS 4 9 16,oM 10 18,oM 11 21]) (.seq (.seq (.region [oM 22 10,oK 23 .lss 22 0]) (.cond 23 (.region [oM 24 10,o0 25 (.un .neg (.t 24)),oM 26 1,oM 10 25,oM 11 26]) .skip)) (.seq (.draw false [oM 28 11,o0 29 (.un .neg (.t 28)),oM 30 11,oP 31 .mul 29 30,oM 32 0,oP 33 .rem 31 32,oM 34 11,oP 35 .mul 33 34,oM 36 0,oM 38 10,oM 39 0,oM 42 0,oC 27 61 [.t 9,(.c (.int .i64 1))],oC 37 76 [.t 35,.t 36],oC 40 75 [.t 37,.t 38,.t 39],oP 41 .mul 27 40,oP 43 .rem 41 42,oM 8 43]) .ret)))
theorem qtr : zk Try.prog 63 = some ⟨44, qcd, [.slot 8]⟩ := by kernel_rfl
theorem qs2 (p a n : Int) (w : List Int) (h : okI p a) (hn : 2 ≤ n ∧ n ≤ 6) (hl : w.length ≤ 24) (hbw : w.any (vw n) = false) :
    Am.Fn Try.prog 63 [.int .i64 p, .int .i64 a, .int .i64 n, .slc 0 0 w.length false 0] [.ro (z8 w)] (fun v H' => v = .int .i64 (qaf p a n w) ∧ H' = [.ro (z8 w)]) := by
  refine Am.Fn.xo (R := fun v => v = _) qj9 mixed qtr (by simp [AV.qn, AV.under]) (jv (qo _)) ?_
  have hws := uf w
  have hla := zw w
  have hb := vu h.1
  have ha := h.2
  have hlb := W4 h
  have hv := (Xy h.1 h.2).1
  have hbr := Q1 h hn hbw w.length (Nat.le_refl _)
  rw [List.take_length] at hbr
  have hg1 := hbr.1.dec
  have htp := jh hbr.1.ok
  have hbl : (Z8 p a n w).length ≤ 300 := by omega
  have c1 : 1 ≤ n ∧ n ≤ 8 := by omega
  have hl2 : w.length ≤ 1000 := by omega
  have hem : (trU p (gi p a) 1 (Z8 p a n w)).emod p = qd3 p a n w := rfl
  have hbd := qf2 (w := w) w.length (Nat.le_refl _)
  rw [List.take_length] at hbd
  have p1 : 0 < p ∧ p ≤ 1000000 := by omega
  have hp0 : ¬ p = 0 := by omega
  have hbb := qro (a := a) (n := n) (w := w) hb
  by_cases hneg : wri w < 0
  · obtain ⟨e, he⟩ : ∃ e : Nat, wri w = -(e : Int) := ⟨(wri w).natAbs, by omega⟩
    have ej : qaf p a n w = (qd3 p a n w * jz p (Kc p a) e).tmod p := by
      unfold qaf; rw [if_pos hneg, he]; simp
    rw [ej]
    rw [he] at hneg
    have w0 : qm .i64 (0 - -(e : Int)) = (e : Int) := by rw [wrap64 (by omega) (by omega)]; omega
    have he0 : (0 : Int) ≤ (e : Int) ∧ (e : Int) ≤ 1000000 := by omega
    obtain ⟨w1, w2, w3⟩ := qa6 hb ha
    have hx : ((-a * a).tmod p * a).emod p = Kc p a := rfl
    have hxb := qek (b := a) hb
    have wf := qep (x := Kc p a) (k := e) hb hbb
    simp (maxSteps := 3000000) only [qf, zH, qcd, vr, Qe, bz, Qd, Zg, yl, ko, uy, yn, y7, km, Q0, J4, xh, jo, xm, yy, xi, xj, u9, Ks, wz, elemV, j0, qb _ _ (qc _), qb _ _ (qd _ _), hws, hla, hl, hl2, h, hn, hbw, he, hneg, w0, he0, w1, w2, w3, hx, hxb, wf, p1, hp0, hb, hlb, c1, hg1, htp, hbl, hem, Int.toNat_one, Int.toNat_natCast, and_self, iE, iN, iB, iC, iL, iD, iA, iS, iM, qa, zZ, ↓qt, ↓reduceIte, reduceCtorEq, nA, nM, nS, nE, nL, nD]; try simp only [qa, zY]
    exact ⟨rfl, _, rfl⟩
  · obtain ⟨e, he⟩ : ∃ e : Nat, wri w = (e : Int) := ⟨(wri w).natAbs, by omega⟩
    have ej : qaf p a n w = (qd3 p a n w * jz p (Kc p (xt p a)) e).tmod p := by
      unfold qaf; rw [if_neg hneg, he]; simp
    rw [ej]
    rw [he] at hneg
    have he0 : (0 : Int) ≤ (e : Int) ∧ (e : Int) ≤ 1000000 := by omega
    obtain ⟨w1, w2, w3⟩ := qa6 hb hv
    have hx : ((-(xt p a) * xt p a).tmod p * xt p a).emod p = Kc p (xt p a) := rfl
    have hxb := qek (b := xt p a) hb
    have wf := qep (x := Kc p (xt p a)) (k := e) hb hbb
    simp (maxSteps := 3000000) only [qf, zH, qcd, vr, Qe, bz, Qd, Zg, yl, ko, uy, yn, y7, km, Q0, J4, xh, jo, xm, yy, xi, xj, u9, Ks, wz, elemV, j0, qb _ _ (qc _), qb _ _ (qd _ _), hws, hla, hl, hl2, h, hn, hbw, he, hneg, he0, w1, w2, w3, hx, hxb, wf, p1, hp0, hb, hlb, c1, hg1, htp, hbl, hem, Int.toNat_one, Int.toNat_natCast, and_self, iE, iN, iB, iC, iL, iD, iA, iS, iM, qa, zZ, ↓qt, ↓reduceIte, reduceCtorEq, nA, nM, nS, nE, nL, nD]; try simp only [qa, zY]
    exact ⟨rfl, _, rfl⟩
noncomputable def Uz : BE := fun hp xs => match xs with
  | [.int .i64 p, .int .i64 a, .int .i64 n, .slc b 0 k false 0] => match rd hp b with
    | some L => match Bw L with
      | some w => chk ((k = w.length ∧ k ≤ 24) ∧ okI p a ∧ (2 ≤ n ∧ n ≤ 6) ∧ w.any (vw n) = false) (some (.int .i64 (qaf p a n w), hp))
      | none => none
    | none => none
  | _ => none
theorem qmf {f : FuncId} (hf : ∀ (p a n : Int) (w : List Int), okI p a → 2 ≤ n ∧ n ≤ 6 → w.length ≤ 24 → w.any (vw n) = false → Am.Fn Try.prog f [.int .i64 p, .int .i64 a, .int .i64 n, .slc 0 0 w.length false 0] [.ro (z8 w)] (fun v H' => v = .int .i64 (qaf p a n w) ∧ H' = [.ro (z8 w)])) : Am.Callee Try.prog f Uz := Callee.fp fun hp xs v hp' he => by
  unfold Uz at he
  split at he
  · rename_i p a n b k
    split at he
    · rename_i L hL
      split at he
      · rename_i w hw
        have h9 := ql he
        clear he
        obtain ⟨⟨⟨k1, k2⟩, h1, h2, h3⟩, h8⟩ := h9
        simp only [Option.some.injEq, Prod.mk.injEq] at h8
        obtain ⟨rfl, rfl⟩ := h8
        subst k1
        have e1 := wh hw
        subst e1
        refine ⟨[(b, 0)], [.int .i64 p, .int .i64 a, .int .i64 n, .slc 0 0 w.length false 0], _, _, _, hf p a n w h1 h2 k2 h3, by simp [AV.ren, AV.zg, ofL], rfl, ⟨⟨_, hL, by simp, by simp [qb _ _ (qo _)]⟩, trivial⟩, rfl, ⟨qi _ _ (qo _), trivial⟩, ?_, by simp [AV.ren], ?_⟩
        · simp [AV.under, AV.qn]
        · simp [after, upd, AO.wr]
      · cases he
    · cases he
  · cases he
noncomputable def qqg : zh := ((qb1.put 62 (Uz)).put 63 (Uz))
theorem qj6 : qq Try.prog qqg := ((qj9.put (qmf qkr)).put (qmf qs2))
theorem vj : qqg 57 = some (Zp) := rfl
theorem va : qqg 56 = some (qk b9) := rfl
theorem j7 : qqg 52 = some (Xh) := rfl
theorem j5 : qqg 62 = some (Uz) := rfl
theorem yb : qqg 63 = some (Uz) := rfl
noncomputable def Vw (p a n : Int) (w : List Int) : Int × Int := if G9 p a = true ∧ ke n w = true then (qaf p a n w, 0) else (0, 2)
def Zy : AC := .seq (.region [oI 8 0,oI 9 0]) (.seq (.seq (.region [oM 10 0,oM 11 1,oM 12 2,oM 13 3,oC 14 52 [.t 10,.t 11,.t 12,.t 13],o0 15 (.un .not (.t 14))]) (.cond 15 (.seq (.region [oI 8 0,oI 9 2]) .ret) .skip)) (.seq (.region [oM 16 0,oM 17 1,oM 18 2,oM 19 3,oC 20 62 [.t 16,.t 17,.t 18,.t 19],oM 8 20,oI 9 0]) .ret))
theorem qga : zk Try.prog 25 = some ⟨21, Zy, [.slot 8, .slot 9]⟩ := by kernel_rfl
theorem qfq (p a n : Int) (w : List Int) (hl : w.length ≤ 2000000) :
    Am.Fn Try.prog 25 [.int .i64 p, .int .i64 a, .int .i64 n, .slc 0 0 w.length false 0] [.ro (z8 w)] (fun v H' => v = .tup [.int .i64 (Vw p a n w).1, .int .i64 (Vw p a n w).2] ∧ H' = [.ro (z8 w)]) := by
  refine Am.Fn.xo (R := fun v => v = _) qj6 mixed qga (by simp [AV.qn, AV.under]) (jv (qo _)) ?_
  have hws := uf w
  have hla := zw w
  cases hb : G9 p a with
  | false =>
    have e : Vw p a n w = (0, 2) := if_neg (by simp [hb])
    simp (maxSteps := 3000000) only [qf, zH, Zy, vj, va, j7, j5, yb, Xh, Uz, b9, Zp, wz, elemV, j0, qb _ _ (qc _), qb _ _ (qd _ _), hws, hla, hl, hb, Bool.false_and, and_self, iE, iN, iB, iC, iL, iD, iA, iS, iM, qa, zZ, ↓qt, ↓reduceIte, reduceCtorEq, nA, nM, nS, nE, nL, nD]; try simp only [qa, zY]
    rw [e]
    exact ⟨⟨_, rfl⟩, rfl⟩
  | true =>
    cases hw : ke n w with
    | false =>
      have e : Vw p a n w = (0, 2) := if_neg (by simp [hw])
      simp (maxSteps := 3000000) only [qf, zH, Zy, vj, va, j7, j5, yb, Xh, Uz, b9, Zp, wz, elemV, j0, qb _ _ (qc _), qb _ _ (qd _ _), hws, hla, hl, hb, hw, Bool.and_false, and_self, iE, iN, iB, iC, iL, iD, iA, iS, iM, qa, zZ, ↓qt, ↓reduceIte, reduceCtorEq, nA, nM, nS, nE, nL, nD]; try simp only [qa, zY]
      rw [e]
      exact ⟨⟨_, rfl⟩, rfl⟩
    | true =>
      have e : Vw p a n w = (qaf p a n w, 0) := if_pos ⟨hb, hw⟩
      have ho := qrl hb
      obtain ⟨h1, h2, h3⟩ := qmc hw
      simp (maxSteps := 3000000) only [qf, zH, Zy, vj, va, j7, j5, yb, Xh, Uz, b9, Zp, wz, elemV, j0, qb _ _ (qc _), qb _ _ (qd _ _), hws, hla, hl, hb, hw, Bool.and_true, ho, h1, h2, h3, and_self, iE, iN, iB, iC, iL, iD, iA, iS, iM, qa, zZ, ↓qt, ↓reduceIte, reduceCtorEq, nA, nM, nS, nE, nL, nD]; try simp only [qa, zY]
      rw [e]
      exact ⟨⟨_, rfl⟩, rfl⟩
def Ze : AC := .seq (.region [oI 8 0,oI 9 0]) (.seq (.seq (.region [oM 10 0,oM 11 1,oC 12 56 [.t 10,.t 11],o0 13 (.un .not (.t 12)),oM 14 13,oG 15 14 false (.mov (.t 2)),oG 16 14 false (.mov (.t 3)),⟨some 17,some (14,false),.call (.c (.fn 57 [] [])) [.t 15,.t 16]⟩,oG 18 14 false (.un .not (.t 17)),o0 19 (.pick (.t 14) (.c (.bool true)) (.t 18))]) (.cond 19 (.seq (.region [oI 8 0,oI 9 2]) .ret) .skip)) (.seq (.region [oM 20 0,oM 21 1,oM 22 2,oM 23 3,oC 24 63 [.t 20,.t 21,.t 22,.t 23],oM 8 24,oI 9 0]) .ret))
theorem qgr : zk Try.prog 26 = some ⟨25, Ze, [.slot 8, .slot 9]⟩ := by kernel_rfl
theorem qfj (p a n : Int) (w : List Int) (hl : w.length ≤ 2000000) :
    Am.Fn Try.prog 26 [.int .i64 p, .int .i64 a, .int .i64 n, .slc 0 0 w.length false 0] [.ro (z8 w)] (fun v H' => v = .tup [.int .i64 (Vw p a n w).1, .int .i64 (Vw p a n w).2] ∧ H' = [.ro (z8 w)]) := by
  refine Am.Fn.xo (R := fun v => v = _) qj6 mixed qgr (by simp [AV.qn, AV.under]) (jv (qo _)) ?_
  have hws := uf w
  have hla := zw w
  cases hb : G9 p a with
  | false =>
    have e : Vw p a n w = (0, 2) := if_neg (by simp [hb])
    simp (maxSteps := 3000000) only [qf, zH, Ze, vj, va, j7, j5, yb, Xh, Uz, b9, Zp, wz, elemV, j0, qb _ _ (qc _), qb _ _ (qd _ _), hws, hla, hl, hb, Bool.false_and, and_self, iE, iN, iB, iC, iL, iD, iA, iS, iM, qa, zZ, ↓qt, ↓reduceIte, reduceCtorEq, nA, nM, nS, nE, nL, nD]; try simp only [qa, zY]
    rw [e]
    exact ⟨⟨_, rfl⟩, rfl⟩
  | true =>
    cases hw : ke n w with
    | false =>
      have e : Vw p a n w = (0, 2) := if_neg (by simp [hw])
      simp (maxSteps := 3000000) only [qf, zH, Ze, vj, va, j7, j5, yb, Xh, Uz, b9, Zp, wz, elemV, j0, qb _ _ (qc _), qb _ _ (qd _ _), hws, hla, hl, hb, hw, Bool.and_false, and_self, iE, iN, iB, iC, iL, iD, iA, iS, iM, qa, zZ, ↓qt, ↓reduceIte, reduceCtorEq, nA, nM, nS, nE, nL, nD]; try simp only [qa, zY]
      rw [e]
      exact ⟨⟨_, rfl⟩, rfl⟩
    | true =>
      have e : Vw p a n w = (qaf p a n w, 0) := if_pos ⟨hb, hw⟩
      have ho := qrl hb
      obtain ⟨h1, h2, h3⟩ := qmc hw
      simp (maxSteps := 3000000) only [qf, zH, Ze, vj, va, j7, j5, yb, Xh, Uz, b9, Zp, wz, elemV, j0, qb _ _ (qc _), qb _ _ (qd _ _), hws, hla, hl, hb, hw, Bool.and_true, ho, h1, h2, h3, and_self, iE, iN, iB, iC, iL, iD, iA, iS, iM, qa, zZ, ↓qt, ↓reduceIte, reduceCtorEq, nA, nM, nS, nE, nL, nD]; try simp only [qa, zY]
      rw [e]
      exact ⟨⟨_, rfl⟩, rfl⟩
noncomputable def qxe : zh := ((qqg.put 25 (qc1 Vw)).put 26 (qc1 Vw))
theorem qyg : qq Try.prog qxe := ((qj6.put (qnk qfq)).put (qnk qfj))
theorem Xs : qxe 26 = some (qc1 Vw) := rfl
theorem Xq : qxe 25 = some (qc1 Vw) := rfl
theorem Vi : qxe 22 = some (qio) := rfl
theorem J5 : qxe 20 = some (qh4) := rfl
def bp : AC := .seq (.region [oB 8 false]) (.seq (.seq (.region [oM 14 3,o0 15 (.len .slc (.t 14)),oK 16 .gtr 15 1048576]) (.cond 16 (.seq (.region [oB 8 true]) .ret) .skip)) (.seq (.region [oM 18 0,oM 19 1,oM 20 2,oM 21 3,oC 22 20 [.t 21],oC 23 25 [.t 18,.t 19,.t 20,.t 22],oM 17 23,oE 24 0 17,oE 25 1 17,oM 9 24,oM 10 25]) (.seq (.region [oM 26 3,oC 27 20 [.t 26],oM 11 27]) (.seq (.region [oM 29 0,oM 30 1,oM 31 2,oM 32 11,oC 33 26 [.t 29,.t 30,.t 31,.t 32],oM 28 33,oE 34 0 28,oE 35 1 28,oM 12 34,oM 13 35]) (.seq (.seq (.region [oM 36 12,oM 37 9,oP 38 .neq 36 37,oM 39 38,oG 40 39 false (.mov (.t 13)),oG 41 39 false (.mov (.t 10)),oG 42 39 false (.bin .neq (.t 40) (.t 41)),o0 43 (.pick (.t 39) (.c (.bool true)) (.t 42))]) (.cond 43 (.seq (.region [oB 8 false]) .ret) .skip)) (.seq (.seq (.region [oM 44 11,oM 45 3,oC 46 20 [.t 45],oC 47 22 [.t 44,.t 46],o0 48 (.un .not (.t 47))]) (.cond 48 (.seq (.region [oB 8 false]) .ret) .skip)) (.seq (.region [oB 8 true]) .ret)))))))
theorem Bb : zk Try.prog 6 = some ⟨49, bp, [.slot 8]⟩ := by kernel_rfl
theorem qgo (H : List AO) (X : AV) (p a n : Int) (w : List Int) (h : qob H X w) (hl : w.length ≤ 9223372036854775807) : Am.Fn Try.prog 6 [.int .i64 p, .int .i64 a, .int .i64 n, X] H (fun v H' => v = .bool true ∧ H' = H) := by
  refine Am.Fn.xo (R := fun v => v = _) qyg mixed Bb (by simp) (K6 h) ?_
  have hX := qt2 h
  by_cases hlt : (1048576 : Int) < w.length
  · rcases h with ⟨rfl, rfl, h0⟩ | ⟨rfl, rfl, h0⟩ | ⟨cap, rfl, hc, rfl⟩
    · simp [h0] at hlt
    · simp [h0] at hlt
    · simp (maxSteps := 3000000) only [qf, zH, bp, Xs, Xq, Vi, J5, qio, qh4, qc1, iE, iN, iB, iC, iL, iD, iA, iS, iM, hlt, qa, zZ, ↓qt, ↓reduceIte, reduceCtorEq, nA, nM, nS, nE, nL, nD]; try simp only [qa, zY]
      exact ⟨_, rfl⟩
  · generalize he : Vw p a n w = r
    obtain ⟨B, E⟩ := r
    have b0 := uf w
    have b1 := zw w
    have h8 : w.length ≤ 2000000 := by omega
    have hz : ¬ (1048576 : Int) < ((0 : Nat) : Int) := by omega
    rcases h with ⟨rfl, rfl, h0⟩ | ⟨rfl, rfl, h0⟩ | ⟨cap, rfl, hc, rfl⟩
    all_goals simp only [List.cons_append, List.nil_append] at hX
    all_goals (simp (maxSteps := 3000000) only [qf, zH, bp, Xs, Xq, Vi, J5, qio, qh4, qc1, iE, iN, iB, iC, iL, iD, iA, iS, iM, wz, elemV, j0, qb _ _ (qc _), qb _ _ (qd _ _), hX, hlt, hz, he, b0, b1, h8, bne_self_eq_false, qa, zZ, ↓qt, ↓reduceIte, reduceCtorEq, nA, nM, nS, nE, nL, nD]; try simp only [qa, zY])
    all_goals exact ⟨_, rfl⟩
end Go.Proofs.Ytfhckbbgmblhbaa
namespace Go.Proofs.Ytfhckbbgmblhbaa
open Go.Am Go.Dia Go.ChangeShapes
open Nat renaming reduceAdd → nA, reduceMul → nM, reduceSub → nS, reduceEqDiff → nE, reduceLT → nL, reduceLeDiff → nD, reduceBEq → nB
open Int renaming reduceEq → iE, reduceNe → iN, reduceBEq → iB, reduceBNe → iC, reduceLT → iL, reduceLE → iD, reduceAdd → iA, reduceSub → iS, reduceMul → iM
set_option linter.unusedSimpArgs false
set_option linter.unusedVariables false
set_option maxRecDepth 4000
set_option maxHeartbeats 1000000
section
variable {H : Type} {enc : TypeId × Value → H} {P : Program} {w : World} {base : Nat} {spare : Nat → Bool} {held : Bool}
theorem qsl (ι : Nat → Am.Loc) {l : List AV} (h : AV.zl l = true) : qu (fun _ => Am.Loc.nil) l = qu ι l := by
  rw [j4 (ι' := ι) (n := 0) (fun j hj => by omega) l (qi _ _ h)]
theorem qir {ι : Nat → Am.Loc} : ∀ (ts : List Int) (L : List Value) (off : Nat), (∀ i (hi : i < ts.length), L[off + i]? = some (.int .i64 ts[i])) →
    (L.drop off).take ts.length = qu ι (z8 ts)
  | [], L, off, h => by simp [z8, qu]
  | t :: ts, L, off, h => by
    have h0 := h 0 (by simp)
    rw [Nat.add_zero, List.getElem_cons_zero] at h0
    obtain ⟨hlt, h1⟩ := List.getElem?_eq_some_iff.1 h0
    have ih := qir (ι := ι) ts L (off + 1) fun i hi => by
      have := h (i + 1) (by simpa using hi)
      rw [show off + 1 + i = off + (i + 1) by omega]
      simpa using this
    rw [List.drop_eq_getElem_cons hlt, List.length_cons, List.take_succ_cons, h1, ih]
    rfl
theorem qsm {tX tI : TypeId} (hts : P.underlying tX = some (.slice tI)) (hti : P.underlying tI = some (.int .i64)) (hci : P.cellsOf tI = 1) {a0 : Option Addr} {len0 cap0 : Nat} {d : DataW H} {ps : List MemPlace} (hs : ∀ b, spare b = true) (h : DataW.Trod enc P w base spare held tX (.slice a0 len0 cap0) d ps) :
    ∃ (X : AV) (Hp : List AO) (ts : List Int) (l : Am.Loc), qob Hp X ts ∧ Value.slice a0 len0 cap0 = gam (fun _ => l) X ∧ (∀ o ∈ Hp, X6 (fun _ => l) w.heap l o ∧ o.wr = false) ∧ ts.length ≤ 9223372036854775807 := by
  obtain ⟨fuel, hf⟩ := h
  have hf' : DataW.trod enc P w base spare held fuel tX [.slice a0 len0 cap0] = some (d, ps) := hf
  rcases DataW.trod_slice hts hf' with ⟨e, _⟩ | ⟨a, len, cap, elems, rest, n, e, e2, e3, hb, hlc, hcm, hel, hei, hrs, _⟩
  · rw [List.cons.injEq] at e
    rw [e.1]
    exact ⟨.v (.slice none 0 0), [], [], Am.Loc.nil, .inl ⟨rfl, rfl, rfl⟩, rfl, (fun o h => by cases h), by simp⟩
  rw [List.cons.injEq] at e2
  rw [e2.1]
  rw [hci] at hei hrs
  have hmax : len ≤ 9223372036854775807 := Nat.le_trans (Nat.le_trans hlc hcm) (by decide)
  have hget : ∀ i, i < len → ∃ t : Int, w.cells? base (a.add (i * 1)) 1 = some [.int .i64 t] := fun i hi => by
    have h1 := hei i hi
    rw [List.getElem?_eq_getElem (by omega)] at h1
    simp only [Option.bind_eq_some_iff] at h1
    obtain ⟨cs', h2, h3⟩ := h1
    obtain ⟨t, rfl, _, _⟩ := DataW.trod_int hti h3
    exact ⟨t, h2⟩
  let f : Nat → Int := fun i => if hi : i < len then Classical.choose (hget i hi) else 0
  have hf : ∀ i, i < len → w.cells? base (a.add (i * 1)) 1 = some [.int .i64 (f i)] := fun i hi => by
    have := Classical.choose_spec (hget i hi)
    simp only [f, dif_pos hi]; exact this
  have hlen : ((List.range len).map f).length = len := by simp
  have hcell : ∀ i, i < len → w.cell? (a.add i) = some (.int .i64 (f i)) := fun i hi => by
    have := (World.cells?_some (hf i hi)).2.2 0 (by omega)
    rw [Addr.add_add, Nat.mul_one, Nat.add_zero] at this
    simpa using this
  by_cases hc0 : cap = 0
  · obtain rfl : len = 0 := by omega
    subst hc0
    refine ⟨.slc 0 0 0 true 0, [.dead], [], ⟨a, false, 0⟩, .inr (.inl ⟨rfl, rfl, rfl⟩), rfl, fun o h => ?_, by simp⟩
    rw [List.mem_singleton] at h; subst h; exact ⟨trivial, rfl⟩
  have h0 : ∃ v, w.cell? (a.add 0) = some v := by
    by_cases hl0 : len = 0
    · subst hl0
      obtain ⟨h1, h2⟩ := hrs (hs _)
      have h3 := h2 0 (by omega)
      rw [List.getElem?_eq_getElem (by omega)] at h3
      simp only [Option.bind_eq_some_iff] at h3
      obtain ⟨cs', h4, _⟩ := h3
      have h5 := World.cells?_some h4
      have h6 := h5.2.2 0 (by omega)
      have h7 : cs'.length = 1 := h5.2.1
      rw [List.getElem?_eq_getElem (by omega)] at h6
      simp only [Nat.zero_add, Nat.zero_mul, Addr.add_add] at h6
      exact ⟨_, h6⟩
    · exact ⟨_, hcell 0 (by omega)⟩
  obtain ⟨v0, h0⟩ := h0
  obtain ⟨blk, off, spot⟩ := a
  have hspot : spot = none := by simpa [Addr.add] using World.cell?_spot h0
  subst hspot
  have hheap : ∃ c ty fz, w.heap[blk]? = some (.cells c ty fz) := by
    simp only [World.cell?, Addr.add_plain] at h0
    split at h0
    · rename_i c ty fz hh; exact ⟨c, ty, fz, hh⟩
    · cases h0
  obtain ⟨c, ty, fz, hh⟩ := hheap
  have hc : ∀ i, w.cell? ⟨blk, i, none⟩ = c.toList[i]? := fun i => by simp [World.cell?, hh]
  have hoff : off ≤ c.toList.length := by
    rw [Addr.add_plain, Nat.add_zero, hc] at h0
    have := (List.getElem?_eq_some_iff.1 h0).1
    omega
  have hscan := qir (ι := fun _ => Am.Loc.nil) ((List.range len).map f) c.toList off fun i hi => by
    rw [hlen] at hi
    have := hcell i hi
    rw [Addr.add_plain, hc] at this
    rw [this]
    simp
  rw [hlen] at hscan
  refine ⟨.slc 0 0 ((List.range len).map f).length true cap, [.ro (z8 ((List.range len).map f))], (List.range len).map f, ⟨⟨blk, off, none⟩, false, 0⟩, .inr (.inr ⟨cap, rfl, by rw [hlen]; exact hlc, rfl⟩), ?_, fun o h => ?_, by rw [hlen]; exact hmax⟩
  · rw [hlen]; simp [gam, Addr.add_plain]
  · rw [List.mem_singleton] at h; subst h
    refine ⟨.inr ⟨rfl, blk, off, c, ty, fz, c.toList.take off, (c.toList.drop off).drop len, rfl, hh, by rw [List.length_take]; omega, ?_⟩, rfl⟩
    rw [← qsl _ (qo _), ← hscan, List.append_assoc, List.take_append_drop, List.take_append_drop]
theorem qml {Hp : List AO} {X : AV} {ts : List Int} (h : qob Hp X ts) : X.under Hp.length := by
  rcases h with ⟨rfl, rfl, _⟩ | ⟨rfl, rfl, _⟩ | ⟨cap, rfl, _, rfl⟩ <;> simp [AV.under]
theorem qxh {l : Am.Loc} {H : List AO} {X : AV} {ts : List Int} {heap : Array Obj} (hX : qob H X ts) (h : ∀ o ∈ H, X6 (fun _ => l) heap l o ∧ o.wr = false) : HOk (fun _ => l) H heap := by
  refine ⟨fun j o hj => ⟨K6 hX j o hj, (h o (List.mem_of_getElem? hj)).1⟩, fun i j b hi hj => ?_⟩
  obtain ⟨o, ho, hw, _⟩ := hi
  have := (h o (List.mem_of_getElem? ho)).2
  rw [this] at hw; cases hw
end
end Go.Proofs.Ytfhckbbgmblhbaa

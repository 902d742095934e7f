/- Contracts of functions of the program, and plain laws, part 8: each text of this part is proved without further condition. -/
import Derived.Test.YtfhckbbgmblhbaaZ7
import Derived.Test.YtfhckbbgmblhbaaAmC
import Derived.Test.YtfhckbbgmblhbaaRows
import Derived.OpenShut
namespace Go.Proofs.Ytfhckbbgmblhbaa
open Go.Am Go.Dia
open Nat renaming reduceAdd → nA, reduceMul → nM, reduceSub → nS, reduceEqDiff → nE, reduceLT → nL, reduceLeDiff → nD, reduceBEq → nB
open Int renaming reduceEq → iE, reduceNe → iN, reduceBEq → iB, reduceBNe → iC, reduceLT → iL, reduceLE → iD, reduceAdd → iA, reduceSub → iS, reduceMul → iM
set_option linter.unusedSimpArgs false
set_option linter.unusedVariables false
set_option maxRecDepth 4000
set_option maxHeartbeats 2000000
noncomputable def u3 (p c n : Int) (m : List Nat) : Int × Int :=
  if isS n.toNat m = false then (0, 1) else if Qj p c n = 0 then (cf m (vl p c (n.toNat - 1)), 0) else (0, Qj p c n)
theorem qjw {p c n : Int} (h : Qj p c n = 0) : ((z7 p = true ∧ 0 ≤ c ∧ c ≤ p - 1) ∧ 1 ≤ n ∧ n ≤ 5) ∧ n ≤ vh p c := by
  unfold Qj at h
  split at h
  · cases h
  · rename_i h1
    split at h
    · cases h
    · rename_i h2
      exact ⟨Classical.byContradiction h1, Classical.byContradiction h2⟩
theorem qwg {p c n : Int} (h : Qj p c n ≠ 0) : bp p c n = (0, 0, 0, [], Qj p c n) := by
  unfold Qj at h ⊢
  unfold bp
  split
  · rfl
  · rename_i h1
    rw [if_neg h1] at h
    split
    · rfl
    · rename_i h2
      rw [if_neg h2] at h
      exact absurd rfl h
theorem zy : qky 87 = some (Jf) := rfl
theorem xw : qky 42 = some (gq Jd) := rfl
theorem vo : qky 93 = some (g9 0 17 bm) := rfl
theorem wg : qky 78 = some (gq Ve) := rfl
theorem w8 : qky 91 = some (qj yd) := rfl
theorem jh : qky 79 = some (gq (b8 5)) := rfl
theorem j8 : qky 82 = some (ym) := rfl
theorem j9 : qky 77 = some (qj Jh) := rfl
def b9 : AC := .seq (.region [o0 5 (.box (.t 2)),oI 6 0,oI 7 0]) (.seq (.seq (.region [oN 11 17 5,o0 12 (.um 1 [.int .i64 0,.int .u8 0,.int .u8 0,.int .u8 0,.int .u8 0,.int .u8 0,.int .u8 0,.int .u8 0,.int .u8 0,.int .u8 0,.int .u8 0,.int .u8 0,.int .u8 0,.int .u8 0,.int .u8 0,.int .u8 0,.int .u8 0] [(0,17,.t 11)]),oC 13 93 [.t 12],oM 8 13]) (.seq (.region [oM 14 8,oK 15 .neq 14 0]) (.cond 15 (.seq (.region [oM 16 8,oI 6 0,oM 7 16]) .ret) .skip))) (.seq (.region [oM 18 0,oM 19 1,oF 20 0 5,oL 21 20,oC 22 42 [.t 18,.t 19,.t 21],oM 17 22,oE 23 0 17,oE 24 1 17,oZ 9,oS 4 9 23,oM 10 24]) (.seq (.seq (.region [oM 25 10,oK 26 .neq 25 0]) (.cond 26 (.seq (.region [oM 27 10,oI 6 0,oM 7 27]) .ret) .skip)) (.seq (.region [oN 28 17 5,oC 29 87 [.t 9,.t 28],oM 6 29,oI 7 0]) .ret))))
theorem qd1 : zl Try.prog 40 = some ⟨30, b9, [.slot 6, .slot 7]⟩ := by kernel_rfl
theorem qdi (p c n : Int) (m : List Nat) (hm : okD m) : Am.Fn Try.prog 40 [.int .i64 p, .int .i64 c, .agg (dia n m)] [] (fun v H' => v = .tup [.int .i64 (u3 p c n m).1, .int .i64 (u3 p c n m).2] ∧ H' = []) := by
  refine Am.Fn.xf (R := fun v => v = _) qoh mixed qd1 (by simp [AV.qv, AV.under, qk _ _ (qd _ _)]) (by simp) ?_
  have hml := hm.1
  have hmd := qy (n := n) hm
  have hds : qdl 1 (dia n m) = some [(n, m)] := by
    have := qay (ds := [(n, m)]) (fun d hd => by rw [List.mem_singleton.1 hd]; exact hm)
    simpa [dis] using this
  cases hs : isS n.toNat m with
  | false =>
    have e : u3 p c n m = (0, 1) := if_pos hs
    have hbd : (if List.any [(n, m)] bad = true then (1 : Int) else 0) = 1 := by simp [bad, hs]
    rw [e]
    simp (maxSteps := 3000000) only [qh, zH, b9, zy, xw, vo, wg, w8, jh, j8, j9, Ve, Jf, bm, yd, b8, ym, Jd, Jh, hds, hbd, hmd, hs, zk, zf, j4 hml, qc, hml, qn hml, za, List.length_replicate, Nat.le_refl, and_self, iE, iN, iB, iC, iL, iD, iA, iS, iM, qa, zZ, ↓qq, ↓reduceIte, reduceCtorEq, nA, nM, nS, nE, nL, nD]; try simp only [qa, zY]
  | true =>
    have hbd : (if List.any [(n, m)] bad = true then (1 : Int) else 0) = 0 := by simp [bad, hs]
    by_cases hz : Qj p c n = 0
    · have e : u3 p c n m = (cf m (vl p c (n.toNat - 1)), 0) := by unfold u3; rw [if_neg (by rw [hs]; simp), if_pos hz]
      obtain ⟨⟨hf, hn⟩, hzz⟩ := qjw hz
      have e2 : bp p c n = (p, c, n, vl p c (n.toNat - 1), 0) := by unfold bp; rw [if_neg (fun h => h ⟨hf, hn⟩), if_neg (fun h => h hzz)]
      have hb := gu hf.1
      have hg := qaz (c := c) hb hf.2 (n.toNat - 1) (by omega)
      rw [show ((n.toNat - 1 + 1 : Nat) : Int) = n by omega] at hg
      have hd := hg.1.dec
      have ht := kr hg.1.ok
      have hl : (vl p c (n.toNat - 1)).length ≤ 300 := by omega
      rw [e]
      simp (maxSteps := 3000000) only [qh, zH, b9, zy, xw, vo, wg, w8, jh, j8, j9, Ve, Jf, bm, yd, b8, ym, Jd, Jh, Yv, elemV, ki, qb _ _ (qe _), qb _ _ (qd _ _), qu7, e2, hds, hbd, hmd, hs, hd, ht, hl, zk, zf, j4 hml, qc, hml, qn hml, za, List.length_replicate, Nat.le_refl, and_self, iE, iN, iB, iC, iL, iD, iA, iS, iM, qa, zZ, ↓qq, ↓reduceIte, reduceCtorEq, nA, nM, nS, nE, nL, nD]; try simp only [qa, zY]
      rfl
    · have e : u3 p c n m = (0, Qj p c n) := by unfold u3; rw [if_neg (by rw [hs]; simp), if_neg hz]
      have e2 := qwg hz
      rw [e]
      simp (maxSteps := 3000000) only [qh, zH, b9, zy, xw, vo, wg, w8, jh, j8, j9, Ve, Jf, bm, yd, b8, ym, Jd, Jh, Yv, elemV, ki, qb _ _ (qe _), qb _ _ (qd _ _), qu7, e2, hds, hbd, hmd, hs, hz, zk, zf, j4 hml, qc, hml, qn hml, za, List.length_replicate, Nat.le_refl, and_self, iE, iN, iB, iC, iL, iD, iA, iS, iM, qa, zZ, ↓qq, ↓reduceIte, reduceCtorEq, nA, nM, nS, nE, nL, nD]; try simp only [qa, zY]
      rfl
def gn : AC := .seq (.region [o0 5 (.box (.t 2)),oI 6 0,oI 7 0]) (.seq (.seq (.region [oN 9 17 5,oC 10 91 [.t 9],o0 11 (.un .not (.t 10))]) (.cond 11 (.seq (.region [oI 6 0,oI 7 1]) .ret) .skip)) (.seq (.seq (.region [oM 12 0,oM 13 1,oF 14 0 5,oL 15 14,oC 16 77 [.t 12,.t 13,.t 15],oM 8 16]) (.seq (.region [oM 17 8,oK 18 .neq 17 0]) (.cond 18 (.seq (.region [oM 19 8,oI 6 0,oM 7 19]) .ret) .skip))) (.seq (.draw true [oM 20 0,oM 21 1,oF 22 0 5,oL 23 22,oF 25 0 5,oL 26 25,oN 28 17 5,oC 24 79 [.t 20,.t 21,.t 23],oC 27 78 [.t 26],oC 29 82 [.t 27,.t 28],oX 30 1 24 29,oL 31 30,oM 6 31,oI 7 0]) .ret)))
theorem qdp : zl Try.prog 38 = some ⟨32, gn, [.slot 6, .slot 7]⟩ := by kernel_rfl
theorem qdb (p c n : Int) (m : List Nat) (hm : okD m) : Am.Fn Try.prog 38 [.int .i64 p, .int .i64 c, .agg (dia n m)] [] (fun v H' => v = .tup [.int .i64 (u3 p c n m).1, .int .i64 (u3 p c n m).2] ∧ H' = []) := by
  refine Am.Fn.xf (R := fun v => v = _) qoh mixed qdp (by simp [AV.qv, AV.under, qk _ _ (qd _ _)]) (by simp) ?_
  have hml := hm.1
  have hmd := qy (n := n) hm
  cases hs : isS n.toNat m with
  | false =>
    have e : u3 p c n m = (0, 1) := if_pos hs
    rw [e]
    simp (maxSteps := 3000000) only [qh, zH, gn, zy, xw, vo, wg, w8, jh, j8, j9, Ve, Jf, bm, yd, b8, ym, Jd, Jh, hmd, hs, zk, zf, j4 hml, qc, hml, qn hml, za, List.length_replicate, Nat.le_refl, and_self, iE, iN, iB, iC, iL, iD, iA, iS, iM, qa, zZ, ↓qq, ↓reduceIte, reduceCtorEq, nA, nM, nS, nE, nL, nD]; try simp only [qa, zY]
  | true =>
    by_cases hz : Qj p c n = 0
    · have e : u3 p c n m = (cf m (vl p c (n.toNat - 1)), 0) := by unfold u3; rw [if_neg (by rw [hs]; simp), if_pos hz]
      obtain ⟨⟨hf, hn⟩, hzz⟩ := qjw hz
      have hP := hf.1
      have hc := hf.2
      obtain ⟨N, rfl⟩ : ∃ N : Nat, n = N := ⟨n.toNat, by omega⟩
      rw [Int.toNat_natCast] at e hs
      have hN : 1 ≤ N ∧ N ≤ 6 := by omega
      have c1 : (1 : Int) ≤ (N : Int) ∧ (N : Int) ≤ 6 := by omega
      have c2 : (N : Int) ≤ ((5 : Nat) : Int) ∧ (N : Int) ≤ (vh p c : Int) := by omega
      have hin : m ∈ qf N := qad hs hml
      have hq : (qf N).idxOf m < (qf N).length := List.idxOf_lt_length_of_mem hin
      have hq0 : (0 : Int) ≤ (((qf N).idxOf m : Nat) : Int) := by omega
      have hqK : (((qf N).idxOf m : Nat) : Int) < ((qf N).length : Int) := by omega
      have hls := qio hN
      have hrl : (Gz p c N).length = (qf N).length := Wj
      have hrl' := jg (Gz p c N)
      have hpv : (Gz p c N).getD ((qf N).idxOf m) 0 = cf m (vl p c (N - 1)) := by unfold Gz wb; rw [qaj hin]
      rw [e]
      simp (maxSteps := 3000000) only [qh, zH, gn, zy, xw, vo, wg, w8, jh, j8, j9, Ve, Jf, bm, yd, b8, ym, Jd, Jh, b8, hz, hP, hc, hn, c1, c2, hmd, hs, hls, hin, hq, hq0, hqK, hrl, hrl', hpv, qia, qv3, ki, Kv, qb _ _ (zr _), qb _ _ (q9 _), zk, zf, j4 hml, qc, hml, qn hml, za, Int.toNat_natCast, List.length_replicate, Nat.le_refl, and_self, iE, iN, iB, iC, iL, iD, iA, iS, iM, qa, zZ, ↓qq, ↓reduceIte, reduceCtorEq, nA, nM, nS, nE, nL, nD]; try simp only [qa, zY]
      exact ⟨⟨_, rfl⟩, ⟨_, rfl⟩, _, rfl⟩
    · have e : u3 p c n m = (0, Qj p c n) := by unfold u3; rw [if_neg (by rw [hs]; simp), if_neg hz]
      rw [e]
      simp (maxSteps := 3000000) only [qh, zH, gn, zy, xw, vo, wg, w8, jh, j8, j9, Ve, Jf, bm, yd, b8, ym, Jd, Jh, hmd, hs, hz, zk, zf, j4 hml, qc, hml, qn hml, za, List.length_replicate, Nat.le_refl, and_self, iE, iN, iB, iC, iL, iD, iA, iS, iM, qa, zZ, ↓qq, ↓reduceIte, reduceCtorEq, nA, nM, nS, nE, nL, nD]; try simp only [qa, zY]
noncomputable def qjk : List AV → Option AV
  | [.int .i64 p, .int .i64 c, .agg d] => match vi d with
    | some (n, m) => some (.tup [.int .i64 (u3 p c n m).1, .int .i64 (u3 p c n m).2])
    | none => none
  | _ => none
theorem qp0 {f : FuncId} (h : ∀ (p c n : Int) m, okD m → Am.Fn Try.prog f [.int .i64 p, .int .i64 c, .agg (dia n m)] [] (fun v H' => v = .tup [.int .i64 (u3 p c n m).1, .int .i64 (u3 p c n m).2] ∧ H' = [])) : Am.Callee Try.prog f (qj qjk) := Am.Callee.plain fun xs v he => by
  unfold qjk at he
  split at he
  · rename_i p c d
    split at he
    · rename_i n m hd
      cases he
      obtain ⟨rfl, hm⟩ := zi hd
      exact ⟨by simp [AV.zg, AV.zq, qd], rfl, h p c n m hm⟩
    · cases he
  · cases he
noncomputable def q4p : zc := ((qky.put 38 (qj qjk)).put 40 (qj qjk))
theorem q4h : qp Try.prog q4p := ((qoh.put (qp0 qdb)).put (qp0 qdi))
theorem Yu : q4p 40 = some (qj qjk) := rfl
theorem Y0 : q4p 38 = some (qj qjk) := rfl
theorem Ky : q4p 39 = some (qj qrz) := rfl
def Ql : AC := .seq (.region [o0 5 (.box (.t 2)),oB 6 false]) (.seq (.region [oM 12 0,oM 13 1,oN 14 17 5,oC 15 39 [.t 14],oC 16 38 [.t 12,.t 13,.t 15],oM 11 16,oE 17 0 11,oE 18 1 11,oM 7 17,oM 8 18]) (.seq (.region [oM 20 0,oM 21 1,oN 22 17 5,oC 23 39 [.t 22],oC 24 40 [.t 20,.t 21,.t 23],oM 19 24,oE 25 0 19,oE 26 1 19,oM 9 25,oM 10 26]) (.seq (.seq (.region [oM 27 9,oM 28 7,oP 29 .neq 27 28,oM 30 29,oG 31 30 false (.mov (.t 10)),oG 32 30 false (.mov (.t 8)),oG 33 30 false (.bin .neq (.t 31) (.t 32)),o0 34 (.pick (.t 30) (.c (.bool true)) (.t 33))]) (.cond 34 (.seq (.region [oB 6 false]) .ret) .skip)) (.seq (.region [oB 6 true]) .ret))))
theorem Yz : zl Try.prog 11 = some ⟨35, Ql, [.slot 6]⟩ := by kernel_rfl
theorem qdt (p c n : Int) (m : List Nat) (hm : okD m) : Am.Fn Try.prog 11 [.int .i64 p, .int .i64 c, .agg (dia n m)] [] (fun v H' => v = .bool true ∧ H' = []) := by
  refine Am.Fn.xf (R := fun v => v = _) q4h mixed Yz (by simp [AV.qv, AV.under, qk _ _ (qd _ _)]) (by simp) ?_
  generalize he : u3 p c n m = r
  obtain ⟨B, E⟩ := r
  simp (maxSteps := 3000000) only [qh, zH, Ql, Yu, Y0, Ky, qjk, qrz, qc, hm.1, qy hm, qn hm.1, zk, zf, j4 hm.1, he, List.length_replicate, iE, iN, iB, iC, iL, iD, iA, iS, iM, Yv, elemV, ki, qb _ _ (qe _), qb _ _ (qd _ _), bne_self_eq_false, qa, zZ, ↓qq, ↓reduceIte, reduceCtorEq, nA, nM, nS, nE, nL, nD]; try simp only [qa, zY]
end Go.Proofs.Ytfhckbbgmblhbaa
namespace Go.Proofs.Ytfhckbbgmblhbaa
open Go.Am
open Nat renaming reduceAdd → nA, reduceMul → nM, reduceSub → nS, reduceEqDiff → nE, reduceLT → nL, reduceLeDiff → nD, reduceBEq → nB
open Int renaming reduceEq → iE, reduceNe → iN, reduceBEq → iB, reduceBNe → iC, reduceLT → iL, reduceLE → iD, reduceAdd → iA, reduceSub → iS, reduceMul → iM
theorem q50 (ι : Nat → Am.Loc) (heap : Array Obj) : HOk ι [] heap := ⟨fun j o h => by simp at h, fun i j b ⟨o, h, _⟩ => by simp at h⟩
end Go.Proofs.Ytfhckbbgmblhbaa
namespace Go.Proofs.Ytfhckbbgmblhbaa.fnExactCoefficientOf
open Go.ChangeShapes Go.WideShapes Go.ChangeAt Go.RowKit Go.Am Go.Proofs.Ytfhckbbgmblhbaa
set_option linter.unusedVariables false
set_option maxRecDepth 100000
theorem own : ownKnob Try.prog.godebug = none := by kernel_rfl
theorem laidOut : laidOutB Try.prog = true := by kernel_rfl
theorem full : ∀ t e, t < Try.prog.types.size → Try.prog.underlying t = some (.slice e) → 0 < Try.prog.cellsOf e := slices_full_of _ (by kernel_rfl)
theorem q01 (H : Type) (enc : TypeId × Value → H) (W : World) (args : Array Value) (ds gs : List (DataW H)) (before : List MemPlace)
    (hval : ∀ (j : Nat) (t : TypeId) (v : Value), Try.f11.params[j]? = some t → args[j]? = some v → Value.okWide Try.prog W .any 0 t v)
    (hW : DataW.Whole enc Try.prog Try.f11.params.toList Rows.fnExactCoefficientOfSpec.vars false W args.toList ds gs before) :
    Calls Try.prog 11 args W fun e W' => ∃ v, e = .returned v ∧ Rows.fnExactCoefficientOfSpec.post enc Try.prog Try.f11 false true false false W args v W' := by
  have hW' := hW
  obtain ⟨p, q, hA0, hV, rfl, hfz, hnd⟩ := hW
  have hA : DataW.TrodAll enc Try.prog W 0 (fun _ => true) true Try.f11.params.toList args.toList ds p := hA0
  rw [Try.params11] at hA
  obtain ⟨v1, vs1, d1, ds1, p1, q1, ea1, ed1, _, h1, hA⟩ := trodAll_cons hA
  obtain ⟨v2, vs2, d2, ds2, p2, q2, ea2, ed2, _, h2, hA⟩ := trodAll_cons hA
  obtain ⟨v3, vs3, d3, ds3, p3, q3, ea3, ed3, _, h3, hA⟩ := trodAll_cons hA
  obtain ⟨ea5, ed5, _⟩ := trodAll_nil hA
  have ea : args.toList = [v1, v2, v3] := by rw [ea1, ea2, ea3, ea5]
  have hds : ds = [d1, d2, d3] := by rw [ed1, ed2, ed3, ed5]
  obtain rfl : args = #[v1, v2, v3] := by rw [← Array.toArray_toList (xs := args), ea]
  obtain ⟨n1, rfl, -, -, w1⟩ := open_int (k := .i64) (by kernel_rfl) (hval 0 _ v1 rfl rfl) h1
  obtain ⟨n2, rfl, -, -, w2⟩ := open_int (k := .i64) (by kernel_rfl) (hval 1 _ v2 rfl rfl) h2
  obtain ⟨n, m, hm, hb, rfl, -, hn⟩ := q1m (t := 54) (e8 := 5) Try.underlying54 (by kernel_rfl) (by kernel_rfl) (by kernel_rfl) rfl rfl (by kernel_rfl) (by kernel_rfl) (by kernel_rfl) (by kernel_rfl) h3
  have hlaw := (qdt n1 n2 n m ⟨hm, hb⟩).mono (R' := fun v _ => v = .bool true) fun v H' h => h.1
  have hc := qyg hlaw (by simp) (ι := fun _ => Loc.nil) (w := W) (q50 _ _) ⟨trivial, trivial, qk _ _ (qd _ _), trivial⟩
  refine Calls.mono hc fun e W' ⟨he, hk, hh⟩ => ⟨_, he, ?_⟩
  refine qza hW' rfl ?_ (t := 4) rfl (by kernel_rfl) laidOut full ?_ hk hh
  · subst hds
    obtain ⟨rfl, _⟩ := trodVars_none hV
    exact ⟨rfl, rfl, rfl⟩
  · rw [Try.params11]
    intro t ht
    simp only [List.mem_cons, List.not_mem_nil, or_false] at ht
    rcases ht with rfl | rfl | rfl <;> exact ⟨by kernel_rfl, of_decide_eq_true (by kernel_rfl)⟩
theorem lifted (os : Os) (started : os.Started) (H : Type) (enc : TypeId × Value → H) :
    ReturnsInHanded {} Try.checked os 11 .any (Rows.fnExactCoefficientOfSpec.pre6 enc Try.prog Try.f11 Rows.fnExactCoefficientOfRow.domain false) (Rows.fnExactCoefficientOfSpec.post enc Try.prog Try.f11 false true false false) := by
  refine returnsInHanded_of_change (C := Try.checked) own started (by kernel_rfl) Try.func11
    (ChangeSpec.witness6 (enc := enc) (C := Try.checked) false ⟨#[], #[.int .i64 0, .int .i64 0, .agg #[.int .i64 0, .int .u8 0, .int .u8 0, .int .u8 0, .int .u8 0, .int .u8 0, .int .u8 0, .int .u8 0, .int .u8 0, .int .u8 0, .int .u8 0, .int .u8 0, .int .u8 0, .int .u8 0, .int .u8 0, .int .u8 0, .int .u8 0]], []⟩ 8 (by kernel_rfl) (by kernel_rfl) (by kernel_rfl) (by kernel_rfl)) ?_
  intro W base args ds gs before hval hW hcnd _
  exact q01 H enc W args ds gs before hval hW
end Go.Proofs.Ytfhckbbgmblhbaa.fnExactCoefficientOf
namespace Go.Proofs.Ytfhckbbgmblhbaa.fnExactCoefficientOf
set_option linter.unusedVariables false
set_option maxRecDepth 100000
theorem qx6 : (Rows.fnExactCoefficientOfRow.inPlace == Try.pinned.checked.prog.inPlace 11) = true := by kernel_rfl
theorem qn8 : (Rows.fnExactCoefficientOfRow.unfollowed == Try.pinned.checked.prog.unfollowed 11) = true := by kernel_rfl
theorem qui : (Rows.fnExactCoefficientOfRow.recurses == Try.pinned.checked.prog.recurses 11) = true := by kernel_rfl
theorem q3m : (Rows.fnExactCoefficientOfRow.named == Try.pinned.checked.prog.varsNamed 11) = true := by kernel_rfl
theorem q4g : Try.pinned.checked.prog.stopsHeard = true := by kernel_rfl
theorem q3q : Try.pinned.checked.prog.mayEnter = true := by kernel_rfl
theorem qxd : (Rows.fnExactCoefficientOfRow.lifted == Try.pinned.checked.prog.liftsFinal) = true := by kernel_rfl
theorem q8t : laidOutB Try.pinned.checked.prog = true := by kernel_rfl
theorem q47 : mapsRowed Try.pinned.checked.prog = true := by kernel_rfl
theorem q68 : (Rows.fnExactCoefficientOfRow.plainKeys == Try.pinned.checked.prog.plainKeys) = true := by kernel_rfl
end Go.Proofs.Ytfhckbbgmblhbaa.fnExactCoefficientOf

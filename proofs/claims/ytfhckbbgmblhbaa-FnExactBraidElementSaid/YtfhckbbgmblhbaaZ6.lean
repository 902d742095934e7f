/- Contracts of functions of the program, and plain laws, part 6: each text of this part is proved without further condition. -/
import Derived.Test.YtfhckbbgmblhbaaZ5
import Derived.Test.YtfhckbbgmblhbaaAmC
import Derived.OpenShut
namespace Go.Proofs.Ytfhckbbgmblhbaa
open Go.Am Go.Dia
open Nat renaming reduceAdd → nA, reduceMul → nM, reduceSub → nS, reduceEqDiff → nE, reduceLT → nL, reduceLeDiff → nD, reduceBEq → nB
open Int renaming reduceEq → iE, reduceNe → iN, reduceBEq → iB, reduceBNe → iC, reduceLT → iL, reduceLE → iD, reduceAdd → iA, reduceSub → iS, reduceMul → iM
set_option linter.unusedSimpArgs false
set_option linter.unusedVariables false
set_option maxRecDepth 4000
set_option maxHeartbeats 1000000
def Gu (p a : Int) : Bool := yg p && decide (1 ≤ a ∧ a ≤ p - 1)
theorem qj2 {p a : Int} (h : Gu p a = true) : okI p a := by
  unfold Gu at h
  rw [Bool.and_eq_true, decide_eq_true_eq] at h
  exact h
theorem gn : qgz 71 = some (ql yi) := rfl
theorem j9 : qgz 72 = some (ql vm) := rfl
theorem va : qgz 120 = some (ql jf) := rfl
theorem ua : qgz 76 = some (ql vp) := rfl
theorem wo : qgz 66 = some (ql yi) := rfl
theorem jb : qgz 67 = some (ql vl) := rfl
theorem vx : qgz 70 = some (ql j3) := rfl
theorem jw : qgz 137 = some (ql jf) := rfl
def Yl : AC := .seq (.region [oB 4 false]) (.seq (.region [oM 5 0,oC 6 120 [.t 5],oM 7 6,oG 8 7 true (.mov (.t 1)),oG 9 7 true (.mov (.t 0)),oG 10 7 true (.bin .sub (.t 9) (.c (.int .i64 1))),⟨some 11,some (7,true),.call (.c (.fn 71 [] [])) [.t 8,(.c (.int .i64 1)),.t 10]⟩,o0 12 (.pick (.t 7) (.t 11) (.c (.bool false))),oM 4 12]) .ret)
theorem qkv : zl Try.prog 56 = some ⟨13, Yl, [.slot 4]⟩ := by kernel_rfl
theorem qkr (p a : Int) : Am.Fn Try.prog 56 [.int .i64 p, .int .i64 a] [] (fun v H' => v = .bool (Gu p a) ∧ H' = []) := by
  refine Am.Fn.xu (R := fun v => v = _) qbh mixed qkv (by simp) (by simp) ?_
  cases hP : yg p with
  | false =>
    simp (maxSteps := 3000000) only [qh, zH, Yl, gn, j9, va, ua, wo, jb, vx, jw, vm, yi, j3, jf, vp, vl, hP, iE, iN, iB, iC, iL, iD, iA, iS, iM, qa, zZ, ↓qt, ↓reduceIte, reduceCtorEq, nA, nM, nS, nE, nL, nD]; try simp only [qa, zY]
    simp [Gu, hP]
  | true =>
    have hb := y0 hP
    have hw : qm .i64 (p - 1) = p - 1 := wrap64 (by omega) (by omega)
    simp (maxSteps := 3000000) only [qh, zH, Yl, gn, j9, va, ua, wo, jb, vx, jw, vm, yi, j3, jf, vp, vl, hP, hw, iE, iN, iB, iC, iL, iD, iA, iS, iM, qa, zZ, ↓qt, ↓reduceIte, reduceCtorEq, nA, nM, nS, nE, nL, nD]; try simp only [qa, zY]
    simp [Gu, hP]
def Jl : AC := .seq (.region [oB 4 false]) (.seq (.region [oM 5 0,oC 6 137 [.t 5],oM 7 6,oG 8 7 true (.mov (.t 1)),oG 9 7 true (.mov (.t 0)),oG 10 7 true (.bin .sub (.t 9) (.c (.int .i64 1))),⟨some 11,some (7,true),.call (.c (.fn 66 [] [])) [.t 8,(.c (.int .i64 1)),.t 10]⟩,o0 12 (.pick (.t 7) (.t 11) (.c (.bool false))),oM 4 12]) .ret)
theorem qeo : zl Try.prog 117 = some ⟨13, Jl, [.slot 4]⟩ := by kernel_rfl
theorem qge (p a : Int) : Am.Fn Try.prog 117 [.int .i64 p, .int .i64 a] [] (fun v H' => v = .bool (Gu p a) ∧ H' = []) := by
  refine Am.Fn.xu (R := fun v => v = _) qbh mixed qeo (by simp) (by simp) ?_
  cases hP : yg p with
  | false =>
    simp (maxSteps := 3000000) only [qh, zH, Jl, gn, j9, va, ua, wo, jb, vx, jw, vm, yi, j3, jf, vp, vl, hP, iE, iN, iB, iC, iL, iD, iA, iS, iM, qa, zZ, ↓qt, ↓reduceIte, reduceCtorEq, nA, nM, nS, nE, nL, nD]; try simp only [qa, zY]
    simp [Gu, hP]
  | true =>
    have hb := y0 hP
    have hw : qm .i64 (p - 1) = p - 1 := wrap64 (by omega) (by omega)
    simp (maxSteps := 3000000) only [qh, zH, Jl, gn, j9, va, ua, wo, jb, vx, jw, vm, yi, j3, jf, vp, vl, hP, hw, iE, iN, iB, iC, iL, iD, iA, iS, iM, qa, zZ, ↓qt, ↓reduceIte, reduceCtorEq, nA, nM, nS, nE, nL, nD]; try simp only [qa, zY]
    simp [Gu, hP]
def u9 : List AV → Option AV
  | [.int .i64 p, .int .i64 a] => some (.bool (Gu p a))
  | _ => none
theorem qma {f : FuncId} (h : ∀ p a, Am.Fn Try.prog f [.int .i64 p, .int .i64 a] [] (fun v H' => v = .bool (Gu p a) ∧ H' = [])) : Am.Callee Try.prog f (ql u9) := Am.Callee.plain fun xs v he => by
  unfold u9 at he
  split at he
  · rename_i p a
    cases he
    exact ⟨rfl, rfl, h p a⟩
  · cases he
noncomputable def ka (p a : Int) : Int := (-a * a - jz p a * jz p a).emod p
theorem qfc {p a : Int} (h : okI p a) : 0 ≤ ka p a ∧ ka p a ≤ p - 1 := by
  have hb := y0 h.1
  exact ⟨Int.emod_nonneg _ (by omega), Int.le_sub_one_of_lt (Int.emod_lt_of_pos _ (by omega))⟩
theorem qqs {p a : Int} (hp : p ≤ 97) (h : 1 ≤ a ∧ a ≤ p - 1) : 0 ≤ a * a ∧ a * a ≤ 9216 := by
  have h1 : a * a ≤ 96 * 96 := Int.mul_le_mul (by omega) (by omega) (by omega) (by omega)
  exact ⟨Int.mul_nonneg (by omega) (by omega), by omega⟩
def G1 : AC := .seq (.region [oI 4 0]) (.seq (.region [oM 6 1,oM 7 0,oC 8 72 [.t 6,.t 7],oM 5 8]) (.seq (.region [oM 9 1,o0 10 (.un .neg (.t 9)),oM 11 1,oP 12 .mul 10 11,oM 13 5,oM 14 5,oP 15 .mul 13 14,oP 16 .sub 12 15,oM 17 0,oC 18 76 [.t 16,.t 17],oM 4 18]) .ret))
theorem qg4 : zl Try.prog 123 = some ⟨19, G1, [.slot 4]⟩ := by kernel_rfl
theorem qg2 (p a : Int) (h : okI p a) : Am.Fn Try.prog 123 [.int .i64 p, .int .i64 a] [] (fun v H' => v = .int .i64 (ka p a) ∧ H' = []) := by
  refine Am.Fn.xu (R := fun v => v = _) qbh mixed qg4 (by simp) (by simp) ?_
  have hb := y0 h.1
  have hv := (Wd h.1 h.2).1
  have h2 : 1 ≤ a ∧ a ≤ p - 1 := h.2
  have q1 := qqs hb.2 h2
  have q2 := qqs hb.2 hv
  have hn : (0 : Int) - a = -a := by omega
  have w0 : qm .i64 (-a) = -a := wrap64 (by omega) (by omega)
  have e1 : -a * a = -(a * a) := Int.neg_mul ..
  have w1 : qm .i64 (-a * a) = -a * a := wrap64 (by omega) (by omega)
  have w2 : qm .i64 (jz p a * jz p a) = jz p a * jz p a := wrap64 (by omega) (by omega)
  have w3 : qm .i64 (-a * a - jz p a * jz p a) = -a * a - jz p a * jz p a := wrap64 (by omega) (by omega)
  have hp0 : 0 < p ∧ p ≤ 1000000 := by omega
  have e : (-a * a - jz p a * jz p a).emod p = ka p a := rfl
  simp (maxSteps := 3000000) only [qh, zH, G1, gn, j9, va, ua, wo, jb, vx, jw, vm, yi, j3, jf, vp, vl, h, hn, w0, w1, w2, w3, hp0, e, iE, iN, iB, iC, iL, iD, iA, iS, iM, qa, zZ, ↓qt, ↓reduceIte, reduceCtorEq, nA, nM, nS, nE, nL, nD]; try simp only [qa, zY]
def qcv : AC := .seq (.region [oI 4 0]) (.seq (.region [oM 6 0,oM 7 1,oC 8 67 [.t 6,.t 7],oM 5 8]) (.seq (.region [oM 9 0,oM 10 1,o0 11 (.un .neg (.t 10)),oM 12 1,oP 13 .mul 11 12,oM 14 5,oM 15 5,oP 16 .mul 14 15,oP 17 .sub 13 16,oC 18 70 [.t 9,.t 17],oM 4 18]) .ret))
theorem qk4 : zl Try.prog 118 = some ⟨19, qcv, [.slot 4]⟩ := by kernel_rfl
theorem qn2 (p a : Int) (h : okI p a) : Am.Fn Try.prog 118 [.int .i64 p, .int .i64 a] [] (fun v H' => v = .int .i64 (ka p a) ∧ H' = []) := by
  refine Am.Fn.xu (R := fun v => v = _) qbh mixed qk4 (by simp) (by simp) ?_
  have hb := y0 h.1
  have hv := (Wd h.1 h.2).1
  have h2 : 1 ≤ a ∧ a ≤ p - 1 := h.2
  have q1 := qqs hb.2 h2
  have q2 := qqs hb.2 hv
  have hn : (0 : Int) - a = -a := by omega
  have w0 : qm .i64 (-a) = -a := wrap64 (by omega) (by omega)
  have e1 : -a * a = -(a * a) := Int.neg_mul ..
  have w1 : qm .i64 (-a * a) = -a * a := wrap64 (by omega) (by omega)
  have w2 : qm .i64 (jz p a * jz p a) = jz p a * jz p a := wrap64 (by omega) (by omega)
  have w3 : qm .i64 (-a * a - jz p a * jz p a) = -a * a - jz p a * jz p a := wrap64 (by omega) (by omega)
  have hp0 : 0 < p ∧ p ≤ 1000000 := by omega
  have e : (-a * a - jz p a * jz p a).emod p = ka p a := rfl
  simp (maxSteps := 3000000) only [qh, zH, qcv, gn, j9, va, ua, wo, jb, vx, jw, vm, yi, j3, jf, vp, vl, h, hn, w0, w1, w2, w3, hp0, e, iE, iN, iB, iC, iL, iD, iA, iS, iM, qa, zZ, ↓qt, ↓reduceIte, reduceCtorEq, nA, nM, nS, nE, nL, nD]; try simp only [qa, zY]
noncomputable def bf : List AV → Option AV
  | [.int .i64 p, .int .i64 a] => chk (okI p a) (some (.int .i64 (ka p a)))
  | _ => none
theorem qgk {f : FuncId} (h : ∀ p a, okI p a → Am.Fn Try.prog f [.int .i64 p, .int .i64 a] [] (fun v H' => v = .int .i64 (ka p a) ∧ H' = [])) : Am.Callee Try.prog f (ql bf) := Am.Callee.plain fun xs v he => by
  unfold bf at he
  split at he
  · rename_i p a
    obtain ⟨h1, he⟩ := qk he
    cases he
    exact ⟨rfl, rfl, h p a h1⟩
  · cases he
noncomputable def qhq : zk := (((((((qgz.put 20 (qdc)).put 22 (qdj)).put 29 (Vq)).put 56 (ql u9)).put 117 (ql u9)).put 123 (ql bf)).put 118 (ql bf))
theorem qrm : qu Try.prog qhq := (((((((qbh.put (q1s)).put (q1e)).put (qy4)).put (qma qkr)).put (qma qge)).put (qgk qg2)).put (qgk qn2))
theorem qan : qhq 71 = some (ql yi) := rfl
theorem Vz : qhq 72 = some (ql vm) := rfl
theorem Vu : qhq 120 = some (ql jf) := rfl
theorem Bu : qhq 76 = some (ql vp) := rfl
theorem Ur : qhq 66 = some (ql yi) := rfl
theorem Z7 : qhq 67 = some (ql vl) := rfl
theorem V8 : qhq 70 = some (ql j3) := rfl
theorem J6 : qhq 137 = some (ql jf) := rfl
def wx (n i : Int) : Bool := decide (i = 0) || !decide (qm .i64 (1 - n) ≤ i ∧ i ≤ qm .i64 (n - 1))
def V6 : AC := .seq (.region [oB 3 false]) (.seq (.region [oM 4 0,oK 5 .eql 4 0,oM 6 5,oG 7 6 false (.mov (.t 0)),oG 8 6 false (.Jt (.t 1)),oG 9 6 false (.bin .sub (.c (.int .i64 1)) (.t 8)),oG 10 6 false (.Jt (.t 1)),oG 11 6 false (.bin .sub (.t 10) (.c (.int .i64 1))),⟨some 12,some (6,false),.call (.c (.fn 71 [] [])) [.t 7,.t 9,.t 11]⟩,oG 13 6 false (.un .not (.t 12)),o0 14 (.pick (.t 6) (.c (.bool true)) (.t 13)),oM 3 14]) .ret)
theorem qgy : zl Try.prog 122 = some ⟨15, V6, [.slot 3]⟩ := by kernel_rfl
theorem qha (n i : Int) : Am.Fn Try.prog 122 [.int .i64 i, .ptr 0 0] [.ro [.int .i64 n]] (fun v H' => v = .bool (wx n i) ∧ H' = [.ro [.int .i64 n]]) := by
  refine Am.Fn.xu (R := fun v => v = _) qrm mixed qgy (by simp [AV.qp, AV.under]) (vh rfl) ?_
  by_cases h0 : i = 0
  · have hb : wx n i = true := by simp [wx, h0]
    have hq : (i == 0) = true := by simpa using h0
    simp (maxSteps := 3000000) only [qh, zH, V6, qan, Vz, Vu, Bu, Ur, Z7, V8, J6, vm, yi, j3, jf, vp, vl, hq, iE, iN, iB, iC, iL, iD, iA, iS, iM, qa, zZ, ↓qt, ↓reduceIte, reduceCtorEq, nA, nM, nS, nE, nL, nD]; try simp only [qa, zY]
    exact ⟨⟨_, rfl⟩, by rw [hb]⟩
  · have hb : wx n i = !decide (qm .i64 (1 - n) ≤ i ∧ i ≤ qm .i64 (n - 1)) := by simp [wx, h0]
    have hq : (i == 0) = false := by simpa using h0
    simp (maxSteps := 3000000) only [qh, zH, V6, qan, Vz, Vu, Bu, Ur, Z7, V8, J6, vm, yi, j3, jf, vp, vl, hq, iE, iN, iB, iC, iL, iD, iA, iS, iM, qa, zZ, ↓qt, ↓reduceIte, reduceCtorEq, nA, nM, nS, nE, nL, nD]; try simp only [qa, zY]
    exact ⟨⟨_, rfl⟩, hb.symm⟩
def J8 : BE := fun hp xs => match xs with
  | [.int .i64 i, .ptr b 0] => match rd hp b with
    | some (.int .i64 n :: _) => some (.bool (wx n i), hp)
    | _ => none
  | _ => none
theorem q18 : Am.Callee Try.prog 122 J8 := Callee.fp fun hp xs v hp' he => by
  unfold J8 at he
  split at he
  · rename_i i b
    split at he
    · rename_i n L hL
      simp only [Option.some.injEq, Prod.mk.injEq] at he
      obtain ⟨rfl, rfl⟩ := he
      refine ⟨[(b, 0)], [.int .i64 i, .ptr 0 0], _, _, _, qha n i, by simp [AV.ren, AV.zg, ofL], rfl, ⟨⟨_, hL, by simp, by simp [AV.zg, AV.ren]⟩, trivial⟩, rfl, ⟨⟨trivial, trivial⟩, trivial⟩, ⟨trivial, by simp [AV.under], trivial⟩, by simp [AV.ren], ?_⟩
      simp [after, upd, AO.wr]
    · cases he
  · cases he
noncomputable def qf6 : zk := (qhq.put 122 (J8))
theorem qkp : qu Try.prog qf6 := (qrm.put (q18))
theorem qbi : qf6 71 = some (ql yi) := rfl
theorem Vs : qf6 72 = some (ql vm) := rfl
theorem Vl : qf6 120 = some (ql jf) := rfl
theorem Uz : qf6 76 = some (ql vp) := rfl
theorem Uq : qf6 66 = some (ql yi) := rfl
theorem Z5 : qf6 67 = some (ql vl) := rfl
theorem Wy : qf6 70 = some (ql j3) := rfl
theorem J3 : qf6 137 = some (ql jf) := rfl
theorem Xv : qf6 122 = some (J8) := rfl
def xw : AC := .seq (.region [oP 9 .lss 8 7]) (.seq (.cond 9 .skip (.exit 0)) (.seq (.block 1 (.seq (.region [oM 10 8,oM 5 10]) (.seq (.region [oM 11 1,oM 12 0,oM 13 5,oX 14 1 12 13,oL 15 14,⟨some 16,none,.call (.t 11) [.t 15]⟩]) (.cond 16 (.seq (.region [oM 17 5,oM 4 17]) .ret) .skip)))) (.region [oK 18 .add 8 1,oM 8 18])))
def ud : AC := .seq (.region [oI 4 (-1)]) .ret
def bq : AC := .seq (.region [oI 4 0]) (.seq (.seq (.region [oM 6 0,o0 7 (.len .slc (.t 6)),oI 8 0]) (.block 0 (.loop xw))) ud)
theorem Jv : zl Try.prog 161 = some ⟨19, bq, [.slot 4]⟩ := by kernel_rfl
theorem qv1 (n : Int) (w : List Int) (hl : w.length ≤ 2000000) :
    Am.Fn Try.prog 161 [.slc 0 0 w.length false 0, .fn 122 [] [.ptr 1 0]] [.ro (xj w), .ro [.int .i64 n]] (fun v H' => v = .int .i64 (if w.any (wx n) then (w.findIdx (wx n) : Nat) else -1) ∧ H' = [.ro (xj w), .ro [.int .i64 n]]) := by
  refine Am.Fn.xu (R := fun v => v = _) qkp mixed Jv (by simp [AV.qp, AV.under]) (Qg (qn _) rfl) ?_
  have hla := xr w
  simp (maxSteps := 3000000) only [qh, zH, bq, iE, iN, iB, iC, iL, iD, iA, iS, iM, qa, zZ, ↓qt, ↓reduceIte, reduceCtorEq, nA, nM, nS, nE, nL, nD]; try simp only [qa, zY]
  refine WA.jh qkp (fun s => ∃ k : Nat, k ≤ w.length ∧ (∀ i, (h : i < k) → ∀ h2, wx n (w[i]'h2) = false) ∧ s = ⟨[(0, .slc 0 0 w.length false 0), (1, .fn 122 [] [.ptr 1 0]), (7, .int .i64 w.length), (8, .int .i64 k)], [.ro (xj w), .ro [.int .i64 n]]⟩)
    (fun s => match get s.env 8 with | .int _ x => w.length - x.toNat | _ => 0) ⟨_, qx.qy [0, 1, 7, 8], 0, by omega, by intros; omega, rfl⟩ ?_
  rintro s ⟨k, hk, hc, rfl⟩
  have hw : qm .i64 ((k : Int) + 1) = ((k + 1 : Nat) : Int) := by rw [wrap64 (by omega) (by omega)]; rfl
  by_cases hlt : k < w.length
  · have hli : (k : Int) < (w.length : Int) := by omega
    have hk0 : (0 : Int) ≤ k := by omega
    have hg : w.getD k 0 = w[k] := by simp [hlt]
    cases hb : wx n w[k] with
    | true =>
      simp (maxSteps := 3000000) only [qh, zH, xw, qbi, Vs, Vl, Uz, Uq, Z5, Wy, J3, Xv, J8, vm, yi, j3, jf, vp, vl, hli, hk0, hw, hla, hlt, hg, hb, and_self, iE, iN, iB, iC, iL, iD, iA, iS, iM, qa, zZ, ↓qt, ↓reduceIte, reduceCtorEq, nA, nM, nS, nE, nL, nD]; try simp only [qa, zY]
      have h1 : w.any (wx n) = true := List.any_eq_true.2 ⟨w[k], List.getElem_mem hlt, hb⟩
      have h3 : w.findIdx (wx n) = k := (List.findIdx_eq hlt).2 ⟨hb, fun j hj => hc j hj (by omega)⟩
      exact ⟨⟨_, rfl⟩, by rw [h1, h3, if_pos rfl]⟩
    | false =>
      simp (maxSteps := 3000000) only [qh, zH, xw, qbi, Vs, Vl, Uz, Uq, Z5, Wy, J3, Xv, J8, vm, yi, j3, jf, vp, vl, hli, hk0, hw, hla, hlt, hg, hb, and_self, iE, iN, iB, iC, iL, iD, iA, iS, iM, qa, zZ, ↓qt, ↓reduceIte, reduceCtorEq, nA, nM, nS, nE, nL, nD]; try simp only [qa, zY]
      refine ⟨_, qx.qy [0, 1, 7, 8], ⟨k + 1, by omega, fun i hi h2 => ?_, rfl⟩, ?_⟩
      · by_cases e : i = k
        · subst e; exact hb
        · exact hc i (by omega) h2
      · simp only [zL, ↓reduceIte, reduceCtorEq, nE, nA]; omega
  · have hli : ¬ (k : Int) < (w.length : Int) := by omega
    obtain rfl : k = w.length := by omega
    simp (maxSteps := 3000000) only [qh, zH, xw, ud, hli, Int.lt_irrefl, iE, iN, iB, iC, iL, iD, iA, iS, iM, qa, zZ, ↓qt, ↓reduceIte, reduceCtorEq, nA, nM, nS, nE, nL, nD]; try simp only [qa, zY]
    have h1 : w.any (wx n) = false := List.any_eq_false.2 fun d hd => by
      obtain ⟨i, hi, rfl⟩ := List.getElem_of_mem hd
      rw [hc i (by omega) hi]; simp
    exact ⟨⟨_, rfl⟩, by rw [h1]; rfl⟩
def Wr : BE := fun hp xs => match xs with
  | [.slc b 0 k false 0, .fn 122 [] [.ptr b' 0]] => match rd hp b, rd hp b' with
    | some L, some (.int .i64 n :: _) => match Gv L with
      | some w => chk (k = w.length ∧ k ≤ 2000000) (some (.int .i64 (if w.any (wx n) then (w.findIdx (wx n) : Nat) else -1), hp))
      | none => none
    | _, _ => none
  | _ => none
theorem qt2 : Am.Callee Try.prog 161 Wr := Callee.fp fun hp xs v hp' he => by
  unfold Wr at he
  split at he
  · rename_i b k b'
    split at he
    · rename_i L n L' hL hL'
      split at he
      · rename_i w hw
        have h9 := qk he
        clear he
        obtain ⟨⟨k1, h0⟩, h8⟩ := h9
        simp only [Option.some.injEq, Prod.mk.injEq] at h8
        obtain ⟨rfl, rfl⟩ := h8
        subst k1
        have e1 := yq hw
        subst e1
        refine ⟨[(b, 0), (b', 0)], [.slc 0 0 w.length false 0, .fn 122 [] [.ptr 1 0]], _, _, _, qv1 n w h0, by simp [AV.ren, AV.zg, ofL], rfl, ⟨⟨_, hL, by simp, by simp [qc _ _ (qn _)]⟩, ⟨_, hL', by simp, by simp [AV.zg, AV.ren]⟩, trivial⟩, rfl, ⟨qi _ _ (qn _), ⟨trivial, trivial⟩, trivial⟩, ?_, by simp [AV.ren], ?_⟩
        · simp [AV.under, AV.qp]
        · simp [after, upd, AO.wr]
      · cases he
    · cases he
  · cases he
noncomputable def qdv : zk := (qf6.put 161 (Wr))
theorem qrk : qu Try.prog qdv := (qkp.put (qt2))
theorem qbf : qdv 71 = some (ql yi) := rfl
theorem Vm : qdv 72 = some (ql vm) := rfl
theorem Vc : qdv 120 = some (ql jf) := rfl
theorem Bm : qdv 76 = some (ql vp) := rfl
theorem Uk : qdv 66 = some (ql yi) := rfl
theorem Z2 : qdv 67 = some (ql vl) := rfl
theorem Wf : qdv 70 = some (ql j3) := rfl
theorem Jh : qdv 137 = some (ql jf) := rfl
theorem Xu : qdv 122 = some (J8) := rfl
theorem wu : qdv 161 = some (Wr) := rfl
def j6 : AC := .seq (.region [oB 4 false]) (.seq (.region [oM 5 0,oM 6 1,oC 7 161 [.t 5,.t 6],oK 8 .geq 7 0,oM 4 8]) .ret)
theorem Xb : zl Try.prog 121 = some ⟨9, j6, [.slot 4]⟩ := by kernel_rfl
theorem qlk (n : Int) (w : List Int) (hl : w.length ≤ 2000000) :
    Am.Fn Try.prog 121 [.slc 0 0 w.length false 0, .fn 122 [] [.ptr 1 0]] [.ro (xj w), .ro [.int .i64 n]] (fun v H' => v = .bool (w.any (wx n)) ∧ H' = [.ro (xj w), .ro [.int .i64 n]]) := by
  refine Am.Fn.xu (R := fun v => v = _) qrk mixed Xb (by simp [AV.qp, AV.under]) (Qg (qn _) rfl) ?_
  have hw := gw w
  cases hb : w.any (wx n) with
  | true =>
    have hd : decide ((0 : Int) ≤ ((w.findIdx (wx n) : Nat) : Int)) = true := by simp
    simp (maxSteps := 3000000) only [qh, zH, j6, qbf, Vm, Vc, Bm, Uk, Z2, Wf, Jh, Xu, wu, J8, vm, yi, Wr, j3, jf, vp, vl, hw, hl, hb, hd, and_self, iE, iN, iB, iC, iL, iD, iA, iS, iM, qa, zZ, ↓qt, ↓reduceIte, reduceCtorEq, nA, nM, nS, nE, nL, nD]; try simp only [qa, zY]
    trace_state
    exact ⟨_, rfl⟩
  | false =>
    simp (maxSteps := 3000000) only [qh, zH, j6, qbf, Vm, Vc, Bm, Uk, Z2, Wf, Jh, Xu, wu, J8, vm, yi, Wr, j3, jf, vp, vl, hw, hl, hb, and_self, iE, iN, iB, iC, iL, iD, iA, iS, iM, qa, zZ, ↓qt, ↓reduceIte, reduceCtorEq, nA, nM, nS, nE, nL, nD]; try simp only [qa, zY]
    trace_state
    exact ⟨_, rfl⟩
def yo : BE := fun hp xs => match xs with
  | [.slc b 0 k false 0, .fn 122 [] [.ptr b' 0]] => match rd hp b, rd hp b' with
    | some L, some (.int .i64 n :: _) => match Gv L with
      | some w => chk (k = w.length ∧ k ≤ 2000000) (some (.bool (w.any (wx n)), hp))
      | none => none
    | _, _ => none
  | _ => none
theorem qyt : Am.Callee Try.prog 121 yo := Callee.fp fun hp xs v hp' he => by
  unfold yo at he
  split at he
  · rename_i b k b'
    split at he
    · rename_i L n L' hL hL'
      split at he
      · rename_i w hw
        have h9 := qk he
        clear he
        obtain ⟨⟨k1, h0⟩, h8⟩ := h9
        simp only [Option.some.injEq, Prod.mk.injEq] at h8
        obtain ⟨rfl, rfl⟩ := h8
        subst k1
        have e1 := yq hw
        subst e1
        refine ⟨[(b, 0), (b', 0)], [.slc 0 0 w.length false 0, .fn 122 [] [.ptr 1 0]], _, _, _, qlk n w h0, by simp [AV.ren, AV.zg, ofL], rfl, ⟨⟨_, hL, by simp, by simp [qc _ _ (qn _)]⟩, ⟨_, hL', by simp, by simp [AV.zg, AV.ren]⟩, trivial⟩, rfl, ⟨qi _ _ (qn _), ⟨trivial, trivial⟩, trivial⟩, ?_, by simp [AV.ren], ?_⟩
        · simp [AV.under, AV.qp]
        · simp [after, upd, AO.wr]
      · cases he
    · cases he
  · cases he
noncomputable def qp6 : zk := (qdv.put 121 (yo))
theorem qee : qu Try.prog qp6 := (qrk.put (qyt))
def bl (n : Int) (w : List Int) : Bool := decide (2 ≤ n ∧ n ≤ 6) && (decide (w.length ≤ 24) && !w.any (wx n))
theorem qz : qp6 121 = some (yo) := rfl
theorem zx : qp6 122 = some (J8) := rfl
theorem vj : qp6 71 = some (ql yi) := rfl
theorem x6 : qp6 66 = some (ql yi) := rfl
theorem zr : qp6 117 = some (ql u9) := rfl
def Vi : AC := .seq (.region [o0 2 (.box (.t 0)),oB 4 false]) (.seq (.region [oM 6 1,o0 7 (.qe9 122 [] [.t 2]),oC 8 121 [.t 6,.t 7],oM 5 8]) (.seq (.region [oL 9 2,oC 10 71 [.t 9,(.c (.int .i64 2)),(.c (.int .i64 6))],oM 11 10,oG 12 11 true (.mov (.t 1)),oG 13 11 true (.len .slc (.t 12)),oG 14 11 true (.bin .leq (.t 13) (.c (.int .i64 24))),o0 15 (.pick (.t 11) (.t 14) (.c (.bool false))),oM 16 15,oG 17 16 true (.mov (.t 5)),oG 18 16 true (.un .not (.t 17)),o0 19 (.pick (.t 16) (.t 18) (.c (.bool false))),oM 4 19]) .ret))
theorem qly : zl Try.prog 57 = some ⟨20, Vi, [.slot 4]⟩ := by kernel_rfl
theorem qm3 (n : Int) (w : List Int) (hl : w.length ≤ 2000000) :
    Am.Fn Try.prog 57 [.int .i64 n, .slc 0 0 w.length false 0] [.ro (xj w)] (fun v H' => v = .bool (bl n w) ∧ H' = [.ro (xj w)]) := by
  refine Am.Fn.xu (R := fun v => v = _) qee mixed qly (by simp [AV.qp, AV.under]) (vh (qn _)) ?_
  have hw := gw w
  have hla := xr w
  by_cases hn : 2 ≤ n ∧ n ≤ 6
  · by_cases h24 : w.length ≤ 24
    · have h24i : (w.length : Int) ≤ 24 := by omega
      have e : bl n w = !w.any (wx n) := by simp [bl, hn, h24]
      simp (maxSteps := 3000000) only [qh, zH, Vi, qz, zx, vj, x6, zr, J8, yo, yi, u9, hw, hla, hl, hn, h24i, and_self, iE, iN, iB, iC, iL, iD, iA, iS, iM, qa, zZ, ↓qt, ↓reduceIte, reduceCtorEq, nA, nM, nS, nE, nL, nD]; try simp only [qa, zY]
      rw [e]; exact ⟨⟨rfl, rfl⟩, ⟨_, rfl⟩, rfl⟩
    · have h24i : ¬ (w.length : Int) ≤ 24 := by omega
      have e : bl n w = false := by simp [bl, h24]
      simp (maxSteps := 3000000) only [qh, zH, Vi, qz, zx, vj, x6, zr, J8, yo, yi, u9, hw, hla, hl, hn, h24i, and_self, iE, iN, iB, iC, iL, iD, iA, iS, iM, qa, zZ, ↓qt, ↓reduceIte, reduceCtorEq, nA, nM, nS, nE, nL, nD]; try simp only [qa, zY]
      rw [e]; exact ⟨⟨rfl, rfl⟩, ⟨_, rfl⟩, rfl⟩
  · have e : bl n w = false := by simp only [bl, decide_eq_false hn, Bool.false_and]
    simp (maxSteps := 3000000) only [qh, zH, Vi, qz, zx, vj, x6, zr, J8, yo, yi, u9, hw, hla, hl, hn, and_self, iE, iN, iB, iC, iL, iD, iA, iS, iM, qa, zZ, ↓qt, ↓reduceIte, reduceCtorEq, nA, nM, nS, nE, nL, nD]; try simp only [qa, zY]
    rw [e]; exact ⟨⟨rfl, rfl⟩, ⟨_, rfl⟩, rfl⟩
def bw : AC := .seq (.seq (.region [oM 14 5,oM 15 1,o0 16 (.len .slc (.t 15)),oP 17 .lss 14 16]) (.cond 17 .skip (.exit 0))) (.seq (.block 1 (.seq (.region [oM 20 1,oM 21 5,oX 22 1 20 21,oL 23 22,oK 24 .eql 23 0,oM 25 24,oG 26 25 false (.mov (.t 1)),oG 27 25 false (.mov (.t 5)),oG 28 25 false (.Jd 1 (.t 26) (.t 27)),oG 29 25 false (.Jt (.t 28)),oG 30 25 false (.mov (.t 0)),oG 31 25 false (.bin .sub (.c (.int .i64 1)) (.t 30)),oG 32 25 false (.mov (.t 0)),oG 33 25 false (.bin .sub (.t 32) (.c (.int .i64 1))),⟨some 34,some (25,false),.call (.c (.fn 66 [] [])) [.t 29,.t 31,.t 33]⟩,oG 35 25 false (.un .not (.t 34)),o0 36 (.pick (.t 25) (.c (.bool true)) (.t 35))]) (.cond 36 (.seq (.region [oB 4 false]) .ret) .skip))) (.region [oM 18 5,oK 19 .add 18 1,oM 5 19]))
def Bq : AC := .seq (.region [oB 4 true]) .ret
def Vt : AC := .seq (.region [oB 4 false]) (.seq (.seq (.region [oM 6 0,oC 7 66 [.t 6,(.c (.int .i64 2)),(.c (.int .i64 6))],o0 8 (.un .not (.t 7)),oM 9 8,oG 10 9 false (.mov (.t 1)),oG 11 9 false (.len .slc (.t 10)),oG 12 9 false (.bin .gtr (.t 11) (.c (.int .i64 24))),o0 13 (.pick (.t 9) (.c (.bool true)) (.t 12))]) (.cond 13 (.seq (.region [oB 4 false]) .ret) .skip)) (.seq (.seq (.region [oI 5 0]) (.block 0 (.loop bw))) Bq))
theorem ql5 : zl Try.prog 53 = some ⟨37, Vt, [.slot 4]⟩ := by kernel_rfl
theorem qm4 (n : Int) (w : List Int) (hl : w.length ≤ 2000000) :
    Am.Fn Try.prog 53 [.int .i64 n, .slc 0 0 w.length false 0] [.ro (xj w)] (fun v H' => v = .bool (bl n w) ∧ H' = [.ro (xj w)]) := by
  refine Am.Fn.xu (R := fun v => v = _) qee mixed ql5 (by simp [AV.qp, AV.under]) (vh (qn _)) ?_
  have hla := xr w
  by_cases hn : 2 ≤ n ∧ n ≤ 6
  · by_cases h24 : w.length ≤ 24
    · have h24i : ¬ (24 : Int) < (w.length : Int) := by omega
      have e : bl n w = !w.any (wx n) := by simp [bl, hn, h24]
      simp (maxSteps := 3000000) only [qh, zH, Vt, qz, zx, vj, x6, zr, J8, yo, yi, u9, hla, hn, h24i, and_self, iE, iN, iB, iC, iL, iD, iA, iS, iM, qa, zZ, ↓qt, ↓reduceIte, reduceCtorEq, nA, nM, nS, nE, nL, nD]; try simp only [qa, zY]
      refine WA.jh qee (fun s => ∃ k : Nat, k ≤ w.length ∧ (∀ i, (h : i < k) → ∀ h2, wx n (w[i]'h2) = false) ∧ s = ⟨[(0, .int .i64 n), (1, .slc 0 0 w.length false 0), (5, .int .i64 k)], [.ro (xj w)]⟩)
        (fun s => match get s.env 5 with | .int _ x => w.length - x.toNat | _ => 0) ⟨_, qx.qy [0, 1, 5], 0, by omega, by intros; omega, rfl⟩ ?_
      rintro s ⟨k, hk, hc, rfl⟩
      have hw : qm .i64 ((k : Int) + 1) = ((k + 1 : Nat) : Int) := by rw [wrap64 (by omega) (by omega)]; rfl
      by_cases hlt : k < w.length
      · have hli : (k : Int) < (w.length : Int) := by omega
        have hk0 : (0 : Int) ≤ k := by omega
        have hg : w.getD k 0 = w[k] := by simp [hlt]
        by_cases h0 : w[k] = 0
        · have hb : wx n w[k] = true := by simp [wx, h0]
          have hq : (w[k] == 0) = true := by simpa using h0
          have h1 : w.any (wx n) = true := List.any_eq_true.2 ⟨w[k], List.getElem_mem hlt, hb⟩
          simp (maxSteps := 3000000) only [qh, zH, bw, qz, zx, vj, x6, zr, J8, yo, yi, u9, hli, hk0, hw, hla, hlt, hg, hq, and_self, iE, iN, iB, iC, iL, iD, iA, iS, iM, qa, zZ, ↓qt, ↓reduceIte, reduceCtorEq, nA, nM, nS, nE, nL, nD]; try simp only [qa, zY]
          exact ⟨⟨_, rfl⟩, by rw [e, h1]; rfl⟩
        · have hq : (w[k] == 0) = false := by simpa using h0
          by_cases hin : qm .i64 (1 - n) ≤ w[k] ∧ w[k] ≤ qm .i64 (n - 1)
          · have hb : wx n w[k] = false := by simp only [wx, decide_eq_false h0, decide_eq_true hin]; rfl
            simp (maxSteps := 3000000) only [qh, zH, bw, qz, zx, vj, x6, zr, J8, yo, yi, u9, hli, hk0, hw, hla, hlt, hg, hq, hin, and_self, iE, iN, iB, iC, iL, iD, iA, iS, iM, qa, zZ, ↓qt, ↓reduceIte, reduceCtorEq, nA, nM, nS, nE, nL, nD]; try simp only [qa, zY]
            refine ⟨_, qx.qy [0, 1, 5], ⟨k + 1, by omega, fun i hi h2 => ?_, rfl⟩, ?_⟩
            · by_cases e : i = k
              · subst e; exact hb
              · exact hc i (by omega) h2
            · simp only [zL, ↓reduceIte, reduceCtorEq, nE, nA]; omega
          · have hb : wx n w[k] = true := by simp only [wx, decide_eq_false h0, decide_eq_false hin]; rfl
            have h1 : w.any (wx n) = true := List.any_eq_true.2 ⟨w[k], List.getElem_mem hlt, hb⟩
            simp (maxSteps := 3000000) only [qh, zH, bw, qz, zx, vj, x6, zr, J8, yo, yi, u9, hli, hk0, hw, hla, hlt, hg, hq, hin, and_self, iE, iN, iB, iC, iL, iD, iA, iS, iM, qa, zZ, ↓qt, ↓reduceIte, reduceCtorEq, nA, nM, nS, nE, nL, nD]; try simp only [qa, zY]
            exact ⟨⟨_, rfl⟩, by rw [e, h1]; rfl⟩
      · have hli : ¬ (k : Int) < (w.length : Int) := by omega
        obtain rfl : k = w.length := by omega
        have h1 : w.any (wx n) = false := List.any_eq_false.2 fun d hd => by
          obtain ⟨i, hi, rfl⟩ := List.getElem_of_mem hd
          rw [hc i (by omega) hi]; simp
        simp (maxSteps := 3000000) only [qh, zH, bw, Bq, hli, Int.lt_irrefl, iE, iN, iB, iC, iL, iD, iA, iS, iM, qa, zZ, ↓qt, ↓reduceIte, reduceCtorEq, nA, nM, nS, nE, nL, nD]; try simp only [qa, zY]
        exact ⟨⟨_, rfl⟩, by rw [e, h1]; rfl⟩
    · have h24i : (24 : Int) < (w.length : Int) := by omega
      have e : bl n w = false := by simp [bl, h24]
      simp (maxSteps := 3000000) only [qh, zH, Vt, qz, zx, vj, x6, zr, J8, yo, yi, u9, hla, hn, h24i, and_self, iE, iN, iB, iC, iL, iD, iA, iS, iM, qa, zZ, ↓qt, ↓reduceIte, reduceCtorEq, nA, nM, nS, nE, nL, nD]; try simp only [qa, zY]
      exact ⟨⟨_, rfl⟩, by rw [e]⟩
  · have e : bl n w = false := by simp only [bl, decide_eq_false hn, Bool.false_and]
    simp (maxSteps := 3000000) only [qh, zH, Vt, qz, zx, vj, x6, zr, J8, yo, yi, u9, hla, hn, and_self, iE, iN, iB, iC, iL, iD, iA, iS, iM, qa, zZ, ↓qt, ↓reduceIte, reduceCtorEq, nA, nM, nS, nE, nL, nD]; try simp only [qa, zY]
    exact ⟨⟨_, rfl⟩, by rw [e]⟩
def Qs : BE := fun hp xs => match xs with
  | [.int .i64 n, .slc b 0 k false 0] => match rd hp b with
    | some L => match Gv L with
      | some w => chk (k = w.length ∧ k ≤ 2000000) (some (.bool (bl n w), hp))
      | none => none
    | none => none
  | _ => none
theorem qhy {f : FuncId} (h : ∀ n w, w.length ≤ 2000000 → Am.Fn Try.prog f [.int .i64 n, .slc 0 0 w.length false 0] [.ro (xj w)] (fun v H' => v = .bool (bl n w) ∧ H' = [.ro (xj w)])) : Am.Callee Try.prog f Qs := Callee.fp fun hp xs v hp' he => by
  unfold Qs at he
  split at he
  · rename_i n b k
    split at he
    · rename_i L hL
      split at he
      · rename_i w hw
        have h9 := qk he
        clear he
        obtain ⟨⟨k1, h0⟩, h8⟩ := h9
        simp only [Option.some.injEq, Prod.mk.injEq] at h8
        obtain ⟨rfl, rfl⟩ := h8
        subst k1
        have e1 := yq hw
        subst e1
        refine ⟨[(b, 0)], [.int .i64 n, .slc 0 0 w.length false 0], _, _, _, h n w h0, by simp [AV.ren, AV.zg, ofL], rfl, ⟨⟨_, hL, by simp, by simp [qc _ _ (qn _)]⟩, trivial⟩, rfl, ⟨qi _ _ (qn _), trivial⟩, ?_, by simp [AV.ren], ?_⟩
        · simp [AV.under, AV.qp]
        · simp [after, upd, AO.wr]
      · cases he
    · cases he
  · cases he
noncomputable def qnn : zk := ((qp6.put 57 (Qs)).put 53 (Qs))
theorem qq0 : qu Try.prog qnn := ((qee.put (qhy qm3)).put (qhy qm4))
theorem vq : qnn 121 = some (yo) := rfl
theorem Xy : qnn 122 = some (J8) := rfl
theorem qbc : qnn 71 = some (ql yi) := rfl
theorem Uo : qnn 66 = some (ql yi) := rfl
theorem Z6 : qnn 117 = some (ql u9) := rfl
theorem Vv : qnn 53 = some (Qs) := rfl
def Ys : AC := .seq (.region [oB 8 false]) (.seq (.region [oM 9 0,oM 10 1,oC 11 117 [.t 9,.t 10],oM 12 11,oG 13 12 true (.mov (.t 2)),oG 14 12 true (.mov (.t 3)),⟨some 15,some (12,true),.call (.c (.fn 53 [] [])) [.t 13,.t 14]⟩,o0 16 (.pick (.t 12) (.t 15) (.c (.bool false))),oM 8 16]) .ret)
theorem qjc : zl Try.prog 52 = some ⟨17, Ys, [.slot 8]⟩ := by kernel_rfl
theorem qj3 (p a n : Int) (w : List Int) (hl : w.length ≤ 2000000) :
    Am.Fn Try.prog 52 [.int .i64 p, .int .i64 a, .int .i64 n, .slc 0 0 w.length false 0] [.ro (xj w)] (fun v H' => v = .bool (Gu p a && bl n w) ∧ H' = [.ro (xj w)]) := by
  refine Am.Fn.xu (R := fun v => v = _) qq0 mixed qjc (by simp [AV.qp, AV.under]) (vh (qn _)) ?_
  have hw := gw w
  cases hb : Gu p a with
  | true =>
    simp (maxSteps := 3000000) only [qh, zH, Ys, vq, Xy, qbc, Uo, Z6, Vv, J8, yo, yi, u9, Qs, hw, hl, hb, and_self, iE, iN, iB, iC, iL, iD, iA, iS, iM, qa, zZ, ↓qt, ↓reduceIte, reduceCtorEq, nA, nM, nS, nE, nL, nD]; try simp only [qa, zY]
    exact ⟨⟨_, rfl⟩, by rw [Bool.true_and]⟩
  | false =>
    simp (maxSteps := 3000000) only [qh, zH, Ys, vq, Xy, qbc, Uo, Z6, Vv, J8, yo, yi, u9, Qs, hw, hl, hb, and_self, iE, iN, iB, iC, iL, iD, iA, iS, iM, qa, zZ, ↓qt, ↓reduceIte, reduceCtorEq, nA, nM, nS, nE, nL, nD]; try simp only [qa, zY]
    exact ⟨⟨_, rfl⟩, by rw [Bool.false_and]⟩
def Zw : BE := fun hp xs => match xs with
  | [.int .i64 p, .int .i64 a, .int .i64 n, .slc b 0 k false 0] => match rd hp b with
    | some L => match Gv L with
      | some w => chk (k = w.length ∧ k ≤ 2000000) (some (.bool (Gu p a && bl n w), hp))
      | none => none
    | none => none
  | _ => none
theorem qyy : Am.Callee Try.prog 52 Zw := Callee.fp fun hp xs v hp' he => by
  unfold Zw at he
  split at he
  · rename_i p a n b k
    split at he
    · rename_i L hL
      split at he
      · rename_i w hw
        have h9 := qk he
        clear he
        obtain ⟨⟨k1, h0⟩, h8⟩ := h9
        simp only [Option.some.injEq, Prod.mk.injEq] at h8
        obtain ⟨rfl, rfl⟩ := h8
        subst k1
        have e1 := yq hw
        subst e1
        refine ⟨[(b, 0)], [.int .i64 p, .int .i64 a, .int .i64 n, .slc 0 0 w.length false 0], _, _, _, qj3 p a n w h0, by simp [AV.ren, AV.zg, ofL], rfl, ⟨⟨_, hL, by simp, by simp [qc _ _ (qn _)]⟩, trivial⟩, rfl, ⟨qi _ _ (qn _), trivial⟩, ?_, by simp [AV.ren], ?_⟩
        · simp [AV.under, AV.qp]
        · simp [after, upd, AO.wr]
      · cases he
    · cases he
  · cases he
noncomputable def q14 : zk := (qnn.put 52 (Zw))
theorem qx5 : qu Try.prog q14 := (qq0.put (qyy))
end Go.Proofs.Ytfhckbbgmblhbaa
namespace Go.Proofs.Ytfhckbbgmblhbaa
open Go.Am Go.Dia
open Nat renaming reduceAdd → nA, reduceMul → nM, reduceSub → nS, reduceEqDiff → nE, reduceLT → nL, reduceLeDiff → nD, reduceBEq → nB
open Int renaming reduceEq → iE, reduceNe → iN, reduceBEq → iB, reduceBNe → iC, reduceLT → iL, reduceLE → iD, reduceAdd → iA, reduceSub → iS, reduceMul → iM
set_option linter.unusedSimpArgs false
set_option linter.unusedVariables false
set_option maxRecDepth 4000
set_option maxHeartbeats 2000000
theorem qg3 (p c n : Int) (k cap : Nat) (ex : Bool) :
    Am.Fn Try.prog 97 [.agg [.int .i64 p, .int .i64 c, .int .i64 n, .slc 0 0 k ex cap]] [.ro []] (fun v H' => v = elemV p c n 1 0 ∧ H' = [.ro [], .vec 18 []]) := by
  refine Am.Fn.ofW qpe mixed qac (by simp [AV.qp, AV.under]) (vh rfl) ?_
  simp (maxSteps := 3000000) only [qh, zH, Yx, qa, elemV, iE, iN, iB, iC, iL, iD, iA, iS, iM, rep, qa, zZ, ↓qt, ↓reduceIte, reduceCtorEq, nA, nM, nS, nE, nL, nD]; try simp only [qa, zY]
  refine ⟨rfl, _, qx.trans (qx.qy [2]) (qx.vec 3 0 18 (by decide) rfl rfl rfl rfl), ?_⟩
  refine Ret.xf [0, 3] ⟨⟨by simp, rfl, by decide⟩, ?_⟩ (rs := [.agg [.int .i64 p, .int .i64 c, .int .i64 n, .slc 3 0 0 false 0]]) ?_ rfl (by simp [zt]) ?_ ⟨?_, ?_⟩
  · simp only [qy, zn, zV, ↓reduceIte, nE, reduceCtorEq, nB]
    simp only [zK, ↓reduceIte, reduceCtorEq, nE, nB, nA]
  · simp only [qy, zn, zV, ↓reduceIte, nE, reduceCtorEq, nB]
    rfl
  · intro j l; match j with
    | 0 => simp [q7, W2, AO.zw, AO.ren]
    | 1 => simp [q7, W2, AO.zw, AO.ren]
    | j + 2 => simp [q7]
  · simp only [zt]
    simp only [zL, ↓reduceIte, reduceCtorEq, nE, nA]
  · rfl
def ke : BE := fun hp xs => match xs with
  | [.agg [.int .i64 p, .int .i64 c, .int .i64 n, .slc b 0 k ex cap]] => match rd hp b with
    | some _ => some (elemV p c n hp.length 0, hp ++ [.vec 18 []])
    | none => none
  | _ => none
theorem qwk : Am.Callee Try.prog 97 ke := Callee.fp fun hp xs v hp' he => by
  unfold ke at he
  split at he
  · rename_i p c n b k ex cap
    split at he
    · rename_i L hL
      simp only [Option.some.injEq, Prod.mk.injEq] at he
      obtain ⟨rfl, rfl⟩ := he
      refine ⟨[(b, 0)], [.agg [.int .i64 p, .int .i64 c, .int .i64 n, .slc 0 0 k ex cap]], _, _, _, qg3 p c n k cap ex, by simp [AV.ren, AV.zg, ofL], rfl, ⟨⟨L, hL, by simp, by simp [AV.zg]⟩, trivial⟩, rfl, ⟨trivial, trivial⟩, ⟨⟨trivial, trivial, trivial, by simp [AV.under], trivial⟩, trivial⟩, by simp [elemV, AV.ren, AV.zg, Ren.ext], ?_⟩
      simp [after, upd, AO.wr, AO.ren, AV.zg]
    · cases he
  · cases he
noncomputable def qx4 : zk := (q14.put 97 (ke))
theorem qqg : qu Try.prog qx4 := (qx5.put (qwk))
theorem qcq : qx4 83 = some (ql js) := rfl
theorem Kn : qx4 97 = some (ke) := rfl
theorem ql9 (p c n : Int) (k cap : Nat) (ex : Bool) (hn : 1 ≤ n ∧ n ≤ 8) :
    Am.Fn Try.prog 119 [.agg [.int .i64 p, .int .i64 c, .int .i64 n, .slc 0 0 k ex cap]] [.ro []] (fun v H' => v = elemV p c n 1 1 ∧ H' = [.ro [], .vec 18 (qq [(n, xi n.toNat, 1)])]) := by
  refine Am.Fn.ofW qqg mixed qem (by simp [AV.qp, AV.under]) (vh rfl) ?_
  have o1 := Qu (n := n.toNat) (by omega)
  have o2 := o1.1
  have c0 : 0 ≤ n ∧ n ≤ 8 := by omega
  have e0 : (trm (0, List.replicate 16 0, 0)).length = 18 := rfl
  have e1 : over (trm (0, List.replicate 16 0, 0)) 0 (dia n (xi n.toNat)) = trm (n, xi n.toNat, 0) := Q8 (by simp) o2
  have e2 : over (trm (n, xi n.toNat, 0)) 17 [.int .i64 1] = trm (n, xi n.toNat, 1) := Zr o2
  have e3 : over (trm (0, List.replicate 16 0, 0)) 0 (trm (n, xi n.toNat, 1)) = trm (n, xi n.toNat, 1) := kd (by simp) o2
  have e4 : (trm (n, xi n.toNat, 1)).length = 18 := by rw [wh, o2]
  have e5 : (trm (n, xi n.toNat, 0)).length = 18 := by rw [wh, o2]
  simp (maxSteps := 3000000) only [qh, zH, Kz, qcq, Kn, ke, js, elemV, c0, qf, o2, wc, e0, e1, e2, e3, e4, e5, jo, src, lim, bn, Option.map_some, Option.map_none, List.all_nil, Nat.zero_mul, Int.toNat_zero, List.take_zero, Nat.le_refl, and_self, iE, iN, iB, iC, iL, iD, iA, iS, iM, qa, zZ, ↓qt, ↓reduceIte, reduceCtorEq, nA, nM, nS, nE, nL, nD]; try simp only [qa, zY]
  exact ⟨rfl, ⟨_, rfl⟩, by rw [bx o2, jo], rfl, rfl, _, qx.refl _, qki rfl (qb _) rfl rfl rfl (by rw [bx o2]; simp [qq])⟩
def Vh : BE := fun hp xs => match xs with
  | [.agg [.int .i64 p, .int .i64 c, .int .i64 n, .slc b 0 k ex cap]] => match rd hp b with
    | some _ => chk (1 ≤ n ∧ n ≤ 8) (some (elemV p c n hp.length 1, hp ++ [.vec 18 (qq [(n, xi n.toNat, 1)])]))
    | none => none
  | _ => none
theorem qyg : Am.Callee Try.prog 119 Vh := Callee.fp fun hp xs v hp' he => by
  unfold Vh at he
  split at he
  · rename_i p c n b k ex cap
    split at he
    · rename_i L hL
      obtain ⟨h1, he⟩ := qk he
      simp only [Option.some.injEq, Prod.mk.injEq] at he
      obtain ⟨rfl, rfl⟩ := he
      refine ⟨[(b, 0)], [.agg [.int .i64 p, .int .i64 c, .int .i64 n, .slc 0 0 k ex cap]], _, _, _, ql9 p c n k cap ex h1, by simp [AV.ren, AV.zg, ofL], rfl, ⟨⟨L, hL, by simp, by simp [AV.zg]⟩, trivial⟩, rfl, ⟨trivial, trivial⟩, ⟨⟨trivial, trivial, trivial, by simp [AV.under], trivial⟩, trivial⟩, by simp [elemV, AV.ren, AV.zg, Ren.ext], ?_⟩
      simp [after, upd, AO.wr, AO.ren, AV.zg, qc _ _ (qb _)]
    · cases he
  · cases he
noncomputable def Br : zk := (qx4.put 119 (Vh))
theorem qa1 : qu Try.prog Br := (qqg.put (qyg))
def qkl (p n : Int) (k : Nat) (a b : Int) : List (Int × List Nat × Int) := j8 p [(n, xi n.toNat, a)] n (Jn n.toNat k) b
noncomputable def kr (p a n i : Int) : List (Int × List Nat × Int) := if i < 0 then qkl p n (-i - 1).toNat (jz p a) a else qkl p n (i - 1).toNat a (jz p a)
noncomputable def Xp (p a n : Int) (w : List Int) : List (Int × List Nat × Int) := w.foldl (fun acc i => MP p n (wb p (ka p a) n acc (kr p a n i))) [(n, xi n.toNat, 1)]
theorem qb6 {p a n : Int} {w : List Int} {k : Nat} (h : k < w.length) : Xp p a n (w.take (k + 1)) = MP p n (wb p (ka p a) n (Xp p a n (w.take k)) (kr p a n w[k])) := by
  rw [List.take_succ_eq_append_getElem h, Xp, List.foldl_append]; rfl
theorem W5 {p n k : Int} (hn : 1 ≤ n ∧ n ≤ 8) (hk : 1 ≤ k ∧ k ≤ p - 1) : xh p n [(n, xi n.toNat, k)] :=
  ⟨fun t h => by simp at h; subst h; exact Qu (by omega), fun t h => by simp at h; subst h; exact ⟨rfl, qvc (by omega)⟩, fun t h => by simp at h; subst h; exact hk, List.pairwise_singleton ..⟩
theorem qdf {p n a b : Int} {k : Nat} (hp : 2 ≤ p) (hn : 1 ≤ n ∧ n ≤ 8) (hk : k + 1 < n.toNat) (ha : 1 ≤ a ∧ a ≤ p - 1) : xh p n (qkl p n k a b) ∧ (qkl p n k a b).length ≤ 2 :=
  ⟨qcc (by omega) (Va (by omega) hk) (qq8 (by omega) hk) (W5 hn ha), qf0⟩
theorem qjt {n i : Int} (hn : 2 ≤ n ∧ n ≤ 6) (h : wx n i = false) : i ≠ 0 ∧ 1 - n ≤ i ∧ i ≤ n - 1 := by
  rw [wx, Bool.or_eq_false_iff, Bool.not_eq_false', decide_eq_false_iff_not, decide_eq_true_eq, wrap64 (by omega) (by omega), wrap64 (by omega) (by omega)] at h
  exact ⟨h.1, h.2⟩
theorem Gc {p a n i : Int} (h : okI p a) (hn : 2 ≤ n ∧ n ≤ 6) (hi : wx n i = false) : xh p n (kr p a n i) ∧ (kr p a n i).length ≤ 2 := by
  have hb := y0 h.1
  have hv := (Wd h.1 h.2).1
  obtain ⟨h0, h1, h2⟩ := qjt hn hi
  unfold kr
  split
  · exact qdf (by omega) (by omega) (by omega) hv
  · exact qdf (by omega) (by omega) (by omega) h.2
theorem Jb {p a n : Int} {w : List Int} (h : okI p a) (hn : 2 ≤ n ∧ n ≤ 6) (hw : w.any (wx n) = false) : ∀ k, k ≤ w.length → xh p n (Xp p a n (w.take k)) ∧ (Xp p a n (w.take k)).length ≤ 132
  | 0, _ => by
    have hb := y0 h.1
    have := W5 (p := p) (n := n) (k := 1) (by omega) (by omega)
    exact ⟨by simpa [Xp] using this, by simp [Xp]⟩
  | k + 1, hk => by
    have hb := y0 h.1
    have ih := Jb h hn hw k (by omega)
    have hi : wx n (w[k]'(by omega)) = false := by
      have := List.any_eq_false.1 hw _ (List.getElem_mem (show k < w.length by omega))
      simpa using this
    have hc := Gc h hn hi
    rw [qb6 (by omega)]
    have hg := (qyc (c := ka p a) hb (qfc h) ih.1 hc.1 ⟨by omega, by omega⟩).1
    exact ⟨hg, qww hg (by omega)⟩
theorem qqe {p n k : Int} {m : List Nat} (hk : 1 ≤ k ∧ k ≤ p - 1) : j8 p [] n m k = [(n, m, k)] := by
  have e : k.emod p = k := Int.emod_eq_of_lt (by omega) (by omega)
  rw [Gl, e, if_neg (by omega)]; rfl
theorem gu : Br 84 = some (ql Vp) := rfl
theorem yb : Br 67 = some (ql vl) := rfl
theorem gf : Br 83 = some (ql js) := rfl
theorem uj : Br 97 = some (ke) := rfl
theorem gm : Br 119 = some (Vh) := rfl
theorem gh : Br 100 = some (Xc) := rfl
theorem ug : Br 98 = some (Vb) := rfl
theorem bb : Br 118 = some (ql bf) := rfl
def bd : AC := .seq (.seq (.region [oM 29 12,oM 30 3,o0 31 (.len .slc (.t 30)),oP 32 .lss 29 31]) (.cond 32 .skip (.exit 0))) (.seq (.block 1 (.seq (.draw false [oM 35 3,oM 36 12,oX 37 1 35 36,oL 38 37,oM 39 3,oM 40 12,oX 41 1 39 40,oL 42 41,o0 43 (.un .neg (.t 42)),o0 44 (.Jf false (.t 38) (.t 43)),oK 45 .sub 44 1,oM 46 1,oM 47 11,oM 13 45,oM 14 46,oM 15 47]) (.seq (.seq (.region [oM 48 3,oM 49 12,oX 50 1 48 49,oL 51 50,oK 52 .lss 51 0]) (.cond 52 (.seq (.region [oM 53 11,oM 14 53]) (.region [oM 54 1,oM 15 54])) .skip)) (.seq (.region [oN 55 4 9,oC 56 97 [.t 55],oZ 16,oS 4 16 56]) (.seq (.draw true [oM 57 0,oF 58 3 16,oL 59 58,oM 60 2,oM 62 14,oC 61 83 [.t 60],oC 63 100 [.t 57,.t 59,.t 61,.t 62],oF 64 3 16,oT 64 63]) (.seq (.draw true [oM 65 0,oF 66 3 16,oL 67 66,oM 68 2,oM 69 13,oM 71 15,oC 70 84 [.t 68,.t 69],oC 72 100 [.t 65,.t 67,.t 70,.t 71],oF 73 3 16,oT 73 72]) (.region [oN 74 4 10,oN 75 4 16,oC 76 98 [.t 74,.t 75],oS 4 10 76]))))))) (.region [oM 33 12,oK 34 .add 33 1,oM 12 34]))
def Vr : AC := .seq (.region [oN 77 4 10,oS 4 8 77]) .ret
def U5 : AC := .seq (.region [oZ 8]) (.seq (.region [oM 17 0,oM 18 0,oM 19 1,oC 20 118 [.t 18,.t 19],oM 21 2,o0 22 (.Qh 0 [] []),o0 23 (.build [.int .i64 0,.int .i64 0,.int .i64 0,(.v (.slice none 0 0))] [(0,1,.t 17),(1,1,.t 20),(2,1,.t 21),(3,1,.t 22)]),oZ 9,oS 4 9 23]) (.seq (.region [oN 24 4 9,oC 25 119 [.t 24],oM 26 0,oM 27 1,oC 28 67 [.t 26,.t 27],oZ 10,oS 4 10 25,oM 11 28]) (.seq (.seq (.region [oI 12 0]) (.block 0 (.loop bd))) Vr)))
theorem qgs : zl Try.prog 55 = some ⟨78, U5, [.bg 8 4]⟩ := by kernel_rfl
theorem qe1 (p a n : Int) (w : List Int) (h : okI p a) (hn : 2 ≤ n ∧ n ≤ 6) (hl : w.length ≤ 24) (hbw : w.any (wx n) = false) :
    Am.Fn Try.prog 55 [.int .i64 p, .int .i64 a, .int .i64 n, .slc 0 0 w.length false 0] [.ro (xj w)]
      (fun v H' => v = elemV p (ka p a) n 1 (Xp p a n w).length ∧ H' = [.ro (xj w), .vec 18 (qq (Xp p a n w))]) := by
  refine Am.Fn.ofW qa1 mixed qgs (by simp [AV.qp, AV.under]) (vh (qn _)) ?_
  have hla := xr w
  have hb := y0 h.1
  have ha := h.2
  have hlb := qfc h
  have hv := (Wd h.1 h.2).1
  have c1 : 1 ≤ n ∧ n ≤ 8 := by omega
  have c0 : 0 ≤ n ∧ n ≤ 8 := by omega
  simp (maxSteps := 3000000) only [qh, zH, U5, gu, yb, gf, uj, gm, gh, ug, bb, ke, Vp, bf, Vb, Xc, vl, Vh, js, br, elemV, vy, qc _ _ (qb _), qc _ _ (qg _ _), h, hb, ha, hla, c1, c0, and_self, iE, iN, iB, iC, iL, iD, iA, iS, iM, qa, zZ, ↓qt, ↓reduceIte, reduceCtorEq, nA, nM, nS, nE, nL, nD]; try simp only [qa, zY]
  refine ⟨rfl, rfl, ?_⟩
  refine WA.jh qa1 (fun s => ∃ k : Nat, k ≤ w.length ∧ s = ⟨[(0, .int .i64 p), (1, .int .i64 a), (2, .int .i64 n), (3, .slc 0 0 w.length false 0), (8, .ptr 1 0), (9, .ptr 2 0), (10, .ptr 4 0), (11, .int .i64 (jz p a)), (12, .int .i64 k)], [.ro (xj w), qg7, .cells [.int .i64 p, .int .i64 (ka p a), .int .i64 n, .slc 3 0 0 true 0], .cells [], .cells [.int .i64 p, .int .i64 (ka p a), .int .i64 n, .slc 5 0 (Xp p a n (w.take k)).length false 0], .vec 18 (qq (Xp p a n (w.take k)))]⟩)
    (fun s => match get s.env 12 with | .int _ x => w.length - x.toNat | _ => 0) ⟨_, qx.can [0, 1, 2, 3, 8, 9, 10, 11, 12] (by simp only [qbn, zC, nB, nD, nA, nE, ↓reduceIte, reduceCtorEq]; rfl), 0, by omega, ?_⟩ ?_
  · simp only [qc _ _ (qb _), qc _ _ (qn _), zL, ↓reduceIte, reduceCtorEq, nE, nA]
    rfl
  rintro s ⟨k, hk, rfl⟩
  have hbr := Jb h hn hbw k hk
  have hg1 := hbr.1.dec
  have htp := z7 hbr.1.ok
  have hlp := qw hbr.1.ok
  have hl1 : (Xp p a n (w.take k)).length ≤ 300 := by omega
  by_cases hlt : k < w.length
  · have hw : qm .i64 ((k : Int) + 1) = ((k + 1 : Nat) : Int) := by rw [wrap64 (by omega) (by omega)]; rfl
    have hli : (k : Int) < (w.length : Int) := by omega
    have hk0 : (0 : Int) ≤ k := by omega
    have hg : w.getD k 0 = w[k] := by simp [hlt]
    have hbi : wx n w[k] = false := by
      have := List.any_eq_false.1 hbw _ (List.getElem_mem hlt)
      simpa using this
    obtain ⟨d0, d1, d2⟩ := qjt hn hbi
    have hcr := Gc h hn hbi
    have hg2 := hcr.1.dec
    have htc := z7 hcr.1.ok
    have hlc := qw hcr.1.ok
    have hl2 : (kr p a n w[k]).length ≤ 300 := by omega
    have hnext := qb6 (p := p) (a := a) (n := n) hlt
    have hgn := Jb h hn hbw (k + 1) (by omega)
    have hln := qw hgn.1.ok
    have hw1 : qm .i64 (0 - w[k]) = -w[k] := by rw [wrap64 (by omega) (by omega)]; omega
    by_cases hneg : w[k] < 0
    · have hx : (if -w[k] > w[k] then -w[k] else w[k]) = -w[k] := if_pos (by omega)
      have hw2 : qm .i64 (-w[k] - 1) = -w[k] - 1 := wrap64 (by omega) (by omega)
      have hgen : n ≤ 8 ∧ 0 ≤ -w[k] - 1 ∧ -w[k] - 1 + 1 < n := by omega
      have hcI : kr p a n w[k] = j8 p [(n, xi n.toNat, jz p a)] n (Jn n.toNat (-w[k] - 1).toNat) (a) := by unfold kr; rw [if_pos hneg]; rfl
      rw [hcI] at hg2 htc hlc hl2 hnext
      have hog := W5 (p := p) (n := n) (k := jz p a) c1 hv
      have hto : kv 1 (qq _) = some _ := z7 hog.ok
      have hlo := qw hog.ok
      have hpo := qqe (n := n) (m := xi n.toNat) hv
      have hne : ¬ ((jz p a).emod p = 0) := by
        have e : (jz p a).emod p = jz p a := Int.emod_eq_of_lt (by omega) (by omega)
        rw [e]; omega
      have hne2 : ¬ ((a).emod p = 0) := by
        have e : (a).emod p = a := Int.emod_eq_of_lt (by omega) (by omega)
        rw [e]; omega
      have hdu : wv (dia n (xi n.toNat)) = some (n, xi n.toNat) := za (Qu (by omega))
      have hdg : wv (dia n (Jn n.toNat (-w[k] - 1).toNat)) = some (n, Jn n.toNat (-w[k] - 1).toNat) := za (Va (by omega) (by omega))
      have p1 : 0 < p ∧ p ≤ 1000000 := by omega
      have hf0 : qgw n [] := ⟨by simp, by simp, by simp, .nil⟩
      have hf1 : qgw n [(n, xi n.toNat, jz p a)] := hog.fit (by omega) (by simp)
      have ht0 : kv 0 [] = some [] := rfl
      simp (maxSteps := 3000000) only [qh, zH, bd, gu, yb, gf, uj, gm, gh, ug, bb, ke, Vp, bf, Vb, Xc, vl, Vh, js, br, elemV, vy, qc _ _ (qb _), qc _ _ (qg _ _), hli, hk0, hw, hla, hlt, hg, hw1, hx, hw2, hneg, hgen, hto, hlo, hpo, hdu, hdg, hne, hne2, p1, c0, c1, hf0, hf1, ht0, hg1, htp, hlp, hl1, hg2, htc, hlc, hl2, hln, hb, hlb, ← hnext, and_self, iE, iN, iB, iC, iL, iD, iA, iS, iM, qa, zZ, ↓qt, ↓reduceIte, reduceCtorEq, nA, nM, nS, nE, nL, nD]; try simp only [qa, zY]
      repeat' refine And.intro (by first | rfl | exact ⟨_, rfl⟩) ?_
      refine ⟨_, qx.can [0, 1, 2, 3, 8, 9, 10, 11, 12] (by simp only [qbn, zC, nB, nD, nA, nE, ↓reduceIte, reduceCtorEq]; rfl), ⟨k + 1, by omega, ?_⟩, ?_⟩
      · simp only [qc _ _ (qb _), qc _ _ (qn _), zL, ↓reduceIte, reduceCtorEq, nE, nA]
      · simp only [zL, ↓reduceIte, reduceCtorEq, nE, nA]; omega
    · have hx : (if -w[k] > w[k] then -w[k] else w[k]) = w[k] := if_neg (by omega)
      have hw2 : qm .i64 (w[k] - 1) = w[k] - 1 := wrap64 (by omega) (by omega)
      have hgen : n ≤ 8 ∧ 0 ≤ w[k] - 1 ∧ w[k] - 1 + 1 < n := by omega
      have hcI : kr p a n w[k] = j8 p [(n, xi n.toNat, a)] n (Jn n.toNat (w[k] - 1).toNat) (jz p a) := by unfold kr; rw [if_neg hneg]; rfl
      rw [hcI] at hg2 htc hlc hl2 hnext
      have hog := W5 (p := p) (n := n) (k := a) c1 ha
      have hto : kv 1 (qq _) = some _ := z7 hog.ok
      have hlo := qw hog.ok
      have hpo := qqe (n := n) (m := xi n.toNat) ha
      have hne : ¬ ((a).emod p = 0) := by
        have e : (a).emod p = a := Int.emod_eq_of_lt (by omega) (by omega)
        rw [e]; omega
      have hne2 : ¬ ((jz p a).emod p = 0) := by
        have e : (jz p a).emod p = jz p a := Int.emod_eq_of_lt (by omega) (by omega)
        rw [e]; omega
      have hdu : wv (dia n (xi n.toNat)) = some (n, xi n.toNat) := za (Qu (by omega))
      have hdg : wv (dia n (Jn n.toNat (w[k] - 1).toNat)) = some (n, Jn n.toNat (w[k] - 1).toNat) := za (Va (by omega) (by omega))
      have p1 : 0 < p ∧ p ≤ 1000000 := by omega
      have hf0 : qgw n [] := ⟨by simp, by simp, by simp, .nil⟩
      have hf1 : qgw n [(n, xi n.toNat, a)] := hog.fit (by omega) (by simp)
      have ht0 : kv 0 [] = some [] := rfl
      simp (maxSteps := 3000000) only [qh, zH, bd, gu, yb, gf, uj, gm, gh, ug, bb, ke, Vp, bf, Vb, Xc, vl, Vh, js, br, elemV, vy, qc _ _ (qb _), qc _ _ (qg _ _), hli, hk0, hw, hla, hlt, hg, hw1, hx, hw2, hneg, hgen, hto, hlo, hpo, hdu, hdg, hne, hne2, p1, c0, c1, hf0, hf1, ht0, hg1, htp, hlp, hl1, hg2, htc, hlc, hl2, hln, hb, hlb, ← hnext, and_self, iE, iN, iB, iC, iL, iD, iA, iS, iM, qa, zZ, ↓qt, ↓reduceIte, reduceCtorEq, nA, nM, nS, nE, nL, nD]; try simp only [qa, zY]
      repeat' refine And.intro (by first | rfl | exact ⟨_, rfl⟩) ?_
      refine ⟨_, qx.can [0, 1, 2, 3, 8, 9, 10, 11, 12] (by simp only [qbn, zC, nB, nD, nA, nE, ↓reduceIte, reduceCtorEq]; rfl), ⟨k + 1, by omega, ?_⟩, ?_⟩
      · simp only [qc _ _ (qb _), qc _ _ (qn _), zL, ↓reduceIte, reduceCtorEq, nE, nA]
      · simp only [zL, ↓reduceIte, reduceCtorEq, nE, nA]; omega
  · have hli : ¬ (k : Int) < (w.length : Int) := by omega
    obtain rfl : k = w.length := by omega
    simp (maxSteps := 3000000) only [qh, zH, bd, Vr, gu, yb, gf, uj, gm, gh, ug, bb, ke, Vp, bf, Vb, Xc, vl, Vh, js, br, elemV, vy, qc _ _ (qb _), qc _ _ (qg _ _), hli, Int.lt_irrefl, iE, iN, iB, iC, iL, iD, iA, iS, iM, qa, zZ, ↓qt, ↓reduceIte, reduceCtorEq, nA, nM, nS, nE, nL, nD]; try simp only [qa, zY]
    rw [List.take_length]
    exact ⟨rfl, _, qx.refl _, qki (qn _) (qb _) rfl rfl rfl rfl⟩
theorem qqx {p n k : Int} {a : List (Int × List Nat × Int)} {m : List Nat} : qcj p n k a [(n, m, 1)] = j8 p a n m k := by
  simp [qcj]
theorem qlu {p n k : Int} {i : Nat} (hn : 1 ≤ n ∧ n ≤ 8) (hi : i + 1 < n.toNat) (hk : 1 ≤ k ∧ k ≤ p - 1) : xh p n [(n, Jn n.toNat i, k)] :=
  ⟨fun t h => by simp at h; subst h; exact Va (by omega) hi, fun t h => by simp at h; subst h; exact ⟨rfl, qq8 (by omega) hi⟩, fun t h => by simp at h; subst h; exact hk, List.pairwise_singleton ..⟩
theorem qeg {p k : Int} (hk : 1 ≤ k ∧ k ≤ p - 1) : k.emod p = k := Int.emod_eq_of_lt (by omega) (by omega)
theorem q1q {p k : Int} (hk : 1 ≤ k ∧ k ≤ p - 1) : ¬ k.emod p = 0 := by rw [qeg hk]; omega
theorem ym : Br 125 = some (ql Vp) := rfl
theorem ba : Br 72 = some (ql vm) := rfl
theorem yk : Br 123 = some (ql bf) := rfl
theorem ya : Br 90 = some (Vb) := rfl
theorem Qx : Br 124 = some (U9) := rfl
theorem gg : Br 103 = some (qhr j2) := rfl
theorem Qm : Br 88 = some (ql js) := rfl
def X6 : AC := .seq (.region [oP 33 .lss 32 31]) (.seq (.cond 33 .skip (.exit 0)) (.seq (.block 1 (.seq (.region [oX 34 1 30 32,oL 35 34,oM 14 35]) (.seq (.region [oM 36 1,oM 37 10,oM 15 36,oM 16 37]) (.seq (.seq (.region [oM 38 14,oK 39 .lss 38 0]) (.cond 39 (.region [oM 40 10,oM 41 1,oM 42 14,o0 43 (.un .neg (.t 42)),oM 15 40,oM 16 41,oM 14 43]) .skip)) (.seq (.region [oM 44 0,oM 45 9,oM 46 2,oC 47 88 [.t 46],oM 48 15,oC 49 103 [.t 44,.t 45,.t 47,.t 48],oM 50 0,oM 51 9,oM 52 2,oM 53 14,oK 54 .sub 53 1,oC 55 125 [.t 52,.t 54],oC 56 103 [.t 50,.t 51,.t 55,(.c (.int .i64 1))],oM 57 16,oC 58 124 [.t 49,.t 56,.t 57],oZ 17,oS 4 17 58]) (.region [oN 59 4 12,oN 60 4 17,oC 61 90 [.t 59,.t 60],oS 4 12 61])))))) (.region [oK 62 .add 32 1,oM 32 62])))
def qau : AC := .seq (.region [oN 63 4 12,oS 4 8 63]) .ret
def qh2 : AC := .seq (.region [oZ 8]) (.seq (.region [oM 18 0,oM 19 1,oC 20 123 [.t 18,.t 19],oM 21 1,oM 22 0,oC 23 72 [.t 21,.t 22],oM 9 20,oM 10 23]) (.seq (.region [oM 24 0,oM 25 9,oM 26 2,oC 27 88 [.t 26],oC 28 103 [.t 24,.t 25,.t 27,(.c (.int .i64 1))],oZ 11,oS 4 11 28]) (.seq (.region [oN 29 4 11,oZ 12,oS 4 12 29]) (.seq (.seq (.region [oM 30 3,o0 31 (.len .slc (.t 30)),oI 32 0]) (.block 0 (.loop X6))) qau))))
theorem qss : zl Try.prog 59 = some ⟨64, qh2, [.bg 8 4]⟩ := by kernel_rfl
theorem qsl (p a n : Int) (w : List Int) (h : okI p a) (hn : 2 ≤ n ∧ n ≤ 6) (hl : w.length ≤ 24) (hbw : w.any (wx n) = false) :
    Am.Fn Try.prog 59 [.int .i64 p, .int .i64 a, .int .i64 n, .slc 0 0 w.length false 0] [.ro (xj w)]
      (fun v H' => v = elemV p (ka p a) n 1 (Xp p a n w).length ∧ H' = [.ro (xj w), .vec 18 (qq (Xp p a n w))]) := by
  refine Am.Fn.ofW qa1 mixed qss (by simp [AV.qp, AV.under]) (vh (qn _)) ?_
  have hla := xr w
  have hb := y0 h.1
  have ha := h.2
  have hlb := qfc h
  have hv := (Wd h.1 h.2).1
  have c1 : 1 ≤ n ∧ n ≤ 8 := by omega
  have c0 : 0 ≤ n ∧ n ≤ 8 := by omega
  have k1 : (1 : Int) ≤ 1 ∧ (1 : Int) ≤ p - 1 := by omega
  have p1 : 0 < p ∧ p ≤ 1000000 := by omega
  have s1 := qeg k1
  have n1 := q1q k1
  have hdu : wv (dia n (xi n.toNat)) = some (n, xi n.toNat) := za (Qu (by omega))
  simp (maxSteps := 3000000) only [qh, zH, qh2, ym, ba, yk, ya, Qx, gg, Qm, Vp, vm, bf, Vb, U9, j2, js, br, elemV, vy, qc _ _ (qb _), qc _ _ (qg _ _), h, hb, ha, hla, c1, c0, p1, s1, n1, hdu, List.length_singleton, and_self, iE, iN, iB, iC, iL, iD, iA, iS, iM, qa, zZ, ↓qt, ↓reduceIte, reduceCtorEq, nA, nM, nS, nE, nL, nD]; try simp only [qa, zY]
  refine ⟨rfl, rfl, ?_⟩
  refine WA.jh qa1 (fun s => ∃ k : Nat, k ≤ w.length ∧ s = ⟨[(0, .int .i64 p), (1, .int .i64 a), (2, .int .i64 n), (8, .ptr 1 0), (9, .int .i64 (ka p a)), (10, .int .i64 (jz p a)), (12, .ptr 2 0), (30, .slc 0 0 w.length false 0), (31, .int .i64 w.length), (32, .int .i64 k)], [.ro (xj w), qg7, .cells [.int .i64 p, .int .i64 (ka p a), .int .i64 n, .slc 3 0 (Xp p a n (w.take k)).length false 0], .vec 18 (qq (Xp p a n (w.take k)))]⟩)
    (fun s => match get s.env 32 with | .int _ x => w.length - x.toNat | _ => 0) ⟨_, qx.can [0, 1, 2, 8, 9, 10, 12, 30, 31, 32] (by simp only [qbn, zC, nB, nD, nA, nE, ↓reduceIte, reduceCtorEq]; rfl), 0, by omega, ?_⟩ ?_
  · simp only [qc _ _ (qb _), qc _ _ (qn _), zL, ↓reduceIte, reduceCtorEq, nE, nA]
    rfl
  rintro s ⟨k, hk, rfl⟩
  have hbr := Jb h hn hbw k hk
  have hg1 := hbr.1.dec
  have htp := z7 hbr.1.ok
  have hlp := qw hbr.1.ok
  have hl1 : (Xp p a n (w.take k)).length ≤ 300 := by omega
  by_cases hlt : k < w.length
  · have hw : qm .i64 ((k : Int) + 1) = ((k + 1 : Nat) : Int) := by rw [wrap64 (by omega) (by omega)]; rfl
    have hli : (k : Int) < (w.length : Int) := by omega
    have hk0 : (0 : Int) ≤ k := by omega
    have hg : w.getD k 0 = w[k] := by simp [hlt]
    have hbi : wx n w[k] = false := by
      have := List.any_eq_false.1 hbw _ (List.getElem_mem hlt)
      simpa using this
    obtain ⟨d0, d1, d2⟩ := qjt hn hbi
    have hcr := Gc h hn hbi
    have hg2 := hcr.1.dec
    have htc := z7 hcr.1.ok
    have hlc := qw hcr.1.ok
    have hl2 : (kr p a n w[k]).length ≤ 300 := by omega
    have hnext := qb6 (p := p) (a := a) (n := n) hlt
    have hgn := Jb h hn hbw (k + 1) (by omega)
    have hln := qw hgn.1.ok
    have hw1 : qm .i64 (0 - w[k]) = -w[k] := by rw [wrap64 (by omega) (by omega)]; omega
    by_cases hneg : w[k] < 0
    · have hw2 : qm .i64 (-w[k] - 1) = -w[k] - 1 := wrap64 (by omega) (by omega)
      have hgen : n ≤ 8 ∧ 0 ≤ -w[k] - 1 ∧ -w[k] - 1 + 1 < n := by omega
      have hcI : kr p a n w[k] = j8 p [(n, xi n.toNat, jz p a)] n (Jn n.toNat (-w[k] - 1).toNat) (a) := by unfold kr; rw [if_pos hneg]; rfl
      rw [hcI] at hg2 htc hlc hl2 hnext
      have hog := W5 (p := p) (n := n) (k := jz p a) c1 hv
      have hto : kv 1 (qq _) = some _ := z7 hog.ok
      have hog1 := hog.dec
      have hgg := qlu (p := p) (n := n) (k := 1) (i := (-w[k] - 1).toNat) c1 (by omega) k1
      have htg : kv 1 (qq _) = some _ := z7 hgg.ok
      have hgg1 := hgg.dec
      have s2 := qeg hv
      have n2 : ¬ jz p a = 0 := by omega
      have hdg : wv (dia n (Jn n.toNat (-w[k] - 1).toNat)) = some (n, Jn n.toNat (-w[k] - 1).toNat) := za (Va (by omega) (by omega))
      have q1 : (1 : Nat) ≤ 100000 := by omega
      have q2 : -1000001 ≤ (a) ∧ (a) ≤ 1000001 := by omega
      simp (maxSteps := 3000000) only [qh, zH, X6, ym, ba, yk, ya, Qx, gg, Qm, Vp, vm, bf, Vb, U9, j2, js, br, elemV, vy, qc _ _ (qb _), qc _ _ (qg _ _), hli, hk0, hw, hla, hlt, hg, hw1, hw2, hneg, hgen, hto, hog1, htg, hgg1, hdu, hdg, s1, n1, s2, n2, q1, q2, qqx, List.length_singleton, p1, c0, c1, hg1, htp, hlp, hl1, hg2, htc, hlc, hl2, hln, hb, hlb, ← hnext, and_self, iE, iN, iB, iC, iL, iD, iA, iS, iM, qa, zZ, ↓qt, ↓reduceIte, reduceCtorEq, nA, nM, nS, nE, nL, nD]; try simp only [qa, zY]
      repeat' refine And.intro (by first | rfl | exact ⟨_, rfl⟩) ?_
      refine ⟨_, qx.can [0, 1, 2, 8, 9, 10, 12, 30, 31, 32] (by simp only [qbn, zC, nB, nD, nA, nE, ↓reduceIte, reduceCtorEq]; rfl), ⟨k + 1, by omega, ?_⟩, ?_⟩
      · simp only [qc _ _ (qb _), qc _ _ (qn _), zL, ↓reduceIte, reduceCtorEq, nE, nA]
      · simp only [zL, ↓reduceIte, reduceCtorEq, nE, nA]; omega
    · have hw2 : qm .i64 (w[k] - 1) = w[k] - 1 := wrap64 (by omega) (by omega)
      have hgen : n ≤ 8 ∧ 0 ≤ w[k] - 1 ∧ w[k] - 1 + 1 < n := by omega
      have hcI : kr p a n w[k] = j8 p [(n, xi n.toNat, a)] n (Jn n.toNat (w[k] - 1).toNat) (jz p a) := by unfold kr; rw [if_neg hneg]; rfl
      rw [hcI] at hg2 htc hlc hl2 hnext
      have hog := W5 (p := p) (n := n) (k := a) c1 ha
      have hto : kv 1 (qq _) = some _ := z7 hog.ok
      have hog1 := hog.dec
      have hgg := qlu (p := p) (n := n) (k := 1) (i := (w[k] - 1).toNat) c1 (by omega) k1
      have htg : kv 1 (qq _) = some _ := z7 hgg.ok
      have hgg1 := hgg.dec
      have s2 := qeg ha
      have n2 : ¬ a = 0 := by omega
      have hdg : wv (dia n (Jn n.toNat (w[k] - 1).toNat)) = some (n, Jn n.toNat (w[k] - 1).toNat) := za (Va (by omega) (by omega))
      have q1 : (1 : Nat) ≤ 100000 := by omega
      have q2 : -1000001 ≤ (jz p a) ∧ (jz p a) ≤ 1000001 := by omega
      simp (maxSteps := 3000000) only [qh, zH, X6, ym, ba, yk, ya, Qx, gg, Qm, Vp, vm, bf, Vb, U9, j2, js, br, elemV, vy, qc _ _ (qb _), qc _ _ (qg _ _), hli, hk0, hw, hla, hlt, hg, hw1, hw2, hneg, hgen, hto, hog1, htg, hgg1, hdu, hdg, s1, n1, s2, n2, q1, q2, qqx, List.length_singleton, p1, c0, c1, hg1, htp, hlp, hl1, hg2, htc, hlc, hl2, hln, hb, hlb, ← hnext, and_self, iE, iN, iB, iC, iL, iD, iA, iS, iM, qa, zZ, ↓qt, ↓reduceIte, reduceCtorEq, nA, nM, nS, nE, nL, nD]; try simp only [qa, zY]
      repeat' refine And.intro (by first | rfl | exact ⟨_, rfl⟩) ?_
      refine ⟨_, qx.can [0, 1, 2, 8, 9, 10, 12, 30, 31, 32] (by simp only [qbn, zC, nB, nD, nA, nE, ↓reduceIte, reduceCtorEq]; rfl), ⟨k + 1, by omega, ?_⟩, ?_⟩
      · simp only [qc _ _ (qb _), qc _ _ (qn _), zL, ↓reduceIte, reduceCtorEq, nE, nA]
      · simp only [zL, ↓reduceIte, reduceCtorEq, nE, nA]; omega
  · have hli : ¬ (k : Int) < (w.length : Int) := by omega
    obtain rfl : k = w.length := by omega
    simp (maxSteps := 3000000) only [qh, zH, X6, qau, ym, ba, yk, ya, Qx, gg, Qm, Vp, vm, bf, Vb, U9, j2, js, br, elemV, vy, qc _ _ (qb _), qc _ _ (qg _ _), hli, Int.lt_irrefl, iE, iN, iB, iC, iL, iD, iA, iS, iM, qa, zZ, ↓qt, ↓reduceIte, reduceCtorEq, nA, nM, nS, nE, nL, nD]; try simp only [qa, zY]
    rw [List.take_length]
    exact ⟨rfl, _, qx.refl _, qki (qn _) (qb _) rfl rfl rfl rfl⟩
noncomputable def Ud : BE := fun hp xs => match xs with
  | [.int .i64 p, .int .i64 a, .int .i64 n, .slc b 0 k false 0] => match rd hp b with
    | some L => match Gv L with
      | some w => chk ((k = w.length ∧ k ≤ 24) ∧ okI p a ∧ (2 ≤ n ∧ n ≤ 6) ∧ w.any (wx n) = false) (some (elemV p (ka p a) n hp.length (Xp p a n w).length, hp ++ [.vec 18 (qq (Xp p a n w))]))
      | none => none
    | none => none
  | _ => none
theorem qlb {f : FuncId} (hf : ∀ (p a n : Int) (w : List Int), okI p a → 2 ≤ n ∧ n ≤ 6 → w.length ≤ 24 → w.any (wx n) = false → Am.Fn Try.prog f [.int .i64 p, .int .i64 a, .int .i64 n, .slc 0 0 w.length false 0] [.ro (xj w)]
      (fun v H' => v = elemV p (ka p a) n 1 (Xp p a n w).length ∧ H' = [.ro (xj w), .vec 18 (qq (Xp p a n w))])) : Am.Callee Try.prog f Ud := Callee.fp fun hp xs v hp' he => by
  unfold Ud at he
  split at he
  · rename_i p a n b k
    split at he
    · rename_i L hL
      split at he
      · rename_i w hw
        have h9 := qk he
        clear he
        obtain ⟨⟨⟨k1, k2⟩, h1, h2, h3⟩, h8⟩ := h9
        simp only [Option.some.injEq, Prod.mk.injEq] at h8
        obtain ⟨rfl, rfl⟩ := h8
        subst k1
        have e1 := yq hw
        subst e1
        refine ⟨[(b, 0)], [.int .i64 p, .int .i64 a, .int .i64 n, .slc 0 0 w.length false 0], _, _, _, hf p a n w h1 h2 k2 h3, by simp [AV.ren, AV.zg, ofL], rfl, ⟨⟨_, hL, by simp, by simp [qc _ _ (qn _)]⟩, trivial⟩, rfl, ⟨qi _ _ (qn _), trivial⟩, ?_, by simp [elemV, AV.ren, AV.zg, Ren.ext], ?_⟩
        · simp [AV.under, AV.qp]
        · simp [after, upd, AO.wr, AO.ren, qc _ _ (qb _)]
      · cases he
    · cases he
  · cases he
noncomputable def qol : zk := ((Br.put 55 (Ud)).put 59 (Ud))
theorem qjl : qu Try.prog qol := ((qa1.put (qlb qe1)).put (qlb qsl))
theorem vb : qol 57 = some (Qs) := rfl
theorem jt : qol 56 = some (ql u9) := rfl
theorem jv : qol 52 = some (Zw) := rfl
theorem je : qol 55 = some (Ud) := rfl
theorem wm : qol 59 = some (Ud) := rfl
noncomputable def Zg (p a n : Int) (w : List Int) : ER := if Gu p a = true ∧ bl n w = true then (p, ka p a, n, Xp p a n w, 0) else (0, 0, 0, [], 2)
theorem qex {n : Int} {w : List Int} (h : bl n w = true) : (2 ≤ n ∧ n ≤ 6) ∧ w.length ≤ 24 ∧ w.any (wx n) = false := by
  unfold bl at h
  simp only [Bool.and_eq_true, decide_eq_true_eq, Bool.not_eq_true'] at h
  exact h
theorem qzm (p a n : Int) (w : List Int) : q1y (Zg p a n w) := by
  unfold Zg
  split
  · rename_i h
    obtain ⟨h1, h2, h3⟩ := qex h.2
    have hg := Jb (qj2 h.1) h1 h3 w.length (Nat.le_refl _)
    rw [List.take_length] at hg
    refine ⟨hg.1.ok, ?_⟩
    have := hg.2
    show (Xp p a n w).length ≤ 300
    omega
  · exact ⟨(fun t h => by cases h), by simp⟩
def gv : AC := .seq (.region [oZ 8,oI 9 0]) (.seq (.seq (.region [oM 10 0,oM 11 1,oM 12 2,oM 13 3,oC 14 52 [.t 10,.t 11,.t 12,.t 13],o0 15 (.un .not (.t 14))]) (.cond 15 (.seq (.region [o0 16 (.build [.int .i64 0,.int .i64 0,.int .i64 0,(.v (.slice none 0 0))] []),oS 4 8 16,oI 9 2]) .ret) .skip)) (.seq (.region [oM 17 0,oM 18 1,oM 19 2,oM 20 3,oC 21 55 [.t 17,.t 18,.t 19,.t 20],oS 4 8 21,oI 9 0]) .ret))
theorem qch : zl Try.prog 27 = some ⟨22, gv, [.bg 8 4, .slot 9]⟩ := by kernel_rfl
theorem qbm (p a n : Int) (w : List Int) (hl : w.length ≤ 2000000) :
    Am.Fn Try.prog 27 [.int .i64 p, .int .i64 a, .int .i64 n, .slc 0 0 w.length false 0] [.ro (xj w)] (qqj (xj w) (Zg p a n w)) := by
  refine Am.Fn.ofW qjl mixed qch (by simp [AV.qp, AV.under]) (vh (qn _)) ?_
  have hws := gw w
  have hla := xr w
  cases hb : Gu p a with
  | false =>
    have e : Zg p a n w = (0, 0, 0, [], 2) := if_neg (by simp [hb])
    simp (maxSteps := 3000000) only [qh, zH, gv, vb, jt, jv, je, wm, Ud, Zw, u9, Qs, br, elemV, vy, qc _ _ (qb _), qc _ _ (qg _ _), hws, hla, hl, hb, Bool.false_and, and_self, iE, iN, iB, iC, iL, iD, iA, iS, iM, qa, zZ, ↓qt, ↓reduceIte, reduceCtorEq, nA, nM, nS, nE, nL, nD]; try simp only [qa, zY]
    rw [e]
    exact ⟨rfl, qd9 (qn w) rfl rfl rfl rfl (by decide)⟩
  | true =>
    cases hw : bl n w with
    | false =>
      have e : Zg p a n w = (0, 0, 0, [], 2) := if_neg (by simp [hw])
      simp (maxSteps := 3000000) only [qh, zH, gv, vb, jt, jv, je, wm, Ud, Zw, u9, Qs, br, elemV, vy, qc _ _ (qb _), qc _ _ (qg _ _), hws, hla, hl, hb, hw, Bool.and_false, and_self, iE, iN, iB, iC, iL, iD, iA, iS, iM, qa, zZ, ↓qt, ↓reduceIte, reduceCtorEq, nA, nM, nS, nE, nL, nD]; try simp only [qa, zY]
      rw [e]
      exact ⟨rfl, qd9 (qn w) rfl rfl rfl rfl (by decide)⟩
    | true =>
      have e : Zg p a n w = (p, ka p a, n, Xp p a n w, 0) := if_pos ⟨hb, hw⟩
      have ho := qj2 hb
      obtain ⟨h1, h2, h3⟩ := qex hw
      simp (maxSteps := 3000000) only [qh, zH, gv, vb, jt, jv, je, wm, Ud, Zw, u9, Qs, br, elemV, vy, qc _ _ (qb _), qc _ _ (qg _ _), hws, hla, hl, hb, hw, Bool.and_true, ho, h1, h2, h3, and_self, iE, iN, iB, iC, iL, iD, iA, iS, iM, qa, zZ, ↓qt, ↓reduceIte, reduceCtorEq, nA, nM, nS, nE, nL, nD]; try simp only [qa, zY]
      rw [e]
      exact ⟨rfl, _, qx.refl _, qvp (qn w) (qb _) rfl rfl rfl rfl rfl⟩
def gq : AC := .seq (.region [oZ 8,oI 9 0]) (.seq (.seq (.region [oM 10 0,oM 11 1,oC 12 56 [.t 10,.t 11],o0 13 (.un .not (.t 12)),oM 14 13,oG 15 14 false (.mov (.t 2)),oG 16 14 false (.mov (.t 3)),⟨some 17,some (14,false),.call (.c (.fn 57 [] [])) [.t 15,.t 16]⟩,oG 18 14 false (.un .not (.t 17)),o0 19 (.pick (.t 14) (.c (.bool true)) (.t 18))]) (.cond 19 (.seq (.region [o0 20 (.build [.int .i64 0,.int .i64 0,.int .i64 0,(.v (.slice none 0 0))] []),oS 4 8 20,oI 9 2]) .ret) .skip)) (.seq (.region [oM 21 0,oM 22 1,oM 23 2,oM 24 3,oC 25 59 [.t 21,.t 22,.t 23,.t 24],oS 4 8 25,oI 9 0]) .ret))
theorem qcp : zl Try.prog 28 = some ⟨26, gq, [.bg 8 4, .slot 9]⟩ := by kernel_rfl
theorem qbp (p a n : Int) (w : List Int) (hl : w.length ≤ 2000000) :
    Am.Fn Try.prog 28 [.int .i64 p, .int .i64 a, .int .i64 n, .slc 0 0 w.length false 0] [.ro (xj w)] (qqj (xj w) (Zg p a n w)) := by
  refine Am.Fn.ofW qjl mixed qcp (by simp [AV.qp, AV.under]) (vh (qn _)) ?_
  have hws := gw w
  have hla := xr w
  cases hb : Gu p a with
  | false =>
    have e : Zg p a n w = (0, 0, 0, [], 2) := if_neg (by simp [hb])
    simp (maxSteps := 3000000) only [qh, zH, gq, vb, jt, jv, je, wm, Ud, Zw, u9, Qs, br, elemV, vy, qc _ _ (qb _), qc _ _ (qg _ _), hws, hla, hl, hb, Bool.false_and, and_self, iE, iN, iB, iC, iL, iD, iA, iS, iM, qa, zZ, ↓qt, ↓reduceIte, reduceCtorEq, nA, nM, nS, nE, nL, nD]; try simp only [qa, zY]
    rw [e]
    exact ⟨rfl, qd9 (qn w) rfl rfl rfl rfl (by decide)⟩
  | true =>
    cases hw : bl n w with
    | false =>
      have e : Zg p a n w = (0, 0, 0, [], 2) := if_neg (by simp [hw])
      simp (maxSteps := 3000000) only [qh, zH, gq, vb, jt, jv, je, wm, Ud, Zw, u9, Qs, br, elemV, vy, qc _ _ (qb _), qc _ _ (qg _ _), hws, hla, hl, hb, hw, Bool.and_false, and_self, iE, iN, iB, iC, iL, iD, iA, iS, iM, qa, zZ, ↓qt, ↓reduceIte, reduceCtorEq, nA, nM, nS, nE, nL, nD]; try simp only [qa, zY]
      rw [e]
      exact ⟨rfl, qd9 (qn w) rfl rfl rfl rfl (by decide)⟩
    | true =>
      have e : Zg p a n w = (p, ka p a, n, Xp p a n w, 0) := if_pos ⟨hb, hw⟩
      have ho := qj2 hb
      obtain ⟨h1, h2, h3⟩ := qex hw
      simp (maxSteps := 3000000) only [qh, zH, gq, vb, jt, jv, je, wm, Ud, Zw, u9, Qs, br, elemV, vy, qc _ _ (qb _), qc _ _ (qg _ _), hws, hla, hl, hb, hw, Bool.and_true, ho, h1, h2, h3, and_self, iE, iN, iB, iC, iL, iD, iA, iS, iM, qa, zZ, ↓qt, ↓reduceIte, reduceCtorEq, nA, nM, nS, nE, nL, nD]; try simp only [qa, zY]
      rw [e]
      exact ⟨rfl, _, qx.refl _, qvp (qn w) (qb _) rfl rfl rfl rfl rfl⟩
noncomputable def V1 : BE := fun hp xs => match xs with
  | [.int .i64 p, .int .i64 a, .int .i64 n, .slc b 0 k false 0] => match rd hp b with
    | some L => match Gv L with
      | some w => chk (k = w.length ∧ k ≤ 2000000) (some (.tup [elemV (Zg p a n w).1 (Zg p a n w).2.1 (Zg p a n w).2.2.1 hp.length (Zg p a n w).2.2.2.1.length, .int .i64 (Zg p a n w).2.2.2.2], hp ++ [.vec 18 (qq (Zg p a n w).2.2.2.1)]))
      | none => none
    | none => none
  | _ => none
theorem qi0 {f : FuncId} (hf : ∀ (p a n : Int) (w : List Int), w.length ≤ 2000000 → Am.Fn Try.prog f [.int .i64 p, .int .i64 a, .int .i64 n, .slc 0 0 w.length false 0] [.ro (xj w)] (qqj (xj w) (Zg p a n w))) : Am.Callee Try.prog f V1 := Callee.fp fun hp xs v hp' he => by
  unfold V1 at he
  split at he
  · rename_i p a n b k
    split at he
    · rename_i L hL
      split at he
      · rename_i w hw
        have h9 := qk he
        clear he
        obtain ⟨⟨k1, k2⟩, h8⟩ := h9
        simp only [Option.some.injEq, Prod.mk.injEq] at h8
        obtain ⟨rfl, rfl⟩ := h8
        subst k1
        have e1 := yq hw
        subst e1
        have hfn := hf p a n w k2
        unfold qqj at hfn
        refine ⟨[(b, 0)], [.int .i64 p, .int .i64 a, .int .i64 n, .slc 0 0 w.length false 0], _, _, _, hfn, by simp [AV.ren, AV.zg, ofL], rfl, ⟨⟨_, hL, by simp, by simp [qc _ _ (qn _)]⟩, trivial⟩, rfl, ⟨qi _ _ (qn _), trivial⟩, ?_, by simp [elemV, AV.ren, AV.zg, Ren.ext], ?_⟩
        · simp [AV.under, AV.qp]
        · simp [after, upd, AO.wr, AO.ren, qc _ _ (qb _)]
      · cases he
    · cases he
  · cases he
noncomputable def qjp : zk := ((qol.put 27 (V1)).put 28 (V1))
theorem qx7 : qu Try.prog qjp := ((qjl.put (qi0 qbm)).put (qi0 qbp))
theorem vn : qjp 28 = some (V1) := rfl
theorem vo : qjp 27 = some (V1) := rfl
theorem yn : qjp 18 = some (uf) := rfl
theorem uh : qjp 22 = some (qdj) := rfl
theorem wg : qjp 31 = some (vu) := rfl
theorem we : qjp 30 = some (vt) := rfl
theorem w9 : qjp 29 = some (Vq) := rfl
theorem uu : qjp 20 = some (qdc) := rfl
def jc : AC := .seq (.region [oB 8 false]) (.seq (.seq (.region [oM 19 3,o0 20 (.len .slc (.t 19)),oK 21 .gtr 20 1048576]) (.cond 21 (.seq (.region [oB 8 true]) .ret) .skip)) (.seq (.region [oM 23 0,oM 24 1,oM 25 2,oM 26 3,oC 27 20 [.t 26],oC 28 27 [.t 23,.t 24,.t 25,.t 27],oM 22 28,oE 29 0 22,oE 30 1 22,oZ 9,oS 4 9 29,oM 10 30]) (.seq (.region [oM 31 3,oC 32 20 [.t 31],oM 11 32]) (.seq (.region [oM 34 0,oM 35 1,oM 36 2,oM 37 11,oC 38 28 [.t 34,.t 35,.t 36,.t 37],oM 33 38,oE 39 0 33,oE 40 1 33,oZ 12,oS 4 12 39,oM 13 40]) (.seq (.seq (.region [oN 41 4 12,oN 42 4 9,oC 43 18 [.t 41,.t 42],o0 44 (.un .not (.t 43)),oM 45 44,oG 46 45 false (.mov (.t 13)),oG 47 45 false (.mov (.t 10)),oG 48 45 false (.bin .neq (.t 46) (.t 47)),o0 49 (.pick (.t 45) (.c (.bool true)) (.t 48))]) (.cond 49 (.seq (.region [oB 8 false]) .ret) .skip)) (.seq (.seq (.region [oM 50 11,oM 51 3,oC 52 20 [.t 51],oC 53 22 [.t 50,.t 52],o0 54 (.un .not (.t 53))]) (.cond 54 (.seq (.region [oB 8 false]) .ret) .skip)) (.seq (.region [oI 14 1]) (.seq (.region [oM 55 11,oM 56 14,oC 57 29 [.t 55,.t 56],oM 14 57]) (.seq (.seq (.region [oM 58 14,oK 59 .lss 58 0,oM 60 59,oG 61 60 false (.Xs 4 (.t 12)),oG 62 60 false (.Xs 4 (.t 9)),⟨some 63,some (60,false),.call (.c (.fn 18 [] [])) [.t 61,.t 62]⟩,oG 64 60 false (.un .not (.t 63)),o0 65 (.pick (.t 60) (.c (.bool true)) (.t 64)),oM 66 65,oG 67 66 false (.mov (.t 13)),oG 68 66 false (.mov (.t 10)),oG 69 66 false (.bin .neq (.t 67) (.t 68)),o0 70 (.pick (.t 66) (.c (.bool true)) (.t 69))]) (.cond 70 (.seq (.region [oB 8 false]) .ret) .skip)) (.seq (.region [oI 15 1]) (.seq (.region [oN 71 4 12,oM 72 15,oC 73 30 [.t 71,.t 72],oM 15 73]) (.seq (.region [oI 16 1]) (.seq (.region [oN 74 4 12,oM 75 16,oC 76 31 [.t 74,.t 75],oM 16 76]) (.seq (.seq (.region [oM 77 16,oK 78 .lss 77 0]) (.cond 78 (.seq (.region [oB 8 false]) .ret) .skip)) (.seq (.seq (.region [oM 79 16,oM 80 15,oP 81 .neq 79 80]) (.cond 81 (.seq (.region [oB 8 false]) .ret) .skip)) (.seq (.region [oM 83 0,oM 84 1,oM 85 2,oM 86 3,oC 87 20 [.t 86],oC 88 28 [.t 83,.t 84,.t 85,.t 87],oM 82 88,oE 89 0 82,oE 90 1 82,oZ 17,oS 4 17 89,oM 18 90]) (.seq (.seq (.region [oN 91 4 17,oN 92 4 9,oC 93 18 [.t 91,.t 92],o0 94 (.un .not (.t 93)),oM 95 94,oG 96 95 false (.mov (.t 18)),oG 97 95 false (.mov (.t 10)),oG 98 95 false (.bin .neq (.t 96) (.t 97)),o0 99 (.pick (.t 95) (.c (.bool true)) (.t 98))]) (.cond 99 (.seq (.region [oB 8 false]) .ret) .skip)) (.seq (.region [oI 16 1]) (.seq (.region [oN 100 4 12,oM 101 16,oC 102 31 [.t 100,.t 101],oM 16 102]) (.seq (.seq (.region [oM 103 16,oK 104 .lss 103 0]) (.cond 104 (.seq (.region [oB 8 false]) .ret) .skip)) (.seq (.seq (.region [oM 105 16,oM 106 15,oP 107 .neq 105 106]) (.cond 107 (.seq (.region [oB 8 false]) .ret) .skip)) (.seq (.region [oB 8 true]) .ret))))))))))))))))))))))
theorem Wp : zl Try.prog 7 = some ⟨108, jc, [.slot 8]⟩ := by kernel_rfl
theorem qb1 (H : List AO) (X : AV) (p a n : Int) (w : List Int) (h : qm9 H X w) (hl : w.length ≤ 9223372036854775807) : Am.Fn Try.prog 7 [.int .i64 p, .int .i64 a, .int .i64 n, X] H (fun v H' => v = .bool true ∧ H' = H) := by
  refine Am.Fn.xu (R := fun v => v = _) qx7 mixed Wp (by simp) (K8 h) ?_
  have hX := qvh h
  by_cases hlt : (1048576 : Int) < w.length
  · rcases h with ⟨rfl, rfl, h0⟩ | ⟨rfl, rfl, h0⟩ | ⟨cap, rfl, hc, rfl⟩
    · simp [h0] at hlt
    · simp [h0] at hlt
    · simp (maxSteps := 3000000) only [qh, zH, jc, vn, vo, yn, uh, wg, we, w9, uu, V1, uf, qdj, vu, vt, Vq, qdc, iE, iN, iB, iC, iL, iD, iA, iS, iM, hlt, qa, zZ, ↓qt, ↓reduceIte, reduceCtorEq, nA, nM, nS, nE, nL, nD]; try simp only [qa, zY]
      exact ⟨_, rfl⟩
  · have hr := qzm p a n w
    generalize he : Zg p a n w = r at hr
    obtain ⟨P, C, N, L, E⟩ := r
    obtain ⟨hL, hLl⟩ := hr
    simp only at hL hLl
    have b0 := gw w
    have b1 := xr w
    have h1 := qw hL
    have h2 := z7 hL
    have h3 : kv L.length (qq (marks L.length 1)) = some (marks L.length 1) := by have := z7 (Wq L.length 1); rwa [zq] at this
    have h4 : L.length ≤ 2000000 := by omega
    have h5 : Gv (xj (Je w.length 1)) = some (Je w.length 1) := gw _
    have h6 : ((1 + 18 * L.length : Nat) : Int) < 0 ↔ False := iff_false_intro (by omega)
    have h7 : ((1 + w.length : Nat) : Int) < 0 ↔ False := iff_false_intro (by omega)
    have h8 : w.length ≤ 2000000 := by omega
    rcases h with ⟨rfl, rfl, h0⟩ | ⟨rfl, rfl, h0⟩ | ⟨cap, rfl, hc, rfl⟩
    · simp only [List.nil_append] at hX
      have hz : ¬ (1048576 : Int) < ((0 : Nat) : Int) := by omega
      simp (maxSteps := 3000000) only [qh, zH, jc, vn, vo, yn, uh, wg, we, w9, uu, V1, uf, qdj, vu, vt, Vq, qdc, iE, iN, iB, iC, iL, iD, iA, iS, iM, br, elemV, vy, qc _ _ (qb _), qc _ _ (qg _ _), hX, hz, he, b0, b1, h1, h2, h3, h4, h5, h6, h7, h8, Int.toNat_one, qkj, qa, zZ, ↓qt, ↓reduceIte, reduceCtorEq, nA, nM, nS, nE, nL, nD]; try simp only [qa, zY]
      exact ⟨rfl, rfl, rfl⟩
    · simp only [List.cons_append, List.nil_append] at hX
      have hz : ¬ (1048576 : Int) < ((0 : Nat) : Int) := by omega
      simp (maxSteps := 3000000) only [qh, zH, jc, vn, vo, yn, uh, wg, we, w9, uu, V1, uf, qdj, vu, vt, Vq, qdc, iE, iN, iB, iC, iL, iD, iA, iS, iM, br, elemV, vy, qc _ _ (qb _), qc _ _ (qg _ _), hX, hz, he, b0, b1, h1, h2, h3, h4, h5, h6, h7, h8, Int.toNat_one, qkj, qa, zZ, ↓qt, ↓reduceIte, reduceCtorEq, nA, nM, nS, nE, nL, nD]; try simp only [qa, zY]
      exact ⟨rfl, rfl, rfl, _, rfl⟩
    · simp only [List.cons_append, List.nil_append] at hX
      simp (maxSteps := 3000000) only [qh, zH, jc, vn, vo, yn, uh, wg, we, w9, uu, V1, uf, qdj, vu, vt, Vq, qdc, iE, iN, iB, iC, iL, iD, iA, iS, iM, br, elemV, vy, qc _ _ (qb _), qc _ _ (qg _ _), hX, hlt, he, b0, b1, h1, h2, h3, h4, h5, h6, h7, h8, Int.toNat_one, qkj, qa, zZ, ↓qt, ↓reduceIte, reduceCtorEq, nA, nM, nS, nE, nL, nD]; try simp only [qa, zY]
      exact ⟨rfl, rfl, rfl, _, rfl⟩
end Go.Proofs.Ytfhckbbgmblhbaa
namespace Go.Proofs.Ytfhckbbgmblhbaa
open Go.Am Go.Dia Go.ChangeShapes
open Nat renaming reduceAdd → nA, reduceMul → nM, reduceSub → nS, reduceEqDiff → nE, reduceLT → nL, reduceLeDiff → nD, reduceBEq → nB
open Int renaming reduceEq → iE, reduceNe → iN, reduceBEq → iB, reduceBNe → iC, reduceLT → iL, reduceLE → iD, reduceAdd → iA, reduceSub → iS, reduceMul → iM
set_option linter.unusedSimpArgs false
set_option linter.unusedVariables false
set_option maxRecDepth 4000
set_option maxHeartbeats 1000000
section
variable {H : Type} {enc : TypeId × Value → H} {P : Program} {w : World} {base : Nat} {spare : Nat → Bool} {held : Bool}
theorem qs5 (ι : Nat → Am.Loc) {l : List AV} (h : AV.zh l = true) : qv (fun _ => Am.Loc.nil) l = qv ι l := by
  rw [jr (ι' := ι) (n := 0) (fun j hj => by omega) l (qi _ _ h)]
theorem qh3 {ι : Nat → Am.Loc} : ∀ (ts : List Int) (L : List Value) (off : Nat), (∀ i (hi : i < ts.length), L[off + i]? = some (.int .i64 ts[i])) →
    (L.drop off).take ts.length = qv ι (xj ts)
  | [], L, off, h => by simp [xj, qv]
  | t :: ts, L, off, h => by
    have h0 := h 0 (by simp)
    rw [Nat.add_zero, List.getElem_cons_zero] at h0
    obtain ⟨hlt, h1⟩ := List.getElem?_eq_some_iff.1 h0
    have ih := qh3 (ι := ι) ts L (off + 1) fun i hi => by
      have := h (i + 1) (by simpa using hi)
      rw [show off + 1 + i = off + (i + 1) by omega]
      simpa using this
    rw [List.drop_eq_getElem_cons hlt, List.length_cons, List.take_succ_cons, h1, ih]
    rfl
theorem qsa {tX tI : TypeId} (hts : P.underlying tX = some (.slice tI)) (hti : P.underlying tI = some (.int .i64)) (hci : P.cellsOf tI = 1) {a0 : Option Addr} {len0 cap0 : Nat} {d : DataW H} {ps : List MemPlace} (hs : ∀ b, spare b = true) (h : DataW.Trod enc P w base spare held tX (.slice a0 len0 cap0) d ps) :
    ∃ (X : AV) (Hp : List AO) (ts : List Int) (l : Am.Loc), qm9 Hp X ts ∧ Value.slice a0 len0 cap0 = gam (fun _ => l) X ∧ (∀ o ∈ Hp, Xo (fun _ => l) w.heap l o ∧ o.wr = false) ∧ ts.length ≤ 9223372036854775807 := by
  obtain ⟨fuel, hf⟩ := h
  have hf' : DataW.trod enc P w base spare held fuel tX [.slice a0 len0 cap0] = some (d, ps) := hf
  rcases DataW.trod_slice hts hf' with ⟨e, _⟩ | ⟨a, len, cap, elems, rest, n, e, e2, e3, hb, hlc, hcm, hel, hei, hrs, _⟩
  · rw [List.cons.injEq] at e
    rw [e.1]
    exact ⟨.v (.slice none 0 0), [], [], Am.Loc.nil, .inl ⟨rfl, rfl, rfl⟩, rfl, (fun o h => by cases h), by simp⟩
  rw [List.cons.injEq] at e2
  rw [e2.1]
  rw [hci] at hei hrs
  have hmax : len ≤ 9223372036854775807 := Nat.le_trans (Nat.le_trans hlc hcm) (by decide)
  have hget : ∀ i, i < len → ∃ t : Int, w.cells? base (a.add (i * 1)) 1 = some [.int .i64 t] := fun i hi => by
    have h1 := hei i hi
    rw [List.getElem?_eq_getElem (by omega)] at h1
    simp only [Option.bind_eq_some_iff] at h1
    obtain ⟨cs', h2, h3⟩ := h1
    obtain ⟨t, rfl, _, _⟩ := DataW.trod_int hti h3
    exact ⟨t, h2⟩
  let f : Nat → Int := fun i => if hi : i < len then Classical.choose (hget i hi) else 0
  have hf : ∀ i, i < len → w.cells? base (a.add (i * 1)) 1 = some [.int .i64 (f i)] := fun i hi => by
    have := Classical.choose_spec (hget i hi)
    simp only [f, dif_pos hi]; exact this
  have hlen : ((List.range len).map f).length = len := by simp
  have hcell : ∀ i, i < len → w.cell? (a.add i) = some (.int .i64 (f i)) := fun i hi => by
    have := (World.cells?_some (hf i hi)).2.2 0 (by omega)
    rw [Addr.add_add, Nat.mul_one, Nat.add_zero] at this
    simpa using this
  by_cases hc0 : cap = 0
  · obtain rfl : len = 0 := by omega
    subst hc0
    refine ⟨.slc 0 0 0 true 0, [.dead], [], ⟨a, false, 0⟩, .inr (.inl ⟨rfl, rfl, rfl⟩), rfl, fun o h => ?_, by simp⟩
    rw [List.mem_singleton] at h; subst h; exact ⟨trivial, rfl⟩
  have h0 : ∃ v, w.cell? (a.add 0) = some v := by
    by_cases hl0 : len = 0
    · subst hl0
      obtain ⟨h1, h2⟩ := hrs (hs _)
      have h3 := h2 0 (by omega)
      rw [List.getElem?_eq_getElem (by omega)] at h3
      simp only [Option.bind_eq_some_iff] at h3
      obtain ⟨cs', h4, _⟩ := h3
      have h5 := World.cells?_some h4
      have h6 := h5.2.2 0 (by omega)
      have h7 : cs'.length = 1 := h5.2.1
      rw [List.getElem?_eq_getElem (by omega)] at h6
      simp only [Nat.zero_add, Nat.zero_mul, Addr.add_add] at h6
      exact ⟨_, h6⟩
    · exact ⟨_, hcell 0 (by omega)⟩
  obtain ⟨v0, h0⟩ := h0
  obtain ⟨blk, off, spot⟩ := a
  have hspot : spot = none := by simpa [Addr.add] using World.cell?_spot h0
  subst hspot
  have hheap : ∃ c ty fz, w.heap[blk]? = some (.cells c ty fz) := by
    simp only [World.cell?, Addr.add_plain] at h0
    split at h0
    · rename_i c ty fz hh; exact ⟨c, ty, fz, hh⟩
    · cases h0
  obtain ⟨c, ty, fz, hh⟩ := hheap
  have hc : ∀ i, w.cell? ⟨blk, i, none⟩ = c.toList[i]? := fun i => by simp [World.cell?, hh]
  have hoff : off ≤ c.toList.length := by
    rw [Addr.add_plain, Nat.add_zero, hc] at h0
    have := (List.getElem?_eq_some_iff.1 h0).1
    omega
  have hscan := qh3 (ι := fun _ => Am.Loc.nil) ((List.range len).map f) c.toList off fun i hi => by
    rw [hlen] at hi
    have := hcell i hi
    rw [Addr.add_plain, hc] at this
    rw [this]
    simp
  rw [hlen] at hscan
  refine ⟨.slc 0 0 ((List.range len).map f).length true cap, [.ro (xj ((List.range len).map f))], (List.range len).map f, ⟨⟨blk, off, none⟩, false, 0⟩, .inr (.inr ⟨cap, rfl, by rw [hlen]; exact hlc, rfl⟩), ?_, fun o h => ?_, by rw [hlen]; exact hmax⟩
  · rw [hlen]; simp [gam, Addr.add_plain]
  · rw [List.mem_singleton] at h; subst h
    refine ⟨.inr ⟨rfl, blk, off, c, ty, fz, c.toList.take off, (c.toList.drop off).drop len, rfl, hh, by rw [List.length_take]; omega, ?_⟩, rfl⟩
    rw [← qs5 _ (qn _), ← hscan, List.append_assoc, List.take_append_drop, List.take_append_drop]
theorem ql2 {Hp : List AO} {X : AV} {ts : List Int} (h : qm9 Hp X ts) : X.under Hp.length := by
  rcases h with ⟨rfl, rfl, _⟩ | ⟨rfl, rfl, _⟩ | ⟨cap, rfl, _, rfl⟩ <;> simp [AV.under]
theorem qwu {l : Am.Loc} {H : List AO} {X : AV} {ts : List Int} {heap : Array Obj} (hX : qm9 H X ts) (h : ∀ o ∈ H, Xo (fun _ => l) heap l o ∧ o.wr = false) : HOk (fun _ => l) H heap := by
  refine ⟨fun j o hj => ⟨K8 hX j o hj, (h o (List.mem_of_getElem? hj)).1⟩, fun i j b hi hj => ?_⟩
  obtain ⟨o, ho, hw, _⟩ := hi
  have := (h o (List.mem_of_getElem? ho)).2
  rw [this] at hw; cases hw
end
end Go.Proofs.Ytfhckbbgmblhbaa

/- Contracts: marks in elements. -/
import Derived.Test.YtkgoadglalpbfaaE7
namespace Go.Proofs.Ytkgoadglalpbfaa
open Go.Am Go.Dia
open Nat renaming reduceAdd → nA, reduceMul → nM, reduceSub → nS, reduceEqDiff → nE, reduceLT → nL, reduceLeDiff → nD, reduceBEq → nB
open Int renaming reduceEq → iE, reduceNe → iN, reduceBEq → iB, reduceBNe → iC, reduceLT → iL, reduceLE → iD, reduceAdd → iA, reduceSub → iS, reduceMul → iM
set_option linter.unusedSimpArgs false
set_option linter.unusedVariables false
set_option maxRecDepth 4000
set_option maxHeartbeats 1000000
def Q3 : AC := .seq (.seq (.region [oM 21 6,oK 22 .lss 21 16]) (.cond 22 .skip (.exit 2))) (.seq (.block 3 (.seq (.region [oM 25 0,oM 26 5,oM 27 6,oM 28 1,o0 29 (.conv .u8 (.t 28)),oX 30 18 25 26,oF 31 0 30,oF 32 1 31,o0 33 (.ja 16 1 (.t 32) (.t 27)),oT 33 29]) (.region [oM 34 1,oK 35 .add 34 1,oM 1 35]))) (.region [oM 23 6,oK 24 .add 23 1,oM 6 24]))
def Vk : AC := .seq (.region [oM 36 0,oM 37 5,oM 38 1,oX 39 18 36 37,oF 40 17 39,oT 40 38]) (.region [oM 41 1,oK 42 .add 41 1,oM 1 42])
def J9 : AC := .region [oM 11 5,oK 12 .add 11 1,oM 5 12]
def Q6 : AC := .seq (.seq (.region [oM 7 5,oM 8 0,o0 9 (.len .slc (.t 8)),oP 10 .lss 7 9]) (.cond 10 .skip (.exit 0))) (.seq (.block 1 (.seq (.region [oM 13 0,oM 14 5,oM 15 1,oX 16 18 13 14,oF 17 0 16,oF 18 0 17,oT 18 15]) (.seq (.region [oM 19 1,oK 20 .add 19 1,oM 1 20]) (.seq (.seq (.region [oI 6 0]) (.block 2 (.loop Q3))) Vk)))) J9)
def Vm : AC := .seq (.region [oM 43 1,oM 4 43]) .ret
def U8 : AC := .seq (.region [oI 4 0]) (.seq (.seq (.region [oI 5 0]) (.block 0 (.loop Q6))) Vm)
theorem qep : zy Try.prog 55 = some ⟨44, U8, [.slot 4]⟩ := by kernel_rfl
def W6 : AC := .seq (.region [o0 2 (.box (.t 0)),oI 4 0]) (.seq (.region [oF 5 3 2,oL 6 5,oM 7 1,oC 8 55 [.t 6,.t 7],oM 1 8]) (.seq (.region [oM 9 1,oM 4 9]) .ret))
theorem qb0 : zy Try.prog 20 = some ⟨10, W6, [.slot 4]⟩ := by kernel_rfl
def Q5 : AC := .seq (.seq (.region [oM 23 6,oK 24 .lss 23 16]) (.cond 24 .skip (.exit 2))) (.seq (.block 3 (.seq (.seq (.region [oM 27 0,oM 28 5,oM 29 6,oX 30 18 27 28,oF 31 0 30,oF 32 1 31,o0 33 (.ja 16 1 (.t 32) (.t 29)),oL 34 33,oM 35 1,o0 36 (.conv .u8 (.t 35)),oP 37 .neq 34 36]) (.cond 37 (.seq (.region [oI 4 (-1)]) .ret) .skip)) (.region [oM 38 1,oK 39 .add 38 1,oM 1 39]))) (.region [oM 25 6,oK 26 .add 25 1,oM 6 26]))
def Vv : AC := .seq (.seq (.region [oM 40 0,oM 41 5,oX 42 18 40 41,oF 43 17 42,oL 44 43,oM 45 1,oP 46 .neq 44 45]) (.cond 46 (.seq (.region [oI 4 (-1)]) .ret) .skip)) (.region [oM 47 1,oK 48 .add 47 1,oM 1 48])
def Vy : AC := .region [oM 11 5,oK 12 .add 11 1,oM 5 12]
def Q4 : AC := .seq (.seq (.region [oM 7 5,oM 8 0,o0 9 (.len .slc (.t 8)),oP 10 .lss 7 9]) (.cond 10 .skip (.exit 0))) (.seq (.block 1 (.seq (.seq (.region [oM 13 0,oM 14 5,oX 15 18 13 14,oF 16 0 15,oF 17 0 16,oL 18 17,oM 19 1,oP 20 .neq 18 19]) (.cond 20 (.seq (.region [oI 4 (-1)]) .ret) .skip)) (.seq (.region [oM 21 1,oK 22 .add 21 1,oM 1 22]) (.seq (.seq (.region [oI 6 0]) (.block 2 (.loop Q5))) Vv)))) Vy)
def Vc : AC := .seq (.region [oM 49 1,oM 4 49]) .ret
def Bl : AC := .seq (.region [oI 4 0]) (.seq (.seq (.region [oI 5 0]) (.block 0 (.loop Q4))) Vc)
theorem qek : zy Try.prog 67 = some ⟨50, Bl, [.slot 4]⟩ := by kernel_rfl
def Wx : AC := .seq (.region [o0 2 (.box (.t 0)),oI 4 0]) (.seq (.region [oF 5 3 2,oL 6 5,oM 7 1,oC 8 67 [.t 6,.t 7],oM 1 8]) (.seq (.seq (.region [oM 9 1,oK 10 .lss 9 0]) (.cond 10 (.seq (.region [oI 4 (-1)]) .ret) .skip)) (.seq (.region [oM 11 1,oM 4 11]) .ret)))
theorem qb5 : zy Try.prog 26 = some ⟨12, Wx, [.slot 4]⟩ := by kernel_rfl
def Km (k : Nat) : List Nat := (List.range 16).map fun j => (k + j) % 256
def qcz (k : Nat) : Int × List Nat × Int := (((k : Nat) : Int), Km (k + 1), ((k + 17 : Nat) : Int))
def marks (n k : Nat) : List (Int × List Nat × Int) := (List.range n).map fun i => qcz (k + 18 * i)
theorem qdf (k : Nat) : okD (Km k) := ⟨by simp [Km], fun x hx => by
  simp only [Km, List.mem_map] at hx
  obtain ⟨j, _, rfl⟩ := hx
  exact Nat.mod_lt _ (by decide)⟩
theorem Vn (n k : Nat) : okT (marks n k) := fun t ht => by
  simp only [marks, List.mem_map] at ht
  obtain ⟨j, _, rfl⟩ := ht
  exact qdf _
theorem xf (n k : Nat) : (marks n k).length = n := by simp [marks]
theorem Ux {n k i : Nat} (h : i < n) : (marks n k)[i]'(by rw [xf]; exact h) = qcz (k + 18 * i) := by simp [marks]
theorem qok {k j : Nat} (h : j < 16) : (Km k).getD j 0 = (k + j) % 256 := by simp [Km, List.getD_eq_getElem?_getD, h]
theorem qf8 {x : Nat} : q8 .u8 (x : Int) = ((x % 256 : Nat) : Int) := by
  simp only [q8, IntKind.wrap, IntKind.signed, IntKind.bits]
  simp
theorem qdn {ts : List (Int × List Nat × Int)} {i j : Nat} {v : AV} {t' : Int × List Nat × Int} (h : okT ts) (hi : i < ts.length) (hj : j < 18) (hv : (trm ts[i]).set j v = trm t') : (qq ts).set (i * 18 + j) v = qq (ts.set i t') := by
  induction ts generalizing i with
  | nil => simp at hi
  | cons t ts ih =>
    have h1 := zx (h t (by simp))
    cases i with
    | zero =>
      simp only [List.getElem_cons_zero] at hv
      simp only [qq, List.flatMap_cons, Nat.zero_mul, Nat.zero_add, List.set_cons_zero]
      rw [List.set_append_left _ _ (by omega), hv]
    | succ i =>
      simp only [List.getElem_cons_succ] at hv
      have h2 := ih (fun u hu => h u (List.mem_cons_of_mem _ hu)) (by simpa using hi) hv
      simp only [qq, List.flatMap_cons, List.set_cons_succ] at h2 ⊢
      rw [List.set_append_right _ _ (by omega), h1, show (i + 1) * 18 + j - 18 = i * 18 + j from by omega, h2]
theorem qre {t : Int × List Nat × Int} {x : Int} : (trm t).set 0 (.int .i64 x) = trm (x, t.2) := rfl
theorem qs1 {t : Int × List Nat × Int} {j x : Nat} (h : okD t.2.1) (hj : j < 16) : (trm t).set (1 + j) (.int .u8 (x : Int)) = trm (t.1, t.2.1.set j x, t.2.2) := by
  simp only [trm]
  rw [List.set_append_left _ _ (by rw [qe, h.1]; omega), qcb]
theorem qf2 {t : Int × List Nat × Int} {x : Int} (h : okD t.2.1) : (trm t).set 17 (.int .i64 x) = trm (t.1, t.2.1, x) := by
  simp only [trm]
  rw [List.set_append_right _ _ (by rw [qe, h.1]; omega), qe, h.1]; rfl
def part (k : Nat) (m : List Nat) (j : Nat) : List Nat := (List.range 16).map fun t => if t < j then (k + t) % 256 else m.getD t 0
theorem qqf {k : Nat} {m : List Nat} (h : m.length = 16) : part k m 0 = m := by
  refine qgm (by simp [part]) h fun i hi => ?_
  simp [part, List.getD_eq_getElem?_getD, hi]
theorem qsm {k : Nat} {m : List Nat} : part k m 16 = Km k := by
  simp only [part, Km]
  refine List.map_congr_left fun t ht => ?_
  rw [if_pos (List.mem_range.1 ht)]
theorem qqo {k j : Nat} {m : List Nat} (hj : j < 16) : (part k m j).set j ((k + j) % 256) = part k m (j + 1) := by
  refine qgm (by simp [part]) (by simp [part]) fun i hi => ?_
  rw [kb]
  have hl : (part k m j).length = 16 := by simp [part]
  by_cases e : j = i
  · subst e
    rw [if_pos ⟨rfl, by omega⟩]
    simp [part, List.getD_eq_getElem?_getD, hi]
  · rw [if_neg (fun h => e h.1)]
    simp only [part, List.getD_eq_getElem?_getD, List.getElem?_map, List.getElem?_range hi, Option.map_some, Option.getD_some]
    by_cases h1 : i < j
    · rw [if_pos h1, if_pos (by omega)]
    · rw [if_neg h1, if_neg (by omega)]
theorem qc9 {k j : Nat} {m : List Nat} (h : okD m) : okD (part k m j) := ⟨by simp [part], fun x hx => by
  simp only [part, List.mem_map] at hx
  obtain ⟨t, _, rfl⟩ := hx
  split
  · exact Nat.mod_lt _ (by decide)
  · exact h.get t⟩
theorem qfw {s : Nat} {l : List AV} (h : AV.zs l = true) : ∀ (j : Nat) (o : AO), [AO.vec s l][j]? = some o → o.under [AO.vec s l].length := by
  intro j o e
  cases j with
  | zero => simp only [List.getElem?_cons_zero, Option.some.injEq] at e; subst e; exact qk _ _ h
  | succ j => simp at e
theorem qe6 (ts : List (Int × List Nat × Int)) (k : Nat) (ht : okT ts) (hk : k ≤ 100000000) (hl : ts.length ≤ 2000000) :
    Am.Fn Try.prog 55 [.slc 0 0 ts.length false 0, .int .i64 k] [.vec 18 (qq ts)] (fun v H' => v = .int .i64 ((k + 18 * ts.length : Nat) : Int) ∧ H' = [.vec 18 (qq (marks ts.length k))]) := by
  refine Am.Fn.ofB Gc mixed qep (by simp) (qfw (qa _)) ?_
  simp (maxSteps := 3000000) only [U8, qb, zZ, ↓qp, ↓reduceIte, reduceCtorEq, nA, nM, nS, nE, nL, nD]; try simp only [qb, zY]
  refine WA.j8 Gc (fun s => ∃ i : Nat, ∃ us, s = ⟨[(5, .int .i64 i), (1, .int .i64 ((k + 18 * i : Nat) : Int)), (0, .slc 0 0 ts.length false 0)], [.vec 18 (qq us)]⟩ ∧ i ≤ ts.length ∧ us = marks i k ++ ts.drop i)
    (fun s => match get s.env 5 with | .int _ x => ts.length - x.toNat | _ => 0) ⟨_, qz.zc [5, 1, 0], 0, ts, rfl, by omega, by simp [marks]⟩ ?_
  rintro s ⟨i, us, rfl, hi, hus⟩
  have hul : us.length = ts.length := by rw [hus, List.length_append, xf, List.length_drop]; omega
  have huo : okT us := by
    rw [hus]; intro t h
    rcases List.mem_append.1 h with h | h
    · exact Vn _ _ t h
    · exact ht t (List.mem_of_mem_drop h)
  have hutl := qt huo
  have hw : q8 .i64 ((i : Int) + 1) = ((i + 1 : Nat) : Int) := by rw [wrap64 (by omega) (by omega)]; rfl
  have hw1 : q8 .i64 (((k + 18 * i : Nat) : Int) + 1) = ((k + 18 * i + 1 : Nat) : Int) := by rw [wrap64 (by omega) (by omega)]; rfl
  by_cases hlt : i < ts.length
  · have h0 : (qq us).set (i * 18) (.int .i64 ((k + 18 * i : Nat) : Int)) = qq (us.set i (((k + 18 * i : Nat) : Int), us[i].2)) := by
      have := qdn (j := 0) huo (by omega) (by decide) (qre (t := us[i]) (x := ((k + 18 * i : Nat) : Int)))
      exact this
    simp (maxSteps := 3000000) only [Q6, hw, hw1, hutl, h0, rd, wrt, wrl, AO.y6, List.getElem?_cons_zero, List.set_cons_zero, qb, zZ, ↓qp, ↓reduceIte, reduceCtorEq, nA, nM, nS, nE, nL, nD]; try simp only [qb, zY]
    refine ⟨fun _ => ⟨⟨⟨by omega, by omega⟩, by omega⟩, ⟨by omega, rfl⟩, ?_⟩, fun h => absurd (by omega) h⟩
    have hlu : i < us.length := by omega
    generalize hm : us[i].2.1 = m at *
    generalize hf : us[i].2.2 = f at *
    have hmo : okD m := by rw [← hm]; exact huo _ (List.getElem_mem hlu)
    have huf : (us.set i (((k + 18 * i : Nat) : Int), us[i].2)) = us.set i (((k + 18 * i : Nat) : Int), m, f) := by rw [← hm, ← hf]
    rw [huf]
    have hV : ∀ x : Int × List Nat × Int, okD x.2.1 → okT (us.set i x) := fun x hx t h => by
      rcases List.mem_or_eq_of_mem_set h with h | h
      · exact huo t h
      · rw [h]; exact hx
    refine WA.j8 Gc (fun s => ∃ j : Nat, s = ⟨[(6, .int .i64 j), (5, .int .i64 i), (1, .int .i64 ((k + 18 * i + 1 + j : Nat) : Int)), (0, .slc 0 0 ts.length false 0)], [.vec 18 (qq (us.set i (((k + 18 * i : Nat) : Int), part (k + 18 * i + 1) m j, f)))]⟩ ∧ j ≤ 16)
      (fun s => match get s.env 6 with | .int _ k => (100 - k).toNat | _ => 0) ⟨_, qz.zc [6, 5, 1, 0], 0, ?_, by omega⟩ ?_
    · simp only [qqf hmo.1, zL, ↓reduceIte, reduceCtorEq, nE, nA]
      rfl
    rintro s ⟨j, rfl, hj⟩
    have hwj : q8 .i64 ((j : Int) + 1) = ((j + 1 : Nat) : Int) := by rw [wrap64 (by omega) (by omega)]; rfl
    have hwq : q8 .i64 (((k + 18 * i + 1 + j : Nat) : Int) + 1) = ((k + 18 * i + 1 + j + 1 : Nat) : Int) := by rw [wrap64 (by omega) (by omega)]; rfl
    have hVo := hV (((k + 18 * i : Nat) : Int), part (k + 18 * i + 1) m j, f) (qc9 hmo)
    have hVl := qt hVo
    rw [List.length_set] at hVl
    by_cases hj16 : j < 16
    · have hst : (qq (us.set i (((k + 18 * i : Nat) : Int), part (k + 18 * i + 1) m j, f))).set (i * 18 + 1 + j) (.int .u8 (((k + 18 * i + 1 + j) % 256 : Nat) : Int)) = qq (us.set i (((k + 18 * i : Nat) : Int), part (k + 18 * i + 1) m (j + 1), f)) := by
        have h1 := qdn (i := i) (j := 1 + j) (v := .int .u8 (((k + 18 * i + 1 + j) % 256 : Nat) : Int)) (t' := (((k + 18 * i : Nat) : Int), (part (k + 18 * i + 1) m j).set j ((k + 18 * i + 1 + j) % 256), f)) hVo (by rw [List.length_set]; omega) (by omega) (by
          rw [List.getElem_set_self]; exact qs1 (qc9 hmo) hj16)
        rw [List.set_set, qqo hj16] at h1
        rw [show i * 18 + 1 + j = i * 18 + (1 + j) from by omega]; exact h1
      simp (maxSteps := 3000000) only [Q3, hwj, hwq, hVl, qf8, hst, rd, wrt, wrl, AO.y6, List.getElem?_cons_zero, List.set_cons_zero, qb, zZ, ↓qp, ↓reduceIte, reduceCtorEq, nA, nM, nS, nE, nL, nD]; try simp only [qb, zY]
      refine ⟨fun _ => ⟨⟨⟨by omega, by omega⟩, by omega⟩, ⟨by omega, by omega⟩, ⟨by omega, rfl⟩, _, qz.zc [6, 5, 1, 0], ⟨j + 1, ?_, by omega⟩, ?_⟩, fun h => absurd (by omega) h⟩
      · simp only [zL, ↓reduceIte, reduceCtorEq, nE, nA]
        rfl
      · simp only [zL, ↓reduceIte, reduceCtorEq, nE, nA]; omega
    · have hj' : j = 16 := by omega
      subst hj'
      have hst : (qq (us.set i (((k + 18 * i : Nat) : Int), part (k + 18 * i + 1) m 16, f))).set (i * 18 + 17) (.int .i64 ((k + 18 * i + 1 + 16 : Nat) : Int)) = qq (us.set i (qcz (k + 18 * i))) := by
        have h1 := qdn (i := i) (j := 17) (v := .int .i64 ((k + 18 * i + 1 + 16 : Nat) : Int)) (t' := (((k + 18 * i : Nat) : Int), part (k + 18 * i + 1) m 16, ((k + 18 * i + 1 + 16 : Nat) : Int))) hVo (by rw [List.length_set]; omega) (by omega) (by
          rw [List.getElem_set_self]; exact qf2 (qc9 hmo))
        rw [List.set_set, qsm] at h1
        exact h1
      simp (maxSteps := 3000000) only [Q3, Vk, J9, hw, hwj, hwq, hVl, hst, rd, wrt, wrl, AO.y6, List.getElem?_cons_zero, List.set_cons_zero, qb, zZ, ↓qp, ↓reduceIte, reduceCtorEq, nA, nM, nS, nE, nL, nD]; try simp only [qb, zY]
      refine ⟨fun h => absurd h (by omega), fun _ => ⟨⟨⟨by omega, by omega⟩, by omega⟩, ⟨by omega, rfl⟩, _, qz.zc [5, 1, 0], ⟨i + 1, us.set i (qcz (k + 18 * i)), ?_, by omega, ?_⟩, ?_⟩⟩
      · simp only [zL, ↓reduceIte, reduceCtorEq, nE, nA]
        rw [show k + 18 * i + 1 + 16 + 1 = k + 18 * (i + 1) from by omega]
      · rw [hus]
        refine List.ext_getElem (by simp [xf]; omega) fun x hx1 hx2 => ?_
        simp only [List.getElem_set]
        by_cases e : i = x
        · subst e
          rw [if_pos rfl, List.getElem_append_left (by rw [xf]; omega), Ux (by omega)]
        · rw [if_neg e]
          by_cases h2 : x < i
          · rw [List.getElem_append_left (by rw [xf]; omega), List.getElem_append_left (by rw [xf]; omega), Ux (by omega), Ux (by omega)]
          · rw [List.getElem_append_right (by rw [xf]; omega), List.getElem_append_right (by rw [xf]; omega)]
            simp only [xf, List.getElem_drop]
            congr 1; omega
      · simp only [Int.toNat_natCast, zL, ↓reduceIte, reduceCtorEq, nE, nA]; omega
  · have hi' : i = ts.length := by omega
    subst hi'
    simp (maxSteps := 3000000) only [Q6, Vm, hw, hw1, rd, wrt, wrl, AO.y6, List.getElem?_cons_zero, List.set_cons_zero, qb, zZ, ↓qp, ↓reduceIte, reduceCtorEq, nA, nM, nS, nE, nL, nD]; try simp only [qb, zY]
    refine ⟨fun h => absurd h (by omega), fun _ => ?_⟩
    refine Ret.zw [0] ⟨⟨Nat.le_refl 1, rfl, by decide⟩, ?_⟩ (rs := [.int .i64 ((k + 18 * ts.length : Nat) : Int)]) rfl rfl (by simp [xc]) ?_ ⟨?_, ?_⟩
    · simp only [qc _ _ (qa _), zK, ↓reduceIte, reduceCtorEq, nE, nB, nA]
    · intro j l; cases j <;> simp [zi, AO.ren]
    · simp only [xc]
      simp only [zL, ↓reduceIte, reduceCtorEq, nE, nA]
    · simp only [qd _ _ (qa _), zL, ↓reduceIte, reduceCtorEq, nE, nA]
      rw [hus, List.drop_length, List.append_nil]
theorem qe2 (n k : Nat) (hk : k ≤ 100000000) (hl : n ≤ 2000000) :
    Am.Fn Try.prog 67 [.slc 0 0 n false 0, .int .i64 k] [.ro (qq (marks n k))] (fun v H' => v = .int .i64 ((k + 18 * n : Nat) : Int) ∧ H' = [.ro (qq (marks n k))]) := by
  refine Am.Fn.jw (R := fun v => v = _) Gc mixed qek (by simp) (Zu (qa _)) ?_
  simp (maxSteps := 3000000) only [Bl, qb, zZ, ↓qp, ↓reduceIte, reduceCtorEq, nA, nM, nS, nE, nL, nD]; try simp only [qb, zY]
  refine WA.j8 Gc (fun s => ∃ i : Nat, s = ⟨[(5, .int .i64 i), (1, .int .i64 ((k + 18 * i : Nat) : Int)), (0, .slc 0 0 n false 0)], [.ro (qq (marks n k))]⟩ ∧ i ≤ n)
    (fun s => match get s.env 5 with | .int _ x => n - x.toNat | _ => 0) ⟨_, qz.zc [5, 1, 0], 0, rfl, by omega⟩ ?_
  rintro s ⟨i, rfl, hi⟩
  have hml := qt (Vn n k)
  rw [xf] at hml
  have hw : q8 .i64 ((i : Int) + 1) = ((i + 1 : Nat) : Int) := by rw [wrap64 (by omega) (by omega)]; rfl
  have hw1 : q8 .i64 (((k + 18 * i : Nat) : Int) + 1) = ((k + 18 * i + 1 : Nat) : Int) := by rw [wrap64 (by omega) (by omega)]; rfl
  by_cases hlt : i < n
  · have hcell : ∀ j, j < 18 → (qq (marks n k))[i * 18 + j]? = (trm (qcz (k + 18 * i)))[j]? := fun j hj => by
      have h1 := gw (Vn n k) (i := i) (by rw [xf]; exact hlt)
      rw [Ux hlt] at h1
      rw [← h1, List.getElem?_take_of_lt hj, List.getElem?_drop]
    have hc0 : (qq (marks n k))[i * 18]? = some (.int .i64 ((k + 18 * i : Nat) : Int)) := hcell 0 (by decide)
    simp (maxSteps := 3000000) only [Q4, hw, hw1, hml, hc0, rd, List.getElem?_cons_zero, qb, zZ, ↓qp, ↓reduceIte, reduceCtorEq, nA, nM, nS, nE, nL, nD]; try simp only [qb, zY]
    refine ⟨fun _ => ⟨⟨⟨by omega, by omega⟩, by omega⟩, ?_⟩, fun h => absurd (by omega) h⟩
    refine WA.j8 Gc (fun s => ∃ j : Nat, s = ⟨[(6, .int .i64 j), (5, .int .i64 i), (1, .int .i64 ((k + 18 * i + 1 + j : Nat) : Int)), (0, .slc 0 0 n false 0)], [.ro (qq (marks n k))]⟩ ∧ j ≤ 16)
      (fun s => match get s.env 6 with | .int _ k => (100 - k).toNat | _ => 0) ⟨_, qz.zc [6, 5, 1, 0], 0, rfl, by omega⟩ ?_
    rintro s ⟨j, rfl, hj⟩
    have hwj : q8 .i64 ((j : Int) + 1) = ((j + 1 : Nat) : Int) := by rw [wrap64 (by omega) (by omega)]; rfl
    have hwq : q8 .i64 (((k + 18 * i + 1 + j : Nat) : Int) + 1) = ((k + 18 * i + 1 + j + 1 : Nat) : Int) := by rw [wrap64 (by omega) (by omega)]; rfl
    by_cases hj16 : j < 16
    · have hcj : (qq (marks n k))[i * 18 + 1 + j]? = some (.int .u8 (((k + 18 * i + 1 + j) % 256 : Nat) : Int)) := by
        have hmk : (qcz (k + 18 * i)).2.1.length = 16 := (qdf _).1
        rw [show i * 18 + 1 + j = i * 18 + (1 + j) from by omega, hcell _ (by omega), trm, List.getElem?_append_left (by rw [qe, hmk]; omega)]
        rw [Xn (by rw [hmk]; exact hj16)]
        rw [show (qcz (k + 18 * i)).2.1 = Km (k + 18 * i + 1) from rfl, qok hj16]
      simp (maxSteps := 3000000) only [Q5, hwj, hwq, hml, hcj, qf8, rd, List.getElem?_cons_zero, qb, zZ, ↓qp, ↓reduceIte, reduceCtorEq, nA, nM, nS, nE, nL, nD]; try simp only [qb, zY]
      refine ⟨fun _ => ⟨⟨⟨by omega, by omega⟩, by omega⟩, ⟨by omega, by omega⟩, _, qz.zc [6, 5, 1, 0], ⟨j + 1, ?_, by omega⟩, ?_⟩, fun h => absurd (by omega) h⟩
      · simp only [zL, ↓reduceIte, reduceCtorEq, nE, nA]
        rfl
      · simp only [zL, ↓reduceIte, reduceCtorEq, nE, nA]; omega
    · have hj' : j = 16 := by omega
      subst hj'
      have hcf : (qq (marks n k))[i * 18 + 17]? = some (.int .i64 ((k + 18 * i + 1 + 16 : Nat) : Int)) := by
        rw [hcell 17 (by decide), bz (qdf _)]; rfl
      simp (maxSteps := 3000000) only [Q5, Vv, Vy, hw, hwj, hwq, hml, hcf, rd, List.getElem?_cons_zero, qb, zZ, ↓qp, ↓reduceIte, reduceCtorEq, nA, nM, nS, nE, nL, nD]; try simp only [qb, zY]
      refine ⟨fun h => absurd h (by omega), fun _ => ⟨⟨⟨by omega, by omega⟩, by omega⟩, _, qz.zc [5, 1, 0], ⟨i + 1, ?_, by omega⟩, ?_⟩⟩
      · simp only [zL, ↓reduceIte, reduceCtorEq, nE, nA]
        rw [show k + 18 * i + 1 + 16 + 1 = k + 18 * (i + 1) from by omega]
      · simp only [Int.toNat_natCast, zL, ↓reduceIte, reduceCtorEq, nE, nA]; omega
  · have hi' : i = n := by omega
    subst hi'
    simp (maxSteps := 3000000) only [Q4, Vc, hw, hw1, rd, List.getElem?_cons_zero, qb, zZ, ↓qp, ↓reduceIte, reduceCtorEq, nA, nM, nS, nE, nL, nD]; try simp only [qb, zY]
    exact ⟨fun h => absurd h (by omega), fun _ => ⟨_, rfl⟩⟩
end Go.Proofs.Ytkgoadglalpbfaa

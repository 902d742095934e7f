/- Contracts: the texts of diagrams. -/
import Derived.Test.YtkgoadglalpbfaaAmC
import Derived.Test.YtkgoadglalpbfaaE1
namespace Go.Proofs.Ytkgoadglalpbfaa
open Go.Am Go.Dia
open Nat renaming reduceAdd → nA, reduceMul → nM, reduceSub → nS, reduceEqDiff → nE, reduceLT → nL, reduceLeDiff → nD, reduceBEq → nB
open Int renaming reduceEq → iE, reduceNe → iN, reduceBEq → iB, reduceBNe → iC, reduceLT → iL, reduceLE → iD, reduceAdd → iA, reduceSub → iS, reduceMul → iM
set_option linter.unusedSimpArgs false
set_option linter.unusedVariables false
set_option maxRecDepth 4000
def Bn : AC := .seq (.region [oI 2 0]) (.seq (.region [oM 3 0,o0 4 (.j3 (.t 3)),oF 5 0 4,oL 6 5,oM 2 6]) .ret)
theorem qen : zy Try.prog 115 = some ⟨7, Bn, [.slot 2]⟩ := by kernel_rfl
def Xd : AC := .seq (.region [oP 12 .lss 11 10]) (.seq (.cond 12 .skip (.exit 0)) (.seq (.block 1 (.seq (.region [oM 13 11,oM 5 13]) (.seq (.draw false [oM 14 3,oM 15 0,oM 16 3,oM 17 5,o0 19 (.j3 (.t 15)),oF 20 1 19,oM 25 5,oC 18 132 [.t 16,.t 17],o0 21 (.ja 16 1 (.t 20) (.t 18)),oL 22 21,o0 23 (.conv .i64 (.t 22)),oC 24 132 [.t 14,.t 23],oP 26 .gtr 24 25]) (.cond 26 (.region [oM 27 4,o0 28 (.gr 1 [.int .u8 0] [(0,1,(.c (.int .u8 40)))]),o0 29 (.append 1 1 (.t 27) (.t 28)),oM 4 29]) (.region [oM 30 4,o0 31 (.gr 1 [.int .u8 0] [(0,1,(.c (.int .u8 41)))]),o0 32 (.append 1 1 (.t 30) (.t 31)),oM 4 32]))))) (.region [oK 33 .add 11 1,oM 11 33])))
def Xc : AC := .seq (.region [oM 34 4,o0 35 (.b2s (.t 34)),oM 2 35]) .ret
def Vj : AC := .seq (.region [o0 2 (.mov (.c (.str [])))]) (.seq (.region [oM 6 0,oC 7 115 [.t 6],o0 8 (.gr 0 [] []),oM 3 7,oM 4 8]) (.seq (.seq (.region [oM 9 3,o0 10 (.bin .mul (.c (.int .i64 2)) (.t 9)),oI 11 0]) (.block 0 (.loop Xd))) Xc))
theorem K6 : zy Try.prog 100 = some ⟨36, Vj, [.slot 2]⟩ := by kernel_rfl
def Y1 : AC := .seq (.seq (.region [oM 7 4,oF 8 0 1,oL 9 8,o0 10 (.bin .mul (.c (.int .i64 2)) (.t 9)),oP 11 .lss 7 10]) (.cond 11 .skip (.exit 0))) (.seq (.block 1 (.seq (.region [oF 14 0 1,oL 15 14,oM 16 4,oC 17 135 [.t 15,.t 16],oM 5 17]) (.seq (.draw false [oF 18 0 1,oL 19 18,oM 20 5,oF 21 1 1,o0 22 (.ja 16 1 (.t 21) (.t 20)),oL 23 22,o0 24 (.conv .i64 (.t 23)),oM 26 4,oC 25 135 [.t 19,.t 24],oP 27 .gtr 25 26]) (.cond 27 (.region [oM 28 3,o0 29 (.gr 1 [.int .u8 0] [(0,1,(.c (.int .u8 40)))]),o0 30 (.append 1 1 (.t 28) (.t 29)),oM 3 30]) (.region [oM 31 3,o0 32 (.gr 1 [.int .u8 0] [(0,1,(.c (.int .u8 41)))]),o0 33 (.append 1 1 (.t 31) (.t 32)),oM 3 33]))))) (.region [oM 12 4,oK 13 .add 12 1,oM 4 13]))
def Yn : AC := .seq (.region [oM 34 3,o0 35 (.b2s (.t 34)),oM 2 35]) .ret
def qa2 : AC := .seq (.region [o0 1 (.box (.t 0)),o0 2 (.mov (.c (.str [])))]) (.seq (.region [o0 6 (.gr 0 [] []),oM 3 6]) (.seq (.seq (.region [oI 4 0]) (.block 0 (.loop Y1))) Yn))
theorem qkj : zy Try.prog 109 = some ⟨36, qa2, [.slot 2]⟩ := by kernel_rfl
def okD (m : List Nat) : Prop := m.length = 16 ∧ ∀ x, x ∈ m → x < 256
theorem okD.get {m : List Nat} (h : okD m) (i : Nat) : m.getD i 0 < 256 := by
  rw [List.getD_eq_getElem?_getD]
  cases e : m[i]? with
  | none => simp
  | some x => exact h.2 x (List.mem_of_getElem? e)
def bytesOf : List AV → Option (List Nat)
  | [] => some []
  | .int .u8 x :: r => if 0 ≤ x ∧ x < 256 then (match bytesOf r with
    | some l => some (x.toNat :: l)
    | none => none) else none
  | _ => none
theorem Zo : ∀ {m : List Nat}, (∀ x, x ∈ m → x < 256) → bytesOf (u8s m) = some m
  | [], _ => rfl
  | x :: m, h => by
    have h1 := Zo (m := m) fun y hy => h y (List.mem_cons_of_mem _ hy)
    have h2 := h x (by simp)
    simp only [u8s, List.map_cons, bytesOf] at h1 ⊢
    rw [if_pos (by omega), h1]
    simp
theorem Qg : ∀ {l : List AV} {m : List Nat}, bytesOf l = some m → l = u8s m ∧ ∀ x, x ∈ m → x < 256
  | [], m, h => by cases h; exact ⟨rfl, by simp⟩
  | a :: l, m, h => by
    cases a <;> (try (simp only [bytesOf, reduceCtorEq] at h; done))
    rename_i k x
    cases k <;> (try (simp only [bytesOf, reduceCtorEq] at h; done))
    simp only [bytesOf] at h
    split at h
    · rename_i hx
      split at h
      · rename_i r hr
        cases h
        obtain ⟨h1, h2⟩ := Qg hr
        refine ⟨?_, fun y hy => ?_⟩
        · simp only [u8s, List.map_cons, List.cons.injEq, AV.int.injEq, true_and]
          exact ⟨by omega, h1⟩
        · rcases List.mem_cons.1 hy with rfl | hy
          · omega
          · exact h2 y hy
      · cases h
    · cases h
def bg : List AV → Option (Int × List Nat)
  | .int .i64 n :: r => match bytesOf r with
    | some m => if m.length = 16 then some (n, m) else none
    | none => none
  | _ => none
theorem zd {n : Int} {m : List Nat} (h : okD m) : bg (dia n m) = some (n, m) := by
  simp only [dia, bg, Zo h.2, h.1, if_true]
theorem xa {l : List AV} {n : Int} {m : List Nat} (h : bg l = some (n, m)) : l = dia n m ∧ okD m := by
  unfold bg at h
  split at h
  · split at h
    · rename_i hm
      obtain ⟨h1, h2⟩ := Qg hm
      split at h
      · rename_i h3; cases h; exact ⟨by rw [h1]; rfl, h3, h2⟩
      · cases h
    · cases h
  · cases h
theorem qx9 (n : Int) : Am.Fn Try.prog 115 [.ptr 0 0] [.ro [.int .i64 n]] (fun v H' => v = .int .i64 n ∧ H' = [.ro [.int .i64 n]]) := by
  refine Am.Fn.jw (R := fun v => v = _) qwd mixed qen (by simp) (by intro j o h; cases j <;> simp at h; subst h; exact ⟨trivial, trivial⟩) ?_
  simp (maxSteps := 3000000) only [Bn, rd, List.getElem?_cons_zero, qb, zZ, ↓qp, ↓reduceIte, reduceCtorEq, nA, nM, nS, nE, nL, nD]; try simp only [qb, zY]
  exact ⟨_, rfl⟩
def g_n : List AV → List AV → Option AV
  | [.int .i64 n], [] => some (.int .i64 n)
  | _, _ => none
theorem qxy : Am.Callee Try.prog 115 (Zm 1 g_n) :=
  Am.Callee.read fun l xs v hl he => by
    unfold g_n at he
    split at he
    · cases he; exact ⟨rfl, rfl, rfl, qx9 _⟩
    · cases he
theorem qgf {n : Int} {m : List Nat} : List.take 1 (List.drop 0 (dia n m)) = [.int .i64 n] := rfl
def B4 : z7 := (B3.put 115 (Zm 1 g_n))
theorem qjr : ze Try.prog B4 := (qwd.put (qxy))
theorem Z2 : B4 132 = some (qu yl) := rfl
theorem Zd : B4 135 = some (qu yl) := rfl
theorem Qh : B4 115 = some (Zm 1 g_n) := rfl
theorem Q1 {n k : Nat} (h : k < 2 * n) : Z0 n k = (place n k : Nat) := by
  unfold Z0 place; split <;> split <;> omega
theorem Wq {n x k : Nat} : ((k : Int) < Z0 n x) ↔ (k < place n x) := by
  unfold Z0 place; split <;> split <;> omega
theorem vb {x : Nat} (h : x < 1000) : kp (x : Int) := by unfold kp; omega
theorem Zu {l : List AV} (h : AV.zs l = true) : ∀ (j : Nat) (o : AO), [AO.ro l][j]? = some o → o.under [AO.ro l].length := by
  intro j o e
  cases j with
  | zero => simp only [List.getElem?_cons_zero, Option.some.injEq] at e; subst e; exact qk _ _ h
  | succ j => simp at e
def V9 (n : Nat) (m : List Nat) : List Nat := (List.range (2 * n)).map fun k => if k < place n (m.getD (place n k) 0) then 40 else 41
theorem qk1 (n : Nat) (m : List Nat) : (V9 n m).map (fun x => UInt8.ofNat x) = xw n m := by
  simp only [V9, xw, List.map_map]
  refine List.map_congr_left fun k _ => ?_
  simp only [Function.comp]
  split <;> rfl
theorem bq (n : Nat) (m : List Nat) : (V9 n m).length = 2 * n := by simp [V9]
theorem qiw {n : Nat} {m : List Nat} {k : Nat} (h : k < 2 * n) : (V9 n m).take (k + 1) = (V9 n m).take k ++ [if k < place n (m.getD (place n k) 0) then 40 else 41] := by
  rw [List.take_add_one]
  congr 1
  simp [V9, h]
theorem qk8 {l : List AV} {k : Nat} (h : l.length ≤ k) : List.take k (List.drop 0 l) = l := by rw [List.drop_zero, List.take_of_length_le h]
theorem qso (n : Nat) (m : List Nat) (hn : n ≤ 8) (hm : okD m) : Am.Fn Try.prog 100 [.ptr 0 0] [.ro (dia n m)] (fun v H' => v = .str (xw n m) ∧ H' = [.ro (dia n m)]) := by
  refine Am.Fn.jw (R := fun v => v = _) qjr mixed K6 (by simp) (Zu (qh _ _)) ?_
  have h2n : q8 .i64 (2 * (n : Int)) = ((2 * n : Nat) : Int) := by rw [wrap64 (by omega) (by omega)]; simp
  simp (maxSteps := 3000000) only [Vj, Z2, Zd, Qh, g_n, yl, rd, List.getElem?_cons_zero, qgf, qe, hm.1, h2n, vt, qb, zZ, ↓qp, ↓reduceIte, reduceCtorEq, nA, nM, nS, nE, nL, nD]; try simp only [qb, zY]
  refine WA.j8 qjr (fun s => ∃ k : Nat, s = ⟨[(11, .int .i64 k), (10, .int .i64 ((2 * n : Nat) : Int)), (4, .slc 1 0 k false 0), (3, .int .i64 n), (0, .ptr 0 0)], [.ro (dia n m), .vec 1 (u8s ((V9 n m).take k))]⟩ ∧ k ≤ 2 * n)
    (fun s => match get s.env 11 with | .int _ k => (100 - k).toNat | _ => 0) ⟨_, qz.trans (qz.zc [11, 10, 4, 3, 0]) (qz.vec 1 0 1 (by decide) rfl rfl ?_ ?_), 0, ?_, by omega⟩ ?_
  · simp only [zc, z6, zV, ↓reduceIte, nE, reduceCtorEq, nB]
  · simp only [zV, ↓reduceIte, nE, reduceCtorEq, nB]
  · simp only [zc, z6, List.take_zero, zV, ↓reduceIte, nE, reduceCtorEq, nB]; rfl
  rintro s ⟨k, rfl, hk⟩
  have hw : q8 .i64 ((k : Int) + 1) = ((k + 1 : Nat) : Int) := by rw [wrap64 (by omega) (by omega)]; rfl
  simp (maxSteps := 3000000) only [Xd, Xc, hw, Z2, Zd, Qh, g_n, yl, rd, List.getElem?_cons_zero, List.getElem?_cons_succ, vt, src, qb, zZ, ↓qp, ↓reduceIte, reduceCtorEq, nA, nM, nS, nE, nL, nD]; try simp only [qb, zY]
  refine ⟨fun h => ?_, fun h => ?_⟩
  · have hk' : k < 2 * n := by omega
    have hp := zp hk'
    have hg := hm.get (place n k)
    have h1 : q8 .i64 ((m.getD (place n k) 0 : Nat) : Int) = (m.getD (place n k) 0 : Nat) := yk (by omega)
    have hlt : (List.take k (V9 n m)).length = k := by rw [List.length_take, bq]; omega
    have hap : ∀ c : Nat, c = (if k < place n (m.getD (place n k) 0) then 40 else 41) → List.take k (u8s (List.take k (V9 n m))) ++ [AV.int .u8 (c : Int)] = u8s (List.take (k + 1) (V9 n m)) := by
      intro c hc
      rw [List.take_of_length_le (by rw [xv, hlt]; exact Nat.le_refl _), qiw hk', ← hc, ← qdk]; rfl
    simp (maxSteps := 3000000) only [Q1 hk', h1, qb, zZ, ↓qp, ↓reduceIte, reduceCtorEq, nA, nM, nS, nE, nL, nD]; try simp only [qb, zY]
    refine ⟨⟨vb (by omega), vb (by omega)⟩, ⟨by omega, by omega⟩, by rw [hm.1]; omega, ⟨vb (by omega), vb (by omega)⟩, fun h2 => ?_, fun h2 => ?_⟩
    · have e := hap 40 (by rw [if_pos (Wq.1 h2)])
      simp only [Int.cast_ofNat_Int] at e
      refine ⟨by decide, ⟨by rw [xv, hlt]; exact Nat.le_refl _, by decide, by omega⟩, _, qz.zw [0, 3] [11, 10, 4, 3, 0] ⟨by decide, ?_⟩ ?_, ⟨k + 1, ?_, by omega⟩, ?_⟩
      · simp only [over, List.take_zero, List.length_cons, List.length_nil, List.drop_succ_cons, List.drop_nil, List.take_succ_cons, List.drop_zero, e, zK, ↓reduceIte, reduceCtorEq, nE, nB, nA]
      · simp only [zK, ↓reduceIte, reduceCtorEq, nE, nB, nA]
      · simp only [over, List.take_zero, List.length_cons, List.length_nil, List.drop_succ_cons, List.drop_nil, List.take_succ_cons, List.drop_zero, e, zL, ↓reduceIte, reduceCtorEq, nE, nA]
      · simp only [zL, ↓reduceIte, reduceCtorEq, nE, nA]
        omega
    · have e := hap 41 (by rw [if_neg fun h => h2 (Wq.2 h)])
      simp only [Int.cast_ofNat_Int] at e
      refine ⟨by decide, ⟨by rw [xv, hlt]; exact Nat.le_refl _, by decide, by omega⟩, _, qz.zw [0, 3] [11, 10, 4, 3, 0] ⟨by decide, ?_⟩ ?_, ⟨k + 1, ?_, by omega⟩, ?_⟩
      · simp only [over, List.take_zero, List.length_cons, List.length_nil, List.drop_succ_cons, List.drop_nil, List.take_succ_cons, List.drop_zero, e, zK, ↓reduceIte, reduceCtorEq, nE, nB, nA]
      · simp only [zK, ↓reduceIte, reduceCtorEq, nE, nB, nA]
      · simp only [over, List.take_zero, List.length_cons, List.length_nil, List.drop_succ_cons, List.drop_nil, List.take_succ_cons, List.drop_zero, e, zL, ↓reduceIte, reduceCtorEq, nE, nA]
      · simp only [zL, ↓reduceIte, reduceCtorEq, nE, nA]
        omega
  · have hkn : k = 2 * n := by omega
    have hall : List.take k (V9 n m) = V9 n m := by rw [List.take_of_length_le]; rw [bq]; omega
    rw [hall, qk8 (by rw [xv, bq]; omega), Ue, zo, qk1]
    simp (maxSteps := 3000000) only [List.set_cons_zero, List.set_cons_succ, qb, zZ, ↓qp, ↓reduceIte, reduceCtorEq, nA, nM, nS, nE, nL, nD]; try simp only [qb, zY]
    exact ⟨by rw [xv, bq]; omega, _, rfl⟩
theorem qio (n : Nat) (m : List Nat) (hn : n ≤ 8) (hm : okD m) : Am.Fn Try.prog 109 [.agg (dia n m)] [] (fun v H' => v = .str (xw n m) ∧ H' = []) := by
  refine Am.Fn.jw (R := fun v => v = _) qjr mixed qkj (by simp) (by simp) ?_
  have h2n : q8 .i64 (2 * (n : Int)) = ((2 * n : Nat) : Int) := by rw [wrap64 (by omega) (by omega)]; simp
  simp (maxSteps := 3000000) only [qa2, vt, qb, zZ, ↓qp, ↓reduceIte, reduceCtorEq, nA, nM, nS, nE, nL, nD]; try simp only [qb, zY]
  refine WA.j8 qjr (fun s => ∃ k : Nat, s = ⟨[(4, .int .i64 k), (3, .slc 1 0 k false 0), (1, .ptr 0 0)], [.cells (dia n m), .vec 1 (u8s ((V9 n m).take k))]⟩ ∧ k ≤ 2 * n)
    (fun s => match get s.env 4 with | .int _ k => (100 - k).toNat | _ => 0) ⟨_, qz.trans (qz.zc [4, 3, 1]) (qz.vec 1 0 1 (by decide) rfl rfl ?_ ?_), 0, ?_, by omega⟩ ?_
  · simp only [zc, z6, zV, ↓reduceIte, nE, reduceCtorEq, nB]
  · simp only [zV, ↓reduceIte, nE, reduceCtorEq, nB]
  · simp only [zc, z6, List.take_zero, zV, ↓reduceIte, nE, reduceCtorEq, nB]; rfl
  rintro s ⟨k, rfl, hk⟩
  have hw : q8 .i64 ((k : Int) + 1) = ((k + 1 : Nat) : Int) := by rw [wrap64 (by omega) (by omega)]; rfl
  simp (maxSteps := 3000000) only [Y1, Yn, hw, h2n, vu, Z2, Zd, Qh, g_n, yl, rd, List.getElem?_cons_zero, List.getElem?_cons_succ, vt, src, qb, zZ, ↓qp, ↓reduceIte, reduceCtorEq, nA, nM, nS, nE, nL, nD]; try simp only [qb, zY]
  refine ⟨fun h => ?_, fun h => ?_⟩
  · have hk' : k < 2 * n := by omega
    have hp := zp hk'
    have hg := hm.get (place n k)
    have h1 : q8 .i64 ((m.getD (place n k) 0 : Nat) : Int) = (m.getD (place n k) 0 : Nat) := yk (by omega)
    have hlt : (List.take k (V9 n m)).length = k := by rw [List.length_take, bq]; omega
    have hap : ∀ c : Nat, c = (if k < place n (m.getD (place n k) 0) then 40 else 41) → List.take k (u8s (List.take k (V9 n m))) ++ [AV.int .u8 (c : Int)] = u8s (List.take (k + 1) (V9 n m)) := by
      intro c hc
      rw [List.take_of_length_le (by rw [xv, hlt]; exact Nat.le_refl _), qiw hk', ← hc, ← qdk]; rfl
    simp (maxSteps := 3000000) only [Q1 hk', h1, qb, zZ, ↓qp, ↓reduceIte, reduceCtorEq, nA, nM, nS, nE, nL, nD]; try simp only [qb, zY]
    refine ⟨⟨vb (by omega), vb (by omega)⟩, ⟨by omega, by omega⟩, by rw [hm.1]; omega, ⟨vb (by omega), vb (by omega)⟩, fun h2 => ?_, fun h2 => ?_⟩
    · have e := hap 40 (by rw [if_pos (Wq.1 h2)])
      simp only [Int.cast_ofNat_Int] at e
      refine ⟨by decide, ⟨by rw [xv, hlt]; exact Nat.le_refl _, by decide, by omega⟩, _, qz.zw [0, 3] [4, 3, 1] ⟨by decide, ?_⟩ ?_, ⟨k + 1, ?_, by omega⟩, ?_⟩
      · simp only [over, List.take_zero, List.length_cons, List.length_nil, List.drop_succ_cons, List.drop_nil, List.take_succ_cons, List.drop_zero, e, zK, ↓reduceIte, reduceCtorEq, nE, nB, nA]
      · simp only [zK, ↓reduceIte, reduceCtorEq, nE, nB, nA]
      · simp only [over, List.take_zero, List.length_cons, List.length_nil, List.drop_succ_cons, List.drop_nil, List.take_succ_cons, List.drop_zero, e, zL, ↓reduceIte, reduceCtorEq, nE, nA]
      · simp only [zL, ↓reduceIte, reduceCtorEq, nE, nA]
        omega
    · have e := hap 41 (by rw [if_neg fun h => h2 (Wq.2 h)])
      simp only [Int.cast_ofNat_Int] at e
      refine ⟨by decide, ⟨by rw [xv, hlt]; exact Nat.le_refl _, by decide, by omega⟩, _, qz.zw [0, 3] [4, 3, 1] ⟨by decide, ?_⟩ ?_, ⟨k + 1, ?_, by omega⟩, ?_⟩
      · simp only [over, List.take_zero, List.length_cons, List.length_nil, List.drop_succ_cons, List.drop_nil, List.take_succ_cons, List.drop_zero, e, zK, ↓reduceIte, reduceCtorEq, nE, nB, nA]
      · simp only [zK, ↓reduceIte, reduceCtorEq, nE, nB, nA]
      · simp only [over, List.take_zero, List.length_cons, List.length_nil, List.drop_succ_cons, List.drop_nil, List.take_succ_cons, List.drop_zero, e, zL, ↓reduceIte, reduceCtorEq, nE, nA]
      · simp only [zL, ↓reduceIte, reduceCtorEq, nE, nA]
        omega
  · have hkn : k = 2 * n := by omega
    have hall : List.take k (V9 n m) = V9 n m := by rw [List.take_of_length_le]; rw [bq]; omega
    rw [hall, qk8 (by rw [xv, bq]; omega), Ue, zo, qk1]
    simp (maxSteps := 3000000) only [List.set_cons_zero, List.set_cons_succ, qb, zZ, ↓qp, ↓reduceIte, reduceCtorEq, nA, nM, nS, nE, nL, nD]; try simp only [qb, zY]
    rw [xv, bq]; omega
end Go.Proofs.Ytkgoadglalpbfaa

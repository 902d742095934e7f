/- Contracts: the program's test of a diagram, and of lists of them. -/
import Derived.Test.YtkgoadglalpbfaaE4
namespace Go.Proofs.Ytkgoadglalpbfaa
open Go.Am Go.Dia
open Nat renaming reduceAdd → nA, reduceMul → nM, reduceSub → nS, reduceEqDiff → nE, reduceLT → nL, reduceLeDiff → nD, reduceBEq → nB
open Int renaming reduceEq → iE, reduceNe → iN, reduceBEq → iB, reduceBNe → iC, reduceLT → iL, reduceLE → iD, reduceAdd → iA, reduceSub → iS, reduceMul → iM
set_option linter.unusedSimpArgs false
set_option linter.unusedVariables false
set_option maxRecDepth 4000
set_option maxHeartbeats 1000000
def Vi : AC := .seq (.region [o0 2 (.alloc [.int .i64 0,.int .u8 0,.int .u8 0,.int .u8 0,.int .u8 0,.int .u8 0,.int .u8 0,.int .u8 0,.int .u8 0,.int .u8 0,.int .u8 0,.int .u8 0,.int .u8 0,.int .u8 0,.int .u8 0,.int .u8 0,.int .u8 0]),oB 3 false]) (.seq (.seq (.region [oM 6 0,o0 7 (.len .str (.t 6)),oK 8 .rem 7 2,oK 9 .neq 8 0,oM 10 9,oG 11 10 false (.mov (.t 0)),oG 12 10 false (.len .str (.t 11)),⟨some 13,some (10,false),.call (.c (.fn 93 [] [])) [.t 12,(.c (.int .i64 2)),(.c (.int .i64 16))]⟩,oG 14 10 false (.un .not (.t 13)),o0 15 (.pick (.t 10) (.c (.bool true)) (.t 14))]) (.cond 15 (.seq (.region [o0 16 (.build [.int .i64 0,.int .u8 0,.int .u8 0,.int .u8 0,.int .u8 0,.int .u8 0,.int .u8 0,.int .u8 0,.int .u8 0,.int .u8 0,.int .u8 0,.int .u8 0,.int .u8 0,.int .u8 0,.int .u8 0,.int .u8 0,.int .u8 0] []),oS 17 2 16,oB 3 false]) .ret) .skip)) (.seq (.region [oM 18 0,oC 19 149 [.t 18],oM 17 19,oE 20 0 17,oE 21 1 17,oM 4 20,oM 5 21]) (.seq (.seq (.region [oM 22 5,o0 23 (.un .not (.t 22))]) (.cond 23 (.seq (.region [o0 24 (.build [.int .i64 0,.int .u8 0,.int .u8 0,.int .u8 0,.int .u8 0,.int .u8 0,.int .u8 0,.int .u8 0,.int .u8 0,.int .u8 0,.int .u8 0,.int .u8 0,.int .u8 0,.int .u8 0,.int .u8 0,.int .u8 0,.int .u8 0] []),oS 17 2 24,oB 3 false]) .ret) .skip)) (.seq (.region [oM 25 0,o0 26 (.len .str (.t 25)),oK 27 .quo 26 2,oM 28 4,oC 29 150 [.t 27,.t 28],oS 17 2 29,oB 3 true]) .ret))))
theorem qs3 : zy Try.prog 131 = some ⟨30, Vi, [.kd 2 17, .slot 3]⟩ := by kernel_rfl
def Vh : AC := .seq (.region [oK 14 .lss 13 16]) (.seq (.cond 14 .skip (.exit 0)) (.seq (.block 1 (.seq (.region [oM 15 13,o0 16 (.qbx 16 1 false (.t 12) (.t 13)),oM 3 15,oM 4 16]) (.seq (.region [oM 17 3,oC 18 115 [.t 1],o0 19 (.bin .mul (.c (.int .i64 2)) (.t 18)),oP 20 .geq 17 19,oM 21 20,oG 22 21 true (.mov (.t 4)),oG 23 21 true (.bin .neq (.t 22) (.c (.int .u8 0))),o0 24 (.pick (.t 21) (.t 23) (.c (.bool false))),oM 25 24,oG 26 25 false (.mov (.t 3)),⟨some 27,some (25,false),.call (.c (.fn 115 [] [])) [.t 1]⟩,oG 28 25 false (.bin .mul (.c (.int .i64 2)) (.t 27)),oG 29 25 false (.bin .lss (.t 26) (.t 28)),oG 30 25 false (.mov (.t 29)),oG 31 30 true (.mov (.t 4)),oG 32 30 true (.conv .i64 (.t 31)),⟨some 33,some (30,true),.call (.c (.fn 115 [] [])) [.t 1]⟩,oG 34 30 true (.bin .mul (.c (.int .i64 2)) (.t 33)),oG 35 30 true (.bin .geq (.t 32) (.t 34)),oG 36 25 false (.pick (.t 30) (.t 35) (.c (.bool false))),o0 37 (.pick (.t 25) (.c (.bool true)) (.t 36))]) (.cond 37 (.seq (.region [oB 2 false]) .ret) .skip)))) (.region [oK 38 .add 13 1,oM 13 38])))
def Vq : AC := .seq (.region [oC 40 100 [.t 1],oC 41 131 [.t 40],oM 39 41,oE 42 0 39,oE 43 1 39,o0 5 (.alloc [.int .i64 0,.int .u8 0,.int .u8 0,.int .u8 0,.int .u8 0,.int .u8 0,.int .u8 0,.int .u8 0,.int .u8 0,.int .u8 0,.int .u8 0,.int .u8 0,.int .u8 0,.int .u8 0,.int .u8 0,.int .u8 0,.int .u8 0]),oS 17 5 42,oM 6 43]) (.seq (.region [oM 44 6,oM 45 44,oG 46 45 true (.gn 17 (.t 5)),oG 47 45 true (.gn 17 (.t 1)),oG 48 45 true (.eqs false [.int,.int,.int,.int,.int,.int,.int,.int,.int,.int,.int,.int,.int,.int,.int,.int,.int] (.t 46) (.t 47)),o0 49 (.pick (.t 45) (.t 48) (.c (.bool false))),oM 2 49]) .ret)
def Bb : AC := .seq (.region [o0 1 (.box (.t 0)),oB 2 false]) (.seq (.seq (.region [oF 7 0 1,oL 8 7,oC 9 93 [.t 8,(.c (.int .i64 1)),(.c (.int .i64 8))],o0 10 (.un .not (.t 9))]) (.cond 10 (.seq (.region [oB 2 false]) .ret) .skip)) (.seq (.seq (.region [oF 11 1 1,oN 12 16 11,oI 13 0]) (.block 0 (.loop Vh))) Vq))
theorem qee : zy Try.prog 99 = some ⟨50, Bb, [.slot 2]⟩ := by kernel_rfl
def B8 : z7 := ((B7.put 149 (qj3 vj)).put 150 (Bh 1 1 ur))
theorem qwc : ze Try.prog B8 := ((qkp.put (qgo)).put (qmn))
theorem yq : B8 115 = some (Zm 1 g_n) := rfl
theorem vv : B8 100 = some (Zm 17 vq) := rfl
theorem Jc : B8 93 = some (qu vx) := rfl
theorem uf : B8 149 = some (qj3 vj) := rfl
theorem bp : B8 150 = some (Bh 1 1 ur) := rfl
def Xf (s : List UInt8) : AV := match yp s with
  | some (n, m) => .tup [.agg (dia n m), .bool true]
  | none => .tup [.agg (dia 0 (List.replicate 16 0)), .bool false]
theorem q9 {n : Int} {m : List Nat} (h : m.length = 16) : List.take 17 (dia n m) = dia n m := by
  rw [List.take_of_length_le]; rw [qe, h]; exact Nat.le_refl _
theorem qqu (b n c m : Nat) (x : Bool) : AV.ren (J7 m) (.tup [.slc b 0 n true c, .bool x]) = .tup [.slc (m + b) 0 n true c, .bool x] := rfl
theorem qw3 (m : Nat) (x : Bool) : AV.ren (J7 m) (.tup [.v (.slice none 0 0), .bool x]) = .tup [.v (.slice none 0 0), .bool x] := rfl
theorem qqv (s : List UInt8) (hs : s.length ≤ 1000000) : Am.Fn Try.prog 131 [.str s] [] (fun v H' => v = Xf s ∧ H' = []) := by
  refine Am.Fn.jw (R := fun v => v = _) qwc mixed qs3 (by simp) (by simp) ?_
  have htm : (s.length : Int).tmod 2 = ((s.length % 2 : Nat) : Int) := (Int.ofNat_tmod s.length 2).symm
  by_cases hc : s.length % 2 = 0 ∧ 2 ≤ s.length ∧ s.length ≤ 16
  case neg =>
    have hr : Xf s = .tup [.agg (dia 0 (List.replicate 16 0)), .bool false] := by
      unfold Xf yp; rw [if_neg hc]
    have hb : ((2 : Int) = 0) = False := eq_false (by decide)
    by_cases hpar : s.length % 2 = 0
    · have hx : ((s.length : Int).tmod 2 = 0) = True := eq_true (by omega)
      have hy : (2 ≤ (s.length : Int) ∧ (s.length : Int) ≤ 16) = False := eq_false (by omega)
      simp (maxSteps := 3000000) only [Vi, yq, vv, Jc, uf, bp, vx, ur, g_n, vj, vq, hr, hb, hx, hy, vt, rd, wrt, wrl, AO.y6, List.getElem?_cons_zero, List.getElem?_cons_succ, List.set_cons_zero, List.set_cons_succ, xq, vh zg zg, qe, List.length_replicate, xd, vz zg, q9 zg, qh, Nat.le_refl, qb, zZ, ↓qp, ↓reduceIte, reduceCtorEq, nA, nM, nS, nE, nL, nD]; try simp only [qb, zY]
    · have hx : ((s.length : Int).tmod 2 = 0) = False := eq_false (by omega)
      simp (maxSteps := 3000000) only [Vi, yq, vv, Jc, uf, bp, vx, ur, g_n, vj, vq, hr, hb, hx, vt, rd, wrt, wrl, AO.y6, List.getElem?_cons_zero, List.getElem?_cons_succ, List.set_cons_zero, List.set_cons_succ, xq, vh zg zg, qe, List.length_replicate, xd, vz zg, q9 zg, qh, Nat.le_refl, qb, zZ, ↓qp, ↓reduceIte, reduceCtorEq, nA, nM, nS, nE, nL, nD]; try simp only [qb, zY]
  case pos =>
    have h4 : q8 .i64 ((s.length : Int).tdiv 2) = ((s.length / 2 : Nat) : Int) := by
      rw [show (s.length : Int).tdiv 2 = ((s.length / 2 : Nat) : Int) from (Int.ofNat_tdiv s.length 2).symm]; exact yk (by omega)
    have hb : ((2 : Int) = 0) = False := eq_false (by decide)
    have hcs : parts s s.length = none ∨ ∃ out st, parts s s.length = some (out, st) := by
      cases parts s s.length with
      | none => exact .inl rfl
      | some r => exact .inr ⟨r.1, r.2, rfl⟩
    rcases hcs with hp | ⟨out, st, hp⟩
    · skip
      have hr : Xf s = .tup [.agg (dia 0 (List.replicate 16 0)), .bool false] := by
        unfold Xf yp; rw [if_pos hc, hp]
      have hpr : Zk s = (.tup [.v (.slice none 0 0), .bool false], []) := by unfold Zk; rw [hp]
      simp (maxSteps := 3000000) only [Vi, yq, vv, Jc, uf, bp, vx, ur, g_n, vj, vq, vt, rd, wrt, wrl, AO.y6, List.getElem?_cons_zero, List.getElem?_cons_succ, List.set_cons_zero, List.set_cons_succ, List.take_zero, List.take_succ_cons, List.drop_succ_cons, List.drop_zero, xq, vh zg zg, qe, List.length_replicate, xd, vz zg, q9 zg, qh, Nat.le_refl, hr, hpr, qw3, vt, rd, wrt, wrl, AO.y6, List.getElem?_cons_zero, List.getElem?_cons_succ, List.set_cons_zero, List.set_cons_succ, List.take_zero, List.take_succ_cons, List.drop_succ_cons, List.drop_zero, xq, vh zg zg, qe, List.length_replicate, xd, vz zg, q9 zg, qh, Nat.le_refl, qb, zZ, ↓qp, ↓reduceIte, reduceCtorEq, nA, nM, nS, nE, nL, nD]; try simp only [qb, zY]
      refine ⟨by decide, fun _ => ⟨fun _ => trivial, fun _ => by omega⟩, fun _ => trivial⟩
    · cases st with
      | cons a st =>
        have hr : Xf s = .tup [.agg (dia 0 (List.replicate 16 0)), .bool false] := by
          unfold Xf yp; rw [if_pos hc, hp]
        have h5 : ((((a :: st).length : Nat) : Int) == 0) = false := by
          rw [beq_eq_false_iff_ne, List.length_cons]; omega
        have hpr : Zk s = (.tup [.slc 0 0 s.length true s.length, .bool false], [.cells (bm out)]) := by unfold Zk; rw [hp]; simp only [h5]
        simp (maxSteps := 3000000) only [Vi, yq, vv, Jc, uf, bp, vx, ur, g_n, vj, vq, vt, rd, wrt, wrl, AO.y6, List.getElem?_cons_zero, List.getElem?_cons_succ, List.set_cons_zero, List.set_cons_succ, List.take_zero, List.take_succ_cons, List.drop_succ_cons, List.drop_zero, xq, vh zg zg, qe, List.length_replicate, xd, vz zg, q9 zg, qh, Nat.le_refl, hr, hpr, qqu, qc3, qd _ _ (u4 _), vt, rd, wrt, wrl, AO.y6, List.getElem?_cons_zero, List.getElem?_cons_succ, List.set_cons_zero, List.set_cons_succ, List.take_zero, List.take_succ_cons, List.drop_succ_cons, List.drop_zero, xq, vh zg zg, qe, List.length_replicate, xd, vz zg, q9 zg, qh, Nat.le_refl, qb, zZ, ↓qp, ↓reduceIte, reduceCtorEq, nA, nM, nS, nE, nL, nD]; try simp only [qb, zY]
        refine ⟨by decide, fun _ => ⟨fun _ => trivial, fun _ => by omega⟩, fun _ => trivial⟩
      | nil =>
        have hr : Xf s = .tup [.agg (dia (s.length / 2 : Nat) (wm (s.length / 2) out s.length)), .bool true] := by
          unfold Xf yp; rw [if_pos hc, hp]
        have hn : s.length = 2 * (s.length / 2) := by omega
        obtain ⟨a1, a2, a3, a4, a5, a6, a7⟩ := X0 s.length out [] (Nat.le_refl _) hp
        have h6 : (List.range s.length).all (fun i => decide (out.getD i 0 < s.length)) = true := List.all_eq_true.2 fun i hi => decide_eq_true (a4 i (List.mem_range.1 hi) (by simp)).1
        have hj := yg (s.length / 2) out s.length
        have hpr : Zk s = (.tup [.slc 0 0 s.length true s.length, .bool true], [.cells (bm out)]) := by unfold Zk; rw [hp]; rfl
        have htk : List.take s.length (bm out) = bm out := by rw [List.take_of_length_le]; rw [Qc, a1]; exact Nat.le_refl _
        simp (maxSteps := 3000000) only [Vi, yq, vv, Jc, uf, bp, vx, ur, g_n, vj, vq, vt, rd, wrt, wrl, AO.y6, List.getElem?_cons_zero, List.getElem?_cons_succ, List.set_cons_zero, List.set_cons_succ, List.take_zero, List.take_succ_cons, List.drop_succ_cons, List.drop_zero, xq, vh zg zg, qe, List.length_replicate, xd, vz zg, q9 zg, qh, Nat.le_refl, hr, hpr, h4, h6, hb, htk, qbi, qqu, qc3, qd _ _ (u4 _), Qc, a1, hj, vh zg hj, vz hj, q9 hj, vt, rd, wrt, wrl, AO.y6, List.getElem?_cons_zero, List.getElem?_cons_succ, List.set_cons_zero, List.set_cons_succ, List.take_zero, List.take_succ_cons, List.drop_succ_cons, List.drop_zero, xq, vh zg zg, qe, List.length_replicate, xd, vz zg, q9 zg, qh, Nat.le_refl, qb, zZ, ↓qp, ↓reduceIte, reduceCtorEq, nA, nM, nS, nE, nL, nD]; try simp only [qb, zY]
        refine ⟨fun _ => ⟨fun h => absurd ⟨by omega, by omega⟩ h, fun _ => ⟨by omega, ⟨by omega, by omega⟩, by omega⟩⟩, fun h => absurd (by omega) h⟩
def Br : List AV → Option AV
  | [.str s] => chk (s.length ≤ 1000000) (some (Xf s))
  | _ => none
theorem qmb (s : List UInt8) : (Xf s).xb = true := by
  unfold Xf; split <;> simp only [AV.xb, AV.zs, qh, Bool.and_self]
theorem qr8 : Am.Callee Try.prog 131 (qu Br) :=
  Am.Callee.plain fun xs v he => by
    unfold Br at he
    split at he
    · obtain ⟨h1, he⟩ := qm he
      cases he; exact ⟨rfl, qmb _, qqv _ h1⟩
    · cases he
def B9 : z7 := (B8.put 131 (qu Br))
theorem qis : ze Try.prog B9 := (qwc.put (qr8))
theorem Qs : B9 115 = some (Zm 1 g_n) := rfl
theorem b8 : B9 100 = some (Zm 17 vq) := rfl
theorem Bs : B9 93 = some (qu vx) := rfl
theorem Q7 : B9 149 = some (qj3 vj) := rfl
theorem Xv : B9 150 = some (Bh 1 1 ur) := rfl
theorem Wd : B9 131 = some (qu Br) := rfl
theorem Uw : xl = .v (.tuple #[]) := rfl
theorem We : (#[] : Array Value).size = 0 := rfl
theorem qv2 {n : Int} {m : List Nat} (h : ¬(1 ≤ n ∧ n ≤ 8)) : isI n.toNat m = false := by
  unfold isI; rw [decide_eq_false (by omega)]; rfl
def rng (n : Nat) (m : List Nat) (i : Nat) : Bool := if 2 * n ≤ i then m.getD i 0 == 0 else decide (m.getD i 0 < 2 * n)
theorem qrq {n : Nat} {m : List Nat} {i : Nat} (hi : i < 16) (h : rng n m i = false) : isI n m = false := by
  unfold isI
  rw [Bool.and_eq_false_iff]; right
  rw [Bool.and_eq_false_iff]; left
  unfold qhc
  rw [List.all_eq_false]
  exact ⟨i, List.mem_range.2 hi, by unfold rng at h; rw [h]; simp⟩
theorem qvd {n : Nat} {m : List Nat} (hn : 1 ≤ n ∧ n ≤ 8) (h1 : ∀ i, i < 16 → rng n m i = true) : isI n m = (yp (xw n m) == some (n, m)) := by
  unfold isI
  have : qhc n m = true := List.all_eq_true.2 fun i hi => h1 i (List.mem_range.1 hi)
  rw [decide_eq_true hn, this, Bool.true_and, Bool.true_and]
theorem qg1 {s : List UInt8} {n : Nat} {m : List Nat} (h : yp s = some (n, m)) : m.length = 16 := by
  unfold yp at h
  split at h
  · split at h
    · cases h; exact yg _ _ _
    · cases h
  · cases h
theorem qe4 (n : Int) (m : List Nat) (hm : okD m) : Am.Fn Try.prog 99 [.agg (dia n m)] [] (fun v H' => v = .bool (isI n.toNat m) ∧ H' = []) := by
  refine Am.Fn.jw (R := fun v => v = _) qis mixed qee (by simp) (by simp) ?_
  have hml := hm.1
  simp (maxSteps := 3000000) only [Bb, Qs, b8, Bs, Q7, Xv, Wd, vx, ur, g_n, vj, Br, vq, hml, Us hml, qe, rd, List.getElem?_cons_zero, List.getElem?_cons_succ, qb, zZ, ↓qp, ↓reduceIte, reduceCtorEq, nA, nM, nS, nE, nL, nD]; try simp only [qb, zY]
  refine ⟨fun h => (qv2 h).symm, fun h => ?_⟩
  obtain ⟨n, rfl⟩ : ∃ k : Nat, n = k := ⟨n.toNat, by omega⟩
  simp only [Int.toNat_natCast]
  have hn : 1 ≤ n ∧ n ≤ 8 := by omega
  have h2n : q8 .i64 (2 * (n : Int)) = ((2 * n : Nat) : Int) := by rw [wrap64 (by omega) (by omega)]; simp
  refine WA.j8 qis (fun s => ∃ k : Nat, s = ⟨[(13, .int .i64 k), (12, .agg (u8s m)), (1, .ptr 0 0)], [.cells (dia n m)]⟩ ∧ k ≤ 16 ∧ ∀ i, i < k → rng n m i = true)
    (fun s => match get s.env 13 with | .int _ k => (100 - k).toNat | _ => 0) ⟨_, qz.zc [13, 12, 1], 0, rfl, by omega, by intros; omega⟩ ?_
  rintro s ⟨k, rfl, hk, hc⟩
  have hw : q8 .i64 ((k : Int) + 1) = ((k + 1 : Nat) : Int) := by rw [wrap64 (by omega) (by omega)]; rfl
  have hg := hm.get k
  have h1 : q8 .i64 ((m.getD k 0 : Nat) : Int) = (m.getD k 0 : Nat) := yk (by omega)
  simp (maxSteps := 3000000) only [Vh, Uw, We, Qs, b8, Bs, Q7, Xv, Wd, vx, ur, g_n, vj, Br, vq, hw, h2n, h1, hml, qgf, qe, rd, List.getElem?_cons_zero, List.getElem?_cons_succ, qb, zZ, ↓qp, ↓reduceIte, reduceCtorEq, nA, nM, nS, nE, nL, nD]; try simp only [qb, zY]
  have hnext : rng n m k = true → ∀ i, i < k + 1 → rng n m i = true := fun hk1 i hi => by
    by_cases e : i = k
    · subst e; exact hk1
    · exact hc i (by omega)
  have hhi : 2 * n ≤ k → rng n m k = (m.getD k 0 == 0) := fun h => if_pos h
  have hlo : ¬2 * n ≤ k → rng n m k = decide (m.getD k 0 < 2 * n) := fun h => if_neg h
  refine ⟨fun h3 => ⟨⟨by omega, by omega⟩, by omega, fun h4 => ⟨fun h5 => ⟨fun h6 => absurd h6 (by omega), fun h6 => ⟨_, qz.zc [13, 12, 1], ⟨k + 1, rfl, by omega, hnext ?_⟩, ?_⟩⟩, fun h5 => ?_⟩,
    fun h4 => ⟨fun h5 => ⟨fun h6 => ?_, fun h6 => ⟨_, qz.zc [13, 12, 1], ⟨k + 1, rfl, by omega, hnext ?_⟩, ?_⟩⟩, fun h5 => absurd (by omega) h5⟩⟩, fun h3 => ?_⟩
  · rw [hhi (by omega)]; exact beq_iff_eq.2 (by omega)
  · simp only [zL, ↓reduceIte, reduceCtorEq, nE, nA]; omega
  · exact (qrq (i := k) (by omega) (by rw [hhi (by omega)]; exact beq_eq_false_iff_ne.2 (by omega))).symm
  · exact (qrq (i := k) (by omega) (by rw [hlo (by omega)]; exact decide_eq_false (by omega))).symm
  · rw [hlo (by omega)]; exact decide_eq_true (by omega)
  · simp only [zL, ↓reduceIte, reduceCtorEq, nE, nA]; omega
  have hyes := qvd (m := m) hn fun i hi => hc i (by omega)
  simp (maxSteps := 3000000) only [Vq, Uw, We, Qs, b8, Bs, Q7, Xv, Wd, vx, ur, g_n, vj, Br, vq, hml, zd hm, qe, vz hml, q9 hml, Int.toNat_natCast, rd, List.getElem?_cons_zero, List.getElem?_cons_succ, gu, qb, zZ, ↓qp, ↓reduceIte, reduceCtorEq, nA, nM, nS, nE, nL, nD]; try simp only [qb, zY]
  refine ⟨⟨by omega, by omega⟩, by omega, ?_⟩
  have hcs : yp (xw n m) = none ∨ ∃ n' m', yp (xw n m) = some (n', m') := by
    cases yp (xw n m) with
    | none => exact .inl rfl
    | some r => exact .inr ⟨r.1, r.2, rfl⟩
  rcases hcs with hrd | ⟨n', m', hrd⟩
  · skip
    have hr : Xf (xw n m) = .tup [.agg (dia 0 (List.replicate 16 0)), .bool false] := by unfold Xf; rw [hrd]
    have hi : isI n m = false := by rw [hyes, hrd]; rfl
    simp (maxSteps := 3000000) only [hr, hi, vh zg zg, Uw, We, List.getElem?_cons_zero, List.getElem?_cons_succ, rd, wrt, wrl, AO.y6, List.set_cons_zero, List.set_cons_succ, xq, qe, hml, zg, List.length_replicate, xd, vz hml, vz zg, qb, zZ, ↓qp, ↓reduceIte, reduceCtorEq, nA, nM, nS, nE, nL, nD]; try simp only [qb, zY]
  · skip
    have hml' := qg1 hrd
    have hr : Xf (xw n m) = .tup [.agg (dia n' m'), .bool true] := by unfold Xf; rw [hrd]
    have hi : isI n m = decide ((n' : Int) = n ∧ m' = m) := by
      rw [hyes, hrd, Bool.eq_iff_iff, beq_iff_eq, decide_eq_true_eq, Option.some.injEq, Prod.mk.injEq]; exact and_congr (by omega) Iff.rfl
    simp (maxSteps := 3000000) only [hr, hi, hml', vh zg hml', vz hml', Ui hml' hml, Uw, We, List.getElem?_cons_zero, List.getElem?_cons_succ, rd, wrt, wrl, AO.y6, List.set_cons_zero, List.set_cons_succ, xq, qe, hml, zg, List.length_replicate, xd, vz hml, vz zg, qb, zZ, ↓qp, ↓reduceIte, reduceCtorEq, nA, nM, nS, nE, nL, nD]; try simp only [qb, zY]
end Go.Proofs.Ytkgoadglalpbfaa

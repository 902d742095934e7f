/- Contracts: the program's test of a diagram. -/
import Derived.Test.YtkgoadglalpbfaaE3
namespace Go.Proofs.Ytkgoadglalpbfaa
open Go.Am Go.Dia
open Nat renaming reduceAdd → nA, reduceMul → nM, reduceSub → nS, reduceEqDiff → nE, reduceLT → nL, reduceLeDiff → nD, reduceBEq → nB
open Int renaming reduceEq → iE, reduceNe → iN, reduceBEq → iB, reduceBNe → iC, reduceLT → iL, reduceLE → iD, reduceAdd → iA, reduceSub → iS, reduceMul → iM
set_option linter.unusedSimpArgs false
set_option linter.unusedVariables false
set_option maxRecDepth 4000
set_option maxHeartbeats 4000000
theorem qbz : B7 132 = some (qu yl) := rfl
def W4 : AC := .seq (.region [oP 15 .lss 14 13]) (.seq (.cond 15 .skip (.exit 0)) (.seq (.block 1 (.seq (.region [oM 16 14,oM 6 16]) (.block 2 (.seq (.region [oM 37 0,oM 38 6,o0 39 (.qfe (.t 37) (.t 38)),o0 40 (.bin .eql (.t 39) (.c (.int .u8 40))),oM 36 40]) (.cond 36 (.region [oM 41 5,oM 42 6,o0 43 (.gr 1 [.int .i64 0] [(0,1,.t 42)]),o0 44 (.append 1 8 (.t 41) (.t 43)),oM 5 44]) (.seq (.region [oM 46 0,oM 47 6,o0 48 (.qfe (.t 46) (.t 47)),o0 49 (.bin .neq (.t 48) (.c (.int .u8 41))),oM 50 49,oG 51 50 false (.mov (.t 5)),oG 52 50 false (.len .slc (.t 51)),oG 53 50 false (.bin .eql (.t 52) (.c (.int .i64 0))),o0 54 (.pick (.t 50) (.c (.bool true)) (.t 53)),oM 45 54]) (.cond 45 (.seq (.region [o0 2 (.mov (.c (.v (.slice none 0 0)))),oB 3 false]) .ret) (.seq (.region [oM 17 5,oM 18 5,o0 19 (.len .slc (.t 18)),oK 20 .sub 19 1,oX 21 1 17 20,oL 22 21,oM 7 22]) (.seq (.region [oM 23 5,oM 24 5,o0 25 (.len .slc (.t 24)),oK 26 .sub 25 1,o0 27 (.U4 1 (.t 23) none (some (.t 26))),oM 5 27]) (.region [oM 28 4,oM 29 7,oM 30 4,oM 31 6,oM 32 6,oM 33 7,oX 34 1 28 29,oT 34 32,oX 35 1 30 31,oT 35 33])))))))))) (.region [oK 55 .add 14 1,oM 14 55])))
def W9 : AC := .seq (.region [oM 56 4,oM 57 5,o0 58 (.len .slc (.t 57)),oK 59 .eql 58 0,oM 2 56,oM 3 59]) .ret
def Kb : AC := .seq (.region [o0 2 (.mov (.c (.v (.slice none 0 0)))),oB 3 false]) (.seq (.region [oM 8 0,o0 9 (.len .str (.t 8)),o0 10 (.Xh 1 8 [.int .i64 0] (.t 9) (.t 9)),o0 11 (.gr 0 [] []),oM 4 10,oM 5 11]) (.seq (.seq (.region [oM 12 0,o0 13 (.len .str (.t 12)),oI 14 0]) (.block 0 (.loop W4))) W9))
theorem qg3 : zy Try.prog 149 = some ⟨60, Kb, [.slot 2, .slot 3]⟩ := by kernel_rfl
def U5 : AC := .seq (.region [oP 13 .lss 12 11]) (.seq (.cond 13 .skip (.exit 0)) (.seq (.block 1 (.seq (.region [oM 14 12,oX 15 1 10 12,oL 16 15,oM 6 14,oM 7 16]) (.region [oM 17 0,oM 18 6,oC 19 132 [.t 17,.t 18],oM 20 0,oM 21 7,oC 22 132 [.t 20,.t 21],o0 23 (.conv .u8 (.t 22)),oF 24 1 5,o0 25 (.ja 16 1 (.t 24) (.t 19)),oT 25 23]))) (.region [oK 26 .add 12 1,oM 12 26])))
def U6 : AC := .seq (.region [oN 27 17 5,oS 17 4 27]) .ret
def qc4 : AC := .seq (.region [o0 4 (.alloc [.int .i64 0,.int .u8 0,.int .u8 0,.int .u8 0,.int .u8 0,.int .u8 0,.int .u8 0,.int .u8 0,.int .u8 0,.int .u8 0,.int .u8 0,.int .u8 0,.int .u8 0,.int .u8 0,.int .u8 0,.int .u8 0,.int .u8 0])]) (.seq (.region [oM 8 0,o0 9 (.build [.int .i64 0,.int .u8 0,.int .u8 0,.int .u8 0,.int .u8 0,.int .u8 0,.int .u8 0,.int .u8 0,.int .u8 0,.int .u8 0,.int .u8 0,.int .u8 0,.int .u8 0,.int .u8 0,.int .u8 0,.int .u8 0,.int .u8 0] [(0,1,.t 8)]),o0 5 (.alloc [.int .i64 0,.int .u8 0,.int .u8 0,.int .u8 0,.int .u8 0,.int .u8 0,.int .u8 0,.int .u8 0,.int .u8 0,.int .u8 0,.int .u8 0,.int .u8 0,.int .u8 0,.int .u8 0,.int .u8 0,.int .u8 0,.int .u8 0]),oS 17 5 9]) (.seq (.seq (.region [oM 10 1,o0 11 (.len .slc (.t 10)),oI 12 0]) (.block 0 (.loop U5))) U6))
theorem qm1 : zy Try.prog 150 = some ⟨28, qc4, [.kd 4 17]⟩ := by kernel_rfl
def Y6 : List AV → Option (List Nat)
  | [] => some []
  | .int .i64 x :: r => if 0 ≤ x then (match Y6 r with
    | some l => some (x.toNat :: l)
    | none => none) else none
  | _ => none
theorem qbi : ∀ {m : List Nat}, Y6 (bm m) = some m
  | [] => rfl
  | x :: m => by
    have h1 := qbi (m := m)
    simp only [bm, List.map_cons, Y6] at h1 ⊢
    rw [if_pos (by omega), h1]
    simp
theorem qbv : ∀ {l : List AV} {m : List Nat}, Y6 l = some m → l = bm m
  | [], m, h => by cases h; rfl
  | a :: l, m, h => by
    cases a <;> (try (simp only [Y6, reduceCtorEq] at h; done))
    rename_i k x
    cases k <;> (try (simp only [Y6, reduceCtorEq] at h; done))
    simp only [Y6] at h
    split at h
    · split at h
      · rename_i r hr
        cases h
        rw [qbv hr]
        simp only [bm, List.map_cons, List.cons.injEq, AV.int.injEq, true_and, and_true]
        omega
      · cases h
    · cases h
def Zk (s : List UInt8) : AV × List AO := match parts s s.length with
  | none => (.tup [.v (.slice none 0 0), .bool false], [])
  | some (out, st) => (.tup [.slc 0 0 s.length true s.length, .bool ((st.length : Int) == 0)], [.cells (bm out)])
theorem U1 {x : UInt8} {c : Nat} (hc : c < 256) : ((x.toNat : Int) = c) ↔ x = UInt8.ofNat c := by
  constructor
  · intro h
    apply UInt8.toNat_inj.1
    rw [UInt8.toNat_ofNat']; omega
  · intro h; rw [h, UInt8.toNat_ofNat']; omega
theorem Gj {s : List UInt8} {k : Nat} (h : parts s k = none) : ∀ j, k ≤ j → parts s j = none
  | 0, hj => by rw [← Nat.le_zero.1 hj]; exact h
  | j + 1, hj => by
    by_cases e : k = j + 1
    · rw [← e]; exact h
    · simp only [parts, Gj h j (by omega)]
theorem Um : ∀ (k : Nat) (l : List Nat), l.Nodup → (∀ i, i ∈ l → i < k) → l.length ≤ k
  | 0, [], _, _ => Nat.le_refl _
  | 0, a :: l, _, h => absurd (h a (by simp)) (by omega)
  | k + 1, l, hn, h => by
    by_cases hk : k ∈ l
    · have h1 := Um k (l.erase k) (hn.erase k) fun i hi => by
        have h2 := h i (List.mem_of_mem_erase hi)
        have h3 : i ≠ k := by rintro rfl; exact (List.Nodup.not_mem_erase hn) hi
        omega
      rw [List.length_erase_of_mem hk] at h1; omega
    · have h1 := Um k l hn fun i hi => by
        have h2 := h i hi
        have h3 : i ≠ k := by rintro rfl; exact hk hi
        omega
      omega
theorem qg7 (s : List UInt8) (hs : s.length ≤ 1000) : Am.Fn Try.prog 149 [.str s] [] (fun v H' => v = (Zk s).1 ∧ H' = (Zk s).2) := by
  refine Am.Fn.ofB qkp mixed qg3 (by simp) (by simp) ?_
  simp (maxSteps := 3000000) only [Kb, vt, qkd, qb, zZ, ↓qp, ↓reduceIte, reduceCtorEq, nA, nM, nS, nE, nL, nD]; try simp only [qb, zY]
  refine ⟨⟨by omega, by omega, by omega⟩, ?_⟩
  refine WA.j8 qkp (fun t => ∃ (k : Nat) (out st cl : List Nat), t = ⟨[(14, .int .i64 k), (13, .int .i64 s.length), (5, .slc 1 0 st.length false 0), (4, .slc 0 0 s.length true s.length), (0, .str s)], [.cells (bm out), .vec 1 (bm cl)]⟩ ∧
      k ≤ s.length ∧ parts s k = some (out, st) ∧ out.length = s.length ∧ st.length ≤ cl.length ∧ cl.take st.length = st.reverse ∧ (∀ i, i ∈ st → i < k))
    (fun s => match get s.env 14 with | .int _ k => (1000 - k).toNat | _ => 0) ⟨_, qz.trans (qz.zc [14, 13, 5, 4, 0]) (qz.vec 1 0 1 (by decide) rfl rfl ?_ ?_), 0, List.replicate s.length 0, [], [], ?_, by omega, rfl, by simp, by simp, rfl, by simp⟩ ?_
  · simp only [zc, z6, zV, ↓reduceIte, nE, reduceCtorEq, nB]
  · simp only [zV, ↓reduceIte, nE, reduceCtorEq, nB]
  · simp only [zc, z6, zV, ↓reduceIte, nE, reduceCtorEq, nB]; rfl
  rintro t ⟨k, out, st, cl, rfl, hk, hp, hl, hcl, htk, hlt⟩
  have hw : q8 .i64 ((k : Int) + 1) = ((k + 1 : Nat) : Int) := by rw [wrap64 (by omega) (by omega)]; rfl
  simp (maxSteps := 3000000) only [W4, hw, rd, List.getElem?_cons_zero, List.getElem?_cons_succ, vt, src, lim, Option.map_some, Option.map_none, u9, wrt, wrl, AO.y6, List.set_cons_zero, List.set_cons_succ, qb, zZ, ↓qp, ↓reduceIte, reduceCtorEq, nA, nM, nS, nE, nL, nD]; try simp only [qb, zY]
  refine ⟨fun h1 => ⟨⟨by omega, by omega⟩, fun h2 => ?_, fun h2 => ⟨⟨by omega, by omega⟩, fun h3 => ⟨fun h4 => ?_, fun h4 => ?_⟩, fun h3 => ?_⟩⟩, fun h1 => ?_⟩
  · have h2' : s.getD k 0 = 40 := (U1 (by decide)).1 h2
    have happ : List.take st.length (bm cl) ++ [AV.int .i64 (k : Int)] = bm (k :: st).reverse := by
      rw [qpn, htk, List.reverse_cons, ← qjy]; rfl
    refine ⟨by simp [over], ⟨by rw [Qc]; exact hcl, by simp [over, AV.one], ?_⟩, _, qz.zw [0, 3] [14, 13, 5, 4, 0] ⟨by decide, ?_⟩ ?_, ⟨k + 1, out, k :: st, (k :: st).reverse, ?_, by omega, ?_, hl, by simp, ?_, ?_⟩, ?_⟩
    · have : st.length ≤ 1000 := by
        have := X0 k out st hk hp
        have h5 : st.Nodup := this.2.1.imp fun h => by omega
        have h6 := Um k st h5 hlt
        omega
      omega
    · simp only [over, List.take_zero, List.length_cons, List.length_nil, List.drop_succ_cons, List.drop_nil, List.take_succ_cons, List.drop_zero, happ, zK, ↓reduceIte, reduceCtorEq, nE, nB, nA]
    · simp only [zK, ↓reduceIte, reduceCtorEq, nE, nB, nA]
    · simp only [over, List.take_zero, List.length_cons, List.length_nil, List.drop_succ_cons, List.drop_nil, List.take_succ_cons, List.drop_zero, happ, zL, ↓reduceIte, reduceCtorEq, nE, nA]
    · simp only [parts, hp, h2', if_true]
    · rw [List.take_of_length_le (by simp)]
    · intro i hi
      rcases List.mem_cons.1 hi with rfl | hi
      · omega
      · have := hlt i hi; omega
    · simp only [zL, ↓reduceIte, reduceCtorEq, nE, nA]; omega
  · have h2' : ¬ s.getD k 0 = 40 := fun h => h2 ((U1 (c := 40) (by decide)).2 h)
    have hst : st = [] := List.length_eq_zero_iff.1 (by omega)
    have hnone : parts s (k + 1) = none := by
      simp only [parts, hp, hst, if_neg h2']
      split <;> rfl
    have hr : Zk s = (.tup [.v (.slice none 0 0), .bool false], []) := by
      unfold Zk; rw [Gj hnone s.length (by omega)]
    rw [hr]
    refine Ret.here [] ⟨by decide, by simp⟩ (rs := [.v (.slice none 0 0), .bool false]) (by simp (maxSteps := 3000000) only [qb, zZ, ↓qp, ↓reduceIte, reduceCtorEq, nA, nM, nS, nE, nL, nD]; try simp only [qb, zY]) rfl (by simp [xc]) (by simp [zi]) ⟨?_, rfl⟩
    simp [xc, AV.ren, AV.zt]
  · have h2' : ¬ s.getD k 0 = 40 := fun h => h2 ((U1 (c := 40) (by decide)).2 h)
    have h3' : s.getD k 0 = 41 := (U1 (c := 41) (by decide)).1 h3
    cases st with
    | nil => simp at h4
    | cons tp st' =>
    have hlen : q8 .i64 (((tp :: st').length : Nat) - 1 : Int) = (st'.length : Nat) := by
      have : (tp :: st').length ≤ 1000 := by
        have := X0 k out _ hk hp
        have h5 : (tp :: st').Nodup := this.2.1.imp fun h => by omega
        have h6 := Um k _ h5 hlt
        omega
      rw [wrap64 (by simp only [List.length_cons] at *; omega) (by simp only [List.length_cons] at *; omega)]
      simp
    have htop : cl.getD st'.length 0 = tp := by
      have h5 : (cl.take (tp :: st').length)[st'.length]? = cl[st'.length]? := List.getElem?_take_of_lt (by simp)
      rw [htk, List.reverse_cons, List.getElem?_append_right (by simp)] at h5
      rw [List.getD_eq_getElem?_getD, ← h5]; simp
    have htpk := hlt tp (by simp)
    simp only [hlen, Int.toNat_natCast, htop, Nat.sub_zero, qtn, Qc, List.length_set]
    simp only [List.length_cons] at hcl ⊢
    refine ⟨⟨⟨by omega, by omega⟩, by omega⟩, by omega, ⟨by omega, by omega⟩, by omega, ⟨⟨by omega, by omega⟩, by omega⟩, ⟨by omega, rfl⟩, ⟨⟨by omega, by omega⟩, by omega⟩, ⟨by omega, rfl⟩,
      _, qz.zc [14, 13, 5, 4, 0], ⟨k + 1, (out.set tp k).set k tp, st', cl, ?_, by omega, ?_, by simp [hl], by omega, ?_, ?_⟩, ?_⟩
    · simp only [zL, ↓reduceIte, reduceCtorEq, nE, nA]
    · simp only [parts, hp, if_neg h2', if_pos h3']
    · have h5 := congrArg (List.take st'.length) htk
      rw [List.take_take, List.reverse_cons, List.take_append_of_le_length (by simp), List.take_of_length_le (l := st'.reverse) (by simp)] at h5
      rw [← h5]; congr 1; simp only [List.length_cons]; omega
    · intro i hi
      have := hlt i (List.mem_cons_of_mem _ hi); omega
    · simp only [zL, ↓reduceIte, reduceCtorEq, nE, nA]; omega
  · have h2' : ¬ s.getD k 0 = 40 := fun h => h2 ((U1 (c := 40) (by decide)).2 h)
    have h3' : ¬ s.getD k 0 = 41 := fun h => by
      have := (U1 (x := s.getD k 0) (c := 41) (by decide)).2 h
      simp_all
    have hnone : parts s (k + 1) = none := by
      simp only [parts, hp, if_neg h2', if_neg h3']
    have hr : Zk s = (.tup [.v (.slice none 0 0), .bool false], []) := by
      unfold Zk; rw [Gj hnone s.length (by omega)]
    rw [hr]
    refine Ret.here [] ⟨by decide, by simp⟩ (rs := [.v (.slice none 0 0), .bool false]) (by simp (maxSteps := 3000000) only [qb, zZ, ↓qp, ↓reduceIte, reduceCtorEq, nA, nM, nS, nE, nL, nD]; try simp only [qb, zY]) rfl (by simp [xc]) (by simp [zi]) ⟨?_, rfl⟩
    simp [xc, AV.ren, AV.zt]
  · have hkl : k = s.length := by omega
    subst hkl
    simp (maxSteps := 3000000) only [W9, qb, zZ, ↓qp, ↓reduceIte, reduceCtorEq, nA, nM, nS, nE, nL, nD]; try simp only [qb, zY]
    have hr : Zk s = (.tup [.slc 0 0 s.length true s.length, .bool ((st.length : Int) == 0)], [.cells (bm out)]) := by
      unfold Zk; rw [hp]
    rw [hr]
    refine Ret.here [0] ⟨by decide, ?_⟩ (rs := [.slc 0 0 s.length true s.length, .bool ((st.length : Int) == 0)]) (by simp (maxSteps := 3000000) only [qb, zZ, ↓qp, ↓reduceIte, reduceCtorEq, nA, nM, nS, nE, nL, nD]; try simp only [qb, zY]) rfl (by simp [xc]) ?_ ⟨?_, ?_⟩
    · simp only [zK, ↓reduceIte, reduceCtorEq, nE, nB, nA]
    · intro j l; cases j <;> simp [zi, AO.ren]
    · simp only [xc]
      simp only [zL, ↓reduceIte, reduceCtorEq, nE, nA]
    · simp only [zL, ↓reduceIte, reduceCtorEq, nE, nA]
def vj : List AV → Option (AV × List AO)
  | [.str s] => chk (s.length ≤ 1000) (some (Zk s))
  | _ => none
theorem qgo : Am.Callee Try.prog 149 (qj3 vj) :=
  Am.Callee.new fun xs v H he => by
    unfold vj at he
    split at he
    · rename_i s
      obtain ⟨h1, he⟩ := qm he
      have e1 : v = (Zk s).1 := by rw [Option.some.inj he]
      have e2 : H = (Zk s).2 := by rw [Option.some.inj he]
      rw [e1, e2]
      exact ⟨rfl, qg7 s h1⟩
    · cases he
theorem qm5 (n : Nat) (out : List Nat) (hn : n ≤ 8) (hl : out.length = 2 * n) (ho : ∀ k, k < 2 * n → out.getD k 0 < 2 * n) :
    Am.Fn Try.prog 150 [.int .i64 n, .slc 0 0 (2 * n) true (2 * n)] [.ro (bm out)] (fun v H' => v = .agg (dia n (wm n out (2 * n))) ∧ H' = [.ro (bm out)]) := by
  refine Am.Fn.jw (R := fun v => v = _) qkp mixed qm1 (by simp) (Zu (u4 _)) ?_
  simp (maxSteps := 3000000) only [qc4, vt, rd, wrt, wrl, AO.y6, List.getElem?_cons_zero, List.getElem?_cons_succ, List.set_cons_zero, List.set_cons_succ, xq, Ge, vh zg zg, qe, List.length_replicate, xd, qb, zZ, ↓qp, ↓reduceIte, reduceCtorEq, nA, nM, nS, nE, nL, nD]; try simp only [qb, zY]
  refine WA.j8 qkp (fun t => ∃ k : Nat, t = ⟨[(12, .int .i64 k), (11, .int .i64 (2 * n : Nat)), (10, .slc 0 0 (2 * n) true (2 * n)), (5, .ptr 2 0), (4, .ptr 1 0), (0, .int .i64 n)], [.ro (bm out), .cells (dia 0 (List.replicate 16 0)), .cells (dia n (wm n out k))]⟩ ∧ k ≤ 2 * n)
    (fun s => match get s.env 12 with | .int _ k => (1000 - k).toNat | _ => 0) ⟨_, qz.zc [12, 11, 10, 5, 4, 0], 0, rfl, by omega⟩ ?_
  rintro t ⟨k, rfl, hk⟩
  have hw : q8 .i64 ((k : Int) + 1) = ((k + 1 : Nat) : Int) := by rw [wrap64 (by omega) (by omega)]; rfl
  have hj := yg n out k
  simp (maxSteps := 3000000) only [U5, qbz, yl, hw, rd, List.getElem?_cons_zero, List.getElem?_cons_succ, Qc, hl, wrt, wrl, AO.y6, List.set_cons_zero, List.set_cons_succ, qb, zZ, ↓qp, ↓reduceIte, reduceCtorEq, nA, nM, nS, nE, nL, nD]; try simp only [qb, zY]
  refine ⟨fun h => ?_, fun h => ?_⟩
  · have hk' : k < 2 * n := by omega
    have h1 := ho k hk'
    have h2 := zp h1
    have h3 := zp hk'
    simp only [Q1 hk', Q1 h1, Int.toNat_natCast, qhh (show place n (out.getD k 0) < 256 from by omega), qcb, qe, hj]
    refine ⟨⟨⟨by omega, by omega⟩, by omega⟩, by omega, ⟨vb (by omega), vb (by omega)⟩, ⟨vb (by omega), vb (by omega)⟩, ⟨by omega, by omega⟩, ⟨by omega, rfl⟩, _, qz.zc [12, 11, 10, 5, 4, 0], ⟨k + 1, ?_, by omega⟩, ?_⟩
    · simp only [zL, ↓reduceIte, reduceCtorEq, nE, nA]; rfl
    · simp only [zL, ↓reduceIte, reduceCtorEq, nE, nA]; omega
  · have hkn : k = 2 * n := by omega
    subst hkn
    simp (maxSteps := 3000000) only [U6, rd, wrt, wrl, AO.y6, List.getElem?_cons_zero, List.getElem?_cons_succ, List.set_cons_zero, List.set_cons_succ, qe, hj, vz hj, vh zg hj, xd, List.length_replicate, qh, qb, zZ, ↓qp, ↓reduceIte, reduceCtorEq, nA, nM, nS, nE, nL, nD]; try simp only [qb, zY]
    exact ⟨_, rfl⟩
def ur : List AV → List AV → Option AV := fun l xs => match Y6 l, xs with
  | some out, [.int .i64 n, .slc 0 0 k true c] => chk ((0 ≤ n ∧ n ≤ 8) ∧ k = 2 * n.toNat ∧ c = k ∧ out.length = k ∧ (List.range k).all (fun i => decide (out.getD i 0 < k)) = true) (some (.agg (dia n (wm n.toNat out k))))
  | _, _ => none
theorem qmn : Am.Callee Try.prog 150 (Bh 1 1 ur) :=
  Am.Callee.Bh fun l pre post len ex c v hp hl he => by
    unfold ur at he
    split at he
    · rename_i out n k c' hd hx
      obtain ⟨⟨h1, h2, h3, h4, h5⟩, he⟩ := qm he
      cases he
      obtain ⟨a, rfl⟩ : ∃ a, pre = [a] := List.length_eq_one_iff.1 hp
      simp only [List.cons_append, List.nil_append, List.cons.injEq, AV.slc.injEq, true_and] at hx
      obtain ⟨rfl, ⟨rfl, rfl, rfl⟩, rfl⟩ := hx
      have := qbv hd
      subst this
      obtain ⟨j, rfl⟩ : ∃ j : Nat, n = j := ⟨n.toNat, by omega⟩
      simp only [Int.toNat_natCast] at h2 ⊢
      subst h3; subst h2
      refine ⟨u4 _, rfl, rfl, by simp only [AV.xb, qh], qm5 j out (by omega) h4 fun k hk => ?_⟩
      have := List.all_eq_true.1 h5 k (List.mem_range.2 hk)
      exact of_decide_eq_true this
    · cases he
end Go.Proofs.Ytkgoadglalpbfaa

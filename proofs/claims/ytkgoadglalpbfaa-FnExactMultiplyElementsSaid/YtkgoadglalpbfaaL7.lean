/- Contracts: products of diagrams, the implementation. -/
import Derived.Test.YtkgoadglalpbfaaL6
namespace Go.Proofs.Ytkgoadglalpbfaa
open Go.Am Go.Dia
open Nat renaming reduceAdd → nA, reduceMul → nM, reduceSub → nS, reduceEqDiff → nE, reduceLT → nL, reduceLeDiff → nD, reduceBEq → nB
open Int renaming reduceEq → iE, reduceNe → iN, reduceBEq → iB, reduceBNe → iC, reduceLT → iL, reduceLE → iD, reduceAdd → iA, reduceSub → iS, reduceMul → iM
set_option linter.unusedSimpArgs false
set_option linter.unusedVariables false
set_option maxRecDepth 4000
set_option maxHeartbeats 1000000
def H4 (N : Nat) (d e m : List Nat) (k : Nat) : List AO := [.ro (dia N d), .ro (dia N e), .cells (dia N m), .cells [.int .i64 k]]
theorem qq8 {N : Nat} {d e m : List Nat} {k n : Nat} : ∀ (j : Nat) (o : AO), (H4 N d e m k)[j]? = some o → o.under n := fun j o hj => by
  match j, hj with
  | 0, hj => cases hj; exact qk _ _ (qh _ _)
  | 1, hj => cases hj; exact qk _ _ (qh _ _)
  | 2, hj => cases hj; exact qk _ _ (qh _ _)
  | 3, hj => cases hj; exact ⟨trivial, trivial⟩
  | j + 4, hj => simp [H4] at hj
theorem qhy {m : List Nat} (h : okD m) {i x : Nat} (hx : x < 256) : okD (m.set i x) := by
  refine ⟨by rw [List.length_set]; exact h.1, fun y hy => ?_⟩
  rcases List.mem_or_eq_of_mem_set hy with h1 | rfl
  · exact h.2 y h1
  · exact hx
theorem qao {n : Nat} {d e : List Nat} (hd : isS n d = true) (he : isS n e = true) : ∀ {k : Nat}, k ≤ n → okD (V2 n d e k)
  | 0, _ => ⟨by simp [V2], fun y hy => by simp [V2] at hy; omega⟩
  | k + 1, hk => by
    obtain ⟨hn, _⟩ := ji hd
    have h1 := qbs hd he (i := k) (by omega)
    have h2 := qbs hd he (i := n + k) (by omega)
    exact qhy (qhy (qao hd he (by omega)) (by omega)) (by omega)
theorem vk : B83 115 = some (Zm 1 g_n) := rfl
theorem jo : B83 155 = some (bc) := rfl
theorem ya : B83 146 = some (Yd) := rfl
theorem wz : B83 147 = some (ba) := rfl
def Xz : AC := .seq (.region [oP 23 .lss 22 21]) (.seq (.cond 23 .skip (.exit 0)) (.seq (.block 1 (.seq (.region [oM 24 22,oM 12 24]) (.seq (.region [oM 25 3,oM 26 12,oM 27 11,oM 28 12,oC 29 155 [.t 27,(.c (.bool false)),.t 28,(.c (.int .i64 (-1)))],⟨some 30,none,.call (.t 25) [.t 26,.t 29]⟩]) (.region [oM 31 3,oM 32 10,oM 33 12,oP 34 .add 32 33,oM 35 11,oM 36 10,oM 37 12,oP 38 .add 36 37,oC 39 155 [.t 35,(.c (.bool true)),.t 38,(.c (.int .i64 (-1)))],⟨some 40,none,.call (.t 31) [.t 34,.t 39]⟩])))) (.region [oK 41 .add 22 1,oM 22 41])))
def Qt : AC := .seq (.region [oP 44 .lss 43 42]) (.seq (.cond 44 .skip (.exit 2)) (.seq (.block 3 (.seq (.region [oM 45 43,oM 13 45]) (.seq (.region [oM 46 11,oM 47 13,o0 48 (.j3 (.t 46)),oF 49 2 48,o0 50 (.ja 8 1 (.t 49) (.t 47)),oL 51 50,o0 52 (.un .not (.t 51))]) (.cond 52 (.seq (.region [oM 53 11,oM 54 13,oM 55 13,oC 56 155 [.t 53,(.c (.bool true)),.t 54,.t 55]]) (.region [oM 57 4,⟨some 58,none,.call (.t 57) []⟩])) .skip)))) (.region [oK 59 .add 43 1,oM 43 59])))
def Yt : AC := .seq (.region [oM 42 10,oI 43 0]) (.block 2 (.loop Qt))
def qbr : AC := .seq (.region [oM 14 0,oC 15 115 [.t 14],oM 10 15]) (.seq (.region [oM 16 0,oM 17 1,oM 18 2,o0 19 (.build [(.v (.pointer none)),(.v (.pointer none)),(.bool false),(.bool false),(.bool false),(.bool false),(.bool false),(.bool false),(.bool false),(.bool false),(.v .nilFunc)] [(0,1,.t 16),(1,1,.t 17),(10,1,.t 18)]),o0 20 (.box (.t 19)),oM 11 20]) (.seq (.seq (.region [oM 21 10,oI 22 0]) (.block 0 (.loop Xz))) Yt))
theorem qim : zy Try.prog 144 = some ⟨60, qbr, []⟩ := by kernel_rfl
theorem qi0 (N : Nat) (d e : List Nat) (hd : okD d) (he : okD e) (hds : isS N d = true) (hes : isS N e = true) :
    Am.Fn Try.prog 144 [.ptr 0 0, .ptr 1 0, .fn 145 [] [], .fn 146 [] [.ptr 2 0], .fn 147 [] [.ptr 3 0]] (H4 N d e (List.replicate 16 0) 0) (fun v H' => v = .tup [] ∧ H' = H4 N d e (j2 N d e) (lpN N d e N)) := by
  refine Am.Fn.ofB qh3 mixed qim (by simp [AV.q7, AV.under, H4]) qq8 ?_
  obtain ⟨hN, hpd, _⟩ := ji hds
  obtain ⟨_, hpe, _⟩ := ji hes
  have hdl := hd.1
  have hel := he.1
  have o1 : over [AV.v (.pointer none), .v (.pointer none), .bool false, .bool false, .bool false, .bool false, .bool false, .bool false, .bool false, .bool false, .v .nilFunc] 0 [.ptr 0 0] = [.ptr 0 0, .v (.pointer none), .bool false, .bool false, .bool false, .bool false, .bool false, .bool false, .bool false, .bool false, .v .nilFunc] := rfl
  have o2 : over [AV.ptr 0 0, .v (.pointer none), .bool false, .bool false, .bool false, .bool false, .bool false, .bool false, .bool false, .bool false, .v .nilFunc] 1 [.ptr 1 0] = [.ptr 0 0, .ptr 1 0, .bool false, .bool false, .bool false, .bool false, .bool false, .bool false, .bool false, .bool false, .v .nilFunc] := rfl
  have o3 : over [AV.ptr 0 0, .ptr 1 0, .bool false, .bool false, .bool false, .bool false, .bool false, .bool false, .bool false, .bool false, .v .nilFunc] 10 [.fn 145 [] []] = stk 0 1 (List.replicate 8 false) := rfl
  have l1 : ([AV.ptr 0 0, .v (.pointer none), .bool false, .bool false, .bool false, .bool false, .bool false, .bool false, .bool false, .bool false, .v .nilFunc] : List AV).length = 11 := rfl
  have l2 : ([AV.ptr 0 0, .ptr 1 0, .bool false, .bool false, .bool false, .bool false, .bool false, .bool false, .bool false, .bool false, .v .nilFunc] : List AV).length = 11 := rfl
  unfold H4
  simp (maxSteps := 3000000) only [qf, zH, qbr, vk, jo, ya, wz, ba, g_n, Yd, bc, qe, hdl, hel, vu, Gn, o1, o2, o3, l1, l2, AV.one, iE, iN, iB, iC, iL, iD, iA, iS, iM, qb, zZ, ↓qp, ↓reduceIte, reduceCtorEq, nA, nM, nS, nE, nL, nD]; try simp only [qb, zY]
  have hdo := zd (n := (N : Int)) hd
  have heo := zd (n := (N : Int)) he
  have hN0 : (0 : Int) ≤ (N : Int) := by omega
  refine WA.j8 qh3 (fun s => ∃ k : Nat, k ≤ N ∧ s = ⟨[(22, .int .i64 k), (21, .int .i64 N), (11, .ptr 4 0), (10, .int .i64 N), (4, .fn 147 [] [.ptr 3 0]), (3, .fn 146 [] [.ptr 2 0])], [.ro (dia N d), .ro (dia N e), .cells (dia N (V2 N d e k)), .cells [.int .i64 0], .cells (stk 0 1 (qca N d e k))]⟩)
    (fun s => match get s.env 22 with | .int _ x => N - x.toNat | _ => 0) ⟨_, qz.zc [22, 21, 11, 10, 4, 3], 0, by omega, rfl⟩ ?_
  rintro s ⟨k, hk, rfl⟩
  have hw : q8 .i64 ((k : Int) + 1) = ((k + 1 : Nat) : Int) := by rw [wrap64 (by omega) (by omega)]; rfl
  by_cases hlt : k < N
  · have hli : (k : Int) < (N : Int) := by omega
    have hk16 := yn N d e k
    have hmk := (Xj hds hes k hk).len
    have hx1 := qbs hds hes (i := k) (by omega)
    have hx2 := qbs hds hes (i := N + k) (by omega)
    have hadd : q8 .i64 ((N : Int) + (k : Int)) = ((N + k : Nat) : Int) := by rw [wrap64 (by omega) (by omega)]; rfl
    have k1 : (0 : Int) ≤ (k : Int) ∧ (k : Int) < 2 * (N : Int) := by omega
    have k2 : (0 : Int) ≤ ((N + k : Nat) : Int) ∧ ((N + k : Nat) : Int) < 2 * (N : Int) := by omega
    have q1 : (false = decide ((N : Int) ≤ (k : Int))) = True := by simp; omega
    have q2 : (true = decide ((N : Int) ≤ ((N + k : Nat) : Int))) = True := by simp; omega
    have hf1 : (fol N d e true k (qca N d e k)).length = 8 := by rw [qn2 hds hes (by omega) (by simp [hlt])]; exact hmk
    have s1 := qax (a := 0) (b := 1) hmk
    have s2 := qax (a := 0) (b := 1) hf1
    have d0 := zd (n := (N : Int)) (qhy (qao hds hes hk) (i := k) (x := pr N d e k) (by omega))
    have d1 := zd (n := (N : Int)) (qao hds hes hk)
    have p1 : ((0 : Int) ≤ (k : Int) ∧ (k : Int) < 16) ∧ (0 : Int) ≤ ((pr N d e k : Nat) : Int) ∧ ((pr N d e k : Nat) : Int) < 256 := by omega
    have p2 : ((0 : Int) ≤ ((N + k : Nat) : Int) ∧ ((N + k : Nat) : Int) < 16) ∧ (0 : Int) ≤ ((pr N d e (N + k) : Nat) : Int) ∧ ((pr N d e (N + k) : Nat) : Int) < 256 := by omega
    simp (maxSteps := 3000000) only [qf, zH, Xz, vk, jo, ya, wz, ba, g_n, Yd, bc, rdD, hw, hli, qe, hdl, hel, q9 hdl, q9 hel, hdo, heo, s1, s2, d0, d1, p1, p2, Int.toNat_natCast, hds, hes, k1, k2, hN0, q1, q2, hadd, AV.one, and_self, true_and, and_true, Bool.not_true, Bool.not_false, Ne, not_false_iff, not_false_eq_true, Nat.reduceEqDiff, reduceCtorEq, iE, iN, iB, iC, iL, iD, iA, iS, iM, qb, zZ, ↓qp, ↓reduceIte, reduceCtorEq, nA, nM, nS, nE, nL, nD]; try simp only [qb, zY]
    refine ⟨_, qz.zc [22, 21, 11, 10, 4, 3], ⟨k + 1, by omega, rfl⟩, ?_⟩
    simp only [zL, ↓reduceIte, reduceCtorEq, nE, nA]; omega
  have hli : ¬ (k : Int) < (N : Int) := by omega
  obtain rfl : k = N := by omega
  simp (maxSteps := 3000000) only [qf, zH, Xz, Yt, vk, jo, ya, wz, ba, g_n, Yd, bc, hli, Int.lt_irrefl, iE, iN, iB, iC, iL, iD, iA, iS, iM, qb, zZ, ↓qp, ↓reduceIte, reduceCtorEq, nA, nM, nS, nE, nL, nD]; try simp only [qb, zY]
  refine WA.j8 qh3 (fun s => ∃ (i : Nat) (met : List Bool), i ≤ k ∧ (met.length = 8 ∧ ∀ x, mt met x ↔ Seen k d e i x) ∧ s = ⟨[(43, .int .i64 i), (42, .int .i64 k), (11, .ptr 4 0), (4, .fn 147 [] [.ptr 3 0])], [.ro (dia k d), .ro (dia k e), .cells (dia k (j2 k d e)), .cells [.int .i64 (lpN k d e i : Nat)], .cells (stk 0 1 met)]⟩)
    (fun s => match get s.env 43 with | .int _ x => k - x.toNat | _ => 0) ⟨_, qz.zc [43, 42, 11, 4], 0, qca k d e k, by omega, ⟨(Xj hds hes k (Nat.le_refl _)).len, fun x => ⟨.inl, fun h => h.elim id fun ⟨j, hj, _⟩ => absurd hj (Nat.not_lt_zero _)⟩⟩, rfl⟩ ?_
  clear hlt hli hw
  rintro s ⟨i, met, hi, ⟨hml, hmt⟩, rfl⟩
  have hw : q8 .i64 ((i : Int) + 1) = ((i + 1 : Nat) : Int) := by rw [wrap64 (by omega) (by omega)]; rfl
  have hle := qdo k d e i
  by_cases hlt : i < k
  · have hli : (i : Int) < (k : Int) := by omega
    have g1 := J0 (show i < 8 by omega)
    have g2 : 2 + i < 8 + 3 := by omega
    have g3 := qur (a := 0) (b := 1) hml (show i < 8 by omega)
    by_cases hs : Seen k d e i i
    · have hm1 : met.getD i false = true := (hmt i).2 hs
      simp (maxSteps := 3000000) only [qf, zH, Qt, vk, jo, ya, wz, ba, g_n, Yd, bc, hw, hli, g1, g2, g3, hm1, ye, hml, Bool.not_true, iE, iN, iB, iC, iL, iD, iA, iS, iM, qb, zZ, ↓qp, ↓reduceIte, reduceCtorEq, nA, nM, nS, nE, nL, nD]; try simp only [qb, zY]
      refine ⟨_, qz.zc [43, 42, 11, 4], ⟨i + 1, met, by omega, ⟨hml, fun x => by rw [hmt, qkk hds hes hs]⟩, ?_⟩, ?_⟩
      · simp only [zL, ↓reduceIte, reduceCtorEq, nE, nA]
        simp only [lpN, if_pos hs]
      · simp only [zL, ↓reduceIte, reduceCtorEq, nE, nA]; omega
    · have hm1 : met.getD i false = false := by
        cases h : met.getD i false with
        | false => rfl
        | true => exact absurd ((hmt i).1 h) hs
      have s1 := qax (a := 0) (b := 1) hml
      have k1 : (0 : Int) ≤ (i : Int) ∧ (i : Int) < (k : Int) := by omega
      have q1 : ((i : Int) = -1) = False := eq_false (by omega)
      have q2 : (∀ x, mt met x ↔ Seen k d e i x) = True := eq_true hmt
      have q3 : Seen k d e i i = False := eq_false hs
      have q4 : (0 : Int) ≤ ((lpN k d e i : Nat) : Int) ∧ ((lpN k d e i : Nat) : Int) ≤ 1000 := by omega
      have q5 : ((lpN k d e i : Nat) : Int) + 1 = ((lpN k d e i + 1 : Nat) : Int) := rfl
      simp (maxSteps := 3000000) only [qf, zH, Qt, vk, jo, ya, wz, ba, g_n, Yd, bc, rdD, hw, hli, g1, g2, g3, hm1, ye, hml, Bool.not_false, qe, hdl, hel, q9 hdl, q9 hel, hdo, heo, s1, Int.toNat_natCast, hds, hes, k1, hN0, q1, q2, q3, q4, q5, AV.one, and_self, true_and, and_true, Ne, not_false_iff, not_false_eq_true, if_false, Nat.reduceEqDiff, reduceCtorEq, iE, iN, iB, iC, iL, iD, iA, iS, iM, qb, zZ, ↓qp, ↓reduceIte, reduceCtorEq, nA, nM, nS, nE, nL, nD]; try simp only [qb, zY]
      refine ⟨_, qz.zc [43, 42, 11, 4], ⟨i + 1, Yu k d e i met, by omega, ⟨by simp [Yu], fun x => ?_⟩, ?_⟩, ?_⟩
      · rw [qkf hlt hs]
        by_cases hx : x < 8
        · rw [qsj hx, hmt]
        · constructor
          · intro h
            simp [mt, Yu, List.getD_eq_getElem?_getD, hx] at h
          · intro h
            have : x < k := by
              rcases h with h | h
              · exact qvh hds hes h
              · exact (Ring.mem (By hds hes) (Bz hds hes) ⟨hlt, fun h => hs (.inl h)⟩ h).1
            omega
      · simp only [zL, ↓reduceIte, reduceCtorEq, nE, nA]
        simp only [lpN, if_neg hs]
      · simp only [zL, ↓reduceIte, reduceCtorEq, nE, nA]; omega
  · have hli : ¬ (i : Int) < (k : Int) := by omega
    obtain rfl : i = k := by omega
    simp (maxSteps := 3000000) only [qf, zH, Qt, vk, jo, ya, wz, ba, g_n, Yd, bc, hli, Int.lt_irrefl, iE, iN, iB, iC, iL, iD, iA, iS, iM, qb, zZ, ↓qp, ↓reduceIte, reduceCtorEq, nA, nM, nS, nE, nL, nD]; try simp only [qb, zY]
    refine Ret.zw [0, 1, 2, 3] ⟨⟨by simp, rfl, by decide⟩, ?_⟩ (rs := []) rfl rfl (by simp [xc]) ?_ ⟨rfl, ?_⟩
    · simp only [qc _ _ (qh _ _), zK, ↓reduceIte, reduceCtorEq, nE, nB, nA]
    · intro j l h
      match j, h with
      | 0, _ => exact ⟨_, rfl⟩
      | 1, _ => exact ⟨_, rfl⟩
      | 2, h => simp [zi, AO.ren] at h
      | 3, h => simp [zi, AO.ren] at h
      | j + 4, h => simp [zi] at h
    · simp only [qd _ _ (qh _ _), zL, ↓reduceIte, reduceCtorEq, nE, nA]
end Go.Proofs.Ytkgoadglalpbfaa

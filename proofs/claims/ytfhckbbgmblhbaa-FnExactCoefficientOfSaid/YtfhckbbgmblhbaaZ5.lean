/- Contracts of functions of the program, and plain laws, part 5: each text of this part is proved without further condition. -/
import Derived.Test.YtfhckbbgmblhbaaZ4
import Derived.Test.YtfhckbbgmblhbaaZ3
import Derived.Test.YtfhckbbgmblhbaaZ2
namespace Go.Proofs.Ytfhckbbgmblhbaa
open Go.Am Go.Dia
open Nat renaming reduceAdd → nA, reduceMul → nM, reduceSub → nS, reduceEqDiff → nE, reduceLT → nL, reduceLeDiff → nD, reduceBEq → nB
open Int renaming reduceEq → iE, reduceNe → iN, reduceBEq → iB, reduceBNe → iC, reduceLT → iL, reduceLE → iD, reduceAdd → iA, reduceSub → iS, reduceMul → iM
set_option linter.unusedSimpArgs false
set_option linter.unusedVariables false
set_option maxRecDepth 4000
set_option maxHeartbeats 1000000
def H4 (N : Nat) (d e m : List Nat) (k : Nat) : List AO := [.ro (dia N d), .ro (dia N e), .cells (dia N m), .cells [.int .i64 k]]
theorem q03 {N : Nat} {d e m : List Nat} {k n : Nat} : ∀ (j : Nat) (o : AO), (H4 N d e m k)[j]? = some o → o.under n := fun j o hj => by
  match j, hj with
  | 0, hj => cases hj; exact qk _ _ (qd _ _)
  | 1, hj => cases hj; exact qk _ _ (qd _ _)
  | 2, hj => cases hj; exact qk _ _ (qd _ _)
  | 3, hj => cases hj; exact ⟨trivial, trivial⟩
  | j + 4, hj => simp [H4] at hj
theorem qm5 {m : List Nat} (h : okD m) {i x : Nat} (hx : x < 256) : okD (m.set i x) := by
  refine ⟨by rw [List.length_set]; exact h.1, fun y hy => ?_⟩
  rcases List.mem_or_eq_of_mem_set hy with h1 | rfl
  · exact h.2 y h1
  · exact hx
theorem qfa {n : Nat} {d e : List Nat} (hd : isS n d = true) (he : isS n e = true) : ∀ {k : Nat}, k ≤ n → okD (Ud n d e k)
  | 0, _ => ⟨by simp [Ud], fun y hy => by simp [Ud] at hy; omega⟩
  | k + 1, hk => by
    obtain ⟨hn, _⟩ := xk hd
    have h1 := qf2 hd he (i := k) (by omega)
    have h2 := qf2 hd he (i := n + k) (by omega)
    exact qm5 (qm5 (qfa hd he (by omega)) (by omega)) (by omega)
theorem va : B83 168 = some (Xp 1 g_n) := rfl
theorem x8 : B83 187 = some (bn) := rfl
theorem we : B83 172 = some (Gj) := rfl
theorem wh : B83 173 = some (bd) := rfl
def Wp : AC := .seq (.region [oP 23 .lss 22 21]) (.seq (.cond 23 .skip (.exit 0)) (.seq (.block 1 (.seq (.region [oM 24 22,oM 12 24]) (.seq (.region [oM 25 3,oM 26 12,oM 27 11,oM 28 12,oC 29 187 [.t 27,(.c (.bool false)),.t 28,(.c (.int .i64 (-1)))],⟨some 30,none,.call (.t 25) [.t 26,.t 29]⟩]) (.region [oM 31 3,oM 32 10,oM 33 12,oP 34 .add 32 33,oM 35 11,oM 36 10,oM 37 12,oP 38 .add 36 37,oC 39 187 [.t 35,(.c (.bool true)),.t 38,(.c (.int .i64 (-1)))],⟨some 40,none,.call (.t 31) [.t 34,.t 39]⟩])))) (.region [oK 41 .add 22 1,oM 22 41])))
def Zw : AC := .seq (.region [oP 44 .lss 43 42]) (.seq (.cond 44 .skip (.exit 2)) (.seq (.block 3 (.seq (.region [oM 45 43,oM 13 45]) (.seq (.region [oM 46 11,oM 47 13,o0 48 (.jx (.t 46)),oF 49 2 48,o0 50 (.xa 8 1 (.t 49) (.t 47)),oL 51 50,o0 52 (.un .not (.t 51))]) (.cond 52 (.seq (.region [oM 53 11,oM 54 13,oM 55 13,oC 56 187 [.t 53,(.c (.bool true)),.t 54,.t 55]]) (.region [oM 57 4,⟨some 58,none,.call (.t 57) []⟩])) .skip)))) (.region [oK 59 .add 43 1,oM 43 59])))
def qah : AC := .seq (.region [oM 42 10,oI 43 0]) (.block 2 (.loop Zw))
def qgm : AC := .seq (.region [oM 14 0,oC 15 168 [.t 14],oM 10 15]) (.seq (.region [oM 16 0,oM 17 1,oM 18 2,o0 19 (.build [(.v (.pointer none)),(.v (.pointer none)),(.bool false),(.bool false),(.bool false),(.bool false),(.bool false),(.bool false),(.bool false),(.bool false),(.v .nilFunc)] [(0,1,.t 16),(1,1,.t 17),(10,1,.t 18)]),o0 20 (.box (.t 19)),oM 11 20]) (.seq (.seq (.region [oM 21 10,oI 22 0]) (.block 0 (.loop Wp))) qah))
theorem qr8 : zl Try.prog 170 = some ⟨60, qgm, []⟩ := by kernel_rfl
theorem qpf (N : Nat) (d e : List Nat) (hd : okD d) (he : okD e) (hds : isS N d = true) (hes : isS N e = true) :
    Am.Fn Try.prog 170 [.ptr 0 0, .ptr 1 0, .fn 171 [] [], .fn 172 [] [.ptr 2 0], .fn 173 [] [.ptr 3 0]] (H4 N d e (List.replicate 16 0) 0) (fun v H' => v = .tup [] ∧ H' = H4 N d e (xt N d e) (lpN N d e N)) := by
  refine Am.Fn.ofB qn5 mixed qr8 (by simp [AV.qv, AV.under, H4]) q03 ?_
  obtain ⟨hN, hpd, _⟩ := xk hds
  obtain ⟨_, hpe, _⟩ := xk hes
  have hdl := hd.1
  have hel := he.1
  have o1 : over [AV.v (.pointer none), .v (.pointer none), .bool false, .bool false, .bool false, .bool false, .bool false, .bool false, .bool false, .bool false, .v .nilFunc] 0 [.ptr 0 0] = [.ptr 0 0, .v (.pointer none), .bool false, .bool false, .bool false, .bool false, .bool false, .bool false, .bool false, .bool false, .v .nilFunc] := rfl
  have o2 : over [AV.ptr 0 0, .v (.pointer none), .bool false, .bool false, .bool false, .bool false, .bool false, .bool false, .bool false, .bool false, .v .nilFunc] 1 [.ptr 1 0] = [.ptr 0 0, .ptr 1 0, .bool false, .bool false, .bool false, .bool false, .bool false, .bool false, .bool false, .bool false, .v .nilFunc] := rfl
  have o3 : over [AV.ptr 0 0, .ptr 1 0, .bool false, .bool false, .bool false, .bool false, .bool false, .bool false, .bool false, .bool false, .v .nilFunc] 10 [.fn 171 [] []] = stk 0 1 (List.replicate 8 false) := rfl
  have l1 : ([AV.ptr 0 0, .v (.pointer none), .bool false, .bool false, .bool false, .bool false, .bool false, .bool false, .bool false, .bool false, .v .nilFunc] : List AV).length = 11 := rfl
  have l2 : ([AV.ptr 0 0, .ptr 1 0, .bool false, .bool false, .bool false, .bool false, .bool false, .bool false, .bool false, .bool false, .v .nilFunc] : List AV).length = 11 := rfl
  unfold H4
  simp (maxSteps := 3000000) only [qh, zH, qgm, va, x8, we, wh, bd, g_n, Gj, bn, qc, hdl, hel, y7, Bg, o1, o2, o3, l1, l2, AV.one, iE, iN, iB, iC, iL, iD, iA, iS, iM, qa, zZ, ↓qq, ↓reduceIte, reduceCtorEq, nA, nM, nS, nE, nL, nD]; try simp only [qa, zY]
  have hdo := qy (n := (N : Int)) hd
  have heo := qy (n := (N : Int)) he
  have hN0 : (0 : Int) ≤ (N : Int) := by omega
  refine WA.xr qn5 (fun s => ∃ k : Nat, k ≤ N ∧ s = ⟨[(22, .int .i64 k), (21, .int .i64 N), (11, .ptr 4 0), (10, .int .i64 N), (4, .fn 173 [] [.ptr 3 0]), (3, .fn 172 [] [.ptr 2 0])], [.ro (dia N d), .ro (dia N e), .cells (dia N (Ud N d e k)), .cells [.int .i64 0], .cells (stk 0 1 (qg7 N d e k))]⟩)
    (fun s => match get s.env 22 with | .int _ x => N - x.toNat | _ => 0) ⟨_, qw.qx [22, 21, 11, 10, 4, 3], 0, by omega, rfl⟩ ?_
  rintro s ⟨k, hk, rfl⟩
  have hw : qo .i64 ((k : Int) + 1) = ((k + 1 : Nat) : Int) := by rw [wrap64 (by omega) (by omega)]; rfl
  by_cases hlt : k < N
  · have hli : (k : Int) < (N : Int) := by omega
    have hk16 := yb N d e k
    have hmk := (Vn hds hes k hk).len
    have hx1 := qf2 hds hes (i := k) (by omega)
    have hx2 := qf2 hds hes (i := N + k) (by omega)
    have hadd : qo .i64 ((N : Int) + (k : Int)) = ((N + k : Nat) : Int) := by rw [wrap64 (by omega) (by omega)]; rfl
    have k1 : (0 : Int) ≤ (k : Int) ∧ (k : Int) < 2 * (N : Int) := by omega
    have k2 : (0 : Int) ≤ ((N + k : Nat) : Int) ∧ ((N + k : Nat) : Int) < 2 * (N : Int) := by omega
    have q1 : (false = decide ((N : Int) ≤ (k : Int))) = True := by simp; omega
    have q2 : (true = decide ((N : Int) ≤ ((N + k : Nat) : Int))) = True := by simp; omega
    have hf1 : (fol N d e true k (qg7 N d e k)).length = 8 := by rw [qwa hds hes (by omega) (by simp [hlt])]; exact hmk
    have s1 := qes (a := 0) (b := 1) hmk
    have s2 := qes (a := 0) (b := 1) hf1
    have d0 := qy (n := (N : Int)) (qm5 (qfa hds hes hk) (i := k) (x := pr N d e k) (by omega))
    have d1 := qy (n := (N : Int)) (qfa hds hes hk)
    have p1 : ((0 : Int) ≤ (k : Int) ∧ (k : Int) < 16) ∧ (0 : Int) ≤ ((pr N d e k : Nat) : Int) ∧ ((pr N d e k : Nat) : Int) < 256 := by omega
    have p2 : ((0 : Int) ≤ ((N + k : Nat) : Int) ∧ ((N + k : Nat) : Int) < 16) ∧ (0 : Int) ≤ ((pr N d e (N + k) : Nat) : Int) ∧ ((pr N d e (N + k) : Nat) : Int) < 256 := by omega
    simp (maxSteps := 3000000) only [qh, zH, Wp, va, x8, we, wh, bd, g_n, Gj, bn, rdD, hw, hli, qc, hdl, hel, qn hdl, qn hel, hdo, heo, s1, s2, d0, d1, p1, p2, Int.toNat_natCast, hds, hes, k1, k2, hN0, q1, q2, hadd, AV.one, and_self, true_and, and_true, Bool.not_true, Bool.not_false, Ne, not_false_iff, not_false_eq_true, Nat.reduceEqDiff, reduceCtorEq, iE, iN, iB, iC, iL, iD, iA, iS, iM, qa, zZ, ↓qq, ↓reduceIte, reduceCtorEq, nA, nM, nS, nE, nL, nD]; try simp only [qa, zY]
    refine ⟨_, qw.qx [22, 21, 11, 10, 4, 3], ⟨k + 1, by omega, rfl⟩, ?_⟩
    simp only [zL, ↓reduceIte, reduceCtorEq, nE, nA]; omega
  have hli : ¬ (k : Int) < (N : Int) := by omega
  obtain rfl : k = N := by omega
  simp (maxSteps := 3000000) only [qh, zH, Wp, qah, va, x8, we, wh, bd, g_n, Gj, bn, hli, Int.lt_irrefl, iE, iN, iB, iC, iL, iD, iA, iS, iM, qa, zZ, ↓qq, ↓reduceIte, reduceCtorEq, nA, nM, nS, nE, nL, nD]; try simp only [qa, zY]
  refine WA.xr qn5 (fun s => ∃ (i : Nat) (met : List Bool), i ≤ k ∧ (met.length = 8 ∧ ∀ x, mt met x ↔ Seen k d e i x) ∧ s = ⟨[(43, .int .i64 i), (42, .int .i64 k), (11, .ptr 4 0), (4, .fn 173 [] [.ptr 3 0])], [.ro (dia k d), .ro (dia k e), .cells (dia k (xt k d e)), .cells [.int .i64 (lpN k d e i : Nat)], .cells (stk 0 1 met)]⟩)
    (fun s => match get s.env 43 with | .int _ x => k - x.toNat | _ => 0) ⟨_, qw.qx [43, 42, 11, 4], 0, qg7 k d e k, by omega, ⟨(Vn hds hes k (Nat.le_refl _)).len, fun x => ⟨.inl, fun h => h.elim id fun ⟨j, hj, _⟩ => absurd hj (Nat.not_lt_zero _)⟩⟩, rfl⟩ ?_
  clear hlt hli hw
  rintro s ⟨i, met, hi, ⟨hml, hmt⟩, rfl⟩
  have hw : qo .i64 ((i : Int) + 1) = ((i + 1 : Nat) : Int) := by rw [wrap64 (by omega) (by omega)]; rfl
  have hle := qil k d e i
  by_cases hlt : i < k
  · have hli : (i : Int) < (k : Int) := by omega
    have g1 := Yq (show i < 8 by omega)
    have g2 : 2 + i < 8 + 3 := by omega
    have g3 := q3k (a := 0) (b := 1) hml (show i < 8 by omega)
    by_cases hs : Seen k d e i i
    · have hm1 : met.getD i false = true := (hmt i).2 hs
      simp (maxSteps := 3000000) only [qh, zH, Zw, va, x8, we, wh, bd, g_n, Gj, bn, hw, hli, g1, g2, g3, hm1, wj, hml, Bool.not_true, iE, iN, iB, iC, iL, iD, iA, iS, iM, qa, zZ, ↓qq, ↓reduceIte, reduceCtorEq, nA, nM, nS, nE, nL, nD]; try simp only [qa, zY]
      refine ⟨_, qw.qx [43, 42, 11, 4], ⟨i + 1, met, by omega, ⟨hml, fun x => by rw [hmt, qqh hds hes hs]⟩, ?_⟩, ?_⟩
      · simp only [zL, ↓reduceIte, reduceCtorEq, nE, nA]
        simp only [lpN, if_pos hs]
      · simp only [zL, ↓reduceIte, reduceCtorEq, nE, nA]; omega
    · have hm1 : met.getD i false = false := by
        cases h : met.getD i false with
        | false => rfl
        | true => exact absurd ((hmt i).1 h) hs
      have s1 := qes (a := 0) (b := 1) hml
      have k1 : (0 : Int) ≤ (i : Int) ∧ (i : Int) < (k : Int) := by omega
      have q1 : ((i : Int) = -1) = False := eq_false (by omega)
      have q2 : (∀ x, mt met x ↔ Seen k d e i x) = True := eq_true hmt
      have q3 : Seen k d e i i = False := eq_false hs
      have q4 : (0 : Int) ≤ ((lpN k d e i : Nat) : Int) ∧ ((lpN k d e i : Nat) : Int) ≤ 1000 := by omega
      have q5 : ((lpN k d e i : Nat) : Int) + 1 = ((lpN k d e i + 1 : Nat) : Int) := rfl
      simp (maxSteps := 3000000) only [qh, zH, Zw, va, x8, we, wh, bd, g_n, Gj, bn, rdD, hw, hli, g1, g2, g3, hm1, wj, hml, Bool.not_false, qc, hdl, hel, qn hdl, qn hel, hdo, heo, s1, Int.toNat_natCast, hds, hes, k1, hN0, q1, q2, q3, q4, q5, AV.one, and_self, true_and, and_true, Ne, not_false_iff, not_false_eq_true, if_false, Nat.reduceEqDiff, reduceCtorEq, iE, iN, iB, iC, iL, iD, iA, iS, iM, qa, zZ, ↓qq, ↓reduceIte, reduceCtorEq, nA, nM, nS, nE, nL, nD]; try simp only [qa, zY]
      refine ⟨_, qw.qx [43, 42, 11, 4], ⟨i + 1, G1 k d e i met, by omega, ⟨by simp [G1], fun x => ?_⟩, ?_⟩, ?_⟩
      · rw [qp7 hlt hs]
        by_cases hx : x < 8
        · rw [qy5 hx, hmt]
        · constructor
          · intro h
            simp [mt, G1, List.getD_eq_getElem?_getD, hx] at h
          · intro h
            have : x < k := by
              rcases h with h | h
              · exact q56 hds hes h
              · exact (Ring.mem (qcm hds hes) (qb7 hds hes) ⟨hlt, fun h => hs (.inl h)⟩ h).1
            omega
      · simp only [zL, ↓reduceIte, reduceCtorEq, nE, nA]
        simp only [lpN, if_neg hs]
      · simp only [zL, ↓reduceIte, reduceCtorEq, nE, nA]; omega
  · have hli : ¬ (i : Int) < (k : Int) := by omega
    obtain rfl : i = k := by omega
    simp (maxSteps := 3000000) only [qh, zH, Zw, va, x8, we, wh, bd, g_n, Gj, bn, hli, Int.lt_irrefl, iE, iN, iB, iC, iL, iD, iA, iS, iM, qa, zZ, ↓qq, ↓reduceIte, reduceCtorEq, nA, nM, nS, nE, nL, nD]; try simp only [qa, zY]
    refine Ret.x7 [0, 1, 2, 3] ⟨⟨by simp, rfl, by decide⟩, ?_⟩ (rs := []) rfl rfl (by simp [xl]) ?_ ⟨rfl, ?_⟩
    · simp only [qg _ _ (qd _ _), zK, ↓reduceIte, reduceCtorEq, nE, nB, nA]
    · intro j l h
      match j, h with
      | 0, _ => exact ⟨_, rfl⟩
      | 1, _ => exact ⟨_, rfl⟩
      | 2, h => simp [zo, AO.ren] at h
      | 3, h => simp [zo, AO.ren] at h
      | j + 4, h => simp [zo] at h
    · simp only [qb _ _ (qd _ _), zL, ↓reduceIte, reduceCtorEq, nE, nA]
noncomputable def Us : BE := fun hp xs => match xs with
  | [.ptr b1 0, .ptr b2 0, .fn 171 [] [], .fn 172 [] [.ptr b3 0], .fn 173 [] [.ptr b4 0]] => match rdD hp b1, rdD hp b2, hp[b3]?, hp[b4]? with
    | some (n, d), some (n', e), some (.cells l), some (.cells [.int .i64 k]) => match vi l with
      | some (n2, m) => chk ((n' = n ∧ n2 = n ∧ 0 ≤ n ∧ k = 0) ∧ (isS n.toNat d = true ∧ isS n.toNat e = true) ∧ m = List.replicate 16 0 ∧ b3 ≠ b1 ∧ b4 ≠ b1 ∧ b3 ≠ b2 ∧ b4 ≠ b2 ∧ b4 ≠ b3)
          (some (.tup [], (hp.set b3 (.cells (dia n (xt n.toNat d e)))).set b4 (.cells [.int .i64 (lpN n.toNat d e n.toNat : Nat)])))
      | none => none
    | _, _, _, _ => none
  | _ => none
theorem qrf {hp : List AO} {b N : Nat} {m : List Nat} (h : rdD hp b = some ((N : Int), m)) : okD m ∧ ∀ ρ, Fits hp ρ b 0 (.ro (dia N m)) := by
  unfold rdD at h
  split at h
  · rename_i L hL
    obtain ⟨e1, hok⟩ := zi h
    have hlen : (dia (N : Int) m).length = 17 := by rw [qc, hok.1]
    have hLl : 17 ≤ L.length := by
      have := congrArg List.length e1
      rw [hlen, List.length_take] at this
      omega
    exact ⟨hok, fun ρ => ⟨L, hL, by rw [hlen]; omega, by rw [List.drop_zero, qb _ _ (qd _ _), hlen]; exact e1⟩⟩
  · cases h
theorem qxq : Am.Callee Try.prog 170 Us := Callee.fp fun hp xs v hp' he => by
  unfold Us at he
  split at he
  · rename_i b1 b2 b3 b4
    split at he
    · rename_i n d n' e l k hd1 he1 h3 h4
      split at he
      · rename_i n2 m hm1
        obtain ⟨⟨⟨a1, a2, a3, a4⟩, ⟨a5, a6⟩, a7, a8, a9, a10, a11, a12⟩, he2⟩ := ql he
        simp only [Option.some.injEq, Prod.mk.injEq] at he2
        obtain ⟨rfl, rfl⟩ := he2
        obtain ⟨rfl, hm⟩ := zi hm1
        subst a1; subst a2; subst a4; subst a7
        obtain ⟨N, rfl⟩ : ∃ N : Nat, n2 = N := ⟨n2.toNat, by omega⟩
        simp only [Int.toNat_natCast] at a5 a6 ⊢
        obtain ⟨hd, f1⟩ := qrf hd1
        obtain ⟨he', f2⟩ := qrf he1
        refine ⟨[(b1, 0), (b2, 0), (b3, 0), (b4, 0)], [.ptr 0 0, .ptr 1 0, .fn 171 [] [], .fn 172 [] [.ptr 2 0], .fn 173 [] [.ptr 3 0]], H4 N d e (List.replicate 16 0) 0, _, _, qpf N d e hd he' a5 a6, by simp [AV.ren, AV.zp, ofL], by simp [jo],
          ⟨f1 _, f2 _, ⟨rfl, by rw [h3]; simp only [AO.ren, qb _ _ (qd _ _)]⟩, ⟨rfl, by rw [h4]; simp [AO.ren, AV.zp, AV.ren]⟩, trivial⟩, by simp [Y1, H4, AO.wr, a8, a9, a10, a11, a12], ⟨qk _ _ (qd _ _), qk _ _ (qd _ _), qk _ _ (qd _ _), ⟨trivial, trivial⟩, trivial⟩, by simp [AV.qv, AV.under, H4], by simp [AV.ren, AV.zp], ?_⟩
        simp [after, upd, AO.wr, AO.ren, H4, AV.zp, AV.ren, qb _ _ (qd _ _)]
      · cases he
    · cases he
  · cases he
noncomputable def B84 : zc := (B83.put 170 (Us))
theorem qts : qp Try.prog B84 := (qn5.put (qxq))
theorem qep : B84 171 = some (qj Qe) := rfl
theorem qfg : B84 172 = some (Gj) := rfl
theorem qe2 : B84 173 = some (bd) := rfl
theorem qfm : B84 170 = some (Us) := rfl
def qdg : AT := (.one (oN 14 17 6) (.alt (oL 15 7) (.one (oS 17 4 14) (.one (oM 5 15) (.nil))) (.alt (oS 17 4 14) (.one (oL 15 7) (.one (oM 5 15) (.nil))) (.none))))
def qlp : AC := .seq (.region [o0 2 (.box (.t 0)),o0 3 (.box (.t 1)),oD 4,oI 5 0]) (.seq (.region [oF 8 0 2,oL 9 8,o0 10 (.build [.int .i64 0,.int .u8 0,.int .u8 0,.int .u8 0,.int .u8 0,.int .u8 0,.int .u8 0,.int .u8 0,.int .u8 0,.int .u8 0,.int .u8 0,.int .u8 0,.int .u8 0,.int .u8 0,.int .u8 0,.int .u8 0,.int .u8 0] [(0,1,.t 9)]),oD 6,o0 7 (.alloc [.int .i64 0]),oS 17 6 10,⟨none,none,.op (.Xb (.t 7) (.c (.int .i64 0)))⟩]) (.seq (.region [o0 11 (.qg6 172 [] [.t 6]),o0 12 (.qg6 173 [] [.t 7]),⟨some 13,none,.call (.c (.fn 170 [] [])) [.t 2,.t 3,(.c (.fn 171 [] [])),.t 11,.t 12]⟩]) (.seq (.tree false qdg) .ret)))
theorem qw9 : zl Try.prog 144 = some ⟨16, qlp, [.yn 4 17, .slot 5]⟩ := by kernel_rfl
theorem qxv (N : Nat) (d e : List Nat) (hd : okD d) (he : okD e) (hds : isS N d = true) (hes : isS N e = true) :
    Am.Fn Try.prog 144 [.agg (dia N d), .agg (dia N e)] [] (fun v H' => v = .tup [.agg (dia N (xt N d e)), .int .i64 (lpN N d e N : Nat)] ∧ H' = []) := by
  refine Am.Fn.xf (R := fun v => v = _) qts mixed qw9 (by simp) (by simp) ?_
  obtain ⟨hN, hpd, _⟩ := xk hds
  have hdl := hd.1
  have hel := he.1
  have hdo := qy (n := (N : Int)) hd
  have heo := qy (n := (N : Int)) he
  have hzo := qy (n := (N : Int)) (m := List.replicate 16 0) ⟨by simp, fun y hy => by simp at hy; omega⟩
  have hN0 : (0 : Int) ≤ (N : Int) := by omega
  simp (maxSteps := 3000000) only [qh, zH, qlp, qep, qfg, qe2, qfm, Qe, bd, Us, Gj, rdD, zk, zf, kc, qc, hdl, hel, y7, za, zn qt qt, List.length_replicate, qn hdl, qn hel, hdo, heo, hzo, hds, hes, hN0, Int.toNat_natCast, AV.one, and_self, true_and, and_true, Ne, not_false_iff, not_false_eq_true, Nat.reduceEqDiff, reduceCtorEq, List.all_nil, List.all_cons, List.map_nil, List.map_cons, Bool.and_self, iE, iN, iB, iC, iL, iD, iA, iS, iM, qa, zZ, ↓qq, ↓reduceIte, reduceCtorEq, nA, nM, nS, nE, nL, nD]; try simp only [qa, zY]
  have hp16 : (xt N d e).length = 16 := yb N d e N
  refine WA.qf0 qts (fun s => s = ⟨[(5, .int .i64 (lpN N d e N : Nat)), (4, .ptr 2 0)], [.cells (dia N d), .cells (dia N e), .cells (dia N (xt N d e)), .cells (dia N (xt N d e)), .cells [.int .i64 (lpN N d e N : Nat)]]⟩) ?_ ?_
  · unfold qdg
    simp (maxSteps := 3000000) only [qh, zH, ka, Xa, qc, hp16, qn hp16, za, zn qt hp16, List.length_replicate, Nat.le_refl, AV.one, iE, iN, iB, iC, iL, iD, iA, iS, iM, qa, zZ, ↓qq, ↓reduceIte, reduceCtorEq, nA, nM, nS, nE, nL, nD]; try simp only [qa, zY]
    repeat' (with_reducible refine And.intro ?_ ?_)
    all_goals exact ⟨_, qw.qx [5, 4], rfl⟩
  rintro s rfl
  simp (maxSteps := 3000000) only [qh, zH, qc, hp16, qn hp16, iE, iN, iB, iC, iL, iD, iA, iS, iM, qa, zZ, ↓qq, ↓reduceIte, reduceCtorEq, nA, nM, nS, nE, nL, nD]; try simp only [qa, zY]
  simp only [qd, Bool.and_self]
noncomputable def B85 : zc := (B84.put 144 (qj jq))
theorem qt2 : qp Try.prog B85 := (qts.put (qj8 qxv))
def Bi : AC := .seq (.region [oP 10 .lss 9 8]) (.seq (.cond 10 .skip (.exit 0)) (.seq (.block 1 (.region [oM 11 7,oM 12 0,oP 13 .mul 11 12,oM 14 2,oP 15 .rem 13 14,oM 7 15])) (.region [oK 16 .add 9 1,oM 9 16])))
def qeg : AC := .seq (.region [oM 17 7,oM 6 17]) .ret
def qml : AC := .seq (.region [oI 6 0]) (.seq (.region [oI 7 1]) (.seq (.seq (.region [oM 8 1,oI 9 0]) (.block 0 (.loop Bi))) qeg))
theorem qyi : zl Try.prog 75 = some ⟨18, qml, [.slot 6]⟩ := by kernel_rfl
theorem qwd (p c : Int) (K : Nat) (hp : 2 ≤ p ∧ p ≤ 97) (hc : 0 ≤ c ∧ c ≤ p - 1) (hK : K ≤ 1000000) : Am.Fn Try.prog 75 [.int .i64 c, .int .i64 K, .int .i64 p] [] (fun v H' => v = .int .i64 (xv p c K) ∧ H' = []) := by
  refine Am.Fn.xf (R := fun v => v = _) qt2 mixed qyi (by simp) (by simp) ?_
  have hne : p ≠ 0 := by omega
  simp (maxSteps := 3000000) only [qh, zH, qml, hne, iE, iN, iB, iC, iL, iD, iA, iS, iM, qa, zZ, ↓qq, ↓reduceIte, reduceCtorEq, nA, nM, nS, nE, nL, nD]; try simp only [qa, zY]
  refine WA.xr qt2 (fun s => ∃ j : Nat, j ≤ K ∧ s = ⟨[(9, .int .i64 j), (8, .int .i64 K), (7, .int .i64 (xv p c j)), (0, .int .i64 c), (2, .int .i64 p)], []⟩)
    (fun s => match get s.env 9 with | .int _ x => K - x.toNat | _ => 0) ⟨_, qw.qx [9, 8, 7, 0, 2], 0, by omega, rfl⟩ ?_
  rintro s ⟨j, hj, rfl⟩
  by_cases hlt : j < K
  · have hli : (j : Int) < (K : Int) := by omega
    obtain ⟨m1, m2, m3, m4⟩ := pow_mul hp hc (qvs (c := c) hp.1 j)
    have hw : qo .i64 ((j : Int) + 1) = ((j + 1 : Nat) : Int) := by rw [wrap64 (by omega) (by omega)]; rfl
    have hnext : (xv p c j * c).emod p = xv p c (j + 1) := rfl
    simp (maxSteps := 3000000) only [qh, zH, Bi, hli, m1, m2, hw, hne, hnext, iE, iN, iB, iC, iL, iD, iA, iS, iM, qa, zZ, ↓qq, ↓reduceIte, reduceCtorEq, nA, nM, nS, nE, nL, nD]; try simp only [qa, zY]
    refine ⟨_, qw.qx [9, 8, 7, 0, 2], ⟨j + 1, by omega, ?_⟩, ?_⟩
    · simp only [zL, ↓reduceIte, reduceCtorEq, nE, nA]
    · simp only [zL, ↓reduceIte, reduceCtorEq, nE, nA]; omega
  · have hli : ¬ (j : Int) < (K : Int) := by omega
    obtain rfl : j = K := by omega
    simp (maxSteps := 3000000) only [qh, zH, Bi, qeg, hli, Int.lt_irrefl, iE, iN, iB, iC, iL, iD, iA, iS, iM, qa, zZ, ↓qq, ↓reduceIte, reduceCtorEq, nA, nM, nS, nE, nL, nD]; try simp only [qa, zY]
def Zy : List AV → Option AV
  | [.int .i64 c, .int .i64 k, .int .i64 p] => chk (((2 ≤ p ∧ p ≤ 97) ∧ (0 ≤ c ∧ c ≤ p - 1)) ∧ 0 ≤ k ∧ k ≤ 1000000) (some (.int .i64 (xv p c k.toNat)))
  | _ => none
theorem q5u : Am.Callee Try.prog 75 (qj Zy) := Am.Callee.plain fun xs v he => by
  unfold Zy at he
  split at he
  · rename_i c k p
    obtain ⟨⟨⟨h1, h2⟩, h3⟩, he⟩ := ql he
    cases he
    obtain ⟨K, rfl⟩ : ∃ K : Nat, k = K := ⟨k.toNat, by omega⟩
    rw [Int.toNat_natCast]
    exact ⟨rfl, rfl, qwd p c K h1 h2 (by omega)⟩
  · cases he
noncomputable def B86 : zc := (B85.put 75 (qj Zy))
theorem q8o : qp Try.prog B86 := (qt2.put (q5u))
noncomputable def prT (p c n : Int) (t u : Int × List Nat × Int) : Int × List Nat × Int := (n, xt n.toNat t.2.1 u.2.1, (t.2.2 * u.2.2).emod p * xv p c (lpN n.toNat t.2.1 u.2.1 n.toNat))
noncomputable def vk (p c n : Int) (a b : List (Int × List Nat × Int)) : List (Int × List Nat × Int) := a.flatMap fun t => b.map (prT p c n t)
def MP (p n : Int) (l : List (Int × List Nat × Int)) : List (Int × List Nat × Int) := chP p n id (fun _ => 1) [] l
theorem qxt {p c n : Int} {a b : List (Int × List Nat × Int)} {i : Nat} (h : i < a.length) : vk p c n (a.take (i + 1)) b = vk p c n (a.take i) b ++ b.map (prT p c n a[i]) := by
  rw [List.take_succ_eq_append_getElem h, vk, List.flatMap_append]; simp [vk]
theorem q2b {p c n : Int} {t : Int × List Nat × Int} {b : List (Int × List Nat × Int)} {j : Nat} (h : j < b.length) : (b.take (j + 1)).map (prT p c n t) = (b.take j).map (prT p c n t) ++ [prT p c n t b[j]] := by
  rw [List.take_succ_eq_append_getElem h, List.map_append]; rfl
theorem q14 {p c n : Int} (hp : 2 ≤ p ∧ p ≤ 97) (hc : 0 ≤ c ∧ c ≤ p - 1) {t u : Int × List Nat × Int} (h1 : isS n.toNat t.2.1 = true) (h2 : isS n.toNat u.2.1 = true) (f1 : 1 ≤ t.2.2 ∧ t.2.2 ≤ p - 1) (f2 : 1 ≤ u.2.2 ∧ u.2.2 ≤ p - 1) :
    okD (prT p c n t u).2.1 ∧ isS n.toNat (prT p c n t u).2.1 = true ∧ 0 ≤ (prT p c n t u).2.2 ∧ (prT p c n t u).2.2 ≤ 9216 := by
  have h := qp3 h1 h2
  have hr : 0 ≤ (t.2.2 * u.2.2).emod p ∧ (t.2.2 * u.2.2).emod p ≤ p - 1 := ⟨Int.emod_nonneg _ (by omega), Int.le_sub_one_of_lt (Int.emod_lt_of_pos (t.2.2 * u.2.2) (show 0 < p by omega))⟩
  obtain ⟨_, _, m3, m4⟩ := pow_mul hp (qvs (c := c) hp.1 (lpN n.toNat t.2.1 u.2.1 n.toNat)) hr
  exact ⟨h.2, h.1, m3, m4⟩
theorem qub {p c n : Int} (hp : 2 ≤ p ∧ p ≤ 97) (hc : 0 ≤ c ∧ c ≤ p - 1) {a b : List (Int × List Nat × Int)} (ha : xd p n a) (hb : xd p n b) : qja n 10000 id (fun _ => 1) (vk p c n a b) := fun t ht => by
  obtain ⟨x, hx, ht⟩ := List.mem_flatMap.1 ht
  obtain ⟨u, hu, rfl⟩ := List.mem_map.1 ht
  obtain ⟨h1, h2, h3, h4⟩ := q14 (c := c) hp hc (ha.dia x hx).2 (hb.dia u hu).2 (ha.fac x hx) (hb.fac u hu)
  exact ⟨h1, h2, by show -10000 ≤ (prT p c n x u).2.2 * 1; omega, by show (prT p c n x u).2.2 * 1 ≤ 10000; omega⟩
theorem q19 {p c n : Int} {a b : List (Int × List Nat × Int)} {i j : Nat} (hi : i < a.length) {t : Int × List Nat × Int} (ht : t ∈ vk p c n (a.take i) b ++ (b.take j).map (prT p c n a[i])) : t ∈ vk p c n a b := by
  rcases List.mem_append.1 ht with h | h
  · obtain ⟨x, hx, h⟩ := List.mem_flatMap.1 h
    exact List.mem_flatMap.2 ⟨x, List.mem_of_mem_take hx, h⟩
  · obtain ⟨u, hu, rfl⟩ := List.mem_map.1 h
    exact List.mem_flatMap.2 ⟨_, List.getElem_mem hi, List.mem_map.2 ⟨u, List.mem_of_mem_take hu, rfl⟩⟩
theorem qi5 {p c n : Int} {a b : List (Int × List Nat × Int)} : (vk p c n a b).length = a.length * b.length := by
  induction a with
  | nil => simp [vk]
  | cons x a ih =>
    have : vk p c n (x :: a) b = b.map (prT p c n x) ++ vk p c n a b := rfl
    rw [this, List.length_append, List.length_map, ih, List.length_cons, Nat.add_mul]; omega
noncomputable def qi6 : BE := fun hp xs => match xs with
  | [.agg [.int .i64 p, .int .i64 c, .int .i64 n, .slc b 0 la false 0], .agg [.int .i64 p', .int .i64 c', .int .i64 n', .slc b' 0 lb false 0]] => match rd hp b, rd hp b' with
    | some L, some L' => match qa3 la L, qa3 lb L' with
      | some ta, some tb => chk ((((2 ≤ p ∧ p ≤ 97) ∧ (0 ≤ c ∧ c ≤ p - 1) ∧ (0 ≤ n ∧ n ≤ 8) ∧ n' = n) ∧ Ux p n ta ∧ Ux p n tb) ∧ (ta.length ≤ 300 ∧ tb.length ≤ 300)) (some (elemV p c n hp.length (MP p n (vk p c n ta tb)).length, hp ++ [.vec 18 (xc (MP p n (vk p c n ta tb)))]))
      | _, _ => none
    | _, _ => none
  | _ => none
theorem qyr {f : FuncId} (hf : ∀ (p c n p' c' : Int) (a b : List (Int × List Nat × Int)), 2 ≤ p ∧ p ≤ 97 → 0 ≤ c ∧ c ≤ p - 1 → 0 ≤ n ∧ n ≤ 8 → xd p n a → xd p n b → a.length ≤ 300 ∧ b.length ≤ 300 →
    Am.Fn Try.prog f [elemV p c n 0 a.length, elemV p' c' n 1 b.length] [.ro (xc a), .ro (xc b)] (fun v H' => v = elemV p c n 2 (MP p n (vk p c n a b)).length ∧ H' = [.ro (xc a), .ro (xc b), .vec 18 (xc (MP p n (vk p c n a b)))])) : Am.Callee Try.prog f qi6 := Callee.fp fun hp xs v hp' he => by
  unfold qi6 at he
  split at he
  · rename_i p c n b la p' c' n' b' lb
    split at he
    · rename_i L L' hL hL'
      split at he
      · rename_i ta tb h1 h1'
        obtain ⟨⟨⟨⟨a1, a0, a2, a3⟩, a4, a5⟩, a6⟩, he2⟩ := ql he
        simp only [Option.some.injEq, Prod.mk.injEq] at he2
        obtain ⟨rfl, rfl⟩ := he2
        obtain ⟨e1, e2, e3, e4⟩ := kz h1
        obtain ⟨f1, f2, f3, f4⟩ := kz h1'
        have g1 := xe e2
        have g2 := xe f2
        subst a3
        refine ⟨[(b, 0), (b', 0)], [elemV p c n' 0 ta.length, elemV p' c' n' 1 tb.length], _, _, _, hf p c n' p' c' ta tb a1 a0 a2 (a4.qg8 e2) (a5.qg8 f2) a6, by simp [elemV, AV.ren, AV.zp, ofL, e1, f1], rfl,
          ⟨⟨L, hL, by omega, by rw [List.drop_zero, qb _ _ (qe _), g1, e1]; exact e3⟩, ⟨L', hL', by omega, by rw [List.drop_zero, qb _ _ (qe _), g2, f1]; exact f3⟩, trivial⟩, rfl,
          ⟨qk _ _ (qe _), qk _ _ (qe _), trivial⟩, ⟨⟨trivial, trivial, trivial, by simp [AV.under], trivial⟩, ⟨trivial, trivial, trivial, by simp [AV.under], trivial⟩, trivial⟩, by simp [elemV, AV.ren, AV.zp, Ren.ext], ?_⟩
        simp [after, upd, AO.wr, AO.ren, qb _ _ (qe _)]
      · cases he
    · cases he
  · cases he
noncomputable def B87 : zc := B86
theorem qod : qp Try.prog B87 := q8o
def Bl (n : Int) (m : List Nat) (S : List (Int × List Nat × Int)) : Int := match Zq n m S with
  | none => 0
  | some j => (S.getD j zT).2.2
def qa7 (n : Int) (m : List Nat) (v : Int) (S : List (Int × List Nat × Int)) : List (Int × List Nat × Int) := match Zq n m S with
  | none => S ++ [(n, m, v)]
  | some j => S.set j (n, m, v)
theorem qpq {n v : Int} {m : List Nat} {S : List (Int × List Nat × Int)} : qa7 n m v S = kx n m (v - Bl n m S) S := by
  unfold qa7 Bl
  cases h : Zq n m S with
  | none => simp only [(qfl h).1, Int.sub_zero]
  | some j =>
    simp only [(Bo h).2.2.2]
    rw [show (S.getD j zT).2.2 + (v - (S.getD j zT).2.2) = v by omega]
theorem G5 {n v : Int} {m : List Nat} {S : List (Int × List Nat × Int)} {u : Int × List Nat × Int} (h : u ∈ qa7 n m v S) : u ∈ S ∨ u = (n, m, v) := by
  unfold qa7 at h
  split at h
  · rcases List.mem_append.1 h with h | h
    · exact .inl h
    · exact .inr (List.mem_singleton.1 h)
  · exact List.mem_or_eq_of_mem_set h
theorem qyt {n v : Int} {m : List Nat} {S : List (Int × List Nat × Int)} : (qa7 n m v S).length ≤ S.length + 1 := by
  unfold qa7
  split <;> simp
def qnh (p n : Int) (S : List (Int × List Nat × Int)) : Prop := qa6 n 10000 S ∧ ∀ t ∈ S, 0 ≤ t.2.2 ∧ t.2.2 ≤ p - 1
theorem q4e {p n : Int} (hp : 0 < p) {m : List Nat} {S : List (Int × List Nat × Int)} (h : qnh p n S) : 0 ≤ Bl n m S ∧ Bl n m S ≤ p - 1 := by
  unfold Bl
  cases e : Zq n m S with
  | none => exact ⟨Int.le_refl 0, by show (0 : Int) ≤ p - 1; omega⟩
  | some j => exact h.2 _ (by rw [qaw (Bo e).1]; exact List.getElem_mem _)
theorem q0g {p n v : Int} {m : List Nat} {S : List (Int × List Nat × Int)} (hp : p ≤ 97) (h : qnh p n S) (hm : okD m) (hs : isS n.toNat m = true) (hv : 0 ≤ v ∧ v ≤ p - 1) : qnh p n (qa7 n m v S) := by
  have hone := qh5 (n := n) (f := v - Bl n m S) (m := m) (ts := S) (fun t ht => (h.1.dia t ht).1) h.1.one
  rw [← qpq] at hone
  refine ⟨⟨fun t ht => ?_, fun t ht => ?_, fun t ht => ?_, hone⟩, fun t ht => ?_⟩
  · rcases G5 ht with h1 | rfl
    · exact h.1.ok t h1
    · exact hm
  · rcases G5 ht with h1 | rfl
    · exact h.1.dia t h1
    · exact ⟨rfl, hs⟩
  · rcases G5 ht with h1 | rfl
    · exact h.1.fac t h1
    · exact ⟨by show -10000 ≤ v; omega, by show v ≤ 10000; omega⟩
  · rcases G5 ht with h1 | rfl
    · exact h.2 t h1
    · exact hv
def qeu (p n : Int) (m : List Nat) (f : Int) (S : List (Int × List Nat × Int)) : List (Int × List Nat × Int) := qa7 n m ((Bl n m S + f).emod p) S
def ML (p n : Int) (l : List (Int × List Nat × Int)) : List (Int × List Nat × Int) := l.foldl (fun S t => qeu p n t.2.1 t.2.2 S) []
theorem q5z {p n : Int} {l : List (Int × List Nat × Int)} {t : Int × List Nat × Int} : ML p n (l ++ [t]) = qeu p n t.2.1 t.2.2 (ML p n l) := by
  unfold ML; rw [List.foldl_append]; rfl
theorem qy4 {p n f : Int} {m : List Nat} {S : List (Int × List Nat × Int)} (hp : 0 < p ∧ p ≤ 97) (h : qnh p n S) (hm : okD m) (hs : isS n.toNat m = true) : qnh p n (qeu p n m f S) :=
  q0g hp.2 h hm hs ⟨Int.emod_nonneg _ (by omega), Int.le_sub_one_of_lt (Int.emod_lt_of_pos _ hp.1)⟩
theorem qji {p n : Int} (hp : 0 < p ∧ p ≤ 97) : ∀ {l acc : List (Int × List Nat × Int)}, qnh p n acc → (∀ t ∈ l, okD t.2.1 ∧ isS n.toNat t.2.1 = true) → qnh p n (l.foldl (fun S t => qeu p n t.2.1 t.2.2 S) acc) ∧ (l.foldl (fun S t => qeu p n t.2.1 t.2.2 S) acc).length ≤ acc.length + l.length
  | [], acc, h, _ => ⟨h, by simp⟩
  | t :: l, acc, h, hl => by
    have h1 := hl t (List.mem_cons_self ..)
    have := qji hp (l := l) (qy4 (f := t.2.2) hp h h1.1 h1.2) fun u hu => hl u (List.mem_cons_of_mem _ hu)
    have h2 : (qeu p n t.2.1 t.2.2 acc).length ≤ acc.length + 1 := qyt
    refine ⟨this.1, ?_⟩
    have h3 := this.2
    rw [List.foldl_cons, List.length_cons]; omega
theorem q30 {p n f : Int} {m m' : List Nat} {S : List (Int × List Nat × Int)} (h : ∀ t ∈ S, t.1 = n) : p ∣ cf m (qeu p n m' f S) - (cf m S + if m' = m then f else 0) := by
  unfold qeu
  rw [qpq, qhp h]
  by_cases e : m' = m
  · rw [if_pos e, if_pos e]
    have := Qv p (Bl n m' S + f)
    refine br this (Int.dvd_zero p) ?_
    omega
  · rw [if_neg e, if_neg e]
    refine br (Int.dvd_zero p) (Int.dvd_zero p) ?_
    omega
theorem q5k {p n f : Int} {m : List Nat} {S : List (Int × List Nat × Int)} (h : ∀ t ∈ S, t.1 = n) : ∀ t ∈ qeu p n m f S, t.1 = n := fun t ht => by
  rcases G5 ht with h1 | rfl
  · exact h t h1
  · rfl
theorem quw {p n : Int} {m : List Nat} : ∀ {l acc : List (Int × List Nat × Int)}, (∀ t ∈ acc, t.1 = n) → p ∣ cf m (l.foldl (fun S t => qeu p n t.2.1 t.2.2 S) acc) - (cf m acc + Js id (fun _ => 1) m l)
  | [], acc, h => by simp [Js]
  | t :: l, acc, h => by
    have ih := quw (p := p) (m := m) (l := l) (q5k (p := p) (m := t.2.1) (f := t.2.2) h)
    have h1 := q30 (p := p) (f := t.2.2) (m := m) (m' := t.2.1) h
    rw [List.foldl_cons]
    refine br ih h1 ?_
    simp only [Js, id, Int.mul_one]
    omega
theorem q40 {p n : Int} {l : List (Int × List Nat × Int)} (hp : 0 < p ∧ p ≤ 97) (h : qja n 10000 id (fun _ => 1) l) : Q7 (zw p (ML p n l)) = MP p n l := by
  have h0 : xd p n [] := ⟨(fun t h => by cases h), (fun t h => by cases h), (fun t h => by cases h), .nil⟩
  have hs := (qji (p := p) (n := n) hp (l := l) (acc := []) ⟨⟨(fun t h => by cases h), (fun t h => by cases h), (fun t h => by cases h), .nil⟩, fun t h => by cases h⟩ fun t ht => ⟨(h t ht).1, (h t ht).2.1⟩).1
  refine Ki hp.1 (qip hp.1 hs.1) (G7 hp.1 h0 h).1 fun m => ?_
  have h1 := quw (p := p) (n := n) (m := m) (acc := []) (l := l) (by simp)
  have h2 := qix (p := p) (n := n) (φ := id) (κ := fun _ => 1) (m := m) (acc := []) (a := l) (by simp)
  have h3 := qn3 (p := p) (m := m) (S := ML p n l)
  have h4 := br h3 h1 (z := cf m (Q7 (zw p (ML p n l))) - (cf m [] + Js id (fun _ => 1) m l)) (by unfold ML; omega)
  exact Ys h4 h2 (by unfold MP; omega)
theorem quq {n : Int} {m : List Nat} {S : List (Int × List Nat × Int)} (hm : m.length = 16) (ho : okT S) (h : Zq n m S = none) (v : Int) :
    wx KD true (.agg (dia n m)) (esT 0 S) 0 = some none ∧ Bl n m S = 0 ∧ (AO.map (esT 0 S ++ [(⟨.agg (dia n m), .int .i64 v, S.length⟩ : AE)]) (S.length + 1)) = j7 (qa7 n m v S) := by
  refine ⟨by rw [Uh hm ho, h]; rfl, by unfold Bl; rw [h], ?_⟩
  have e : qa7 n m v S = S ++ [(n, m, v)] := by unfold qa7; rw [h]
  rw [e]
  show _ = AO.map (esT 0 (S ++ [(n, m, v)])) (S ++ [(n, m, v)]).length
  rw [qoc]; simp [esT]
theorem qtp {n : Int} {m : List Nat} {S : List (Int × List Nat × Int)} {j : Nat} (hm : m.length = 16) (ho : okT S) (h : Zq n m S = some j) (v : Int) :
    wx KD true (.agg (dia n m)) (esT 0 S) 0 = some (some (j, ⟨.agg (dia n m), .int .i64 (Bl n m S), j⟩)) ∧ (AO.map ((esT 0 S).set j ⟨.agg (dia n m), .int .i64 v, j⟩) S.length) = j7 (qa7 n m v S) := by
  have e1 : Bl n m S = (S.getD j zT).2.2 := by unfold Bl; rw [h]
  refine ⟨by rw [Uh hm ho, h, e1]; simp, ?_⟩
  have e : qa7 n m v S = S.set j (n, m, v) := by unfold qa7; rw [h]
  rw [e]
  show _ = AO.map (esT 0 (S.set j (n, m, v))) (S.set j (n, m, v)).length
  have := qnm (n := n) (v := v) (m := m) (ts := S) (k := 0) (j := j)
  rw [Nat.zero_add] at this
  rw [this]; simp
theorem qyx {p c n : Int} (hp : 2 ≤ p ∧ p ≤ 97) (hc : 0 ≤ c ∧ c ≤ p - 1) {a b : List (Int × List Nat × Int)} (ha : xd p n a) (hb : xd p n b) (hl : a.length ≤ 300 ∧ b.length ≤ 300) {l : List (Int × List Nat × Int)} (h : ∀ t ∈ l, t ∈ vk p c n a b) (hl : l.length ≤ 100000) :
    qnh p n (ML p n l) ∧ (ML p n l).length ≤ 100000 := by
  have hm := qub (c := c) hp hc ha hb
  have h1 := qji (p := p) (n := n) (by omega) (l := l) (acc := []) ⟨⟨(fun t h => by cases h), (fun t h => by cases h), (fun t h => by cases h), .nil⟩, fun t h => by cases h⟩ fun t ht => ⟨(hm t (h t ht)).1, (hm t (h t ht)).2.1⟩
  exact ⟨h1.1, Nat.le_trans h1.2 (by simpa using hl)⟩
theorem x9 : B87 105 = some (j6) := rfl
theorem uj : B87 75 = some (qj Zy) := rfl
theorem yy : B87 144 = some (qj jq) := rfl
def gi : AC := .seq (.region [oP 24 .lss 23 22]) (.seq (.cond 24 .skip (.exit 2)) (.seq (.block 3 (.seq (.region [oX 25 18 21 23,oN 26 18 25,o0 9 (.alloc [.int .i64 0,.int .u8 0,.int .u8 0,.int .u8 0,.int .u8 0,.int .u8 0,.int .u8 0,.int .u8 0,.int .u8 0,.int .u8 0,.int .u8 0,.int .u8 0,.int .u8 0,.int .u8 0,.int .u8 0,.int .u8 0,.int .u8 0,.int .i64 0]),oS 18 9 26]) (.seq (.region [oF 28 0 7,oN 29 17 28,oF 30 0 9,oN 31 17 30,oC 32 144 [.t 29,.t 31],oM 27 32,oE 33 0 27,oE 34 1 27,oD 10,oS 17 10 33,oM 11 34]) (.draw true [oM 35 5,oN 36 17 10,oM 37 5,oN 38 17 10,o0 39 (.lookup [.int,.int,.int,.int,.int,.int,.int,.int,.int,.int,.int,.int,.int,.int,.int,.int,.int] true (.int .i64 0) false (.t 37) (.t 38)),oF 40 17 7,oL 41 40,oF 42 17 9,oL 43 42,oP 44 .mul 41 43,oF 45 0 2,oL 46 45,oP 47 .rem 44 46,oF 48 1 2,oL 49 48,oM 50 11,oF 51 0 2,oL 52 51,oF 56 0 2,oL 57 56,oC 53 75 [.t 49,.t 50,.t 52],oP 54 .mul 47 53,oP 55 .add 39 54,oP 58 .rem 55 57,⟨none,none,.op (.K2 [.int,.int,.int,.int,.int,.int,.int,.int,.int,.int,.int,.int,.int,.int,.int,.int,.int] true (.t 35) (.t 36) (.t 58))⟩])))) (.region [oK 59 .add 23 1,oM 23 59])))
def Yl : AC := .region [oK 60 .add 16 1,oM 16 60]
def Xl : AC := .seq (.region [oP 17 .lss 16 15]) (.seq (.cond 17 .skip (.exit 0)) (.seq (.block 1 (.seq (.region [oX 18 18 14 16,oN 19 18 18,o0 7 (.alloc [.int .i64 0,.int .u8 0,.int .u8 0,.int .u8 0,.int .u8 0,.int .u8 0,.int .u8 0,.int .u8 0,.int .u8 0,.int .u8 0,.int .u8 0,.int .u8 0,.int .u8 0,.int .u8 0,.int .u8 0,.int .u8 0,.int .u8 0,.int .i64 0]),oS 18 7 19]) (.seq (.region [oF 20 3 3,oL 21 20,o0 22 (.len .slc (.t 21)),oI 23 0]) (.block 2 (.loop gi))))) Yl))
def W1 : AC := .seq (.region [oM 61 5,oC 62 105 [.t 2,.t 61],oS 4 4 62]) .ret
def Kz : AC := .seq (.region [o0 2 (.box (.t 0)),o0 3 (.box (.t 1)),oZ 4]) (.seq (.region [o0 12 (.K1),oM 5 12]) (.seq (.seq (.region [oF 13 3 2,oL 14 13,o0 15 (.len .slc (.t 14)),oI 16 0]) (.block 0 (.loop Xl))) W1))
theorem qjq : zl Try.prog 90 = some ⟨63, Kz, [.yn 4 4]⟩ := by kernel_rfl
theorem qid (p c n p' c' : Int) (a b : List (Int × List Nat × Int)) (hp : 2 ≤ p ∧ p ≤ 97) (hc : 0 ≤ c ∧ c ≤ p - 1) (hn : 0 ≤ n ∧ n ≤ 8) (ha : xd p n a) (hb : xd p n b) (hl : a.length ≤ 300 ∧ b.length ≤ 300) :
    Am.Fn Try.prog 90 [elemV p c n 0 a.length, elemV p' c' n 1 b.length] [.ro (xc a), .ro (xc b)] (fun v H' => v = elemV p c n 2 (MP p n (vk p c n a b)).length ∧ H' = [.ro (xc a), .ro (xc b), .vec 18 (xc (MP p n (vk p c n a b)))]) := by
  refine Am.Fn.ofB qod mixed qjq (by simp [elemV, AV.qv, AV.under]) (qax (qe _) (qe _)) ?_
  have hal := xe ha.ok
  have hbl := xe hb.ok
  simp (maxSteps := 3000000) only [qh, zH, Kz, x9, uj, yy, Zy, jq, j6, elemV, hal, hbl, Nat.le_refl, iE, iN, iB, iC, iL, iD, iA, iS, iM, qa, zZ, ↓qq, ↓reduceIte, reduceCtorEq, nA, nM, nS, nE, nL, nD]; try simp only [qa, zY]
  have hlen2 : ∀ l : List (Int × List Nat × Int), (∀ t ∈ l, t ∈ vk p c n a b) → l.length ≤ 100000 → qnh p n (ML p n l) ∧ (ML p n l).length ≤ 100000 := fun l h1 h2 => qyx (c := c) hp hc ha hb hl h1 h2
  refine WA.xr qod (fun s => ∃ (i : Nat) (S : List (Int × List Nat × Int)), i ≤ a.length ∧ S = ML p n (vk p c n (a.take i) b) ∧ s = ⟨[(16, .int .i64 i), (15, .int .i64 a.length), (14, .slc 0 0 a.length false 0), (5, .map 5), (4, .ptr 4 0), (3, .ptr 3 0), (2, .ptr 2 0)], [.ro (xc a), .ro (xc b), .cells [.int .i64 p, .int .i64 c, .int .i64 n, .slc 0 0 a.length false 0], .cells [.int .i64 p', .int .i64 c', .int .i64 n, .slc 1 0 b.length false 0], q79, j7 S]⟩)
    (fun s => match get s.env 16 with | .int _ x => a.length - x.toNat | _ => 0) ⟨_, qw.qx [16, 15, 14, 5, 4, 3, 2], 0, [], by omega, rfl, rfl⟩ ?_
  rintro s ⟨i, S, hi, hS, rfl⟩
  have hwi : qo .i64 ((i : Int) + 1) = ((i + 1 : Nat) : Int) := by rw [wrap64 (by omega) (by omega)]; rfl
  by_cases hlt : i < a.length
  · have hli : (i : Int) < a.length := by omega
    have hli' : (0 : Int) ≤ i := by omega
    have hg0 := Zr ha.ok hlt
    have ok1 := ha.ok _ (List.getElem_mem hlt)
    have z1 := ha.dia _ (List.getElem_mem hlt)
    have c1 := ha.fac _ (List.getElem_mem hlt)
    have hb1 : i * 18 < a.length * 18 := by omega
    have hb2 : i * 18 + 18 ≤ a.length * 18 := by omega
    have hov := Jt (t := (0, List.replicate 16 0, 0)) (u := a[i]) (by simp) ok1.1
    have htl := x6 (t := a[i]) ok1
    have htd := Uk (t := a[i]) ok1
    have htf := Qx (t := a[i]) ok1
    rw [z1.1] at htd
    have hmem : ∀ j, ∀ t ∈ vk p c n (a.take i) b ++ (b.take j).map (prT p c n a[i]), t ∈ vk p c n a b := fun j t ht => q19 hlt ht
    have hmln : ∀ j, (vk p c n (a.take i) b ++ (b.take j).map (prT p c n a[i])).length ≤ 100000 := fun j => by
      rw [List.length_append, qi5, List.length_map, List.length_take, List.length_take]
      have h1 : (min i a.length) * b.length ≤ 300 * 300 := Nat.mul_le_mul (by omega) hl.2
      omega
    have hms : vk p c n (a.take (i + 1)) b = vk p c n (a.take i) b ++ b.map (prT p c n a[i]) := qxt hlt
    have hnx : ∀ j (h : j < b.length), (b.take (j + 1)).map (prT p c n a[i]) = (b.take j).map (prT p c n a[i]) ++ [prT p c n a[i] b[j]] := fun j h => q2b h
    obtain ⟨t, ht⟩ : ∃ t, t = a[i] := ⟨_, rfl⟩
    rw [← ht] at hg0 ok1 z1 c1 hov htl htd htf hms
    simp only [← ht] at hmem hmln hnx
    clear ht
    simp (maxSteps := 3000000) only [qh, zH, Xl, x9, uj, yy, Zy, jq, j6, hli, hli', hal, hbl, hb1, hb2, hg0, Qm, htl, Qh, vb, hov, List.length_replicate, Nat.le_refl, iE, iN, iB, iC, iL, iD, iA, iS, iM, qa, zZ, ↓qq, ↓reduceIte, reduceCtorEq, nA, nM, nS, nE, nL, nD]; try simp only [qa, zY]
    have ea : vk p c n (a.take i) b = vk p c n (a.take i) b ++ (b.take 0).map (prT p c n t) := by simp
    rw [ea] at hS
    refine WA.xr qod (fun s => ∃ (j : Nat) (S : List (Int × List Nat × Int)), j ≤ b.length ∧ S = ML p n (vk p c n (a.take i) b ++ (b.take j).map (prT p c n t)) ∧ s = ⟨[(23, .int .i64 j), (22, .int .i64 b.length), (21, .slc 1 0 b.length false 0), (7, .ptr 6 0), (16, .int .i64 i), (15, .int .i64 a.length), (14, .slc 0 0 a.length false 0), (5, .map 5), (4, .ptr 4 0), (3, .ptr 3 0), (2, .ptr 2 0)], [.ro (xc a), .ro (xc b), .cells [.int .i64 p, .int .i64 c, .int .i64 n, .slc 0 0 a.length false 0], .cells [.int .i64 p', .int .i64 c', .int .i64 n, .slc 1 0 b.length false 0], q79, j7 S, .cells (trm t)]⟩)
      (fun s => match get s.env 23 with | .int _ x => b.length - x.toNat | _ => 0) ⟨_, qw.qx [23, 22, 21, 7, 16, 15, 14, 5, 4, 3, 2], 0, S, by omega, hS, rfl⟩ ?_
    clear hS
    rintro s ⟨j, S, hj, hS, rfl⟩
    by_cases hltj : j < b.length
    · obtain ⟨hs, hsl⟩ := hlen2 _ (hmem j) (hmln j)
      rw [← hS] at hs hsl
      have hlj : (j : Int) < b.length := by omega
      have hlj' : (0 : Int) ≤ j := by omega
      have hw : qo .i64 ((j : Int) + 1) = ((j + 1 : Nat) : Int) := by rw [wrap64 (by omega) (by omega)]; rfl
      have hq0 := Zr hb.ok hltj
      have ok2 := hb.ok _ (List.getElem_mem hltj)
      have z2 := hb.dia _ (List.getElem_mem hltj)
      have c2 := hb.fac _ (List.getElem_mem hltj)
      have hb4 : j * 18 < b.length * 18 := by omega
      have hb5 : j * 18 + 18 ≤ b.length * 18 := by omega
      have hov2 := Jt (t := (0, List.replicate 16 0, 0)) (u := b[j]) (by simp) ok2.1
      have htl2 := x6 (t := b[j]) ok2
      have htd2 := Uk (t := b[j]) ok2
      have htf2 := Qx (t := b[j]) ok2
      rw [z2.1] at htd2
      obtain ⟨t1, t2, t3, t4⟩ := q14 (c := c) hp hc z1.2 z2.2 c1 c2
      have hnext : ML p n (vk p c n (a.take i) b ++ (b.take (j + 1)).map (prT p c n t)) = qeu p n (prT p c n t b[j]).2.1 (prT p c n t b[j]).2.2 S := by
        rw [hnx j hltj, ← List.append_assoc, q5z, ← hS]
      obtain ⟨u, hu⟩ : ∃ u, u = b[j] := ⟨_, rfl⟩
      rw [← hu] at hq0 ok2 z2 c2 hov2 htl2 htd2 htf2 t1 t2 t3 t4 hnext
      clear hu
      have s1 := z1.2
      have s2 := z2.2
      have hprd : (prT p c n t u).2.1 = xt n.toNat t.2.1 u.2.1 := rfl
      have hprf : (prT p c n t u).2.2 = (t.2.2 * u.2.2).emod p * xv p c (lpN n.toNat t.2.1 u.2.1 n.toNat) := rfl
      rw [hprd, hprf] at hnext
      rw [hprd] at t1 t2
      rw [hprf] at t3 t4
      have hlpb : (0 : Int) ≤ ((lpN n.toNat t.2.1 u.2.1 n.toNat : Nat) : Int) ∧ ((lpN n.toNat t.2.1 u.2.1 n.toNat : Nat) : Int) ≤ 1000000 := by
        have := qil n.toNat t.2.1 u.2.1 n.toNat; omega
      obtain ⟨w1, w2, w3, w4⟩ := pow_mul (p := p) (c := u.2.2) (x := t.2.2) hp (by omega) (by omega)
      have w5 : qo .i64 ((t.2.2 * u.2.2).emod p * xv p c (lpN n.toNat t.2.1 u.2.1 n.toNat)) = (t.2.2 * u.2.2).emod p * xv p c (lpN n.toNat t.2.1 u.2.1 n.toNat) := wrap64 (by omega) (by omega)
      have hne : p ≠ 0 := by omega
      have hn0 : 0 ≤ n := hn.1
      have t0 := t1.1
      have hvb := q4e (by omega) hs (m := xt n.toNat t.2.1 u.2.1)
      have hkok : kok KD true (.agg (dia n (xt n.toNat t.2.1 u.2.1))) = true := qc0 t0
      have hmT : j7 S = .map (esT 0 S) S.length := rfl
      have do1 := qy (n := n) ok1
      have do2 := qy (n := n) ok2
      clear hprd hprf
      cases hix : Zq n (xt n.toNat t.2.1 u.2.1) S with
      | none =>
        obtain ⟨f1, f2, f3⟩ := quq t0 hs.1.ok hix ((0 + (t.2.2 * u.2.2).emod p * xv p c (lpN n.toNat t.2.1 u.2.1 n.toNat)).emod p)
        have w6 : qo .i64 (0 + (t.2.2 * u.2.2).emod p * xv p c (lpN n.toNat t.2.1 u.2.1 n.toNat)) = 0 + (t.2.2 * u.2.2).emod p * xv p c (lpN n.toNat t.2.1 u.2.1 n.toNat) := wrap64 (by omega) (by omega)
        have w7 : Int.tmod (0 + (t.2.2 * u.2.2).emod p * xv p c (lpN n.toNat t.2.1 u.2.1 n.toNat)) p = (0 + (t.2.2 * u.2.2).emod p * xv p c (lpN n.toNat t.2.1 u.2.1 n.toNat)).emod p := Int.tmod_eq_emod_of_nonneg (by omega)
        simp (maxSteps := 3000000) only [qh, zH, gi, x9, uj, yy, Zy, jq, j6, hlj, hlj', hal, hbl, hb4, hb5, hq0, Qm, htl, htl2, htd, htd2, htf, htf2, Qh, vb, hov2, zk, zf, j4 t0, qn t0, qc, t0, za, List.length_replicate, Nat.le_refl, do1, do2, s1, s2, hn0, w1, w2, w5, w6, w7, hne, hp, hc, hlpb, Int.toNat_natCast, hmT, hkok, f1, jo, hw, and_self, iE, iN, iB, iC, iL, iD, iA, iS, iM, qa, zZ, ↓qq, ↓reduceIte, reduceCtorEq, nA, nM, nS, nE, nL, nD]; try simp only [qa, zY]
        rw [f3]
        refine ⟨⟨_, rfl⟩, _, qw.x7 [0, 1, 2, 3, 4, 5, 6] [23, 22, 21, 7, 16, 15, 14, 5, 4, 3, 2] ⟨by decide, ?_⟩ ?_, ⟨j + 1, qa7 n (xt n.toNat t.2.1 u.2.1) ((0 + (t.2.2 * u.2.2).emod p * xv p c (lpN n.toNat t.2.1 u.2.1 n.toNat)).emod p) S, by omega, by rw [hnext, qeu, f2], ?_⟩, ?_⟩
        · simp only [qg _ _ (qe _), qg _ _ (Q9 _), j7, ↓zb, zK, ↓reduceIte, reduceCtorEq, nE, nB, nA]
        · simp only [qg _ _ (qe _), qg _ _ (Q9 _), j7, ↓zb, zK, ↓reduceIte, reduceCtorEq, nE, nB, nA]
        · simp only [qb _ _ (qe _), qb _ _ (Q9 _), j7, ↓vm, zL, ↓reduceIte, reduceCtorEq, nE, nA]
        · simp only [zL, ↓reduceIte, reduceCtorEq, nE, nA]; omega
      | some q =>
        obtain ⟨f1, f3⟩ := qtp t0 hs.1.ok hix ((Bl n (xt n.toNat t.2.1 u.2.1) S + (t.2.2 * u.2.2).emod p * xv p c (lpN n.toNat t.2.1 u.2.1 n.toNat)).emod p)
        have w6 : qo .i64 (Bl n (xt n.toNat t.2.1 u.2.1) S + (t.2.2 * u.2.2).emod p * xv p c (lpN n.toNat t.2.1 u.2.1 n.toNat)) = Bl n (xt n.toNat t.2.1 u.2.1) S + (t.2.2 * u.2.2).emod p * xv p c (lpN n.toNat t.2.1 u.2.1 n.toNat) := wrap64 (by omega) (by omega)
        have w7 : Int.tmod (Bl n (xt n.toNat t.2.1 u.2.1) S + (t.2.2 * u.2.2).emod p * xv p c (lpN n.toNat t.2.1 u.2.1 n.toNat)) p = (Bl n (xt n.toNat t.2.1 u.2.1) S + (t.2.2 * u.2.2).emod p * xv p c (lpN n.toNat t.2.1 u.2.1 n.toNat)).emod p := Int.tmod_eq_emod_of_nonneg (by omega)
        simp (maxSteps := 3000000) only [qh, zH, gi, x9, uj, yy, Zy, jq, j6, hlj, hlj', hal, hbl, hb4, hb5, hq0, Qm, htl, htl2, htd, htd2, htf, htf2, Qh, vb, hov2, zk, zf, j4 t0, qn t0, qc, t0, za, List.length_replicate, Nat.le_refl, do1, do2, s1, s2, hn0, w1, w2, w5, w6, w7, hne, hp, hc, hlpb, Int.toNat_natCast, hmT, hkok, f1, jo, hw, and_self, iE, iN, iB, iC, iL, iD, iA, iS, iM, qa, zZ, ↓qq, ↓reduceIte, reduceCtorEq, nA, nM, nS, nE, nL, nD]; try simp only [qa, zY]
        rw [f3]
        refine ⟨⟨_, rfl⟩, _, qw.x7 [0, 1, 2, 3, 4, 5, 6] [23, 22, 21, 7, 16, 15, 14, 5, 4, 3, 2] ⟨by decide, ?_⟩ ?_, ⟨j + 1, qa7 n (xt n.toNat t.2.1 u.2.1) ((Bl n (xt n.toNat t.2.1 u.2.1) S + (t.2.2 * u.2.2).emod p * xv p c (lpN n.toNat t.2.1 u.2.1 n.toNat)).emod p) S, by omega, by rw [hnext, qeu], ?_⟩, ?_⟩
        · simp only [qg _ _ (qe _), qg _ _ (Q9 _), j7, ↓zb, zK, ↓reduceIte, reduceCtorEq, nE, nB, nA]
        · simp only [qg _ _ (qe _), qg _ _ (Q9 _), j7, ↓zb, zK, ↓reduceIte, reduceCtorEq, nE, nB, nA]
        · simp only [qb _ _ (qe _), qb _ _ (Q9 _), j7, ↓vm, zL, ↓reduceIte, reduceCtorEq, nE, nA]
        · simp only [zL, ↓reduceIte, reduceCtorEq, nE, nA]; omega
    · have hlj : ¬ ((j : Int) < b.length) := by omega
      obtain rfl : j = b.length := by omega
      simp (maxSteps := 3000000) only [qh, zH, gi, Yl, x9, uj, yy, Zy, jq, j6, hlj, hwi, hbl, Int.lt_irrefl, iE, iN, iB, iC, iL, iD, iA, iS, iM, qa, zZ, ↓qq, ↓reduceIte, reduceCtorEq, nA, nM, nS, nE, nL, nD]; try simp only [qa, zY]
      refine ⟨_, qw.x7 [0, 1, 2, 3, 4, 5] [16, 15, 14, 5, 4, 3, 2] ⟨by decide, ?_⟩ ?_, ⟨i + 1, S, by omega, by rw [hS, List.take_length, hms], ?_⟩, ?_⟩
      · simp only [qg _ _ (qe _), j7, ↓zb, zK, ↓reduceIte, reduceCtorEq, nE, nB, nA]
      · simp only [qg _ _ (qe _), j7, ↓zb, zK, ↓reduceIte, reduceCtorEq, nE, nB, nA]
      · simp only [qb _ _ (qe _), j7, ↓vm, zL, ↓reduceIte, reduceCtorEq, nE, nA]
      · simp only [zL, ↓reduceIte, reduceCtorEq, nE, nA]; omega
  · have hli : ¬ ((i : Int) < a.length) := by omega
    obtain rfl : i = a.length := by omega
    rw [List.take_length] at hS
    obtain ⟨hs, hsl⟩ := hlen2 (vk p c n a b) (fun t h => h) (by
      rw [qi5]
      have : a.length * b.length ≤ 300 * 300 := Nat.mul_le_mul hl.1 hl.2
      omega)
    have hlaw := q40 (p := p) (n := n) (by omega) (qub (c := c) hp hc ha hb)
    have hll : (zw p (ML p n (vk p c n a b))).length = (MP p n (vk p c n a b)).length := by rw [← hlaw]; exact (uy _).length_eq.symm
    rw [← hll, ← hlaw]
    rw [← hS] at hs hsl ⊢
    clear hS hll hlaw
    have hap := qev hs.1
    obtain ⟨hz1, hz2, hz3⟩ := qsm (p := p) hn hs.1
    have hSo := hs.1.ok
    have hmT : j7 S = .map (esT 0 S) S.length := rfl
    have hts := qhr (ts := S) (k := 0) hSo
    have hSl' : S.length ≤ 1000000 := by omega
    have hpp : 0 < p ∧ p ≤ 1000000 := by omega
    simp (maxSteps := 3000000) only [qh, zH, Xl, W1, x9, uj, yy, Zy, jq, j6, hli, hmT, Int.lt_irrefl, hts, hpp, hSl', hz1, hz2, hap, and_self, elemV, iE, iN, iB, iC, iL, iD, iA, iS, iM, qa, zZ, ↓qq, ↓reduceIte, reduceCtorEq, nA, nM, nS, nE, nL, nD]; try simp only [qa, zY]
    rw [hz3]
    refine ⟨hz2, rfl, ?_⟩
    refine Ret.x7 [0, 1, 6] ⟨⟨by simp, rfl, by decide⟩, ?_⟩ (rs := [.agg [.int .i64 p, .int .i64 c, .int .i64 n, .slc 6 0 (zw p S).length false 0]]) rfl rfl (by simp [xl]) ?_ ⟨?_, ?_⟩
    · simp only [qg _ _ (qe _), ↓zb, zK, ↓reduceIte, reduceCtorEq, nE, nB, nA]
    · intro j l; match j with
      | 0 => simp [zo, AO.ren]
      | 1 => simp [zo, AO.ren]
      | 2 => simp [zo, AO.ren]
      | j + 3 => simp [zo]
    · simp only [xl]
      simp only [zL, ↓reduceIte, reduceCtorEq, nE, nA]
    · simp only [qb _ _ (qe _), zL, ↓reduceIte, reduceCtorEq, nE, nA]
noncomputable def B88 : zc := (B87.put 90 (qi6))
theorem q7x : qp Try.prog B88 := (qod.put (qyr qid))
theorem Br {p c n : Int} (hp : 2 ≤ p ∧ p ≤ 97) (hc : 0 ≤ c ∧ c ≤ p - 1) {a b : List (Int × List Nat × Int)} (ha : xd p n a) (hb : xd p n b) (hl : a.length ≤ 300 ∧ b.length ≤ 300) : xd p n (MP p n (vk p c n a b)) ∧ (MP p n (vk p c n a b)).length ≤ 100000 := by
  have h0 : xd p n [] := ⟨(fun t h => by cases h), (fun t h => by cases h), (fun t h => by cases h), .nil⟩
  have h := G7 (p := p) (F := 10000) (φ := id) (κ := fun _ => 1) (by omega) h0 (qub (c := c) hp hc ha hb)
  refine ⟨h.1, Nat.le_trans h.2 ?_⟩
  rw [List.length_nil, qi5]
  have h1 : a.length * b.length ≤ 300 * 300 := Nat.mul_le_mul hl.1 hl.2
  omega
noncomputable def B89 : zc := B88
theorem q74 : qp Try.prog B89 := q7x
theorem Wc (l : List (Int × List Nat × Int)) : AV.k8 (xc l) = [] := z6 _ (qe l)
noncomputable def B91 : zc := ((B89.put 143 (Q1)).put 88 (qj je))
theorem q16 : qp Try.prog B91 := ((q74.put (qzx)).put (qfi q0a))
theorem Jq {m : List Nat} {i k : Nat} (hm : okD m) (hi : i < 16) (hk : k < 16) : okD ((m.set i k).set k i) := by
  refine ⟨by simp [hm.1], fun x hx => ?_⟩
  rcases List.mem_or_eq_of_mem_set hx with hx | rfl
  · rcases List.mem_or_eq_of_mem_set hx with hx | rfl
    · exact hm.2 x hx
    · omega
  · omega
def qfu : AC := .seq (.region [o0 3 (.box (.t 0)),oD 6]) (.seq (.region [oM 7 1,oM 8 2,o0 9 (.conv .u8 (.t 8)),oF 10 1 3,o0 11 (.xa 16 1 (.t 10) (.t 7)),oT 11 9]) (.seq (.region [oM 12 2,oM 13 1,o0 14 (.conv .u8 (.t 13)),oF 15 1 3,o0 16 (.xa 16 1 (.t 15) (.t 12)),oT 16 14]) (.seq (.region [oN 17 17 3,oS 17 6 17]) .ret)))
theorem qo8 : zl Try.prog 139 = some ⟨18, qfu, [.yn 6 17]⟩ := by kernel_rfl
theorem qpo (n : Int) (m : List Nat) (i k : Nat) (hm : okD m) (hi : i < 16) (hk : k < 16) :
    Am.Fn Try.prog 139 [.agg (dia n m), .int .i64 i, .int .i64 k] [] (fun v H' => v = .agg (dia n ((m.set i k).set k i)) ∧ H' = []) := by
  refine Am.Fn.xf (R := fun v => v = _) q16 mixed qo8 (by simp) (by simp) ?_
  obtain ⟨a1, a2⟩ := v7 hi
  obtain ⟨b1, b2⟩ := v7 hk
  have hu1 : qo .u8 (i : Int) = i := Yx (by omega)
  have hu2 : qo .u8 (k : Int) = k := Yx (by omega)
  have hml := hm.1
  have hs := (Jq hm hi hk).1
  simp (maxSteps := 3000000) only [qh, zH, qfu, zk, zf, qc, hml, List.length_set, a1, a2, b1, b2, hu1, hu2, Bt, AV.one, qn hs, zn qt hs, za, List.length_replicate, iE, iN, iB, iC, iL, iD, iA, iS, iM, qa, zZ, ↓qq, ↓reduceIte, reduceCtorEq, nA, nM, nS, nE, nL, nD]; try simp only [qa, zY]
  exact qd _ _
def vd : List AV → Option AV
  | [.agg l, .int .i64 i, .int .i64 k] => match vi l with
    | some (n, m) => chk ((0 ≤ i ∧ i < 16) ∧ (0 ≤ k ∧ k < 16)) (some (.agg (dia n ((m.set i.toNat k.toNat).set k.toNat i.toNat))))
    | none => none
  | _ => none
theorem q31 : Am.Callee Try.prog 139 (qj vd) := Am.Callee.plain fun xs v he => by
  unfold vd at he
  split at he
  · rename_i l i k
    split at he
    · rename_i n m hd
      obtain ⟨⟨h1, h2⟩, he⟩ := ql he
      cases he
      obtain ⟨rfl, hm⟩ := zi hd
      obtain ⟨i, rfl⟩ : ∃ j : Nat, i = j := ⟨i.toNat, by omega⟩
      obtain ⟨k, rfl⟩ : ∃ j : Nat, k = j := ⟨k.toNat, by omega⟩
      simp only [Int.toNat_natCast]
      exact ⟨by simp only [AV.zg, AV.zq, qd, Bool.and_self], by simp only [AV.zq, qd], qpo n m i k hm (by omega) (by omega)⟩
    · cases he
  · cases he
noncomputable def B92 : zc := (B91.put 139 (qj vd))
theorem qt7 : qp Try.prog B92 := (q16.put (q31))
theorem J6 : B92 103 = some (gq ye) := rfl
theorem Z6 : B92 97 = some (Jc) := rfl
theorem bx : B92 143 = some (Q1) := rfl
theorem Yw : B92 88 = some (qj je) := rfl
theorem X8 : B92 139 = some (qj vd) := rfl
def Yp : AC := .seq (.seq (.region [oM 7 4,oM 8 0,oP 9 .lss 7 8]) (.cond 9 .skip (.exit 0))) (.seq (.block 1 (.region [oN 12 17 3,oM 13 4,oM 14 0,oM 15 4,oP 16 .add 14 15,oC 17 139 [.t 12,.t 13,.t 16],oS 17 3 17])) (.region [oM 10 4,oK 11 .add 10 1,oM 4 11]))
def qba : AC := .seq (.region [oN 18 17 3,oS 17 2 18]) .ret
def qit : AC := .seq (.region [oD 2]) (.seq (.region [oM 5 0,o0 6 (.build [.int .i64 0,.int .u8 0,.int .u8 0,.int .u8 0,.int .u8 0,.int .u8 0,.int .u8 0,.int .u8 0,.int .u8 0,.int .u8 0,.int .u8 0,.int .u8 0,.int .u8 0,.int .u8 0,.int .u8 0,.int .u8 0,.int .u8 0] [(0,1,.t 5)]),oD 3,oS 17 3 6]) (.seq (.seq (.region [oI 4 0]) (.block 0 (.loop Yp))) qba))
theorem quf : zl Try.prog 83 = some ⟨19, qit, [.yn 2 17]⟩ := by kernel_rfl
theorem qtf (n : Nat) (hn : n ≤ 8) : Am.Fn Try.prog 83 [.int .i64 n] [] (fun v H' => v = .agg (dia n (yh n)) ∧ H' = []) := by
  refine Am.Fn.xf (R := fun v => v = _) qt7 mixed quf (by simp) (by simp) ?_
  simp (maxSteps := 3000000) only [qh, zH, qit, J6, Z6, bx, Yw, X8, Jc, Q1, ye, vd, je, zk, zf, kc, qc, za, zn qt qt, List.length_replicate, iE, iN, iB, iC, iL, iD, iA, iS, iM, qa, zZ, ↓qq, ↓reduceIte, reduceCtorEq, nA, nM, nS, nE, nL, nD]; try simp only [qa, zY]
  refine WA.xr qt7 (fun s => ∃ i : Nat, i ≤ n ∧ s = ⟨[(4, .int .i64 i), (3, .ptr 1 0), (2, .ptr 0 0), (0, .int .i64 n)], [.cells (dia 0 (List.replicate 16 0)), .cells (dia n (W7 n i))]⟩)
    (fun s => match get s.env 4 with | .int _ x => n - x.toNat | _ => 0) ⟨_, qw.qx [4, 3, 2, 0], 0, by omega, rfl⟩ ?_
  rintro s ⟨i, hi, rfl⟩
  have hw : qo .i64 ((i : Int) + 1) = ((i + 1 : Nat) : Int) := by rw [wrap64 (by omega) (by omega)]; rfl
  have hok := Uf hn hi
  have hok1 := hok.1
  by_cases hlt : i < n
  · have hli : (i : Int) < (n : Int) := by omega
    have h2 : qo .i64 ((n : Int) + i) = ((n + i : Nat) : Int) := by rw [wrap64 (by omega) (by omega)]; rfl
    have c1 : (0 : Int) ≤ i ∧ (i : Int) < 16 := by omega
    have c2 : (0 : Int) ≤ (n + i : Nat) ∧ ((n + i : Nat) : Int) < 16 := by omega
    have hnext : W7 n (i + 1) = ((W7 n i).set i (n + i)).set (n + i) i := rfl
    have hok2 := (Uf hn hlt).1
    rw [hnext] at hok2
    simp (maxSteps := 3000000) only [qh, zH, Yp, J6, Z6, bx, Yw, X8, Jc, Q1, ye, vd, je, hli, hw, h2, qy hok, c1, c2, qc, hok1, hok2, qn hok1, zn hok1 hok2, za, List.length_set, and_self, iE, iN, iB, iC, iL, iD, iA, iS, iM, qa, zZ, ↓qq, ↓reduceIte, reduceCtorEq, nA, nM, nS, nE, nL, nD]; try simp only [qa, zY]
    refine ⟨_, qw.qx [4, 3, 2, 0], ⟨i + 1, by omega, ?_⟩, ?_⟩
    · simp only [zL, ↓reduceIte, reduceCtorEq, nE, nA]; rw [hnext]
    · simp only [zL, ↓reduceIte, reduceCtorEq, nE, nA]; omega
  · have hli : ¬ ((i : Int) < (n : Int)) := by omega
    obtain rfl : i = n := by omega
    simp (maxSteps := 3000000) only [qh, zH, Yp, qba, J6, Z6, bx, Yw, X8, Jc, Q1, ye, vd, je, hli, qc, hok1, qn hok1, zn qt hok1, za, List.length_replicate, Int.lt_irrefl, iE, iN, iB, iC, iL, iD, iA, iS, iM, qa, zZ, ↓qq, ↓reduceIte, reduceCtorEq, nA, nM, nS, nE, nL, nD]; try simp only [qa, zY]
    exact ⟨qd _ _, rfl⟩
noncomputable def B93 : zc := (B92.put 83 (qj je))
theorem qs0 : qp Try.prog B93 := (qt7.put (qfi qtf))
theorem Gd : B93 103 = some (gq ye) := rfl
theorem Yd : B93 97 = some (Jc) := rfl
theorem Xr : B93 143 = some (Q1) := rfl
theorem qbm : B93 88 = some (qj je) := rfl
theorem Uv : B93 139 = some (qj vd) := rfl
theorem Gi : B93 83 = some (qj je) := rfl
def Jo (n i : Nat) : List Nat := ((((yh n).set i (i + 1)).set (i + 1) i).set (n + i) (n + i + 1)).set (n + i + 1) (n + i)
theorem qze {n : Nat} (h : 1 ≤ n ∧ n ≤ 8) : isS n (yh n) = true := by
  have h0 : ((List.range 9).all fun n => n == 0 || isS n (yh n)) = true := by decide
  have h1 := List.all_eq_true.1 h0 n (List.mem_range.2 (by omega))
  simpa [show n ≠ 0 by omega] using h1
theorem q39 {n i : Nat} (h : n ≤ 8) (hi : i + 1 < n) : isS n (Jo n i) = true := by
  have h0 : ((List.range 9).all fun n => (List.range n).all fun i => i + 1 == n || isS n (Jo n i)) = true := by decide
  have h1 := List.all_eq_true.1 (List.all_eq_true.1 h0 n (List.mem_range.2 (by omega))) i (List.mem_range.2 (by omega))
  simpa [show i + 1 ≠ n by omega] using h1
theorem Wy {n : Nat} (hn : n ≤ 8) : okD (yh n) := Uf hn (Nat.le_refl n)
theorem qho {n i : Nat} (hn : n ≤ 8) (hi : i + 1 < n) : okD (Jo n i) := Jq (Jq (Wy hn) (by omega) (by omega)) (by omega) (by omega)
def qii : AC := .seq (.region [oD 4]) (.seq (.region [oM 5 0,oC 6 83 [.t 5],oM 7 1,oM 8 1,oK 9 .add 8 1,oC 10 139 [.t 6,.t 7,.t 9],oM 11 0,oM 12 1,oP 13 .add 11 12,oM 14 0,oM 15 1,oP 16 .add 14 15,oK 17 .add 16 1,oC 18 139 [.t 10,.t 13,.t 17],oS 17 4 18]) .ret)
theorem qto : zl Try.prog 84 = some ⟨19, qii, [.yn 4 17]⟩ := by kernel_rfl
theorem qtg (n i : Nat) (hn : n ≤ 8) (hi : i + 1 < n) : Am.Fn Try.prog 84 [.int .i64 n, .int .i64 i] [] (fun v H' => v = .agg (dia n (Jo n i)) ∧ H' = []) := by
  refine Am.Fn.xf (R := fun v => v = _) qs0 mixed qto (by simp) (by simp) ?_
  have w1 : qo .i64 ((i : Int) + 1) = ((i + 1 : Nat) : Int) := by rw [wrap64 (by omega) (by omega)]; rfl
  have w2 : qo .i64 ((n : Int) + i) = ((n + i : Nat) : Int) := by rw [wrap64 (by omega) (by omega)]; rfl
  have w3 : qo .i64 (((n + i : Nat) : Int) + 1) = ((n + i + 1 : Nat) : Int) := by rw [wrap64 (by omega) (by omega)]; rfl
  have c0 : (0 : Int) ≤ n ∧ (n : Int) ≤ 8 := by omega
  have c1 : (0 : Int) ≤ i ∧ (i : Int) < 16 := by omega
  have c2 : (0 : Int) ≤ (i + 1 : Nat) ∧ ((i + 1 : Nat) : Int) < 16 := by omega
  have c3 : (0 : Int) ≤ (n + i : Nat) ∧ ((n + i : Nat) : Int) < 16 := by omega
  have c4 : (0 : Int) ≤ (n + i + 1 : Nat) ∧ ((n + i + 1 : Nat) : Int) < 16 := by omega
  have o1 := Wy hn
  have o2 := Jq (i := i) (k := i + 1) o1 (by omega) (by omega)
  have o3 : ((((yh n).set i (i + 1)).set (i + 1) i).set (n + i) (n + i + 1)).set (n + i + 1) (n + i) = Jo n i := rfl
  have o4 := (qho hn hi).1
  simp (maxSteps := 3000000) only [qh, zH, qii, Gd, Yd, Xr, qbm, Uv, Gi, Jc, Q1, ye, vd, je, w1, w2, w3, c0, c1, c2, c3, c4, qy o1, qy o2, o3, zk, zf, qc, o4, qn o4, zn qt o4, za, List.length_replicate, and_self, iE, iN, iB, iC, iL, iD, iA, iS, iM, qa, zZ, ↓qq, ↓reduceIte, reduceCtorEq, nA, nM, nS, nE, nL, nD]; try simp only [qa, zY]
  exact qd _ _
def W5 : List AV → Option AV
  | [.int .i64 n, .int .i64 i] => chk (n ≤ 8 ∧ 0 ≤ i ∧ i + 1 < n) (some (.agg (dia n (Jo n.toNat i.toNat))))
  | _ => none
theorem qql {f : FuncId} (h : ∀ n i : Nat, n ≤ 8 → i + 1 < n → Am.Fn Try.prog f [.int .i64 n, .int .i64 i] [] (fun v H' => v = .agg (dia n (Jo n i)) ∧ H' = [])) : Am.Callee Try.prog f (qj W5) := Am.Callee.plain fun xs v he => by
  unfold W5 at he
  split at he
  · rename_i n i
    obtain ⟨h1, he⟩ := ql he
    cases he
    obtain ⟨n, rfl⟩ : ∃ j : Nat, n = j := ⟨n.toNat, by omega⟩
    obtain ⟨i, rfl⟩ : ∃ j : Nat, i = j := ⟨i.toNat, by omega⟩
    simp only [Int.toNat_natCast]
    exact ⟨rfl, by simp only [AV.zq, qd], h n i (by omega) (by omega)⟩
  · cases he
def qbo : AC := .seq (.region [oD 4]) (.seq (.region [oM 6 0,oC 7 88 [.t 6],oD 5,oS 17 5 7]) (.seq (.region [oM 8 1,oM 9 1,oK 10 .add 9 1,oC 11 143 [.t 5,.t 8,.t 10]]) (.seq (.region [oM 12 0,oM 13 1,oP 14 .add 12 13,oM 15 0,oM 16 1,oP 17 .add 15 16,oK 18 .add 17 1,oC 19 143 [.t 5,.t 14,.t 18]]) (.seq (.region [oN 20 17 5,oS 17 4 20]) .ret))))
theorem qkg : zl Try.prog 125 = some ⟨21, qbo, [.yn 4 17]⟩ := by kernel_rfl
theorem qk0 (n i : Nat) (hn : n ≤ 8) (hi : i + 1 < n) : Am.Fn Try.prog 125 [.int .i64 n, .int .i64 i] [] (fun v H' => v = .agg (dia n (Jo n i)) ∧ H' = []) := by
  refine Am.Fn.xf (R := fun v => v = _) qs0 mixed qkg (by simp) (by simp) ?_
  have w1 : qo .i64 ((i : Int) + 1) = ((i + 1 : Nat) : Int) := by rw [wrap64 (by omega) (by omega)]; rfl
  have w2 : qo .i64 ((n : Int) + i) = ((n + i : Nat) : Int) := by rw [wrap64 (by omega) (by omega)]; rfl
  have w3 : qo .i64 (((n + i : Nat) : Int) + 1) = ((n + i + 1 : Nat) : Int) := by rw [wrap64 (by omega) (by omega)]; rfl
  have c0 : (0 : Int) ≤ n ∧ (n : Int) ≤ 8 := by omega
  have c1 : (0 : Int) ≤ i ∧ (i : Int) < 16 := by omega
  have c2 : (0 : Int) ≤ (i + 1 : Nat) ∧ ((i + 1 : Nat) : Int) < 16 := by omega
  have c3 : (0 : Int) ≤ (n + i : Nat) ∧ ((n + i : Nat) : Int) < 16 := by omega
  have c4 : (0 : Int) ≤ (n + i + 1 : Nat) ∧ ((n + i + 1 : Nat) : Int) < 16 := by omega
  have o1 := Wy hn
  have o2 := Jq (i := i) (k := i + 1) o1 (by omega) (by omega)
  have o3 : ((((yh n).set i (i + 1)).set (i + 1) i).set (n + i) (n + i + 1)).set (n + i + 1) (n + i) = Jo n i := rfl
  have o4 := (qho hn hi).1
  have o5 := o1.1
  simp (maxSteps := 3000000) only [qh, zH, qbo, Gd, Yd, Xr, qbm, Uv, Gi, Jc, Q1, ye, vd, je, w1, w2, w3, c0, c1, c2, c3, c4, qy o1, qy o2, o3, zk, zf, qc, o4, o5, qn o4, qn o5, zn qt o4, zn qt o5, za, List.length_replicate, and_self, iE, iN, iB, iC, iL, iD, iA, iS, iM, qa, zZ, ↓qq, ↓reduceIte, reduceCtorEq, nA, nM, nS, nE, nL, nD]; try simp only [qa, zY]
  exact qd _ _
noncomputable def B94 : zc := ((B93.put 84 (qj W5)).put 125 (qj W5))
theorem q8f : qp Try.prog B94 := ((qs0.put (qql qtg)).put (qql qk0))
noncomputable def B95 : zc := B94
theorem qnb : qp Try.prog B95 := q8f
def qmo (p x : Nat) : Nat → Nat
  | 0 => 1
  | k + 1 => qmo p x k * x % p
def q61 (a b : Bool) : Bool := cond a b (!b)
def q8j : Bool := (List.range 98).all fun p => !z7 p || (List.range p).all fun x => Nat.beq x 0 || (List.range p).all fun k => q61 (Nat.beq (k * x % p) 1) (Nat.beq k (qmo p x (p - 2)))
theorem qxf : q8j = true := by kernel_rfl
theorem qll (p x : Nat) : ∀ k, xv p x k = (qmo p x k : Nat)
  | 0 => rfl
  | k + 1 => by
    show (xv p x k * x).emod p = ((qmo p x k * x % p : Nat) : Int)
    rw [qll p x k, Int.natCast_emod, Int.natCast_mul]; rfl
theorem q2y {a b : Bool} (h : q61 a b = true) : a = b := by cases a <;> cases b <;> simp_all [q61]
noncomputable def Wq (p x : Int) : Int := xv p x (p - 2).toNat
theorem qjv {p x : Int} (hp : z7 p = true) (hx : 1 ≤ x ∧ x ≤ p - 1) : (1 ≤ Wq p x ∧ Wq p x ≤ p - 1) ∧ ∀ k : Int, 0 ≤ k → k < p → ((k * x).emod p = 1 ↔ k = Wq p x) := by
  have hb := gu hp
  obtain ⟨P, rfl⟩ : ∃ P : Nat, p = P := ⟨p.toNat, by omega⟩
  obtain ⟨X, rfl⟩ : ∃ X : Nat, x = X := ⟨x.toNat, by omega⟩
  have h1 := List.all_eq_true.1 qxf P (List.mem_range.2 (by omega))
  rw [hp, Bool.not_true, Bool.false_or] at h1
  have h2 := List.all_eq_true.1 h1 X (List.mem_range.2 (by omega))
  have hX0 : Nat.beq X 0 = false := by
    cases h : Nat.beq X 0 with
    | false => rfl
    | true => have := Nat.eq_of_beq_eq_true h; omega
  rw [hX0, Bool.false_or] at h2
  have h3 : ∀ k : Nat, k < P → (k * X % P = 1 ↔ k = qmo P X (P - 2)) := fun k hk => by
    have h4 := q2y (List.all_eq_true.1 h2 k (List.mem_range.2 hk))
    constructor
    · intro h
      rw [h] at h4
      exact Nat.eq_of_beq_eq_true (h4.symm.trans rfl)
    · intro h
      rw [h, Nat.beq_refl] at h4
      rw [h]
      exact Nat.eq_of_beq_eq_true h4
  have e1 : Wq P X = (qmo P X (P - 2) : Nat) := by
    unfold Wq
    rw [qll]
    congr 2
    omega
  have hv : qmo P X (P - 2) < P := by
    rcases Nat.eq_zero_or_pos (P - 2) with h | h
    · rw [h]; show 1 < P; omega
    · obtain ⟨j, hj⟩ : ∃ j, P - 2 = j + 1 := ⟨P - 3, by omega⟩
      rw [hj]
      exact Nat.mod_lt _ (by omega)
  have hv1 : 1 ≤ qmo P X (P - 2) := by
    have := (h3 _ hv).2 rfl
    rcases Nat.eq_zero_or_pos (qmo P X (P - 2)) with h | h
    · rw [h, Nat.zero_mul, Nat.zero_mod] at this; omega
    · exact h
  rw [e1]
  refine ⟨by omega, fun k hk hkp => ?_⟩
  obtain ⟨K, rfl⟩ : ∃ K : Nat, k = K := ⟨k.toNat, by omega⟩
  have h5 := h3 K (by omega)
  have h6 : ((K : Int) * X).emod P = ((K * X % P : Nat) : Int) := by rw [Int.natCast_emod, Int.natCast_mul]; rfl
  rw [h6]
  omega
theorem V2 : B95 75 = some (qj Zy) := rfl
theorem Vd : B95 70 = some (qj Vf) := rfl
def qf6 : AC := .seq (.region [oI 4 0]) (.seq (.region [oM 5 0,oM 6 1,oK 7 .sub 6 2,oM 8 1,oC 9 75 [.t 5,.t 7,.t 8],oM 4 9]) .ret)
theorem qpj : zl Try.prog 72 = some ⟨10, qf6, [.slot 4]⟩ := by kernel_rfl
theorem qrn (p x : Int) (hp : z7 p = true) (hx : 1 ≤ x ∧ x ≤ p - 1) : Am.Fn Try.prog 72 [.int .i64 x, .int .i64 p] [] (fun v H' => v = .int .i64 (Wq p x) ∧ H' = []) := by
  refine Am.Fn.xf (R := fun v => v = _) qnb mixed qpj (by simp) (by simp) ?_
  have hb := gu hp
  have hw : qo .i64 (p - 2) = p - 2 := wrap64 (by omega) (by omega)
  have c1 : 0 ≤ x ∧ x ≤ p - 1 := by omega
  have c2 : 0 ≤ p - 2 ∧ p - 2 ≤ 1000000 := by omega
  have e : xv p x (p - 2).toNat = Wq p x := rfl
  simp (maxSteps := 3000000) only [qh, zH, qf6, V2, Vd, Zy, Vf, hb, hw, c1, c2, e, and_self, iE, iN, iB, iC, iL, iD, iA, iS, iM, qa, zZ, ↓qq, ↓reduceIte, reduceCtorEq, nA, nM, nS, nE, nL, nD]; try simp only [qa, zY]
def Z1 : AC := .seq (.seq (.region [oM 6 5,oM 7 0,oP 8 .lss 6 7]) (.cond 8 .skip (.exit 0))) (.seq (.block 1 (.seq (.region [oM 11 5,oM 12 0,oM 13 1,oC 14 70 [.t 12,.t 13],oP 15 .mul 11 14,oM 16 0,oP 17 .rem 15 16,oK 18 .eql 17 1]) (.cond 18 (.seq (.region [oM 19 5,oM 4 19]) .ret) .skip))) (.region [oM 9 5,oK 10 .add 9 1,oM 5 10]))
def qed : AC := .seq (.region [oI 4 0]) .ret
def qai : AC := .seq (.region [oI 4 0]) (.seq (.seq (.region [oI 5 1]) (.block 0 (.loop Z1))) qed)
theorem qjj : zl Try.prog 67 = some ⟨20, qai, [.slot 4]⟩ := by kernel_rfl
theorem qkb (p x : Int) (hp : z7 p = true) (hx : 1 ≤ x ∧ x ≤ p - 1) : Am.Fn Try.prog 67 [.int .i64 p, .int .i64 x] [] (fun v H' => v = .int .i64 (Wq p x) ∧ H' = []) := by
  refine Am.Fn.xf (R := fun v => v = _) qnb mixed qjj (by simp) (by simp) ?_
  have hb := gu hp
  obtain ⟨⟨hv1, hv2⟩, hch⟩ := qjv hp hx
  have hm : x.emod p = x := Int.emod_eq_of_lt (by omega) (by omega)
  have hp0 : 0 < p ∧ p ≤ 1000000 := by omega
  have hpne : p ≠ 0 := by omega
  simp (maxSteps := 3000000) only [qh, zH, qai, iE, iN, iB, iC, iL, iD, iA, iS, iM, qa, zZ, ↓qq, ↓reduceIte, reduceCtorEq, nA, nM, nS, nE, nL, nD]; try simp only [qa, zY]
  refine WA.xr qnb (fun s => ∃ k : Nat, 1 ≤ k ∧ (k : Int) ≤ Wq p x ∧ s = ⟨[(0, .int .i64 p), (1, .int .i64 x), (5, .int .i64 k)], []⟩)
    (fun s => match get s.env 5 with | .int _ k => 100 - k.toNat | _ => 0) ⟨_, qw.qx [0, 1, 5], 1, by omega, hv1, rfl⟩ ?_
  rintro s ⟨k, hk1, hk2, rfl⟩
  have hli : (k : Int) < p := by omega
  have h0 : 0 ≤ (k : Int) * x := Int.mul_nonneg (by omega) (by omega)
  have h1 : (k : Int) * x ≤ 96 * 96 := Int.mul_le_mul (by omega) (by omega) (by omega) (by omega)
  have hw1 : qo .i64 ((k : Int) * x) = (k : Int) * x := wrap64 (by omega) (by omega)
  have ht : Int.tmod ((k : Int) * x) p = ((k : Int) * x).emod p := Int.tmod_eq_emod_of_nonneg h0
  have hw : qo .i64 ((k : Int) + 1) = ((k + 1 : Nat) : Int) := by rw [wrap64 (by omega) (by omega)]; rfl
  have hc := hch k (by omega) hli
  by_cases he : (k : Int) = Wq p x
  · have h2 := hc.2 he
    simp (maxSteps := 3000000) only [qh, zH, Z1, V2, Vd, Zy, Vf, hli, hp0, hm, hw1, ht, hpne, h2, iE, iN, iB, iC, iL, iD, iA, iS, iM, qa, zZ, ↓qq, ↓reduceIte, reduceCtorEq, nA, nM, nS, nE, nL, nD]; try simp only [qa, zY]
    rw [he]
  · have h2 : ¬ ((k : Int) * x).emod p = 1 := fun h => he (hc.1 h)
    simp (maxSteps := 3000000) only [qh, zH, Z1, V2, Vd, Zy, Vf, hli, hp0, hm, hw1, ht, hpne, h2, hw, iE, iN, iB, iC, iL, iD, iA, iS, iM, qa, zZ, ↓qq, ↓reduceIte, reduceCtorEq, nA, nM, nS, nE, nL, nD]; try simp only [qa, zY]
    refine ⟨_, qw.qx [0, 1, 5], ⟨k + 1, by omega, by omega, rfl⟩, ?_⟩
    simp only [zL, ↓reduceIte, reduceCtorEq, nE, nA]; omega
def okI (p x : Int) : Prop := z7 p = true ∧ 1 ≤ x ∧ x ≤ p - 1
instance (p x : Int) : Decidable (okI p x) := by unfold okI; infer_instance
noncomputable def Bx : List AV → Option AV
  | [.int .i64 p, .int .i64 x] => chk (okI p x) (some (.int .i64 (Wq p x)))
  | _ => none
noncomputable def qcg : List AV → Option AV
  | [.int .i64 x, .int .i64 p] => chk (okI p x) (some (.int .i64 (Wq p x)))
  | _ => none
theorem q64 : Am.Callee Try.prog 67 (qj Bx) := Am.Callee.plain fun xs v he => by
  unfold Bx at he
  split at he
  · rename_i p x
    obtain ⟨⟨h1, h2⟩, he⟩ := ql he
    cases he
    exact ⟨rfl, rfl, qkb p x h1 h2⟩
  · cases he
theorem q73 : Am.Callee Try.prog 72 (qj qcg) := Am.Callee.plain fun xs v he => by
  unfold qcg at he
  split at he
  · rename_i x p
    obtain ⟨⟨h1, h2⟩, he⟩ := ql he
    cases he
    exact ⟨rfl, rfl, qrn p x h1 h2⟩
  · cases he
noncomputable def q9d : zc := ((B95.put 67 (qj Bx)).put 72 (qj qcg))
theorem q5t : qp Try.prog q9d := ((qnb.put (q64)).put (q73))
def brs : Nat → Nat → List (List UInt8)
  | 0, o => if o = 0 then [[]] else []
  | r + 1, o => (brs r (o + 1)).map (40 :: ·) ++ (if 0 < o then (brs r (o - 1)).map (41 :: ·) else [])
theorem qmm : ∀ {r o : Nat}, r < o → brs r o = []
  | 0, o, h => by simp only [brs]; rw [if_neg (by omega)]
  | r + 1, o, h => by
    simp only [brs]
    rw [qmm (show r < o + 1 by omega), qmm (show r < o - 1 by omega)]
    simp
theorem qos {s : List UInt8} {k : Nat} (h : parts s k = none) : ∀ j, parts s (k + j) = none
  | 0 => h
  | j + 1 => by
    show parts s ((k + j) + 1) = none
    simp only [parts, qos h j]
theorem qlm {s : List UInt8} {o0 : List Nat} (hL : parts s s.length = some (o0, [])) : ∀ (r k : Nat) (out st : List Nat), k + r = s.length → parts s k = some (out, st) → s.drop k ∈ brs r st.length
  | 0, k, out, st, hk, h => by
    obtain rfl : k = s.length := by omega
    rw [hL] at h
    cases h
    rw [List.drop_length]
    simp [brs]
  | r + 1, k, out, st, hk, h => by
    have hlt : k < s.length := by omega
    have hd : s.drop k = s.getD k 0 :: s.drop (k + 1) := by
      rw [List.drop_eq_getElem_cons hlt, List.getD_eq_getElem?_getD, List.getElem?_eq_getElem hlt]; rfl
    cases h1 : parts s (k + 1) with
    | none =>
      have := qos h1 (s.length - (k + 1))
      rw [show k + 1 + (s.length - (k + 1)) = s.length by omega, hL] at this
      cases this
    | some q =>
      obtain ⟨out', st'⟩ := q
      have ih := qlm hL r (k + 1) out' st' (by omega) h1
      rw [hd]
      simp only [parts, h] at h1
      simp only [brs, List.mem_append]
      split at h1
      · rename_i h40
        cases h1
        rw [h40]
        exact .inl (List.mem_map.2 ⟨_, ih, rfl⟩)
      · split at h1
        · rename_i h41
          rw [h41]
          split at h1
          · cases h1
          · cases h1
            rename_i i st'
            right
            rw [if_pos (by simp)]
            exact List.mem_map.2 ⟨_, by simpa using ih, rfl⟩
        · cases h1
theorem qrx {n : Nat} {m : List Nat} (h : isS n m = true) (hm : m.length = 16) : ja n m ∈ brs (2 * n) 0 := by
  rw [Xu n m hm] at h
  simp only [isI, Bool.and_eq_true, beq_iff_eq] at h
  have h1 := h.2.2
  unfold vg at h1
  split at h1
  · split at h1
    · rename_i out ho
      have := qlm ho (2 * n) 0 _ _ (by rw [bo]; omega) rfl
      simpa using this
    · cases h1
  · cases h1
theorem qle {α : Type} [DecidableEq α] : ∀ {l m : List α}, l.Nodup → (∀ x ∈ l, x ∈ m) → l.length ≤ m.length
  | [], m, _, _ => by simp
  | x :: l, m, h, hs => by
    have h1 := List.nodup_cons.1 h
    have hx := hs x (by simp)
    have ih := qle (m := m.erase x) h1.2 fun y hy => by
      have : y ≠ x := fun e => h1.1 (e ▸ hy)
      exact (List.mem_erase_of_ne this).2 (hs y (by simp [hy]))
    rw [List.length_erase_of_mem hx] at ih
    have := List.length_pos_of_mem hx
    simp only [List.length_cons]; omega
def q7l : Bool := (List.range 7).all fun n => Nat.ble (brs (2 * n) 0).length 132
theorem qxo : q7l = true := by kernel_rfl
theorem Jn {p n : Int} {L : List (Int × List Nat × Int)} (h : xd p n L) (hn : 0 ≤ n ∧ n ≤ 6) : L.length ≤ 132 := by
  have h1 : (L.map txt).Nodup := List.pairwise_map.2 (h.up.imp fun {a b} hlt e => by
    unfold ltT at hlt
    rw [e] at hlt
    have : Op.bytesLess (txt b) (txt b) = false := by
      generalize txt b = s
      induction s with
      | nil => rfl
      | cons x s ih => simp [Op.bytesLess, ih]
    rw [this] at hlt; cases hlt)
  have h2 := qle h1 (m := brs (2 * n.toNat) 0) fun x hx => by
    obtain ⟨t, ht, rfl⟩ := List.mem_map.1 hx
    have h3 := h.dia t ht
    have h4 := qrx h3.2 (h.ok t ht).1
    unfold txt
    rwa [h3.1]
  rw [List.length_map] at h2
  have h3 := List.all_eq_true.1 qxo n.toNat (List.mem_range.2 (by omega))
  have h4 := Nat.le_of_ble_eq_true h3
  omega
def qrk : List AV → Option (List Int)
  | [] => some []
  | .int .i64 x :: l => match qrk l with
    | some w => some (x :: w)
    | none => none
  | _ => none
theorem qmi : ∀ w, qrk (jk w) = some w
  | [] => rfl
  | x :: w => by
    have := qmi w
    simp only [jk, List.map_cons] at this ⊢
    simp only [qrk, this]
theorem qfe : ∀ {l : List AV} {w : List Int}, qrk l = some w → l = jk w
  | [], w, h => by cases h; rfl
  | x :: l, w, h => by
    unfold qrk at h
    split at h
    · rename_i e; cases e
    · rename_i y l' e
      cases e
      split at h
      · rename_i w' hw
        cases h
        rw [qfe hw]; rfl
      · cases h
    · cases h
noncomputable def q9z : zc := q9d
theorem q36 : qp Try.prog q9z := q5t
noncomputable def q9e : zc := q9z
theorem q5g : qp Try.prog q9e := q36
noncomputable def q9o : zc := q9e
theorem q41 : qp Try.prog q9o := q5g
noncomputable def q9a : zc := q9o
theorem q3f : qp Try.prog q9a := q41
noncomputable def zak : zc := q9a
theorem q4q : qp Try.prog zak := q3f
noncomputable def q90 : zc := zak
theorem q4j : qp Try.prog q90 := q4q
end Go.Proofs.Ytfhckbbgmblhbaa
namespace Go.Proofs.Ytfhckbbgmblhbaa
open Go.Am Go.Dia
open Nat renaming reduceAdd → nA, reduceMul → nM, reduceSub → nS, reduceEqDiff → nE, reduceLT → nL, reduceLeDiff → nD, reduceBEq → nB
open Int renaming reduceEq → iE, reduceNe → iN, reduceBEq → iB, reduceBNe → iC, reduceLT → iL, reduceLE → iD, reduceAdd → iA, reduceSub → iS, reduceMul → iM
set_option linter.unusedSimpArgs false
set_option linter.unusedVariables false
set_option maxRecDepth 4000
set_option maxHeartbeats 2000000
theorem qkz (p c n : Int) (k cap : Nat) (ex : Bool) :
    Am.Fn Try.prog 97 [.agg [.int .i64 p, .int .i64 c, .int .i64 n, .slc 0 0 k ex cap]] [.ro []] (fun v H' => v = elemV p c n 1 0 ∧ H' = [.ro [], .vec 18 []]) := by
  refine Am.Fn.ofW qs3 mixed qd3 (by simp [AV.qv, AV.under]) (Jm rfl) ?_
  simp (maxSteps := 3000000) only [qh, zH, Bv, qa, elemV, iE, iN, iB, iC, iL, iD, iA, iS, iM, rep, qa, zZ, ↓qq, ↓reduceIte, reduceCtorEq, nA, nM, nS, nE, nL, nD]; try simp only [qa, zY]
  refine ⟨rfl, _, qw.trans (qw.qx [2]) (qw.vec 3 0 18 (by decide) rfl rfl rfl rfl), ?_⟩
  refine Ret.x7 [0, 3] ⟨⟨by simp, rfl, by decide⟩, ?_⟩ (rs := [.agg [.int .i64 p, .int .i64 c, .int .i64 n, .slc 3 0 0 false 0]]) ?_ rfl (by simp [xl]) ?_ ⟨?_, ?_⟩
  · simp only [qx, zs, zV, ↓reduceIte, nE, reduceCtorEq, nB]
    simp only [zK, ↓reduceIte, reduceCtorEq, nE, nB, nA]
  · simp only [qx, zs, zV, ↓reduceIte, nE, reduceCtorEq, nB]
    rfl
  · intro j l; match j with
    | 0 => simp [zo, qa4, AO.xj, AO.ren]
    | 1 => simp [zo, qa4, AO.xj, AO.ren]
    | j + 2 => simp [zo]
  · simp only [xl]
    simp only [zL, ↓reduceIte, reduceCtorEq, nE, nA]
  · rfl
def qjl : BE := fun hp xs => match xs with
  | [.agg [.int .i64 p, .int .i64 c, .int .i64 n, .slc b 0 k ex cap]] => match rd hp b with
    | some _ => some (elemV p c n hp.length 0, hp ++ [.vec 18 []])
    | none => none
  | _ => none
theorem qzo : Am.Callee Try.prog 97 qjl := Callee.fp fun hp xs v hp' he => by
  unfold qjl at he
  split at he
  · rename_i p c n b k ex cap
    split at he
    · rename_i L hL
      simp only [Option.some.injEq, Prod.mk.injEq] at he
      obtain ⟨rfl, rfl⟩ := he
      refine ⟨[(b, 0)], [.agg [.int .i64 p, .int .i64 c, .int .i64 n, .slc 0 0 k ex cap]], _, _, _, qkz p c n k cap ex, by simp [AV.ren, AV.zp, ofL], rfl, ⟨⟨L, hL, by simp, by simp [AV.zp]⟩, trivial⟩, rfl, ⟨trivial, trivial⟩, ⟨⟨trivial, trivial, trivial, by simp [AV.under], trivial⟩, trivial⟩, by simp [elemV, AV.ren, AV.zp, Ren.ext], ?_⟩
      simp [after, upd, AO.wr, AO.ren, AV.zp]
    · cases he
  · cases he
noncomputable def q9f : zc := (q90.put 97 (qjl))
theorem q4y : qp Try.prog q9f := (q4j.put (qzo))
noncomputable def zap : zc := q9f
theorem q5i : qp Try.prog zap := q4y
theorem qzj {p n k : Int} (hn : 1 ≤ n ∧ n ≤ 8) (hk : 1 ≤ k ∧ k ≤ p - 1) : xd p n [(n, yh n.toNat, k)] :=
  ⟨fun t h => by simp at h; subst h; exact Wy (by omega), fun t h => by simp at h; subst h; exact ⟨rfl, qze (by omega)⟩, fun t h => by simp at h; subst h; exact hk, List.pairwise_singleton ..⟩
end Go.Proofs.Ytfhckbbgmblhbaa
namespace Go.Proofs.Ytfhckbbgmblhbaa
open Go.Am Go.Dia
open Nat renaming reduceAdd → nA, reduceMul → nM, reduceSub → nS, reduceEqDiff → nE, reduceLT → nL, reduceLeDiff → nD, reduceBEq → nB
open Int renaming reduceEq → iE, reduceNe → iN, reduceBEq → iB, reduceBNe → iC, reduceLT → iL, reduceLE → iD, reduceAdd → iA, reduceSub → iS, reduceMul → iM
set_option linter.unusedSimpArgs false
set_option linter.unusedVariables false
set_option maxRecDepth 4000
set_option maxHeartbeats 2000000
end Go.Proofs.Ytfhckbbgmblhbaa
namespace Go.Proofs.Ytfhckbbgmblhbaa
open Go.Am Go.Dia
open Nat renaming reduceAdd → nA, reduceMul → nM, reduceSub → nS, reduceEqDiff → nE, reduceLT → nL, reduceLeDiff → nD, reduceBEq → nB
open Int renaming reduceEq → iE, reduceNe → iN, reduceBEq → iB, reduceBNe → iC, reduceLT → iL, reduceLE → iD, reduceAdd → iA, reduceSub → iS, reduceMul → iM
set_option linter.unusedSimpArgs false
set_option linter.unusedVariables false
set_option maxRecDepth 4000
set_option maxHeartbeats 2000000
theorem qim {p n k : Int} {i : Nat} (hn : 1 ≤ n ∧ n ≤ 8) (hi : i + 1 < n.toNat) (hk : 1 ≤ k ∧ k ≤ p - 1) : xd p n [(n, Jo n.toNat i, k)] :=
  ⟨fun t h => by simp at h; subst h; exact qho (by omega) hi, fun t h => by simp at h; subst h; exact ⟨rfl, q39 (by omega) hi⟩, fun t h => by simp at h; subst h; exact hk, List.pairwise_singleton ..⟩
theorem qus {p k : Int} (hk : 1 ≤ k ∧ k ≤ p - 1) : k.emod p = k := Int.emod_eq_of_lt (by omega) (by omega)
theorem zai {p k : Int} (hk : 1 ≤ k ∧ k ≤ p - 1) : ¬ k.emod p = 0 := by rw [qus hk]; omega
noncomputable def zad : zc := zap
theorem q3i : qp Try.prog zad := q5i
noncomputable def q95 : zc := zad
theorem q4r : qp Try.prog q95 := q3i
end Go.Proofs.Ytfhckbbgmblhbaa
namespace Go.Proofs.Ytfhckbbgmblhbaa
open Go.Am Go.Dia
open Nat renaming reduceAdd → nA, reduceMul → nM, reduceSub → nS, reduceEqDiff → nE, reduceLT → nL, reduceLeDiff → nD, reduceBEq → nB
open Int renaming reduceEq → iE, reduceNe → iN, reduceBEq → iB, reduceBNe → iC, reduceLT → iL, reduceLE → iD, reduceAdd → iA, reduceSub → iS, reduceMul → iM
set_option linter.unusedSimpArgs false
set_option linter.unusedVariables false
set_option maxRecDepth 4000
set_option maxHeartbeats 1000000
noncomputable def q9w : zc := q95
theorem q4w : qp Try.prog q9w := q4r
noncomputable def q9s : zc := q9w
theorem q5q : qp Try.prog q9s := q4w
noncomputable def zae : zc := q9s
theorem q3s : qp Try.prog zae := q5q
noncomputable def zar : zc := zae
theorem q5a : qp Try.prog zar := q3s
end Go.Proofs.Ytfhckbbgmblhbaa
namespace Go.Proofs.Ytfhckbbgmblhbaa
open Go.Am Go.Dia
open Nat renaming reduceAdd → nA, reduceMul → nM, reduceSub → nS, reduceEqDiff → nE, reduceLT → nL, reduceLeDiff → nD, reduceBEq → nB
open Int renaming reduceEq → iE, reduceNe → iN, reduceBEq → iB, reduceBNe → iC, reduceLT → iL, reduceLE → iD, reduceAdd → iA, reduceSub → iS, reduceMul → iM
set_option linter.unusedSimpArgs false
set_option linter.unusedVariables false
set_option maxRecDepth 4000
set_option maxHeartbeats 2000000
end Go.Proofs.Ytfhckbbgmblhbaa
namespace Go.Proofs.Ytfhckbbgmblhbaa
open Go.Am Go.Dia
open Nat renaming reduceAdd → nA, reduceMul → nM, reduceSub → nS, reduceEqDiff → nE, reduceLT → nL, reduceLeDiff → nD, reduceBEq → nB
open Int renaming reduceEq → iE, reduceNe → iN, reduceBEq → iB, reduceBNe → iC, reduceLT → iL, reduceLE → iD, reduceAdd → iA, reduceSub → iS, reduceMul → iM
set_option linter.unusedSimpArgs false
set_option linter.unusedVariables false
set_option maxRecDepth 4000
set_option maxHeartbeats 2000000
noncomputable def q9v : zc := zar
theorem q5l : qp Try.prog q9v := q5a
noncomputable def q7s : zc := q9v
theorem qmn : qp Try.prog q7s := q5l
def chb (p c : Int) : Nat → Int
  | 0 => 0
  | 1 => 1
  | k + 2 => (c * chb p c (k + 1) - chb p c k).emod p
theorem qcb {p c : Int} (hp : 2 ≤ p ∧ p ≤ 97) : ∀ k, 0 ≤ chb p c k ∧ chb p c k ≤ p - 1
  | 0 => by simp only [chb]; omega
  | 1 => by simp only [chb]; omega
  | k + 2 => ⟨Int.emod_nonneg _ (by omega), Int.le_sub_one_of_lt (Int.emod_lt_of_pos _ (by omega))⟩
theorem qq1 {p c : Int} (hp : 2 ≤ p ∧ p ≤ 97) (hc : 0 ≤ c ∧ c ≤ p - 1) (k : Nat) : qo .i64 (c * chb p c (k + 1)) = c * chb p c (k + 1) ∧ qo .i64 (c * chb p c (k + 1) - chb p c k) = c * chb p c (k + 1) - chb p c k := by
  have h1 := qcb (c := c) hp (k + 1)
  have h0 := qcb (c := c) hp k
  have h2 : c * chb p c (k + 1) ≤ 96 * 96 := Int.mul_le_mul (by omega) (by omega) h1.1 (by omega)
  have h3 : 0 ≤ c * chb p c (k + 1) := Int.mul_nonneg hc.1 h1.1
  exact ⟨wrap64 (by omega) (by omega), wrap64 (by omega) (by omega)⟩
theorem Uo : q7s 70 = some (qj Vf) := rfl
def X3 : AC := .seq (.seq (.region [oM 10 2,oK 11 .gtr 10 0]) (.cond 11 .skip (.exit 0))) (.seq (.block 1 (.seq (.region [oM 14 0,oM 15 1,oM 16 8,oP 17 .mul 15 16,oM 18 7,oP 19 .sub 17 18,oC 20 70 [.t 14,.t 19],oM 9 20]) (.seq (.region [oM 21 8,oM 7 21]) (.region [oM 22 9,oM 8 22])))) (.region [oM 12 2,oK 13 .sub 12 1,oM 2 13]))
def Ub : AC := .seq (.seq (.region [oM 23 2,oK 24 .lss 23 0]) (.cond 24 (.seq (.region [oI 6 0]) .ret) .skip)) (.seq (.region [oM 25 8,oM 6 25]) .ret)
def qbs : AC := .seq (.region [oI 6 0]) (.seq (.region [oI 7 0,oI 8 1]) (.seq (.block 0 (.loop X3)) Ub))
theorem qko : zl Try.prog 136 = some ⟨26, qbs, [.slot 6]⟩ := by kernel_rfl
theorem qkm (p c : Int) (K : Nat) (hp : 2 ≤ p ∧ p ≤ 97) (hc : 0 ≤ c ∧ c ≤ p - 1) (hK : K ≤ 1000) :
    Am.Fn Try.prog 136 [.int .i64 p, .int .i64 c, .int .i64 K] [] (fun v H' => v = .int .i64 (chb p c (K + 1)) ∧ H' = []) := by
  refine Am.Fn.xf (R := fun v => v = _) qmn mixed qko (by simp) (by simp) ?_
  have p1 : 0 < p ∧ p ≤ 1000000 := by omega
  simp (maxSteps := 3000000) only [qh, zH, qbs, Uo, Vf, iE, iN, iB, iC, iL, iD, iA, iS, iM, qa, zZ, ↓qq, ↓reduceIte, reduceCtorEq, nA, nM, nS, nE, nL, nD]; try simp only [qa, zY]
  refine WA.xr qmn (fun s => ∃ i : Nat, i ≤ K ∧ s = ⟨[(0, .int .i64 p), (1, .int .i64 c), (2, .int .i64 ((K - i : Nat) : Int)), (7, .int .i64 (chb p c i)), (8, .int .i64 (chb p c (i + 1)))], []⟩)
    (fun s => match get s.env 2 with | .int _ x => x.toNat | _ => 0) ⟨_, qw.qx [0, 1, 2, 7, 8], 0, by omega, rfl⟩ ?_
  rintro s ⟨i, hi, rfl⟩
  by_cases hlt : i < K
  · have hli : (0 : Int) < ((K - i : Nat) : Int) := by omega
    have hw : qo .i64 (((K - i : Nat) : Int) - 1) = ((K - (i + 1) : Nat) : Int) := by rw [wrap64 (by omega) (by omega)]; omega
    obtain ⟨w1, w2⟩ := qq1 (c := c) hp hc i
    have hn : (c * chb p c (i + 1) - chb p c i).emod p = chb p c (i + 2) := rfl
    simp (maxSteps := 3000000) only [qh, zH, X3, Uo, Vf, hli, hw, w1, w2, hn, p1, iE, iN, iB, iC, iL, iD, iA, iS, iM, qa, zZ, ↓qq, ↓reduceIte, reduceCtorEq, nA, nM, nS, nE, nL, nD]; try simp only [qa, zY]
    refine ⟨_, qw.qx [0, 1, 2, 7, 8], ⟨i + 1, by omega, ?_⟩, ?_⟩
    · simp only [zL, ↓reduceIte, reduceCtorEq, nE, nA]
    · simp only [zL, ↓reduceIte, reduceCtorEq, nE, nA]; omega
  · have hli : ¬ (0 : Int) < ((K - i : Nat) : Int) := by omega
    have hl2 : ¬ ((K - i : Nat) : Int) < 0 := by omega
    obtain rfl : i = K := by omega
    have e0 : ((i - i : Nat) : Int) = 0 := by omega
    simp (maxSteps := 3000000) only [qh, zH, X3, Ub, e0, Int.lt_irrefl, iE, iN, iB, iC, iL, iD, iA, iS, iM, qa, zZ, ↓qq, ↓reduceIte, reduceCtorEq, nA, nM, nS, nE, nL, nD]; try simp only [qa, zY]
def U2 : List AV → Option AV
  | [.int .i64 p, .int .i64 c, .int .i64 k] => chk (((2 ≤ p ∧ p ≤ 97) ∧ (0 ≤ c ∧ c ≤ p - 1)) ∧ 0 ≤ k ∧ k ≤ 1000) (some (.int .i64 (chb p c (k.toNat + 1))))
  | _ => none
theorem zab : Am.Callee Try.prog 136 (qj U2) := Am.Callee.plain fun xs v he => by
  unfold U2 at he
  split at he
  · rename_i p c k
    obtain ⟨⟨⟨h1, h2⟩, h3⟩, he⟩ := ql he
    cases he
    obtain ⟨k, rfl⟩ : ∃ j : Nat, k = j := ⟨k.toNat, by omega⟩
    rw [Int.toNat_natCast]
    exact ⟨rfl, rfl, qkm p c k h1 h2 (by omega)⟩
  · cases he
noncomputable def q8g : zc := (q7s.put 136 (qj U2))
theorem qoa : qp Try.prog q8g := (qmn.put (zab))
def zOk (P C : Nat) : Nat → Nat → Nat → Bool
  | 0, _, _ => false
  | f + 1, x, y => bif Nat.beq ((C * y + (P - x)) % P) 0 then true else zOk P C f y ((C * y + (P - x)) % P)
theorem q3u {P C x y : Nat} (hP : 2 ≤ P) (hx : x < P) : ((C : Int) * (y : Int) - (x : Int)).emod (P : Int) = (((C * y + (P - x)) % P : Nat) : Int) := by
  have e : (((C * y + (P - x) : Nat)) : Int) = ((C : Int) * (y : Int) - (x : Int)) + (P : Int) := by
    rw [Int.natCast_add, Int.natCast_mul]; omega
  rw [Int.natCast_emod, e]
  exact (Int.add_emod_right _ _).symm
theorem qpl {P C : Nat} (hP : 2 ≤ P ∧ P ≤ 97) : ∀ (f k x y : Nat), chb P C k = x → chb P C (k + 1) = y → zOk P C f x y = true → ∃ m, k + 1 ≤ m ∧ m ≤ k + f ∧ chb P C (m + 1) = 0
  | 0, k, x, y, hx, hy, h => by cases h
  | f + 1, k, x, y, hx, hy, h => by
    have hb := qcb (p := (P : Int)) (c := C) (by omega) k
    have hz : chb P C (k + 2) = (((C * y + (P - x)) % P : Nat) : Int) := by
      show ((C : Int) * chb P C (k + 1) - chb P C k).emod P = _
      rw [hx, hy]; exact q3u hP.1 (by omega)
    rw [zOk] at h
    by_cases h0 : (C * y + (P - x)) % P = 0
    · exact ⟨k + 1, by omega, by omega, by rw [hz, h0]; rfl⟩
    · have hne : Nat.beq ((C * y + (P - x)) % P) 0 = false := by
        cases e : Nat.beq ((C * y + (P - x)) % P) 0 with
        | false => rfl
        | true => exact absurd (Nat.eq_of_beq_eq_true e) h0
      rw [hne, cond_false] at h
      obtain ⟨m, h1, h2, h3⟩ := qpl hP f (k + 1) y _ hy hz h
      exact ⟨m, by omega, by omega, h3⟩
def zaz : Bool := (List.range 98).all fun P => !z7 P || (List.range P).all fun C => zOk P C 100 0 1
theorem q4x : zaz = true := by kernel_rfl
theorem qyj {p c : Int} (hp : z7 p = true) (hc : 0 ≤ c ∧ c ≤ p - 1) : ∃ m, (1 ≤ m ∧ m ≤ 100) ∧ chb p c (m + 1) = 0 := by
  have hb := gu hp
  obtain ⟨P, rfl⟩ : ∃ P : Nat, p = P := ⟨p.toNat, by omega⟩
  obtain ⟨C, rfl⟩ : ∃ C : Nat, c = C := ⟨c.toNat, by omega⟩
  have h1 := List.all_eq_true.1 q4x P (List.mem_range.2 (by omega))
  rw [hp, Bool.not_true, Bool.false_or] at h1
  have h2 := List.all_eq_true.1 h1 C (List.mem_range.2 (by omega))
  obtain ⟨m, h3, h4, h5⟩ := qpl (by omega) 100 0 0 1 rfl rfl h2
  exact ⟨m, by omega, h5⟩
open Classical in
noncomputable def vh (p c : Int) : Nat := if h : ∃ m, (1 ≤ m ∧ m ≤ 100) ∧ chb p c (m + 1) = 0 then Classical.choose (Zp h) else 0
theorem qcy {p c : Int} (hp : z7 p = true) (hc : 0 ≤ c ∧ c ≤ p - 1) : (1 ≤ vh p c ∧ vh p c ≤ 100) ∧ chb p c (vh p c + 1) = 0 ∧ ∀ j, 1 ≤ j → j < vh p c → ¬ chb p c (j + 1) = 0 := by
  have h := qyj hp hc
  have h1 := Classical.choose_spec (Zp h)
  have e : vh p c = Classical.choose (Zp h) := dif_pos h
  rw [e]
  refine ⟨h1.1.1, h1.1.2, fun j hj hlt h0 => ?_⟩
  have := h1.2 j ⟨⟨hj, by have := h1.1.1.2; omega⟩, h0⟩
  omega
theorem Qb : q8g 136 = some (qj U2) := rfl
def Wm : AC := .seq (.seq (.region [oM 6 0,oM 7 1,oM 8 5,oC 9 136 [.t 6,.t 7,.t 8],oK 10 .neq 9 0]) (.cond 10 .skip (.exit 0))) (.block 1 (.region [oM 11 5,oK 12 .add 11 1,oM 5 12]))
def Kl : AC := .seq (.region [oM 13 5,oM 4 13]) .ret
def qf9 : AC := .seq (.region [oI 4 0]) (.seq (.region [oI 5 1]) (.seq (.block 0 (.loop Wm)) Kl))
theorem qqb : zl Try.prog 132 = some ⟨14, qf9, [.slot 4]⟩ := by kernel_rfl
theorem qo3 (p c : Int) (hp : z7 p = true) (hc : 0 ≤ c ∧ c ≤ p - 1) :
    Am.Fn Try.prog 132 [.int .i64 p, .int .i64 c] [] (fun v H' => v = .int .i64 (vh p c : Nat) ∧ H' = []) := by
  refine Am.Fn.xf (R := fun v => v = _) qoa mixed qqb (by simp) (by simp) ?_
  have hb := gu hp
  obtain ⟨z1, z2, z3⟩ := qcy hp hc
  simp (maxSteps := 3000000) only [qh, zH, qf9, Qb, U2, iE, iN, iB, iC, iL, iD, iA, iS, iM, qa, zZ, ↓qq, ↓reduceIte, reduceCtorEq, nA, nM, nS, nE, nL, nD]; try simp only [qa, zY]
  refine WA.xr qoa (fun s => ∃ m : Nat, 1 ≤ m ∧ m ≤ vh p c ∧ s = ⟨[(0, .int .i64 p), (1, .int .i64 c), (5, .int .i64 m)], []⟩)
    (fun s => match get s.env 5 with | .int _ x => 101 - x.toNat | _ => 0) ⟨_, qw.qx [0, 1, 5], 1, by omega, by omega, rfl⟩ ?_
  rintro s ⟨m, hm, hmz, rfl⟩
  have hk : (0 : Int) ≤ (m : Int) ∧ (m : Int) ≤ 1000 := by omega
  by_cases h0 : chb p c (m + 1) = 0
  · have hq : (chb p c (m + 1) != 0) = false := by simp [h0]
    have e : m = vh p c := by
      by_cases hlt : m < vh p c
      · exact absurd h0 (z3 m hm hlt)
      · omega
    simp (maxSteps := 3000000) only [qh, zH, Wm, Kl, Qb, U2, hb, hc, hk, hq, Int.toNat_natCast, and_self, iE, iN, iB, iC, iL, iD, iA, iS, iM, qa, zZ, ↓qq, ↓reduceIte, reduceCtorEq, nA, nM, nS, nE, nL, nD]; try simp only [qa, zY]
    rw [e]
  · have hq : (chb p c (m + 1) != 0) = true := by simp [h0]
    have hlt : m < vh p c := by
      by_cases e : m = vh p c
      · subst e; exact absurd z2 h0
      · omega
    have hw : qo .i64 ((m : Int) + 1) = ((m + 1 : Nat) : Int) := by rw [wrap64 (by omega) (by omega)]; rfl
    simp (maxSteps := 3000000) only [qh, zH, Wm, Qb, U2, hb, hc, hk, hq, hw, Int.toNat_natCast, and_self, iE, iN, iB, iC, iL, iD, iA, iS, iM, qa, zZ, ↓qq, ↓reduceIte, reduceCtorEq, nA, nM, nS, nE, nL, nD]; try simp only [qa, zY]
    refine ⟨_, qw.qx [0, 1, 5], ⟨m + 1, by omega, by omega, ?_⟩, ?_⟩
    · simp only [zL, ↓reduceIte, reduceCtorEq, nE, nA]
    · simp only [zL, ↓reduceIte, reduceCtorEq, nE, nA]; omega
end Go.Proofs.Ytfhckbbgmblhbaa

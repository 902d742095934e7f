/- Contracts: a term put to terms. -/
import Derived.Test.YtkgoadglalpbfaaG3
namespace Go.Proofs.Ytkgoadglalpbfaa
open Go.Am Go.Dia
open Nat renaming reduceAdd → nA, reduceMul → nM, reduceSub → nS, reduceEqDiff → nE, reduceLT → nL, reduceLeDiff → nD, reduceBEq → nB
open Int renaming reduceEq → iE, reduceNe → iN, reduceBEq → iB, reduceBNe → iC, reduceLT → iL, reduceLE → iD, reduceAdd → iA, reduceSub → iS, reduceMul → iM
set_option linter.unusedSimpArgs false
set_option linter.unusedVariables false
set_option maxRecDepth 4000
set_option maxHeartbeats 1000000
theorem jv : B34 108 = some (qu Xw) := rfl
theorem jg : B34 109 = some (qu x9) := rfl
def Yh (ts : List (Int × List Nat × Int)) (n : Int) (m : List Nat) : Nat := (ts.takeWhile fun t => ltT t (n, m, 0)).length
def yy (p : Int) (ts : List (Int × List Nat × Int)) (n : Int) (m : List Nat) (k : Int) : List (Int × List Nat × Int) :=
  if k.emod p = 0 then ts else
  if Yh ts n m < ts.length ∧ (ts.getD (Yh ts n m) zT).1 = n ∧ (ts.getD (Yh ts n m) zT).2.1 = m then
    ts.take (Yh ts n m) ++ (if ((ts.getD (Yh ts n m) zT).2.2 + k.emod p).emod p = 0 then [] else [(n, m, ((ts.getD (Yh ts n m) zT).2.2 + k.emod p).emod p)]) ++ ts.drop (Yh ts n m + 1)
  else ts.take (Yh ts n m) ++ (n, m, k.emod p) :: ts.drop (Yh ts n m)
theorem qsl : ∀ {ts : List (Int × List Nat × Int)} {n : Int} {m : List Nat} {i : Nat}, i ≤ ts.length → (∀ j, j < i → ltT (ts.getD j zT) (n, m, 0) = true) → (∀ j, i ≤ j → j < ts.length → ltT (ts.getD j zT) (n, m, 0) = false) → Yh ts n m = i
  | [], n, m, i, h, _, _ => by simp at h; subst h; rfl
  | t :: ts, n, m, 0, h, _, h2 => by
    have := h2 0 (Nat.le_refl 0) (by simp)
    simp only [List.getD_cons_zero] at this
    simp [Yh, List.takeWhile_cons, this]
  | t :: ts, n, m, i + 1, h, h1, h2 => by
    have h0 := h1 0 (by omega)
    simp only [List.getD_cons_zero] at h0
    have ih := qsl (ts := ts) (n := n) (m := m) (i := i) (by simpa using h) (fun j hj => by simpa using h1 (j + 1) (by omega)) (fun j hj hl => by simpa using h2 (j + 1) (by omega) (by simpa using hl))
    simp only [Yh] at ih
    simp only [Yh, List.takeWhile_cons, h0, if_true, List.length_cons, ih]
theorem qop (ts : List (Int × List Nat × Int)) (h : okT ts) (i : Nat) : List.take (i * 18) (qq ts) = qq (ts.take i) := by
  induction i generalizing ts with
  | zero => simp [qq]
  | succ i ih => match ts, h with
    | [], _ => simp [qq]
    | t :: ts, h =>
      have hl := zx (h t (List.mem_cons_self ..))
      have := ih ts fun u hu => h u (List.mem_cons_of_mem _ hu)
      simp only [qq, List.flatMap_cons, List.take_succ_cons] at this ⊢
      rw [show (i + 1) * 18 = 18 + i * 18 by omega, List.take_append, List.take_of_length_le (by omega), hl, show 18 + i * 18 - 18 = i * 18 by omega, this]
theorem qf6 (ts : List (Int × List Nat × Int)) (h : okT ts) (i : Nat) : List.drop (i * 18) (qq ts) = qq (ts.drop i) := by
  induction i generalizing ts with
  | zero => simp [qq]
  | succ i ih => match ts, h with
    | [], _ => simp [qq]
    | t :: ts, h =>
      have hl := zx (h t (List.mem_cons_self ..))
      have := ih ts fun u hu => h u (List.mem_cons_of_mem _ hu)
      simp only [qq, List.flatMap_cons, List.drop_succ_cons] at this ⊢
      rw [show (i + 1) * 18 = 18 + i * 18 by omega, List.drop_append, List.drop_of_length_le (by omega), hl, show 18 + i * 18 - 18 = i * 18 by omega, this, List.nil_append]
theorem Zn (a b : List (Int × List Nat × Int)) : qq (a ++ b) = qq a ++ qq b := by simp [qq]
theorem qau {n n' : Int} {m m' : List Nat} (h : m.length = 16) (h' : m'.length = 16) : vg [.int, .int, .int, .int, .int, .int, .int, .int, .int, .int, .int, .int, .int, .int, .int, .int, .int] (dia n m) (dia n' m') = some (decide (n = n' ∧ m = m')) := Ui h h'
structure qyg (p n : Int) (ts : List (Int × List Nat × Int)) : Prop where
  ok : okT ts
  len : ts.length ≤ 1000000
  size : ∀ t ∈ ts, t.1 = n
  small : ∀ t ∈ ts, -1000000000000 ≤ t.2.2 ∧ t.2.2 ≤ 1000000000000
  up : upT ts
theorem qmu (p n : Int) (ts : List (Int × List Nat × Int)) (m : List Nat) (k : Int) (hp : 0 < p ∧ p ≤ 1000000) (hn : 0 ≤ n ∧ n ≤ 8) (hm : okD m) (ht : qyg p n ts) :
    Am.Fn Try.prog 61 [.int .i64 p, .slc 0 0 ts.length false 0, .agg (dia n m), .int .i64 k] [.vec 18 (qq ts)]
      (fun v H' => if k.emod p = 0 then v = .slc 0 0 ts.length false 0 ∧ H' = [.vec 18 (qq ts)] else v = .slc 1 0 (yy p ts n m k).length false 0 ∧ H' = [.vec 18 (qq ts), .vec 18 (qq (yy p ts n m k))]) := by
  refine Am.Fn.ofB qml mixed qde (by simp) (fun j o hj => by
    match j, hj with
    | 0, hj => cases hj; exact qk _ _ (qa _)
    | j + 1, hj => simp at hj) ?_
  have hml := hm.1
  have htl := qt ht.ok
  by_cases hk : k.emod p = 0
  · simp (maxSteps := 3000000) only [qf, zH, Wc, jv, jg, Xw, x9, hp, hk, iE, iN, iB, iC, iL, iD, iA, iS, iM, qb, zZ, ↓qp, ↓reduceIte, reduceCtorEq, nA, nM, nS, nE, nL, nD]; try simp only [qb, zY]
    refine Ret.zw [0] ⟨⟨by simp, rfl, by decide⟩, ?_⟩ (rs := [.slc 0 0 ts.length false 0]) rfl rfl (by simp [xc]) ?_ ⟨?_, ?_⟩
    · simp only [qc _ _ (qa _), zK, ↓reduceIte, reduceCtorEq, nE, nB, nA]
    · intro j l; match j with
      | 0 => simp [zi, AO.ren]
      | j + 1 => simp [zi]
    · simp only [xc]
      simp only [zL, ↓reduceIte, reduceCtorEq, nE, nA]
    · simp only [qd _ _ (qa _), zL, ↓reduceIte, reduceCtorEq, nE, nA]
  have hlen := ht.len
  have hup : ∀ i j, i < j → j < ts.length → ltT (ts.getD i zT) (ts.getD j zT) = true := fun i j hij hj => by
    rw [u5 hj, u5 (by omega)]
    exact (List.pairwise_iff_getElem.1 ht.up) i j (by omega) hj hij
  simp (maxSteps := 3000000) only [qf, zH, Wc, jv, jg, Xw, x9, hp, hk, q9 hml, qe, hml, zd hm, hn, and_self, iE, iN, iB, iC, iL, iD, iA, iS, iM, qb, zZ, ↓qp, ↓reduceIte, reduceCtorEq, nA, nM, nS, nE, nL, nD]; try simp only [qb, zY]
  refine WA.j8 qml (fun s => ∃ lo hi : Nat, lo ≤ hi ∧ hi ≤ ts.length ∧ (∀ j, j < lo → ltT (ts.getD j zT) (n, m, 0) = true) ∧ (∀ j, hi ≤ j → j < ts.length → ltT (ts.getD j zT) (n, m, 0) = false) ∧
      s = ⟨[(11, .str (xw n.toNat m)), (10, .int .i64 hi), (9, .int .i64 lo), (6, .ptr 1 0), (0, .int .i64 p), (1, .slc 0 0 ts.length false 0), (3, .int .i64 (k.emod p))], [.vec 18 (qq ts), .cells (dia n m)]⟩)
    (fun s => match get s.env 9, get s.env 10 with | .int _ lo, .int _ hi => (hi - lo).toNat | _, _ => 0) ⟨_, qz.zc [11, 10, 9, 6, 0, 1, 3], 0, ts.length, by omega, Nat.le_refl _, by intros; omega, by intros; omega, rfl⟩ ?_
  rintro s ⟨lo, hi, h1, h2, hlow, hhigh, rfl⟩
  by_cases hlt : lo < hi
  · have hli : (lo : Int) < hi := by omega
    have hmid : ((lo + hi) / 2 : Nat) < ts.length := by omega
    generalize hmd : (lo + hi) / 2 = mid at hmid
    have hw1 : q8 .i64 ((lo : Int) + hi) = ((lo + hi : Nat) : Int) := by rw [wrap64 (by omega) (by omega)]; omega
    have hw2 : q8 .i64 (((lo + hi : Nat) : Int).tdiv 2) = (mid : Int) := by
      rw [Int.tdiv_eq_ediv_of_nonneg (by omega), wrap64 (by omega) (by omega)]; omega
    have hw3 : q8 .i64 ((mid : Int) + 1) = ((mid + 1 : Nat) : Int) := by rw [wrap64 (by omega) (by omega)]; rfl
    have hd := kq ht.ok hmid
    have hok := ht.ok _ (List.getElem_mem hmid)
    have hsz := ht.size _ (List.getElem_mem hmid)
    have hb1 : mid * 18 < ts.length * 18 := by omega
    have hb2 : mid * 18 + 18 ≤ ts.length * 18 := by omega
    have hb3 : mid * 18 + 17 ≤ ts.length * 18 := by omega
    have hmi : (mid : Int) < ts.length := by omega
    have hmi' : (0 : Int) ≤ mid := by omega
    have hat : ts.getD mid zT = ts[mid] := u5 hmid
    rw [hsz] at hd
    cases hL : ltT (ts.getD mid zT) (n, m, 0) with
    | true =>
      have hL' : Op.bytesLess (xw n.toNat ts[mid].2.1) (xw n.toNat m) = true := by
        rw [hat] at hL; unfold ltT txt at hL; rw [hsz] at hL; exact hL
      simp (maxSteps := 3000000) only [qf, zH, vo, wv, jv, jg, Xw, x9, hli, hw1, hw2, hw3, hd, htl, hb1, hb2, hb3, hmi, hmi', zd hok, hn, hL', iE, iN, iB, iC, iL, iD, iA, iS, iM, and_self, u9, qb, zZ, ↓qp, ↓reduceIte, reduceCtorEq, nA, nM, nS, nE, nL, nD]; try simp only [qb, zY]
      refine ⟨_, qz.zc [11, 10, 9, 6, 0, 1, 3], ⟨mid + 1, hi, by omega, h2, fun j hj => ?_, hhigh, rfl⟩, ?_⟩
      · by_cases e : j = mid
        · subst e; exact hL
        · exact yj _ _ _ (hup j mid (by omega) hmid) hL
      · simp only [zL, ↓reduceIte, reduceCtorEq, nE, nA]; omega
    | false =>
      have hL' : Op.bytesLess (xw n.toNat ts[mid].2.1) (xw n.toNat m) = false := by
        rw [hat] at hL; unfold ltT txt at hL; rw [hsz] at hL; exact hL
      simp (maxSteps := 3000000) only [qf, zH, vo, wv, jv, jg, Xw, x9, hli, hw1, hw2, hw3, hd, htl, hb1, hb2, hb3, hmi, hmi', zd hok, hn, hL', iE, iN, iB, iC, iL, iD, iA, iS, iM, and_self, u9, qb, zZ, ↓qp, ↓reduceIte, reduceCtorEq, nA, nM, nS, nE, nL, nD]; try simp only [qb, zY]
      refine ⟨_, qz.zc [11, 10, 9, 6, 0, 1, 3], ⟨lo, mid, by omega, by omega, hlow, fun j hj hjl => ?_, rfl⟩, ?_⟩
      · by_cases e : j = mid
        · subst e; exact hL
        · cases hb : ltT (ts.getD j zT) (n, m, 0) with
          | false => rfl
          | true =>
            have := yj _ _ _ (hup mid j (by omega) hjl) hb
            unfold ltT at hL; rw [hL] at this; cases this
      · simp only [zL, ↓reduceIte, reduceCtorEq, nE, nA]; omega
  · have hli : ¬ ((lo : Int) < hi) := by omega
    obtain rfl : lo = hi := by omega
    have hcut : Yh ts n m = lo := qsl h2 hlow hhigh
    have hll : (lo : Int) ≤ ts.length := by omega
    have hl0 : (0 : Int) ≤ lo := by omega
    have htk := qop ts ht.ok lo
    have htd := qf6 ts ht.ok lo
    have htd1 := qf6 ts ht.ok (lo + 1)
    have hokt : okT (ts.take lo) := fun t h => ht.ok t (List.mem_of_mem_take h)
    have hokd : okT (ts.drop lo) := fun t h => ht.ok t (List.mem_of_mem_drop h)
    have hokd1 : okT (ts.drop (lo + 1)) := fun t h => ht.ok t (List.mem_of_mem_drop h)
    have hlt1 := qt hokt
    have hlt2 := qt hokd
    have hlt3 := qt hokd1
    rw [List.length_take, Nat.min_eq_left h2] at hlt1
    rw [List.length_drop] at hlt2 hlt3
    have hb0 : lo * 18 ≤ ts.length * 18 := by omega
    have hones : ∀ l, (qq l).all AV.one = true := fun l => by
      simp only [qq, List.all_flatMap]; simp [j1]
    have htt : List.take (lo * 18) (qq (ts.take lo)) = qq (ts.take lo) := by rw [List.take_of_length_le (by omega)]
    have hby : lo * 32 ≤ 1099511627776 := by omega
    have hz : (List.replicate 16 0 : List Nat).length = 16 := rfl
    have e1 : over (trm (0, List.replicate 16 0, 0)) 0 (dia n m) = trm (n, m, 0) := V3 (t := (0, List.replicate 16 0, 0)) hz hml
    have e2 : ∀ f : Int, over (trm (n, m, 0)) 17 [.int .i64 f] = trm (n, m, f) := fun f => Wj (t := (n, m, 0)) hml
    have e3 : ∀ f : Int, over (trm (0, List.replicate 16 0, 0)) 0 (trm (n, m, f)) = trm (n, m, f) := fun f => Zx (t := (0, List.replicate 16 0, 0)) hz hml
    have e4 : ∀ f : Int, List.take 18 (trm (n, m, f)) = trm (n, m, f) := fun f => Jd (t := (n, m, f)) hml
    by_cases hlo : lo < ts.length
    · have hli2 : (lo : Int) < ts.length := by omega
      have hd := kq ht.ok hlo
      have hf := Gz ht.ok hlo
      have hok := ht.ok _ (List.getElem_mem hlo)
      have hsz := ht.size _ (List.getElem_mem hlo)
      have hsm := ht.small _ (List.getElem_mem hlo)
      have hat : ts.getD lo zT = ts[lo] := u5 hlo
      generalize hT : ts[lo] = T at hd hf hok hsz hsm hat
      obtain ⟨n', m', f⟩ := T
      simp only at hd hf hok hsz hsm
      subst hsz
      have hb1 : lo * 18 < ts.length * 18 := by omega
      have hb2 : lo * 18 + 17 ≤ ts.length * 18 := by omega
      have hb3 : lo * 18 + 17 < ts.length * 18 := by omega
      by_cases hmm : m' = m
      · subst hmm
        have hwf : q8 .i64 (f + k.emod p) = f + k.emod p := by
          have : 0 ≤ k.emod p := Int.emod_nonneg k (show p ≠ 0 by omega)
          have : k.emod p < p := Int.emod_lt_of_pos k hp.1
          rw [wrap64 (by omega) (by omega)]
        have hw1 : q8 .i64 ((lo : Int) + 1) = ((lo + 1 : Nat) : Int) := by rw [wrap64 (by omega) (by omega)]; rfl
        have hll1 : ((lo + 1 : Nat) : Int) ≤ ts.length := by omega
        have hll2 : (0 : Int) ≤ ((lo + 1 : Nat) : Int) := by omega
        have ht2 : List.take ((ts.length - (lo + 1)) * 18) (List.drop ((lo + 1) * 18) (qq ts)) = qq (ts.drop (lo + 1)) := by rw [htd1, List.take_of_length_le (by omega)]
        by_cases hs : (f + k.emod p).emod p = 0
        · have hput : yy p ts n' m' k = ts.take lo ++ ts.drop (lo + 1) := by
            simp only [yy, if_neg hk, hcut, hat, hs, hlo, and_self, if_true, List.append_nil]
          have hln : lo + (ts.length - (lo + 1)) = (yy p ts n' m' k).length := by rw [hput]; simp; omega
          have hl18 : qq (yy p ts n' m' k) = qq (ts.take lo) ++ qq (ts.drop (lo + 1)) := by rw [hput, Zn]
          simp (maxSteps := 3000000) only [qf, zH, vo, yw, y5, yx, wv, jv, jg, Xw, x9, hli, src, lim, Option.map_some, Option.map_none, hll, hl0, and_self, u9, htl, hb0, hones, hby, Nat.sub_zero, Nat.le_refl, htk, htt, hlt1, jt, u6, j1, hml, q9 hml, qe, e1, e2, e3, e4, hz, hli2, hb1, hb2, hb3, hd, hf, qau hok.1 hml, decide_true, hwf, hw1, hll1, hll2, hs, iE, iN, iB, iC, iL, iD, iA, iS, iM, qb, zZ, ↓qp, ↓reduceIte, reduceCtorEq, nA, nM, nS, nE, nL, nD]; try simp only [qb, zY]
          refine ⟨hp, fun hlast => ⟨by omega, ⟨by rw [ht2]; exact hones _, by omega⟩, ?_⟩, fun hlast => ⟨rfl, ?_⟩⟩
          · rw [ht2, ← hl18, hln]
            refine Ret.zw [0, 4] ⟨⟨by simp, rfl, by decide⟩, ?_⟩ (rs := [.slc 4 0 (yy p ts n' m' k).length false 0]) rfl rfl (by simp [xc]) ?_ ⟨?_, ?_⟩
            · simp only [qc _ _ (qa _), zK, ↓reduceIte, reduceCtorEq, nE, nB, nA]
            · intro j l; match j with
              | 0 => simp [zi, AO.ren]
              | 1 => simp [zi, AO.ren]
              | j + 2 => simp [zi]
            · simp only [xc]
              simp only [zL, ↓reduceIte, reduceCtorEq, nE, nA]
            · simp only [qd _ _ (qa _), zL, ↓reduceIte, reduceCtorEq, nE, nA]
          · have h0 : ts.drop (lo + 1) = [] := List.drop_of_length_le (by omega)
            have h1 : qq (ts.take lo) = qq (yy p ts n' m' k) := by rw [hl18, h0]; simp [qq]
            have h2' : lo = (yy p ts n' m' k).length := by omega
            simp only [List.append_nil, h1]
            refine Ret.zw [0, 5] ⟨⟨by simp, rfl, by decide⟩, ?_⟩ (rs := [.slc 5 0 lo false 0]) rfl rfl (by simp [xc]) ?_ ⟨?_, ?_⟩
            · simp only [qc _ _ (qa _), zK, ↓reduceIte, reduceCtorEq, nE, nB, nA]
            · intro j l; match j with
              | 0 => simp [zi, AO.ren]
              | 1 => simp [zi, AO.ren]
              | j + 2 => simp [zi]
            · simp only [xc]
              simp only [← h2', zL, ↓reduceIte, reduceCtorEq, nE, nA]
            · simp only [qd _ _ (qa _), zL, ↓reduceIte, reduceCtorEq, nE, nA]
        · have hput : yy p ts n' m' k = ts.take lo ++ [(n', m', (f + k.emod p).emod p)] ++ ts.drop (lo + 1) := by
            simp only [yy, if_neg hk, hcut, hat, hs, hlo, and_self, if_true, if_false]
          have hln : lo + 1 + (ts.length - (lo + 1)) = (yy p ts n' m' k).length := by rw [hput]; simp; omega
          have hlr : (qq (ts.take lo) ++ trm (n', m', (f + k.emod p).emod p)).length = (lo + 1) * 18 := by rw [List.length_append, hlt1, u6, hml]; omega
          have hl18 : List.take ((lo + 1) * 18) (qq (ts.take lo) ++ trm (n', m', (f + k.emod p).emod p)) ++ qq (ts.drop (lo + 1)) = qq (yy p ts n' m' k) := by
            rw [List.take_of_length_le (by omega), hput, Zn, Zn]
            simp [qq]
          simp (maxSteps := 3000000) only [qf, zH, vo, yw, y5, yx, wv, jv, jg, Xw, x9, hli, src, lim, Option.map_some, Option.map_none, hll, hl0, and_self, u9, htl, hb0, hones, hby, Nat.sub_zero, Nat.le_refl, htk, htt, hlt1, jt, u6, j1, hml, q9 hml, qe, e1, e2, e3, e4, hz, hli2, hb1, hb2, hb3, hd, hf, qau hok.1 hml, decide_true, hwf, hw1, hll1, hll2, hs, iE, iN, iB, iC, iL, iD, iA, iS, iM, qb, zZ, ↓qp, ↓reduceIte, reduceCtorEq, nA, nM, nS, nE, nL, nD]; try simp only [qb, zY]
          refine ⟨hp, by omega, fun hlast => ⟨by omega, ⟨by omega, by rw [ht2]; exact hones _, by omega⟩, ?_⟩, fun hlast => ⟨⟨by omega, rfl, by omega⟩, ?_⟩⟩
          · rw [ht2, hl18, hln]
            refine Ret.zw [0, 6] ⟨⟨by simp, rfl, by decide⟩, ?_⟩ (rs := [.slc 6 0 (yy p ts n' m' k).length false 0]) rfl rfl (by simp [xc]) ?_ ⟨?_, ?_⟩
            · simp only [qc _ _ (qa _), zK, ↓reduceIte, reduceCtorEq, nE, nB, nA]
            · intro j l; match j with
              | 0 => simp [zi, AO.ren]
              | 1 => simp [zi, AO.ren]
              | j + 2 => simp [zi]
            · simp only [xc]
              simp only [zL, ↓reduceIte, reduceCtorEq, nE, nA]
            · simp only [qd _ _ (qa _), zL, ↓reduceIte, reduceCtorEq, nE, nA]
          · have h0 : ts.drop (lo + 1) = [] := List.drop_of_length_le (by omega)
            have h1 : List.take ((lo + 1) * 18) (qq (ts.take lo) ++ trm (n', m', (f + k.emod p).emod p)) = qq (yy p ts n' m' k) := by rw [← hl18, h0]; simp [qq]
            have h2' : lo + 1 = (yy p ts n' m' k).length := by omega
            simp only [List.append_nil, h1]
            refine Ret.zw [0, 7] ⟨⟨by simp, rfl, by decide⟩, ?_⟩ (rs := [.slc 7 0 (lo + 1) false 0]) rfl rfl (by simp [xc]) ?_ ⟨?_, ?_⟩
            · simp only [qc _ _ (qa _), zK, ↓reduceIte, reduceCtorEq, nE, nB, nA]
            · intro j l; match j with
              | 0 => simp [zi, AO.ren]
              | 1 => simp [zi, AO.ren]
              | j + 2 => simp [zi]
            · simp only [xc]
              simp only [← h2', zL, ↓reduceIte, reduceCtorEq, nE, nA]
            · simp only [qd _ _ (qa _), zL, ↓reduceIte, reduceCtorEq, nE, nA]
      · have hor : (lo = 0 ∨ lo < ts.length) := .inr hlo
        have hput : yy p ts n' m k = ts.take lo ++ (n', m, k.emod p) :: ts.drop lo := by
          simp only [yy, if_neg hk, hcut, hat, hmm, and_false, if_false]
        simp (maxSteps := 3000000) only [qf, zH, vo, yw, y5, yx, wv, jv, jg, Xw, x9, hli, src, lim, Option.map_some, Option.map_none, hll, hl0, and_self, u9, htl, hb0, hones, hby, Nat.sub_zero, Nat.le_refl, htk, htt, hlt1, jt, u6, j1, hml, q9 hml, qe, e1, e2, e3, e4, hz, hli2, hb1, hb2, hd, qau hok.1 hml, hmm, and_false, hor, iE, iN, iB, iC, iL, iD, iA, iS, iM, qb, zZ, ↓qp, ↓reduceIte, reduceCtorEq, nA, nM, nS, nE, nL, nD]; try simp only [qb, zY]
        have ht2 : List.take ((ts.length - lo) * 18) (List.drop (lo * 18) (qq ts)) = qq (ts.drop lo) := by rw [htd, List.take_of_length_le (by omega)]
        have hlr : (qq (ts.take lo) ++ trm (n', m, k.emod p)).length = (lo + 1) * 18 := by rw [List.length_append, hlt1, u6, hml]; omega
        have hcon : List.take ((lo + 1) * 18) (qq (ts.take lo) ++ trm (n', m, k.emod p)) ++ List.take ((ts.length - lo) * 18) (List.drop (lo * 18) (qq ts)) = qq (yy p ts n' m k) := by
          rw [ht2, List.take_of_length_le (by omega), hput, Zn]
          simp [qq]
        have hpl : lo + 1 + (ts.length - lo) = (yy p ts n' m k).length := by
          rw [hput]; simp; omega
        refine ⟨by omega, by omega, ⟨by omega, by rw [ht2]; exact hones _, by omega⟩, ?_⟩
        rw [hcon, hpl]
        refine Ret.zw [0, 6] ⟨⟨by simp, rfl, by decide⟩, ?_⟩ (rs := [.slc 6 0 (yy p ts n' m k).length false 0]) rfl rfl (by simp [xc]) ?_ ⟨?_, ?_⟩
        · simp only [qc _ _ (qa _), zK, ↓reduceIte, reduceCtorEq, nE, nB, nA]
        · intro j l; match j with
          | 0 => simp [zi, AO.ren]
          | 1 => simp [zi, AO.ren]
          | j + 2 => simp [zi]
        · simp only [xc]
          simp only [zL, ↓reduceIte, reduceCtorEq, nE, nA]
        · simp only [qd _ _ (qa _), zL, ↓reduceIte, reduceCtorEq, nE, nA]
    · have hli2 : ¬ (lo : Int) < ts.length := by omega
      obtain rfl : lo = ts.length := by omega
      have hput : yy p ts n m k = ts ++ [(n, m, k.emod p)] := by
        simp only [yy, if_neg hk, hcut, Nat.lt_irrefl, false_and, if_false, List.take_length, List.drop_length]
      have hlr : (qq (ts.take ts.length) ++ trm (n, m, k.emod p)).length = (ts.length + 1) * 18 := by rw [List.length_append, hlt1, u6, hml]; omega
      have hcon : List.take ((ts.length + 1) * 18) (qq (ts.take ts.length) ++ trm (n, m, k.emod p)) = qq (yy p ts n m k) := by
        rw [List.take_of_length_le (by omega), hput, Zn, List.take_length]
        simp [qq]
      have hpl : ts.length + 1 = (yy p ts n m k).length := by
        rw [hput]; simp
      by_cases hz0 : ts.length = 0
      · have hor : (ts.length = 0 ∨ ts.length < ts.length) := .inl hz0
        simp (maxSteps := 3000000) only [qf, zH, vo, yw, y5, yx, wv, jv, jg, Xw, x9, hli, src, lim, Option.map_some, Option.map_none, hll, hl0, and_self, u9, htl, hb0, hones, hby, Nat.sub_zero, Nat.le_refl, htk, htt, hlt1, jt, u6, j1, hml, q9 hml, qe, e1, e2, e3, e4, hz, hli2, Int.lt_irrefl, hor, Nat.sub_self, Nat.zero_mul, List.take_zero, List.all_nil, iE, iN, iB, iC, iL, iD, iA, iS, iM, qb, zZ, ↓qp, ↓reduceIte, reduceCtorEq, nA, nM, nS, nE, nL, nD]; try simp only [qb, zY]
        refine ⟨by omega, ⟨by omega, by omega⟩, ?_⟩
        rw [hcon, hpl]
        refine Ret.zw [0, 6] ⟨⟨by simp, rfl, by decide⟩, ?_⟩ (rs := [.slc 6 0 (yy p ts n m k).length false 0]) rfl rfl (by simp [xc]) ?_ ⟨?_, ?_⟩
        · simp only [qc _ _ (qa _), zK, ↓reduceIte, reduceCtorEq, nE, nB, nA]
        · intro j l; match j with
          | 0 => simp [zi, AO.ren]
          | 1 => simp [zi, AO.ren]
          | j + 2 => simp [zi]
        · simp only [xc]
          simp only [zL, ↓reduceIte, reduceCtorEq, nE, nA]
        · simp only [qd _ _ (qa _), zL, ↓reduceIte, reduceCtorEq, nE, nA]
      · have hor : ¬ (ts.length = 0 ∨ ts.length < ts.length) := by omega
        simp (maxSteps := 3000000) only [qf, zH, vo, yw, y5, yx, wv, jv, jg, Xw, x9, hli, src, lim, Option.map_some, Option.map_none, hll, hl0, and_self, u9, htl, hb0, hones, hby, Nat.sub_zero, Nat.le_refl, htk, htt, hlt1, jt, u6, j1, hml, q9 hml, qe, e1, e2, e3, e4, hz, hli2, Int.lt_irrefl, hor, List.all_nil, iE, iN, iB, iC, iL, iD, iA, iS, iM, qb, zZ, ↓qp, ↓reduceIte, reduceCtorEq, nA, nM, nS, nE, nL, nD]; try simp only [qb, zY]
        refine ⟨by omega, ⟨by omega, by omega⟩, ?_⟩
        rw [hcon, hpl]
        refine Ret.zw [0, 7] ⟨⟨by simp, rfl, by decide⟩, ?_⟩ (rs := [.slc 7 0 (yy p ts n m k).length false 0]) rfl rfl (by simp [xc]) ?_ ⟨?_, ?_⟩
        · simp only [qc _ _ (qa _), zK, ↓reduceIte, reduceCtorEq, nE, nB, nA]
        · intro j l; match j with
          | 0 => simp [zi, AO.ren]
          | 1 => simp [zi, AO.ren]
          | j + 2 => simp [zi]
        · simp only [xc]
          simp only [zL, ↓reduceIte, reduceCtorEq, nE, nA]
        · simp only [qd _ _ (qa _), zL, ↓reduceIte, reduceCtorEq, nE, nA]
def qpt (n : Int) (ts : List (Int × List Nat × Int)) : Prop := ts.length ≤ 1000000 ∧ (∀ t ∈ ts, t.1 = n) ∧ (∀ t ∈ ts, -1000000000000 ≤ t.2.2 ∧ t.2.2 ≤ 1000000000000) ∧ (ts.Pairwise fun a b => ltT a b = true)
instance {n : Int} {ts : List (Int × List Nat × Int)} : Decidable (qpt n ts) := by unfold qpt; infer_instance
theorem qpt.fit {p n : Int} {ts : List (Int × List Nat × Int)} (h : qpt n ts) (ho : okT ts) : qyg p n ts := ⟨ho, h.1, h.2.1, h.2.2.1, h.2.2.2⟩
theorem qgh {α : Type} {l : List α} {i : Nat} {a : α} (h : l[i]? = some a) : l.set i a = l := by
  obtain ⟨hi, rfl⟩ := List.getElem?_eq_some_iff.1 h
  exact List.set_getElem_self hi
def Ww : BE := fun hp xs => match xs with
  | [.int .i64 p, .slc b 0 len false 0, .agg l, .int .i64 k] => match hp[b]? with
    | some (.vec 18 L) => match Qz len L, bg l with
      | some ts, some (n, m) => chk ((L.length = len * 18 ∧ (0 < p ∧ p ≤ 1000000)) ∧ (0 ≤ n ∧ n ≤ 8) ∧ qpt n ts) (if k.emod p = 0 then some (.slc b 0 len false 0, hp) else some (.slc hp.length 0 (yy p ts n m k).length false 0, hp ++ [.vec 18 (qq (yy p ts n m k))]))
      | _, _ => none
    | _ => none
  | _ => none
theorem qx5 : Am.Callee Try.prog 61 Ww := Callee.fp fun hp xs v hp' he => by
  unfold Ww at he
  split at he
  · rename_i p b len l k
    split at he
    · rename_i L hb
      split at he
      · rename_i ts n m hts hd
        obtain ⟨⟨⟨h1, h2⟩, h3, h4⟩, he2⟩ := qm he
        obtain ⟨rfl, hm⟩ := xa hd
        obtain ⟨e1, e2, e3, e4⟩ := xz hts
        have hl : L = qq ts := by rw [← e3, List.take_of_length_le (by omega)]
        subst hl
        subst e1
        have hc := qmu p n ts m k h2 h3 hm (h4.fit e2)
        have hfit : Yx hp (ofL [(b, 0)]) [(b, 0)] [.vec 18 (qq ts)] := by
          refine ⟨?_, trivial⟩
          simp only [Fits, qd _ _ (qa _)]
          exact ⟨trivial, by rw [hb, yc, qd _ _ (qa _)]⟩
        by_cases hk : k.emod p = 0
        · rw [if_pos hk] at he2
          simp only [Option.some.injEq, Prod.mk.injEq] at he2
          obtain ⟨rfl, rfl⟩ := he2
          have hc := hc.mono (R' := fun v H' => v = .slc 0 0 ts.length false 0 ∧ H' = [.vec 18 (qq ts)]) fun v H' h => by rw [if_pos hk] at h; exact h
          refine ⟨[(b, 0)], [.int .i64 p, .slc 0 0 ts.length false 0, .agg (dia n m), .int .i64 k], _, _, _, hc, by simp [AV.ren, AV.zt, ofL, qd _ _ (qh _ _)], rfl, hfit, rfl, ⟨qk _ _ (qa _), trivial⟩, ⟨trivial, by simp [AV.under], qk _ _ (qh _ _), trivial, trivial⟩, by simp [AV.ren, Ren.ext, ofL], ?_⟩
          simp only [after, upd, AO.wr, if_true, yc, qd _ _ (qa _), List.length_cons, List.length_nil, List.drop_succ_cons, List.drop_nil, List.map_nil, List.append_nil]
          exact qgh hb
        · rw [if_neg hk] at he2
          simp only [Option.some.injEq, Prod.mk.injEq] at he2
          obtain ⟨rfl, rfl⟩ := he2
          have hc := hc.mono (R' := fun v H' => v = .slc 1 0 (yy p ts n m k).length false 0 ∧ H' = [.vec 18 (qq ts), .vec 18 (qq (yy p ts n m k))]) fun v H' h => by rw [if_neg hk] at h; exact h
          refine ⟨[(b, 0)], [.int .i64 p, .slc 0 0 ts.length false 0, .agg (dia n m), .int .i64 k], _, _, _, hc, by simp [AV.ren, AV.zt, ofL, qd _ _ (qh _ _)], rfl, hfit, rfl, ⟨qk _ _ (qa _), trivial⟩, ⟨trivial, by simp [AV.under], qk _ _ (qh _ _), trivial, trivial⟩, by simp [AV.ren, Ren.ext], ?_⟩
          simp only [after, upd, AO.wr, if_true, yc, qd _ _ (qa _), List.length_cons, List.length_nil, List.drop_succ_cons, List.drop_zero, List.map_cons, List.map_nil]
          rw [qgh hb]
      · cases he
    · cases he
  · cases he
def B35 : z7 := (B34.put 61 (Ww))
theorem qq9 : ze Try.prog B35 := (qml.put (qx5))
end Go.Proofs.Ytkgoadglalpbfaa

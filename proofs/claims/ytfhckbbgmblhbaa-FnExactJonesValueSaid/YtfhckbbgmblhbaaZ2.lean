/- Contracts of functions of the program, and plain laws, part 2: each text of this part is proved without further condition. -/
import Derived.Test.YtfhckbbgmblhbaaZ1
namespace Go.Proofs.Ytfhckbbgmblhbaa
open Go.Am Go.Dia
open Nat renaming reduceAdd → nA, reduceMul → nM, reduceSub → nS, reduceEqDiff → nE, reduceLT → nL, reduceLeDiff → nD, reduceBEq → nB
open Int renaming reduceEq → iE, reduceNe → iN, reduceBEq → iB, reduceBNe → iC, reduceLT → iL, reduceLE → iD, reduceAdd → iA, reduceSub → iS, reduceMul → iM
set_option linter.unusedSimpArgs false
set_option linter.unusedVariables false
set_option maxRecDepth 4000
set_option maxHeartbeats 1000000
theorem qes {α : Type} (l : List α) (a b k : Nat) (h : a ≤ b) : List.take a (List.drop k l) = List.take a (List.take b (List.drop k l)) := by
  rw [List.take_take, Nat.min_eq_left h]
theorem Qm {ts : List (Int × List Nat × Int)} {i : Nat} (h : okT ts) (hi : i < ts.length) : List.take 17 (List.drop (i * 18) (qy ts)) = dia ts[i].1 ts[i].2.1 := by
  rw [qes _ 17 18 _ (by decide), Xw h hi]
  have := qat (h _ (List.getElem_mem hi))
  rwa [List.drop_zero] at this
theorem Yr {ts : List (Int × List Nat × Int)} {i : Nat} (h : okT ts) (hi : i < ts.length) : (qy ts)[i * 18 + 17]? = some (.int .i64 ts[i].2.2) := by
  have h1 := Z6 (h _ (List.getElem_mem hi))
  rw [← Xw h hi, List.getElem?_take, if_pos (by decide), List.getElem?_drop] at h1
  exact h1
def B32 : zh := B31
theorem qz8 : qq Try.prog B32 := K7
def zT : Int × List Nat × Int := (0, [], 0)
theorem Js {ts : List (Int × List Nat × Int)} {i : Nat} (h : i < ts.length) : ts.getD i zT = ts[i] := by
  rw [List.getD_eq_getElem?_getD, List.getElem?_eq_getElem h]; rfl
def B33 : zh := B32
theorem qzu : qq Try.prog B33 := qz8
theorem Bz {t : Int × List Nat × Int} (h : okD t.2.1) : List.take 17 (trm t) = dia t.1 t.2.1 := by
  have := qat h
  rwa [List.drop_zero] at this
def B34 : zh := B33
theorem qpl : qq Try.prog B34 := qzu
theorem jb : B34 70 = some (qk xm) := rfl
theorem xu : B34 150 = some (qk u6) := rfl
def U9 (ts : List (Int × List Nat × Int)) (n : Int) (m : List Nat) : Nat := (ts.takeWhile fun t => ltT t (n, m, 0)).length
def vi (p : Int) (ts : List (Int × List Nat × Int)) (n : Int) (m : List Nat) (k : Int) : List (Int × List Nat × Int) :=
  if k.emod p = 0 then ts else
  if U9 ts n m < ts.length ∧ (ts.getD (U9 ts n m) zT).1 = n ∧ (ts.getD (U9 ts n m) zT).2.1 = m then
    ts.take (U9 ts n m) ++ (if ((ts.getD (U9 ts n m) zT).2.2 + k.emod p).emod p = 0 then [] else [(n, m, ((ts.getD (U9 ts n m) zT).2.2 + k.emod p).emod p)]) ++ ts.drop (U9 ts n m + 1)
  else ts.take (U9 ts n m) ++ (n, m, k.emod p) :: ts.drop (U9 ts n m)
theorem qwu : ∀ {ts : List (Int × List Nat × Int)} {n : Int} {m : List Nat} {i : Nat}, i ≤ ts.length → (∀ j, j < i → ltT (ts.getD j zT) (n, m, 0) = true) → (∀ j, i ≤ j → j < ts.length → ltT (ts.getD j zT) (n, m, 0) = false) → U9 ts n m = i
  | [], n, m, i, h, _, _ => by simp at h; subst h; rfl
  | t :: ts, n, m, 0, h, _, h2 => by
    have := h2 0 (Nat.le_refl 0) (by simp)
    simp only [List.getD_cons_zero] at this
    simp [U9, List.takeWhile_cons, this]
  | t :: ts, n, m, i + 1, h, h1, h2 => by
    have h0 := h1 0 (by omega)
    simp only [List.getD_cons_zero] at h0
    have ih := qwu (ts := ts) (n := n) (m := m) (i := i) (by simpa using h) (fun j hj => by simpa using h1 (j + 1) (by omega)) (fun j hj hl => by simpa using h2 (j + 1) (by omega) (by simpa using hl))
    simp only [U9] at ih
    simp only [U9, List.takeWhile_cons, h0, if_true, List.length_cons, ih]
theorem qsi (ts : List (Int × List Nat × Int)) (h : okT ts) (i : Nat) : List.take (i * 18) (qy ts) = qy (ts.take i) := by
  induction i generalizing ts with
  | zero => simp [qy]
  | succ i ih => match ts, h with
    | [], _ => simp [qy]
    | t :: ts, h =>
      have hl := xq (h t (List.mem_cons_self ..))
      have := ih ts fun u hu => h u (List.mem_cons_of_mem _ hu)
      simp only [qy, List.flatMap_cons, List.take_succ_cons] at this ⊢
      rw [show (i + 1) * 18 = 18 + i * 18 by omega, List.take_append, List.take_of_length_le (by omega), hl, show 18 + i * 18 - 18 = i * 18 by omega, this]
theorem qiw (ts : List (Int × List Nat × Int)) (h : okT ts) (i : Nat) : List.drop (i * 18) (qy ts) = qy (ts.drop i) := by
  induction i generalizing ts with
  | zero => simp [qy]
  | succ i ih => match ts, h with
    | [], _ => simp [qy]
    | t :: ts, h =>
      have hl := xq (h t (List.mem_cons_self ..))
      have := ih ts fun u hu => h u (List.mem_cons_of_mem _ hu)
      simp only [qy, List.flatMap_cons, List.drop_succ_cons] at this ⊢
      rw [show (i + 1) * 18 = 18 + i * 18 by omega, List.drop_append, List.drop_of_length_le (by omega), hl, show 18 + i * 18 - 18 = i * 18 by omega, this, List.nil_append]
theorem Xl (a b : List (Int × List Nat × Int)) : qy (a ++ b) = qy a ++ qy b := by simp [qy]
theorem qcg {n n' : Int} {m m' : List Nat} (h : m.length = 16) (h' : m'.length = 16) : j3 [.int, .int, .int, .int, .int, .int, .int, .int, .int, .int, .int, .int, .int, .int, .int, .int, .int] (dia n m) (dia n' m') = some (decide (n = n' ∧ m = m')) := qaw h h'
structure q2c (p n : Int) (ts : List (Int × List Nat × Int)) : Prop where
  ok : okT ts
  len : ts.length ≤ 1000000
  size : ∀ t ∈ ts, t.1 = n
  small : ∀ t ∈ ts, -1000000000000 ≤ t.2.2 ∧ t.2.2 ≤ 1000000000000
  up : upT ts
theorem qpc (p n : Int) (ts : List (Int × List Nat × Int)) (m : List Nat) (k : Int) (hp : 0 < p ∧ p ≤ 1000000) (hn : 0 ≤ n ∧ n ≤ 8) (hm : okD m) (ht : q2c p n ts) :
    Am.Fn Try.prog 100 [.int .i64 p, .slc 0 0 ts.length false 0, .agg (dia n m), .int .i64 k] [.vec 18 (qy ts)]
      (fun v H' => if k.emod p = 0 then v = .slc 0 0 ts.length false 0 ∧ H' = [.vec 18 (qy ts)] else v = .slc 1 0 (vi p ts n m k).length false 0 ∧ H' = [.vec 18 (qy ts), .vec 18 (qy (vi p ts n m k))]) := by
  refine Am.Fn.ofB qpl mixed qfg (by simp) (fun j o hj => by
    match j, hj with
    | 0, hj => cases hj; exact qi _ _ (qc _)
    | j + 1, hj => simp at hj) ?_
  have hml := hm.1
  have htl := zb ht.ok
  by_cases hk : k.emod p = 0
  · simp (maxSteps := 3000000) only [qf, zH, Y9, jb, xu, xm, u6, hp, hk, iE, iN, iB, iC, iL, iD, iA, iS, iM, qa, zZ, ↓qt, ↓reduceIte, reduceCtorEq, nA, nM, nS, nE, nL, nD]; try simp only [qa, zY]
    refine Ret.xv [0] ⟨⟨by simp, rfl, by decide⟩, ?_⟩ (rs := [.slc 0 0 ts.length false 0]) rfl rfl (by simp [xa]) ?_ ⟨?_, ?_⟩
    · simp only [qe _ _ (qc _), zK, ↓reduceIte, reduceCtorEq, nE, nB, nA]
    · intro j l; match j with
      | 0 => simp [q9, AO.ren]
      | j + 1 => simp [q9]
    · simp only [xa]
      simp only [zL, ↓reduceIte, reduceCtorEq, nE, nA]
    · simp only [qb _ _ (qc _), zL, ↓reduceIte, reduceCtorEq, nE, nA]
  have hlen := ht.len
  have hup : ∀ i j, i < j → j < ts.length → ltT (ts.getD i zT) (ts.getD j zT) = true := fun i j hij hj => by
    rw [Js hj, Js (by omega)]
    exact (List.pairwise_iff_getElem.1 ht.up) i j (by omega) hj hij
  simp (maxSteps := 3000000) only [qf, zH, Y9, jb, xu, xm, u6, hp, hk, za hml, qg, hml, q8 hm, hn, and_self, iE, iN, iB, iC, iL, iD, iA, iS, iM, qa, zZ, ↓qt, ↓reduceIte, reduceCtorEq, nA, nM, nS, nE, nL, nD]; try simp only [qa, zY]
  refine WA.jq qpl (fun s => ∃ lo hi : Nat, lo ≤ hi ∧ hi ≤ ts.length ∧ (∀ j, j < lo → ltT (ts.getD j zT) (n, m, 0) = true) ∧ (∀ j, hi ≤ j → j < ts.length → ltT (ts.getD j zT) (n, m, 0) = false) ∧
      s = ⟨[(11, .str (wy n.toNat m)), (10, .int .i64 hi), (9, .int .i64 lo), (6, .ptr 1 0), (0, .int .i64 p), (1, .slc 0 0 ts.length false 0), (3, .int .i64 (k.emod p))], [.vec 18 (qy ts), .cells (dia n m)]⟩)
    (fun s => match get s.env 9, get s.env 10 with | .int _ lo, .int _ hi => (hi - lo).toNat | _, _ => 0) ⟨_, qv.qw [11, 10, 9, 6, 0, 1, 3], 0, ts.length, by omega, Nat.le_refl _, by intros; omega, by intros; omega, rfl⟩ ?_
  rintro s ⟨lo, hi, h1, h2, hlow, hhigh, rfl⟩
  by_cases hlt : lo < hi
  · have hli : (lo : Int) < hi := by omega
    have hmid : ((lo + hi) / 2 : Nat) < ts.length := by omega
    generalize hmd : (lo + hi) / 2 = mid at hmid
    have hw1 : qm .i64 ((lo : Int) + hi) = ((lo + hi : Nat) : Int) := by rw [wrap64 (by omega) (by omega)]; omega
    have hw2 : qm .i64 (((lo + hi : Nat) : Int).tdiv 2) = (mid : Int) := by
      rw [Int.tdiv_eq_ediv_of_nonneg (by omega), wrap64 (by omega) (by omega)]; omega
    have hw3 : qm .i64 ((mid : Int) + 1) = ((mid + 1 : Nat) : Int) := by rw [wrap64 (by omega) (by omega)]; rfl
    have hd := Qm ht.ok hmid
    have hok := ht.ok _ (List.getElem_mem hmid)
    have hsz := ht.size _ (List.getElem_mem hmid)
    have hb1 : mid * 18 < ts.length * 18 := by omega
    have hb2 : mid * 18 + 18 ≤ ts.length * 18 := by omega
    have hb3 : mid * 18 + 17 ≤ ts.length * 18 := by omega
    have hmi : (mid : Int) < ts.length := by omega
    have hmi' : (0 : Int) ≤ mid := by omega
    have hat : ts.getD mid zT = ts[mid] := Js hmid
    rw [hsz] at hd
    cases hL : ltT (ts.getD mid zT) (n, m, 0) with
    | true =>
      have hL' : Op.bytesLess (wy n.toNat ts[mid].2.1) (wy n.toNat m) = true := by
        rw [hat] at hL; unfold ltT txt at hL; rw [hsz] at hL; exact hL
      simp (maxSteps := 3000000) only [qf, zH, ve, wb, jb, xu, xm, u6, hli, hw1, hw2, hw3, hd, htl, hb1, hb2, hb3, hmi, hmi', q8 hok, hn, hL', iE, iN, iB, iC, iL, iD, iA, iS, iM, and_self, gz, qa, zZ, ↓qt, ↓reduceIte, reduceCtorEq, nA, nM, nS, nE, nL, nD]; try simp only [qa, zY]
      refine ⟨_, qv.qw [11, 10, 9, 6, 0, 1, 3], ⟨mid + 1, hi, by omega, h2, fun j hj => ?_, hhigh, rfl⟩, ?_⟩
      · by_cases e : j = mid
        · subst e; exact hL
        · exact ur _ _ _ (hup j mid (by omega) hmid) hL
      · simp only [zL, ↓reduceIte, reduceCtorEq, nE, nA]; omega
    | false =>
      have hL' : Op.bytesLess (wy n.toNat ts[mid].2.1) (wy n.toNat m) = false := by
        rw [hat] at hL; unfold ltT txt at hL; rw [hsz] at hL; exact hL
      simp (maxSteps := 3000000) only [qf, zH, ve, wb, jb, xu, xm, u6, hli, hw1, hw2, hw3, hd, htl, hb1, hb2, hb3, hmi, hmi', q8 hok, hn, hL', iE, iN, iB, iC, iL, iD, iA, iS, iM, and_self, gz, qa, zZ, ↓qt, ↓reduceIte, reduceCtorEq, nA, nM, nS, nE, nL, nD]; try simp only [qa, zY]
      refine ⟨_, qv.qw [11, 10, 9, 6, 0, 1, 3], ⟨lo, mid, by omega, by omega, hlow, fun j hj hjl => ?_, rfl⟩, ?_⟩
      · by_cases e : j = mid
        · subst e; exact hL
        · cases hb : ltT (ts.getD j zT) (n, m, 0) with
          | false => rfl
          | true =>
            have := ur _ _ _ (hup mid j (by omega) hjl) hb
            unfold ltT at hL; rw [hL] at this; cases this
      · simp only [zL, ↓reduceIte, reduceCtorEq, nE, nA]; omega
  · have hli : ¬ ((lo : Int) < hi) := by omega
    obtain rfl : lo = hi := by omega
    have hcut : U9 ts n m = lo := qwu h2 hlow hhigh
    have hll : (lo : Int) ≤ ts.length := by omega
    have hl0 : (0 : Int) ≤ lo := by omega
    have htk := qsi ts ht.ok lo
    have htd := qiw ts ht.ok lo
    have htd1 := qiw ts ht.ok (lo + 1)
    have hokt : okT (ts.take lo) := fun t h => ht.ok t (List.mem_of_mem_take h)
    have hokd : okT (ts.drop lo) := fun t h => ht.ok t (List.mem_of_mem_drop h)
    have hokd1 : okT (ts.drop (lo + 1)) := fun t h => ht.ok t (List.mem_of_mem_drop h)
    have hlt1 := zb hokt
    have hlt2 := zb hokd
    have hlt3 := zb hokd1
    rw [List.length_take, Nat.min_eq_left h2] at hlt1
    rw [List.length_drop] at hlt2 hlt3
    have hb0 : lo * 18 ≤ ts.length * 18 := by omega
    have hones : ∀ l, (qy l).all AV.one = true := fun l => by
      simp only [qy, List.all_flatMap]; simp [jr]
    have htt : List.take (lo * 18) (qy (ts.take lo)) = qy (ts.take lo) := by rw [List.take_of_length_le (by omega)]
    have hby : lo * 32 ≤ 1099511627776 := by omega
    have hz : (List.replicate 16 0 : List Nat).length = 16 := rfl
    have e1 : over (trm (0, List.replicate 16 0, 0)) 0 (dia n m) = trm (n, m, 0) := Zw (t := (0, List.replicate 16 0, 0)) hz hml
    have e2 : ∀ f : Int, over (trm (n, m, 0)) 17 [.int .i64 f] = trm (n, m, f) := fun f => Z5 (t := (n, m, 0)) hml
    have e3 : ∀ f : Int, over (trm (0, List.replicate 16 0, 0)) 0 (trm (n, m, f)) = trm (n, m, f) := fun f => ka (t := (0, List.replicate 16 0, 0)) hz hml
    have e4 : ∀ f : Int, List.take 18 (trm (n, m, f)) = trm (n, m, f) := fun f => gg (t := (n, m, f)) hml
    by_cases hlo : lo < ts.length
    · have hli2 : (lo : Int) < ts.length := by omega
      have hd := Qm ht.ok hlo
      have hf := Yr ht.ok hlo
      have hok := ht.ok _ (List.getElem_mem hlo)
      have hsz := ht.size _ (List.getElem_mem hlo)
      have hsm := ht.small _ (List.getElem_mem hlo)
      have hat : ts.getD lo zT = ts[lo] := Js hlo
      generalize hT : ts[lo] = T at hd hf hok hsz hsm hat
      obtain ⟨n', m', f⟩ := T
      simp only at hd hf hok hsz hsm
      subst hsz
      have hb1 : lo * 18 < ts.length * 18 := by omega
      have hb2 : lo * 18 + 17 ≤ ts.length * 18 := by omega
      have hb3 : lo * 18 + 17 < ts.length * 18 := by omega
      by_cases hmm : m' = m
      · subst hmm
        have hwf : qm .i64 (f + k.emod p) = f + k.emod p := by
          have : 0 ≤ k.emod p := Int.emod_nonneg k (show p ≠ 0 by omega)
          have : k.emod p < p := Int.emod_lt_of_pos k hp.1
          rw [wrap64 (by omega) (by omega)]
        have hw1 : qm .i64 ((lo : Int) + 1) = ((lo + 1 : Nat) : Int) := by rw [wrap64 (by omega) (by omega)]; rfl
        have hll1 : ((lo + 1 : Nat) : Int) ≤ ts.length := by omega
        have hll2 : (0 : Int) ≤ ((lo + 1 : Nat) : Int) := by omega
        have ht2 : List.take ((ts.length - (lo + 1)) * 18) (List.drop ((lo + 1) * 18) (qy ts)) = qy (ts.drop (lo + 1)) := by rw [htd1, List.take_of_length_le (by omega)]
        by_cases hs : (f + k.emod p).emod p = 0
        · have hput : vi p ts n' m' k = ts.take lo ++ ts.drop (lo + 1) := by
            simp only [vi, if_neg hk, hcut, hat, hs, hlo, and_self, if_true, List.append_nil]
          have hln : lo + (ts.length - (lo + 1)) = (vi p ts n' m' k).length := by rw [hput]; simp; omega
          have hl18 : qy (vi p ts n' m' k) = qy (ts.take lo) ++ qy (ts.drop (lo + 1)) := by rw [hput, Xl]
          simp (maxSteps := 3000000) only [qf, zH, ve, yu, yw, yp, wb, jb, xu, xm, u6, hli, src, lim, Option.map_some, Option.map_none, hll, hl0, and_self, gz, htl, hb0, hones, hby, Nat.sub_zero, Nat.le_refl, htk, htt, hlt1, vy, wv, jr, hml, za hml, qg, e1, e2, e3, e4, hz, hli2, hb1, hb2, hb3, hd, hf, qcg hok.1 hml, decide_true, hwf, hw1, hll1, hll2, hs, iE, iN, iB, iC, iL, iD, iA, iS, iM, qa, zZ, ↓qt, ↓reduceIte, reduceCtorEq, nA, nM, nS, nE, nL, nD]; try simp only [qa, zY]
          refine ⟨hp, fun hlast => ⟨by omega, ⟨by rw [ht2]; exact hones _, by omega⟩, ?_⟩, fun hlast => ⟨rfl, ?_⟩⟩
          · rw [ht2, ← hl18, hln]
            refine Ret.xv [0, 4] ⟨⟨by simp, rfl, by decide⟩, ?_⟩ (rs := [.slc 4 0 (vi p ts n' m' k).length false 0]) rfl rfl (by simp [xa]) ?_ ⟨?_, ?_⟩
            · simp only [qe _ _ (qc _), zK, ↓reduceIte, reduceCtorEq, nE, nB, nA]
            · intro j l; match j with
              | 0 => simp [q9, AO.ren]
              | 1 => simp [q9, AO.ren]
              | j + 2 => simp [q9]
            · simp only [xa]
              simp only [zL, ↓reduceIte, reduceCtorEq, nE, nA]
            · simp only [qb _ _ (qc _), zL, ↓reduceIte, reduceCtorEq, nE, nA]
          · have h0 : ts.drop (lo + 1) = [] := List.drop_of_length_le (by omega)
            have h1 : qy (ts.take lo) = qy (vi p ts n' m' k) := by rw [hl18, h0]; simp [qy]
            have h2' : lo = (vi p ts n' m' k).length := by omega
            simp only [List.append_nil, h1]
            refine Ret.xv [0, 5] ⟨⟨by simp, rfl, by decide⟩, ?_⟩ (rs := [.slc 5 0 lo false 0]) rfl rfl (by simp [xa]) ?_ ⟨?_, ?_⟩
            · simp only [qe _ _ (qc _), zK, ↓reduceIte, reduceCtorEq, nE, nB, nA]
            · intro j l; match j with
              | 0 => simp [q9, AO.ren]
              | 1 => simp [q9, AO.ren]
              | j + 2 => simp [q9]
            · simp only [xa]
              simp only [← h2', zL, ↓reduceIte, reduceCtorEq, nE, nA]
            · simp only [qb _ _ (qc _), zL, ↓reduceIte, reduceCtorEq, nE, nA]
        · have hput : vi p ts n' m' k = ts.take lo ++ [(n', m', (f + k.emod p).emod p)] ++ ts.drop (lo + 1) := by
            simp only [vi, if_neg hk, hcut, hat, hs, hlo, and_self, if_true, if_false]
          have hln : lo + 1 + (ts.length - (lo + 1)) = (vi p ts n' m' k).length := by rw [hput]; simp; omega
          have hlr : (qy (ts.take lo) ++ trm (n', m', (f + k.emod p).emod p)).length = (lo + 1) * 18 := by rw [List.length_append, hlt1, wv, hml]; omega
          have hl18 : List.take ((lo + 1) * 18) (qy (ts.take lo) ++ trm (n', m', (f + k.emod p).emod p)) ++ qy (ts.drop (lo + 1)) = qy (vi p ts n' m' k) := by
            rw [List.take_of_length_le (by omega), hput, Xl, Xl]
            simp [qy]
          simp (maxSteps := 3000000) only [qf, zH, ve, yu, yw, yp, wb, jb, xu, xm, u6, hli, src, lim, Option.map_some, Option.map_none, hll, hl0, and_self, gz, htl, hb0, hones, hby, Nat.sub_zero, Nat.le_refl, htk, htt, hlt1, vy, wv, jr, hml, za hml, qg, e1, e2, e3, e4, hz, hli2, hb1, hb2, hb3, hd, hf, qcg hok.1 hml, decide_true, hwf, hw1, hll1, hll2, hs, iE, iN, iB, iC, iL, iD, iA, iS, iM, qa, zZ, ↓qt, ↓reduceIte, reduceCtorEq, nA, nM, nS, nE, nL, nD]; try simp only [qa, zY]
          refine ⟨hp, by omega, fun hlast => ⟨by omega, ⟨by omega, by rw [ht2]; exact hones _, by omega⟩, ?_⟩, fun hlast => ⟨⟨by omega, rfl, by omega⟩, ?_⟩⟩
          · rw [ht2, hl18, hln]
            refine Ret.xv [0, 6] ⟨⟨by simp, rfl, by decide⟩, ?_⟩ (rs := [.slc 6 0 (vi p ts n' m' k).length false 0]) rfl rfl (by simp [xa]) ?_ ⟨?_, ?_⟩
            · simp only [qe _ _ (qc _), zK, ↓reduceIte, reduceCtorEq, nE, nB, nA]
            · intro j l; match j with
              | 0 => simp [q9, AO.ren]
              | 1 => simp [q9, AO.ren]
              | j + 2 => simp [q9]
            · simp only [xa]
              simp only [zL, ↓reduceIte, reduceCtorEq, nE, nA]
            · simp only [qb _ _ (qc _), zL, ↓reduceIte, reduceCtorEq, nE, nA]
          · have h0 : ts.drop (lo + 1) = [] := List.drop_of_length_le (by omega)
            have h1 : List.take ((lo + 1) * 18) (qy (ts.take lo) ++ trm (n', m', (f + k.emod p).emod p)) = qy (vi p ts n' m' k) := by rw [← hl18, h0]; simp [qy]
            have h2' : lo + 1 = (vi p ts n' m' k).length := by omega
            simp only [List.append_nil, h1]
            refine Ret.xv [0, 7] ⟨⟨by simp, rfl, by decide⟩, ?_⟩ (rs := [.slc 7 0 (lo + 1) false 0]) rfl rfl (by simp [xa]) ?_ ⟨?_, ?_⟩
            · simp only [qe _ _ (qc _), zK, ↓reduceIte, reduceCtorEq, nE, nB, nA]
            · intro j l; match j with
              | 0 => simp [q9, AO.ren]
              | 1 => simp [q9, AO.ren]
              | j + 2 => simp [q9]
            · simp only [xa]
              simp only [← h2', zL, ↓reduceIte, reduceCtorEq, nE, nA]
            · simp only [qb _ _ (qc _), zL, ↓reduceIte, reduceCtorEq, nE, nA]
      · have hor : (lo = 0 ∨ lo < ts.length) := .inr hlo
        have hput : vi p ts n' m k = ts.take lo ++ (n', m, k.emod p) :: ts.drop lo := by
          simp only [vi, if_neg hk, hcut, hat, hmm, and_false, if_false]
        simp (maxSteps := 3000000) only [qf, zH, ve, yu, yw, yp, wb, jb, xu, xm, u6, hli, src, lim, Option.map_some, Option.map_none, hll, hl0, and_self, gz, htl, hb0, hones, hby, Nat.sub_zero, Nat.le_refl, htk, htt, hlt1, vy, wv, jr, hml, za hml, qg, e1, e2, e3, e4, hz, hli2, hb1, hb2, hd, qcg hok.1 hml, hmm, and_false, hor, iE, iN, iB, iC, iL, iD, iA, iS, iM, qa, zZ, ↓qt, ↓reduceIte, reduceCtorEq, nA, nM, nS, nE, nL, nD]; try simp only [qa, zY]
        have ht2 : List.take ((ts.length - lo) * 18) (List.drop (lo * 18) (qy ts)) = qy (ts.drop lo) := by rw [htd, List.take_of_length_le (by omega)]
        have hlr : (qy (ts.take lo) ++ trm (n', m, k.emod p)).length = (lo + 1) * 18 := by rw [List.length_append, hlt1, wv, hml]; omega
        have hcon : List.take ((lo + 1) * 18) (qy (ts.take lo) ++ trm (n', m, k.emod p)) ++ List.take ((ts.length - lo) * 18) (List.drop (lo * 18) (qy ts)) = qy (vi p ts n' m k) := by
          rw [ht2, List.take_of_length_le (by omega), hput, Xl]
          simp [qy]
        have hpl : lo + 1 + (ts.length - lo) = (vi p ts n' m k).length := by
          rw [hput]; simp; omega
        refine ⟨by omega, by omega, ⟨by omega, by rw [ht2]; exact hones _, by omega⟩, ?_⟩
        rw [hcon, hpl]
        refine Ret.xv [0, 6] ⟨⟨by simp, rfl, by decide⟩, ?_⟩ (rs := [.slc 6 0 (vi p ts n' m k).length false 0]) rfl rfl (by simp [xa]) ?_ ⟨?_, ?_⟩
        · simp only [qe _ _ (qc _), zK, ↓reduceIte, reduceCtorEq, nE, nB, nA]
        · intro j l; match j with
          | 0 => simp [q9, AO.ren]
          | 1 => simp [q9, AO.ren]
          | j + 2 => simp [q9]
        · simp only [xa]
          simp only [zL, ↓reduceIte, reduceCtorEq, nE, nA]
        · simp only [qb _ _ (qc _), zL, ↓reduceIte, reduceCtorEq, nE, nA]
    · have hli2 : ¬ (lo : Int) < ts.length := by omega
      obtain rfl : lo = ts.length := by omega
      have hput : vi p ts n m k = ts ++ [(n, m, k.emod p)] := by
        simp only [vi, if_neg hk, hcut, Nat.lt_irrefl, false_and, if_false, List.take_length, List.drop_length]
      have hlr : (qy (ts.take ts.length) ++ trm (n, m, k.emod p)).length = (ts.length + 1) * 18 := by rw [List.length_append, hlt1, wv, hml]; omega
      have hcon : List.take ((ts.length + 1) * 18) (qy (ts.take ts.length) ++ trm (n, m, k.emod p)) = qy (vi p ts n m k) := by
        rw [List.take_of_length_le (by omega), hput, Xl, List.take_length]
        simp [qy]
      have hpl : ts.length + 1 = (vi p ts n m k).length := by
        rw [hput]; simp
      by_cases hz0 : ts.length = 0
      · have hor : (ts.length = 0 ∨ ts.length < ts.length) := .inl hz0
        simp (maxSteps := 3000000) only [qf, zH, ve, yu, yw, yp, wb, jb, xu, xm, u6, hli, src, lim, Option.map_some, Option.map_none, hll, hl0, and_self, gz, htl, hb0, hones, hby, Nat.sub_zero, Nat.le_refl, htk, htt, hlt1, vy, wv, jr, hml, za hml, qg, e1, e2, e3, e4, hz, hli2, Int.lt_irrefl, hor, Nat.sub_self, Nat.zero_mul, List.take_zero, List.all_nil, iE, iN, iB, iC, iL, iD, iA, iS, iM, qa, zZ, ↓qt, ↓reduceIte, reduceCtorEq, nA, nM, nS, nE, nL, nD]; try simp only [qa, zY]
        refine ⟨by omega, ⟨by omega, by omega⟩, ?_⟩
        rw [hcon, hpl]
        refine Ret.xv [0, 6] ⟨⟨by simp, rfl, by decide⟩, ?_⟩ (rs := [.slc 6 0 (vi p ts n m k).length false 0]) rfl rfl (by simp [xa]) ?_ ⟨?_, ?_⟩
        · simp only [qe _ _ (qc _), zK, ↓reduceIte, reduceCtorEq, nE, nB, nA]
        · intro j l; match j with
          | 0 => simp [q9, AO.ren]
          | 1 => simp [q9, AO.ren]
          | j + 2 => simp [q9]
        · simp only [xa]
          simp only [zL, ↓reduceIte, reduceCtorEq, nE, nA]
        · simp only [qb _ _ (qc _), zL, ↓reduceIte, reduceCtorEq, nE, nA]
      · have hor : ¬ (ts.length = 0 ∨ ts.length < ts.length) := by omega
        simp (maxSteps := 3000000) only [qf, zH, ve, yu, yw, yp, wb, jb, xu, xm, u6, hli, src, lim, Option.map_some, Option.map_none, hll, hl0, and_self, gz, htl, hb0, hones, hby, Nat.sub_zero, Nat.le_refl, htk, htt, hlt1, vy, wv, jr, hml, za hml, qg, e1, e2, e3, e4, hz, hli2, Int.lt_irrefl, hor, List.all_nil, iE, iN, iB, iC, iL, iD, iA, iS, iM, qa, zZ, ↓qt, ↓reduceIte, reduceCtorEq, nA, nM, nS, nE, nL, nD]; try simp only [qa, zY]
        refine ⟨by omega, ⟨by omega, by omega⟩, ?_⟩
        rw [hcon, hpl]
        refine Ret.xv [0, 7] ⟨⟨by simp, rfl, by decide⟩, ?_⟩ (rs := [.slc 7 0 (vi p ts n m k).length false 0]) rfl rfl (by simp [xa]) ?_ ⟨?_, ?_⟩
        · simp only [qe _ _ (qc _), zK, ↓reduceIte, reduceCtorEq, nE, nB, nA]
        · intro j l; match j with
          | 0 => simp [q9, AO.ren]
          | 1 => simp [q9, AO.ren]
          | j + 2 => simp [q9]
        · simp only [xa]
          simp only [zL, ↓reduceIte, reduceCtorEq, nE, nA]
        · simp only [qb _ _ (qc _), zL, ↓reduceIte, reduceCtorEq, nE, nA]
def qhm (n : Int) (ts : List (Int × List Nat × Int)) : Prop := ts.length ≤ 1000000 ∧ (∀ t ∈ ts, t.1 = n) ∧ (∀ t ∈ ts, -1000000000000 ≤ t.2.2 ∧ t.2.2 ≤ 1000000000000) ∧ (ts.Pairwise fun a b => ltT a b = true)
instance {n : Int} {ts : List (Int × List Nat × Int)} : Decidable (qhm n ts) := by unfold qhm; infer_instance
theorem qhm.fit {p n : Int} {ts : List (Int × List Nat × Int)} (h : qhm n ts) (ho : okT ts) : q2c p n ts := ⟨ho, h.1, h.2.1, h.2.2.1, h.2.2.2⟩
theorem qih {α : Type} {l : List α} {i : Nat} {a : α} (h : l[i]? = some a) : l.set i a = l := by
  obtain ⟨hi, rfl⟩ := List.getElem?_eq_some_iff.1 h
  exact List.set_getElem_self hi
def Xm : BE := fun hp xs => match xs with
  | [.int .i64 p, .slc b 0 len false 0, .agg l, .int .i64 k] => match hp[b]? with
    | some (.vec 18 L) => match Vz len L, yz l with
      | some ts, some (n, m) => chk ((L.length = len * 18 ∧ (0 < p ∧ p ≤ 1000000)) ∧ (0 ≤ n ∧ n ≤ 8) ∧ qhm n ts) (if k.emod p = 0 then some (.slc b 0 len false 0, hp) else some (.slc hp.length 0 (vi p ts n m k).length false 0, hp ++ [.vec 18 (qy (vi p ts n m k))]))
      | _, _ => none
    | _ => none
  | _ => none
theorem q1r : Am.Callee Try.prog 100 Xm := Callee.fp fun hp xs v hp' he => by
  unfold Xm at he
  split at he
  · rename_i p b len l k
    split at he
    · rename_i L hb
      split at he
      · rename_i ts n m hts hd
        obtain ⟨⟨⟨h1, h2⟩, h3, h4⟩, he2⟩ := ql he
        obtain ⟨rfl, hm⟩ := xf hd
        obtain ⟨e1, e2, e3, e4⟩ := Q3 hts
        have hl : L = qy ts := by rw [← e3, List.take_of_length_le (by omega)]
        subst hl
        subst e1
        have hc := qpc p n ts m k h2 h3 hm (h4.fit e2)
        have hfit : Bx hp (ofL [(b, 0)]) [(b, 0)] [.vec 18 (qy ts)] := by
          refine ⟨?_, trivial⟩
          simp only [Fits, qb _ _ (qc _)]
          exact ⟨trivial, by rw [hb, j0, qb _ _ (qc _)]⟩
        by_cases hk : k.emod p = 0
        · rw [if_pos hk] at he2
          simp only [Option.some.injEq, Prod.mk.injEq] at he2
          obtain ⟨rfl, rfl⟩ := he2
          have hc := hc.mono (R' := fun v H' => v = .slc 0 0 ts.length false 0 ∧ H' = [.vec 18 (qy ts)]) fun v H' h => by rw [if_pos hk] at h; exact h
          refine ⟨[(b, 0)], [.int .i64 p, .slc 0 0 ts.length false 0, .agg (dia n m), .int .i64 k], _, _, _, hc, by simp [AV.ren, AV.zg, ofL, qb _ _ (qd _ _)], rfl, hfit, rfl, ⟨qi _ _ (qc _), trivial⟩, ⟨trivial, by simp [AV.under], qi _ _ (qd _ _), trivial, trivial⟩, by simp [AV.ren, Ren.ext, ofL], ?_⟩
          simp only [after, upd, AO.wr, if_true, j0, qb _ _ (qc _), List.length_cons, List.length_nil, List.drop_succ_cons, List.drop_nil, List.map_nil, List.append_nil]
          exact qih hb
        · rw [if_neg hk] at he2
          simp only [Option.some.injEq, Prod.mk.injEq] at he2
          obtain ⟨rfl, rfl⟩ := he2
          have hc := hc.mono (R' := fun v H' => v = .slc 1 0 (vi p ts n m k).length false 0 ∧ H' = [.vec 18 (qy ts), .vec 18 (qy (vi p ts n m k))]) fun v H' h => by rw [if_neg hk] at h; exact h
          refine ⟨[(b, 0)], [.int .i64 p, .slc 0 0 ts.length false 0, .agg (dia n m), .int .i64 k], _, _, _, hc, by simp [AV.ren, AV.zg, ofL, qb _ _ (qd _ _)], rfl, hfit, rfl, ⟨qi _ _ (qc _), trivial⟩, ⟨trivial, by simp [AV.under], qi _ _ (qd _ _), trivial, trivial⟩, by simp [AV.ren, Ren.ext], ?_⟩
          simp only [after, upd, AO.wr, if_true, j0, qb _ _ (qc _), List.length_cons, List.length_nil, List.drop_succ_cons, List.drop_zero, List.map_cons, List.map_nil]
          rw [qih hb]
      · cases he
    · cases he
  · cases he
def B35 : zh := (B34.put 100 (Xm))
theorem qo2 : qq Try.prog B35 := (qpl.put (q1r))
def Uk : AC := .seq (.region [o0 1 (.box (.t 0)),oZ 2]) (.seq (.region [oF 3 0 1,oL 4 3,oF 5 1 1,oL 6 5,oF 7 2 1,oL 8 7,o0 9 (.Q4 0 [] []),o0 10 (.build [.int .i64 0,.int .i64 0,.int .i64 0,(.v (.slice none 0 0))] [(0,1,.t 4),(1,1,.t 6),(2,1,.t 8),(3,1,.t 9)]),oS 4 2 10]) .ret)
theorem qa3 : zk Try.prog 97 = some ⟨11, Uk, [.Q9 2 4]⟩ := by kernel_rfl
theorem qkj (p c n : Int) (k : Nat) :
    Am.Fn Try.prog 97 [elemV p c n 0 k] [.ro []] (fun v H' => v = elemV p c n 1 0 ∧ H' = [.ro [], .vec 18 []]) := by
  refine Am.Fn.ofW qo2 mixed qa3 (by simp [elemV, AV.qn, AV.under]) (jv rfl) ?_
  simp (maxSteps := 3000000) only [qf, zH, Uk, qa, elemV, iE, iN, iB, iC, iL, iD, iA, iS, iM, rep, qa, zZ, ↓qt, ↓reduceIte, reduceCtorEq, nA, nM, nS, nE, nL, nD]; try simp only [qa, zY]
  refine ⟨rfl, _, qv.trans (qv.qw [2]) (qv.vec 3 0 18 (by decide) rfl rfl rfl rfl), ?_⟩
  refine Ret.xv [0, 3] ⟨⟨by simp, rfl, by decide⟩, ?_⟩ (rs := [.agg [.int .i64 p, .int .i64 c, .int .i64 n, .slc 3 0 0 false 0]]) ?_ rfl (by simp [xa]) ?_ ⟨?_, ?_⟩
  · simp only [qw, zo, zV, ↓reduceIte, nE, reduceCtorEq, nB]
    simp only [zK, ↓reduceIte, reduceCtorEq, nE, nB, nA]
  · simp only [qw, zo, zV, ↓reduceIte, nE, reduceCtorEq, nB]
    rfl
  · intro j l; match j with
    | 0 => simp [q9, Wy, AO.zu, AO.ren]
    | 1 => simp [q9, Wy, AO.zu, AO.ren]
    | j + 2 => simp [q9]
  · simp only [xa]
    simp only [zL, ↓reduceIte, reduceCtorEq, nE, nA]
  · rfl
def vd : BE := fun hp xs => match xs with
  | [.agg [.int .i64 p, .int .i64 c, .int .i64 n, .slc b 0 k false 0]] => match rd hp b with
    | some _ => some (elemV p c n hp.length 0, hp ++ [.vec 18 []])
    | none => none
  | _ => none
theorem qyf : Am.Callee Try.prog 97 vd := Callee.fp fun hp xs v hp' he => by
  unfold vd at he
  split at he
  · rename_i p c n b k
    split at he
    · rename_i L hL
      simp only [Option.some.injEq, Prod.mk.injEq] at he
      obtain ⟨rfl, rfl⟩ := he
      refine ⟨[(b, 0)], [elemV p c n 0 k], _, _, _, qkj p c n k, by simp [elemV, AV.ren, AV.zg, ofL], rfl, ⟨⟨L, hL, by simp, by simp [AV.zg]⟩, trivial⟩, rfl, ⟨trivial, trivial⟩, ⟨⟨trivial, trivial, trivial, by simp [AV.under], trivial⟩, trivial⟩, by simp [elemV, AV.ren, AV.zg, Ren.ext], ?_⟩
      simp [after, upd, AO.wr, AO.ren, AV.zg]
    · cases he
  · cases he
def B36 : zh := (B35.put 97 (vd))
theorem qz0 : qq Try.prog B36 := (qo2.put (qyf))
theorem qgs {n n' : Nat} {m m' : List Nat} (h : isS n m = true) (h' : isS n' m' = true) (hm : m.length = 16) (hm' : m'.length = 16) (e : wy n m = wy n' m') : n = n' ∧ m = m' := by
  rw [K4 n m hm] at h
  rw [K4 n' m' hm'] at h'
  simp only [isI, Bool.and_eq_true, beq_iff_eq] at h h'
  have h1 := h.2.2
  rw [e, h'.2.2] at h1
  simp only [Option.some.injEq, Prod.mk.injEq] at h1
  exact ⟨h1.1.symm, h1.2.symm⟩
structure xd (p n : Int) (ts : List (Int × List Nat × Int)) : Prop where
  ok : okT ts
  dia : ∀ t ∈ ts, t.1 = n ∧ isS n.toNat t.2.1 = true
  fac : ∀ t ∈ ts, 1 ≤ t.2.2 ∧ t.2.2 ≤ p - 1
  up : upT ts
theorem xd.fit {p n : Int} {ts : List (Int × List Nat × Int)} (h : xd p n ts) (hp : p ≤ 1000000) (hl : ts.length ≤ 1000000) : qhm n ts :=
  ⟨hl, fun t ht => (h.dia t ht).1, fun t ht => by have := h.fac t ht; omega, h.up⟩
def K9 (p n : Int) (m : List Nat) (kk : Int) : List (Int × List Nat × Int) → List (Int × List Nat × Int)
  | [] => [(n, m, kk)]
  | t :: l => if ltT t (n, m, 0) then t :: K9 p n m kk l else
    if t.1 = n ∧ t.2.1 = m then (if (t.2.2 + kk).emod p = 0 then [] else [(n, m, (t.2.2 + kk).emod p)]) ++ l else (n, m, kk) :: t :: l
theorem qtt (t : Int × List Nat × Int) (l : List (Int × List Nat × Int)) (n : Int) (m : List Nat) : U9 (t :: l) n m = if ltT t (n, m, 0) = true then U9 l n m + 1 else 0 := by
  unfold U9
  rw [List.takeWhile_cons]
  split <;> rfl
theorem G2 (p n : Int) (m : List Nat) (k : Int) (ts : List (Int × List Nat × Int)) : vi p ts n m k = if k.emod p = 0 then ts else K9 p n m (k.emod p) ts := by
  unfold vi
  split
  · rfl
  · rename_i hk
    induction ts with
    | nil => simp [U9, K9]
    | cons t l ih =>
      rw [qtt]
      unfold K9
      by_cases h : ltT t (n, m, 0) = true
      · simp only [if_pos h, List.length_cons, Nat.add_lt_add_iff_right, List.getD_cons_succ, List.take_succ_cons, List.drop_succ_cons]
        rw [← ih]
        split <;> simp
      · simp only [if_neg h, List.length_cons, List.getD_cons_zero, List.take_zero, List.drop_zero, List.nil_append, List.drop_succ_cons]
        by_cases h2 : t.1 = n ∧ t.2.1 = m
        · rw [if_pos ⟨by omega, h2⟩, if_pos h2]
        · rw [if_neg (fun h3 => h2 h3.2), if_neg h2]
theorem qlj {p n : Int} {m : List Nat} {kk : Int} : ∀ {ts : List (Int × List Nat × Int)}, (K9 p n m kk ts).length ≤ ts.length + 1
  | [] => Nat.le_refl _
  | t :: l => by
    unfold K9
    split
    · have := qlj (p := p) (n := n) (m := m) (kk := kk) (ts := l)
      simp only [List.length_cons]; omega
    · split
      · split <;> simp <;> omega
      · simp
theorem Yl {p n : Int} {m : List Nat} {kk : Int} {u : Int × List Nat × Int} : ∀ {ts : List (Int × List Nat × Int)}, u ∈ K9 p n m kk ts → u ∈ ts ∨ (u.1 = n ∧ u.2.1 = m ∧ (u.2.2 = kk ∨ ∃ f : Int, u.2.2 = (f + kk).emod p ∧ (f + kk).emod p ≠ 0))
  | [], h => by
    rw [K9, List.mem_singleton] at h
    subst h; exact .inr ⟨rfl, rfl, .inl rfl⟩
  | t :: l, h => by
    unfold K9 at h
    split at h
    · rcases List.mem_cons.1 h with rfl | h
      · exact .inl (List.mem_cons_self ..)
      · rcases Yl h with h | h
        · exact .inl (List.mem_cons_of_mem _ h)
        · exact .inr h
    · split at h
      · split at h
        · exact .inl (List.mem_cons_of_mem _ h)
        · rename_i hne
          rcases List.mem_cons.1 h with rfl | h
          · exact .inr ⟨rfl, rfl, .inr ⟨t.2.2, rfl, hne⟩⟩
          · exact .inl (List.mem_cons_of_mem _ h)
      · rcases List.mem_cons.1 h with rfl | h
        · exact .inr ⟨rfl, rfl, .inl rfl⟩
        · exact .inl h
theorem q0w {t u u' : Int × List Nat × Int} (h1 : u.1 = u'.1) (h2 : u.2.1 = u'.2.1) : ltT t u = ltT t u' := by unfold ltT txt; rw [h1, h2]
theorem qy9 {t t' u : Int × List Nat × Int} (h1 : t.1 = t'.1) (h2 : t.2.1 = t'.2.1) : ltT t u = ltT t' u := by unfold ltT txt; rw [h1, h2]
theorem qqq {p n : Int} {m : List Nat} {kk : Int} (hm : okD m) (hs : isS n.toNat m = true) : ∀ {ts : List (Int × List Nat × Int)}, okT ts → (∀ t ∈ ts, t.1 = n ∧ isS n.toNat t.2.1 = true) → upT ts → upT (K9 p n m kk ts)
  | [], _, _, _ => by unfold K9 upT; exact List.pairwise_singleton _ _
  | t :: l, ho, hd, hu => by
    have hu' := List.pairwise_cons.1 hu
    have ih := qqq (p := p) (kk := kk) hm hs (ts := l) (fun u h => ho u (List.mem_cons_of_mem _ h)) (fun u h => hd u (List.mem_cons_of_mem _ h)) hu'.2
    unfold K9
    split
    · rename_i hlt
      refine List.pairwise_cons.2 ⟨fun u hu2 => ?_, ih⟩
      rcases Yl hu2 with h | ⟨h1, h2, _⟩
      · exact hu'.1 u h
      · rw [q0w (u' := (n, m, 0)) h1 h2]; exact hlt
    · rename_i hlt
      split
      · rename_i he
        split
        · exact hu'.2
        · refine List.pairwise_cons.2 ⟨fun u hu2 => ?_, hu'.2⟩
          rw [qy9 (t' := t) he.1.symm he.2.symm]
          exact hu'.1 u hu2
      · rename_i he
        have hx : ltT (n, m, kk) t = true := by
          cases hb : ltT (n, m, kk) t with
          | true => rfl
          | false =>
            exfalso
            have hdt := hd t (List.mem_cons_self ..)
            have e := Xn _ _ (Bool.eq_false_iff.2 hlt) hb
            unfold txt at e
            simp only [hdt.1] at e
            exact he ⟨hdt.1, (qgs hdt.2 hs (ho t (List.mem_cons_self ..)).1 hm.1 e).2⟩
        refine List.pairwise_cons.2 ⟨fun u hu2 => ?_, hu⟩
        rcases List.mem_cons.1 hu2 with rfl | h
        · exact hx
        · exact ur _ _ _ hx (hu'.1 u h)
theorem qbx {p n : Int} {m : List Nat} {k : Int} {ts : List (Int × List Nat × Int)} (hp : 0 < p) (hm : okD m) (hs : isS n.toNat m = true) (h : xd p n ts) : xd p n (vi p ts n m k) := by
  rw [G2]
  split
  · exact h
  · rename_i hk
    have b1 : 0 ≤ k.emod p := Int.emod_nonneg k (by omega)
    have b2 : k.emod p < p := Int.emod_lt_of_pos k hp
    refine ⟨fun u hu => ?_, fun u hu => ?_, fun u hu => ?_, qqq hm hs h.ok h.dia h.up⟩
    · rcases Yl hu with h1 | ⟨_, h2, _⟩
      · exact h.ok u h1
      · rw [h2]; exact hm
    · rcases Yl hu with h1 | ⟨h1, h2, _⟩
      · exact h.dia u h1
      · rw [h2]; exact ⟨h1, hs⟩
    · rcases Yl hu with h1 | ⟨_, _, h3 | ⟨f, h3, h4⟩⟩
      · exact h.fac u h1
      · omega
      · have c1 : 0 ≤ (f + k.emod p).emod p := Int.emod_nonneg _ (by omega)
        have c2 : (f + k.emod p).emod p < p := Int.emod_lt_of_pos _ hp
        omega
theorem qgp {p n : Int} {m : List Nat} {k : Int} {ts : List (Int × List Nat × Int)} : (vi p ts n m k).length ≤ ts.length + 1 := by
  rw [G2]; split
  · omega
  · exact qlj
def qcf (p n k : Int) (acc b : List (Int × List Nat × Int)) : List (Int × List Nat × Int) := b.foldl (fun acc t => vi p acc n t.2.1 (k * t.2.2)) acc
theorem qr2 {p n k : Int} {a : List (Int × List Nat × Int)} (hp : 0 < p) (ha : xd p n a) : ∀ {b : List (Int × List Nat × Int)}, xd p n b → xd p n (qcf p n k a b) ∧ (qcf p n k a b).length ≤ a.length + b.length := by
  intro b
  unfold qcf
  induction b generalizing a with
  | nil => exact fun _ => ⟨ha, by simp⟩
  | cons t b ih =>
    intro hb
    have h1 := qbx (k := k * t.2.2) hp (hb.ok t (List.mem_cons_self ..)) (hb.dia t (List.mem_cons_self ..)).2 ha
    have h2 := qgp (p := p) (n := n) (m := t.2.1) (k := k * t.2.2) (ts := a)
    have h3 := ih h1 ⟨fun u h => hb.ok u (List.mem_cons_of_mem _ h), fun u h => hb.dia u (List.mem_cons_of_mem _ h), fun u h => hb.fac u (List.mem_cons_of_mem _ h), (List.pairwise_cons.1 hb.up).2⟩
    rw [List.foldl_cons]
    refine ⟨h3.1, ?_⟩
    have := h3.2
    simp only [List.length_cons]; omega
def Kr (p n : Int) (ts : List (Int × List Nat × Int)) : Prop := (∀ t ∈ ts, t.1 = n ∧ isS n.toNat t.2.1 = true) ∧ (∀ t ∈ ts, 1 ≤ t.2.2 ∧ t.2.2 ≤ p - 1) ∧ (ts.Pairwise fun a b => ltT a b = true)
instance {p n : Int} {ts : List (Int × List Nat × Int)} : Decidable (Kr p n ts) := by unfold Kr; infer_instance
theorem Kr.qjv {p n : Int} {ts : List (Int × List Nat × Int)} (h : Kr p n ts) (ho : okT ts) : xd p n ts := ⟨ho, h.1, h.2.1, h.2.2⟩
theorem xd.dec {p n : Int} {ts : List (Int × List Nat × Int)} (h : xd p n ts) : Kr p n ts := ⟨h.dia, h.fac, h.up⟩
def B37 : zh := B36
theorem qcl : qq Try.prog B37 := qz0
def Z0 (n : Int) (m : List Nat) : List (Int × List Nat × Int) → Option Nat
  | [] => none
  | t :: l => if n = t.1 ∧ m = t.2.1 then some 0 else (Z0 n m l).map (· + 1)
theorem W0 {n : Int} {m : List Nat} (hm : m.length = 16) : ∀ {ts : List (Int × List Nat × Int)} {k i : Nat}, okT ts →
    wx KD true (.agg (dia n m)) (esT k ts) i = some ((Z0 n m ts).map fun j => (i + j, ⟨.agg (dia n m), .int .i64 (ts.getD j zT).2.2, k + j⟩))
  | [], k, i, _ => rfl
  | t :: l, k, i, h => by
    have h1 := (h t (List.mem_cons_self ..)).1
    have ih := W0 (n := n) hm (ts := l) (k := k + 1) (i := i + 1) fun u hu => h u (List.mem_cons_of_mem _ hu)
    unfold esT wx
    simp only [keq, qaw hm h1, Z0]
    by_cases e : n = t.1 ∧ m = t.2.1
    · simp only [decide_eq_true e, if_pos e, Option.map_some, Nat.add_zero, List.getD_cons_zero]
      obtain ⟨rfl, rfl⟩ := e
      rfl
    · simp only [decide_eq_false e, if_neg e, ih, Option.map_map]
      congr 1
      congr 1
      funext j
      simp only [Function.comp, List.getD_cons_succ]
      rw [show i + 1 + j = i + (j + 1) by omega, show k + 1 + j = k + (j + 1) by omega]
def Zz (n : Int) (m : List Nat) (f : Int) : List (Int × List Nat × Int) → List (Int × List Nat × Int)
  | [] => [(n, m, f)]
  | t :: l => if n = t.1 ∧ m = t.2.1 then (t.1, t.2.1, t.2.2 + f) :: l else t :: Zz n m f l
theorem qjl : ∀ {a b : List (Int × List Nat × Int)} {k : Nat}, esT k (a ++ b) = esT k a ++ esT (k + a.length) b
  | [], b, k => rfl
  | t :: a, b, k => by
    simp only [List.cons_append, esT, qjl, List.length_cons]
    rw [show k + 1 + a.length = k + (a.length + 1) by omega]
theorem qi3 {n v : Int} {m : List Nat} : ∀ {ts : List (Int × List Nat × Int)} {k j : Nat}, (esT k ts).set j ⟨.agg (dia n m), .int .i64 v, k + j⟩ = esT k (ts.set j (n, m, v))
  | [], k, j => rfl
  | t :: ts, k, 0 => rfl
  | t :: ts, k, j + 1 => by
    simp only [esT, List.set_cons_succ]
    rw [show k + (j + 1) = k + 1 + j by omega, qi3]
theorem qjj {v : Int} : ∀ {ts : List (Int × List Nat × Int)} {k j : Nat}, (esT k ts).modify j (fun x => ⟨x.key, .int .i64 v, x.born⟩) = esT k (ts.modify j fun t => (t.1, t.2.1, v))
  | [], k, j => by cases j <;> rfl
  | t :: ts, k, 0 => rfl
  | t :: ts, k, j + 1 => by
    simp only [esT, List.modify_succ_cons, qjj]
theorem qgu : ∀ {ts : List (Int × List Nat × Int)} {k j : Nat}, j < ts.length → (esT k ts).findIdx? (fun x => (x.born : Int) == ((k + j : Nat) : Int)) = some j
  | t :: ts, k, 0, _ => by simp [esT, List.findIdx?_cons]
  | t :: ts, k, j + 1, h => by
    have := qgu (ts := ts) (k := k + 1) (j := j) (by simpa using h)
    rw [show k + 1 + j = k + (j + 1) by omega] at this
    have hne : ((k : Int) == ((k + (j + 1) : Nat) : Int)) = false := by rw [beq_eq_false_iff_ne]; omega
    simp only [esT, List.findIdx?_cons, hne, this, Bool.false_eq_true, if_false, Option.map_some]
theorem G6 {n : Int} {m : List Nat} : ∀ {ts : List (Int × List Nat × Int)} {j : Nat}, Z0 n m ts = some j → j < ts.length ∧ (ts.getD j zT).1 = n ∧ (ts.getD j zT).2.1 = m ∧ ∀ f, Zz n m f ts = ts.set j (n, m, (ts.getD j zT).2.2 + f)
  | t :: l, j, h => by
    unfold Z0 at h
    split at h
    · rename_i e
      cases h
      obtain ⟨rfl, rfl⟩ := e
      exact ⟨by simp, rfl, rfl, fun f => by simp [Zz]⟩
    · rename_i e
      cases hi : Z0 n m l with
      | none => rw [hi] at h; cases h
      | some i =>
        rw [hi] at h; cases h
        obtain ⟨h1, h2, h3, h4⟩ := G6 hi
        exact ⟨by simp; omega, by simpa using h2, by simpa using h3, fun f => by simp [Zz, if_neg e, h4]⟩
theorem qb3 {n : Int} {m : List Nat} : ∀ {ts : List (Int × List Nat × Int)}, Z0 n m ts = none → (∀ f, Zz n m f ts = ts ++ [(n, m, f)]) ∧ ∀ t ∈ ts, ¬ (n = t.1 ∧ m = t.2.1)
  | [], _ => ⟨fun _ => rfl, by simp⟩
  | t :: l, h => by
    unfold Z0 at h
    split at h
    · cases h
    · rename_i e
      have hi : Z0 n m l = none := by
        cases hi : Z0 n m l with
        | none => rfl
        | some i => rw [hi] at h; cases h
      obtain ⟨h1, h2⟩ := qb3 hi
      refine ⟨fun f => by simp [Zz, if_neg e, h1], fun u hu => ?_⟩
      rcases List.mem_cons.1 hu with rfl | hu
      · exact e
      · exact h2 u hu
structure qcm (n M : Int) (ts : List (Int × List Nat × Int)) : Prop where
  ok : okT ts
  dia : ∀ t ∈ ts, t.1 = n ∧ isS n.toNat t.2.1 = true
  fac : ∀ t ∈ ts, -M ≤ t.2.2 ∧ t.2.2 ≤ M
  one : ts.Pairwise fun a b => a.2.1 ≠ b.2.1
theorem Yo {n f : Int} {m : List Nat} {u : Int × List Nat × Int} : ∀ {ts : List (Int × List Nat × Int)}, u ∈ Zz n m f ts → (∃ t ∈ ts, u.1 = t.1 ∧ u.2.1 = t.2.1 ∧ (u.2.2 = t.2.2 ∨ u.2.2 = t.2.2 + f)) ∨ (u = (n, m, f) ∧ ∀ t ∈ ts, ¬ (n = t.1 ∧ m = t.2.1))
  | [], h => by
    rw [Zz, List.mem_singleton] at h
    exact .inr ⟨h, by simp⟩
  | t :: l, h => by
    unfold Zz at h
    split at h
    · rcases List.mem_cons.1 h with rfl | h
      · exact .inl ⟨t, List.mem_cons_self .., rfl, rfl, .inr rfl⟩
      · exact .inl ⟨u, List.mem_cons_of_mem _ h, rfl, rfl, .inl rfl⟩
    · rename_i e
      rcases List.mem_cons.1 h with rfl | h
      · exact .inl ⟨u, List.mem_cons_self .., rfl, rfl, .inl rfl⟩
      · rcases Yo h with ⟨v, hv, h1⟩ | ⟨h1, h2⟩
        · exact .inl ⟨v, List.mem_cons_of_mem _ hv, h1⟩
        · refine .inr ⟨h1, fun v hv => ?_⟩
          rcases List.mem_cons.1 hv with rfl | hv
          · exact e
          · exact h2 v hv
theorem qg3 {n f : Int} {m : List Nat} : ∀ {ts : List (Int × List Nat × Int)}, (∀ t ∈ ts, t.1 = n) → (ts.Pairwise fun a b => a.2.1 ≠ b.2.1) → (Zz n m f ts).Pairwise fun a b => a.2.1 ≠ b.2.1
  | [], _, _ => List.pairwise_singleton _ _
  | t :: l, hs, h => by
    have h' := List.pairwise_cons.1 h
    unfold Zz
    split
    · exact List.pairwise_cons.2 ⟨fun u hu => h'.1 u hu, h'.2⟩
    · rename_i e
      refine List.pairwise_cons.2 ⟨fun u hu => ?_, qg3 (fun u hu => hs u (List.mem_cons_of_mem _ hu)) h'.2⟩
      rcases Yo hu with ⟨v, hv, _, h2, _⟩ | ⟨rfl, _⟩
      · rw [h2]; exact h'.1 v hv
      · intro e2; exact e ⟨(hs t (List.mem_cons_self ..)).symm, e2.symm⟩
theorem qu0 {n f M F : Int} {m : List Nat} {ts : List (Int × List Nat × Int)} (hm : okD m) (hs : isS n.toNat m = true) (hf : -F ≤ f ∧ f ≤ F) (hM : 0 ≤ M) (h : qcm n M ts) : qcm n (M + F) (Zz n m f ts) := by
  refine ⟨fun u hu => ?_, fun u hu => ?_, fun u hu => ?_, qg3 (fun t ht => (h.dia t ht).1) h.one⟩
  · rcases Yo hu with ⟨v, hv, _, h2, _⟩ | ⟨rfl, _⟩
    · rw [h2]; exact h.ok v hv
    · exact hm
  · rcases Yo hu with ⟨v, hv, h1, h2, _⟩ | ⟨rfl, _⟩
    · rw [h1, h2]; exact h.dia v hv
    · exact ⟨rfl, hs⟩
  · rcases Yo hu with ⟨v, hv, _, _, h3⟩ | ⟨rfl, _⟩
    · have := h.fac v hv
      rcases h3 with h3 | h3 <;> omega
    · simp only; omega
def xc (k : Int) (acc b : List (Int × List Nat × Int)) : List (Int × List Nat × Int) := b.foldl (fun acc t => Zz t.1 t.2.1 (k * t.2.2) acc) acc
theorem qe6 {k : Int} {a b : List (Int × List Nat × Int)} {i : Nat} (h : i < b.length) : xc k a (b.take (i + 1)) = Zz b[i].1 b[i].2.1 (k * b[i].2.2) (xc k a (b.take i)) := by
  rw [List.take_succ_eq_append_getElem h, xc, List.foldl_append]; rfl
theorem qln {n f : Int} {m : List Nat} : ∀ {ts : List (Int × List Nat × Int)}, (Zz n m f ts).length ≤ ts.length + 1
  | [] => Nat.le_refl _
  | t :: l => by
    unfold Zz
    split
    · simp
    · have := qln (n := n) (m := m) (f := f) (ts := l)
      simp only [List.length_cons]; omega
def cf (m : List Nat) : List (Int × List Nat × Int) → Int
  | [] => 0
  | t :: l => (if t.2.1 = m then t.2.2 else 0) + cf m l
theorem qu6 {m : List Nat} : ∀ {a b : List (Int × List Nat × Int)}, cf m (a ++ b) = cf m a + cf m b
  | [], b => by simp [cf]
  | t :: a, b => by simp only [List.cons_append, cf, qu6 (a := a)]; omega
theorem qx5 {m : List Nat} {a b : List (Int × List Nat × Int)} (h : a.Perm b) : cf m a = cf m b := by
  induction h with
  | nil => rfl
  | cons x _ ih => simp only [cf, ih]
  | swap x y l => simp only [cf]; omega
  | trans _ _ h1 h2 => rw [h1, h2]
theorem qel (p a : Int) : p ∣ a.emod p - a := ⟨-(a / p), by
  have : a.emod p = a - p * (a / p) := Int.emod_def a p
  rw [this, Int.mul_neg]; omega⟩
theorem k8 {p x y z : Int} (h1 : p ∣ x) (h2 : p ∣ y) (e : z = x + y) : p ∣ z := e ▸ Int.dvd_add h1 h2
theorem qe2 {p x y z : Int} (h1 : p ∣ x) (h2 : p ∣ y) (e : z = x - y) : p ∣ z := e ▸ Int.dvd_sub h1 h2
theorem qjg {p a : Int} (h : a.emod p = 0) : p ∣ a := Int.dvd_of_emod_eq_zero h
theorem qje {n f : Int} {m m' : List Nat} : ∀ {ts : List (Int × List Nat × Int)}, (∀ t ∈ ts, t.1 = n) → cf m (Zz n m' f ts) = cf m ts + if m' = m then f else 0
  | [], _ => by simp [Zz, cf]
  | t :: l, h => by
    have h0 := h t (List.mem_cons_self ..)
    unfold Zz
    split
    · rename_i e
      simp only [cf, e.2]
      split <;> omega
    · simp only [cf, qje (ts := l) fun u hu => h u (List.mem_cons_of_mem _ hu)]
      omega
theorem qq8 {p : Int} {m : List Nat} : ∀ {ts : List (Int × List Nat × Int)}, p ∣ cf m (zr p ts) - cf m ts
  | [] => by simp [zr, cf]
  | t :: l => by
    have ih := qq8 (p := p) (m := m) (ts := l)
    unfold zr at ih ⊢
    rw [List.filterMap_cons]
    split
    · rename_i e
      split at e
      · rename_i e2
        simp only [cf]
        split
        · exact qe2 ih (qjg e2) (by omega)
        · exact k8 ih (Int.dvd_zero p) (by omega)
      · cases e
    · rename_i u e
      split at e
      · cases e
      · cases e
        simp only [cf]
        split
        · exact k8 ih (qel p t.2.2) (by omega)
        · exact k8 ih (Int.dvd_zero p) (by omega)
theorem qqk {p n kk : Int} {m m' : List Nat} : ∀ {ts : List (Int × List Nat × Int)}, (∀ t ∈ ts, t.1 = n) → p ∣ cf m (K9 p n m' kk ts) - (cf m ts + if m' = m then kk else 0)
  | [], _ => by simp [K9, cf]
  | t :: l, h => by
    have ih := qqk (p := p) (kk := kk) (m := m) (m' := m') (ts := l) fun u hu => h u (List.mem_cons_of_mem _ hu)
    unfold K9
    split
    · simp only [cf]
      exact k8 ih (Int.dvd_zero p) (by omega)
    · split
      · rename_i e
        rw [qu6]
        split
        · rename_i e0
          simp only [cf, e.2]
          split
          · exact qe2 (Int.dvd_zero p) (qjg e0) (by omega)
          · exact k8 (Int.dvd_zero p) (Int.dvd_zero p) (by omega)
        · simp only [cf, e.2]
          split
          · exact k8 (qel p (t.2.2 + kk)) (Int.dvd_zero p) (by omega)
          · exact k8 (Int.dvd_zero p) (Int.dvd_zero p) (by omega)
      · simp only [cf]
        exact k8 (Int.dvd_zero p) (Int.dvd_zero p) (by omega)
theorem qql {p n k : Int} {m m' : List Nat} {ts : List (Int × List Nat × Int)} (h : ∀ t ∈ ts, t.1 = n) : p ∣ cf m (vi p ts n m' k) - (cf m ts + if m' = m then k else 0) := by
  rw [G2]
  split
  · rename_i e
    split
    · exact qe2 (Int.dvd_zero p) (qjg e) (by omega)
    · exact k8 (Int.dvd_zero p) (Int.dvd_zero p) (by omega)
  · have h1 := qqk (p := p) (kk := k.emod p) (m := m) (m' := m') h
    split at h1
    · rename_i e
      rw [if_pos e]
      exact k8 h1 (qel p k) (by omega)
    · rename_i e
      rw [if_neg e]; exact h1
theorem qjn {m : List Nat} : ∀ {ts : List (Int × List Nat × Int)}, (∀ t ∈ ts, t.2.1 ≠ m) → cf m ts = 0
  | [], _ => rfl
  | t :: l, h => by
    simp only [cf, if_neg (h t (List.mem_cons_self ..)), qjn (ts := l) fun u hu => h u (List.mem_cons_of_mem _ hu)]; rfl
theorem qpf : ∀ {ts : List (Int × List Nat × Int)}, (ts.Pairwise fun a b => a.2.1 ≠ b.2.1) → ∀ t ∈ ts, cf t.2.1 ts = t.2.2
  | u :: l, h, t, ht => by
    have h' := List.pairwise_cons.1 h
    rcases List.mem_cons.1 ht with rfl | ht
    · simp only [cf, if_true, qjn fun v hv e => h'.1 v hv e.symm]; omega
    · simp only [cf, if_neg (h'.1 t ht), qpf h'.2 t ht]; omega
theorem qvf {ts : List (Int × List Nat × Int)} {n : Int} (hs : ∀ t ∈ ts, t.1 = n) (h : upT ts) : ts.Pairwise fun a b => a.2.1 ≠ b.2.1 := by
  refine List.Pairwise.imp_of_mem ?_ h
  intro a b ha hb hlt e
  have : txt a = txt b := by unfold txt; rw [hs a ha, hs b hb, e]
  unfold ltT at hlt
  rw [this, Q6] at hlt; cases hlt
theorem qeg {p n : Int} {ts : List (Int × List Nat × Int)} (h : xd p n ts) (hp : 0 < p) (m : List Nat) : (0 ≤ cf m ts ∧ cf m ts ≤ p - 1) ∧ ∀ t : Int × List Nat × Int, t.2.1 = m → (t ∈ ts ↔ t.1 = n ∧ t.2.2 = cf m ts ∧ cf m ts ≠ 0) := by
  have ha := qvf (fun t ht => (h.dia t ht).1) h.up
  by_cases hx : ∃ t ∈ ts, t.2.1 = m
  · obtain ⟨t, ht, rfl⟩ := hx
    have e := qpf ha t ht
    have hf := h.fac t ht
    rw [e]
    refine ⟨by omega, fun u hu => ⟨fun hm => ?_, fun ⟨h1, h2, _⟩ => ?_⟩⟩
    · have e2 := qpf ha u hm
      rw [hu, e] at e2
      exact ⟨(h.dia u hm).1, e2.symm, by omega⟩
    · have : u = t := by
        obtain ⟨a, b, c⟩ := u
        obtain ⟨a', b', c'⟩ := t
        simp only at h1 h2 hu
        rw [h1, h2, hu, ← (h.dia _ ht).1]
      rw [this]; exact ht
  · have e := qjn (m := m) (ts := ts) fun t ht e => hx ⟨t, ht, e⟩
    rw [e]
    exact ⟨by omega, fun u hu => ⟨fun hm => absurd ⟨u, hm, hu⟩ hx, fun h3 => absurd rfl h3.2.2⟩⟩
theorem qk7 {ts : List (Int × List Nat × Int)} (h : upT ts) : ts.Nodup := h.imp fun {a b} hlt e => by
  subst e; unfold ltT at hlt; rw [Q6] at hlt; cases hlt
theorem qdk {p n : Int} {a b : List (Int × List Nat × Int)} (hp : 0 < p) (ha : xd p n a) (hb : xd p n b) (h : ∀ m, p ∣ cf m a - cf m b) : a = b := by
  have he : ∀ m, cf m a = cf m b := fun m => by
    obtain ⟨q, hq⟩ := h m
    have h1 := (qeg ha hp m).1
    have h2 := (qeg hb hp m).1
    have : q = 0 := by
      rcases Int.lt_trichotomy q 0 with hl | hl | hl
      · exfalso
        have : p * q ≤ p * (-1) := Int.mul_le_mul_of_nonneg_left (by omega) (by omega)
        omega
      · exact hl
      · exfalso
        have : p * 1 ≤ p * q := Int.mul_le_mul_of_nonneg_left (by omega) (by omega)
        omega
    subst this
    omega
  refine qby ha.up hb.up ((List.perm_ext_iff_of_nodup (qk7 ha.up) (qk7 hb.up)).2 fun t => ?_)
  rw [(qeg ha hp t.2.1).2 t rfl, (qeg hb hp t.2.1).2 t rfl, he]
theorem ql1 {p n M : Int} {S : List (Int × List Nat × Int)} (hp : 0 < p) (h : qcm n M S) : xd p n (Z2 (zr p S)) := by
  have hmem : ∀ t ∈ Z2 (zr p S), ∃ u ∈ S, t = (u.1, u.2.1, u.2.2.emod p) ∧ u.2.2.emod p ≠ 0 := fun t ht => qgx ((kh _).mem_iff.1 ht)
  refine ⟨fun t ht => ?_, fun t ht => ?_, fun t ht => ?_, qbe (qeu ?_)⟩
  · obtain ⟨u, hu, rfl, _⟩ := hmem t ht; exact h.ok u hu
  · obtain ⟨u, hu, rfl, _⟩ := hmem t ht; exact h.dia u hu
  · obtain ⟨u, hu, rfl, hne⟩ := hmem t ht
    have b1 : 0 ≤ u.2.2.emod p := Int.emod_nonneg _ (by omega)
    have b2 : u.2.2.emod p < p := Int.emod_lt_of_pos _ hp
    simp only; omega
  · unfold Gp List.Nodup
    rw [List.pairwise_map]
    refine List.Pairwise.imp_of_mem ?_ h.one
    intro a b ha hb hne e
    unfold txt at e
    have h1 := h.dia a ha
    have h2 := h.dia b hb
    rw [h1.1, h2.1] at e
    exact hne (qgs h1.2 h2.2 (h.ok a ha).1 (h.ok b hb).1 e).2
theorem qqx {p : Int} {m : List Nat} {S : List (Int × List Nat × Int)} : p ∣ cf m (Z2 (zr p S)) - cf m S := by
  rw [qx5 (kh _)]; exact qq8
theorem Vs (P : Program) (B : zh) (cf : Bool) (K : St → Prop) (s : St) (a : AI) (t r : AT) : Gb P B cf (.alt a t r) K s = (qa2 P B cf a (Gb P B cf t K) s ∧ Gb P B cf r K s) := nrX rfl
theorem Y0 (P : Program) (B : zh) (cf : Bool) (K : St → Prop) (s : St) : Gb P B cf .none K s = True := nrX rfl
theorem qjw {α : Type} {f : α → α} : ∀ {l : List α} {j : Nat} {a : α}, l[j]? = some a → l.modify j f = l.set j (f a)
  | [], j, a, h => by simp at h
  | x :: l, 0, a, h => by simp only [List.getElem?_cons_zero, Option.some.injEq] at h; subst h; rfl
  | x :: l, j + 1, a, h => by
    simp only [List.getElem?_cons_succ] at h
    simp only [List.modify_succ_cons, List.set_cons_succ, qjw h]
theorem qiv {n : Int} {m : List Nat} {S : List (Int × List Nat × Int)} (hmo : okD m) (ho : okT S) (h : Z0 n m S = none) :
    wx KD true (.agg (dia n m)) (esT 0 S) 0 = some none ∧
    wx KD true (.agg (dia n m)) (esT 0 S ++ [(⟨.agg (dia n m), .int .i64 0, S.length⟩ : AE)]) 0 = some (some (S.length, ⟨.agg (dia n m), .int .i64 0, S.length⟩)) ∧
    (esT 0 S ++ [(⟨.agg (dia n m), .int .i64 0, S.length⟩ : AE)]).findIdx? (fun x => (x.born : Int) == (S.length : Int)) = some S.length ∧
    (∀ v, (esT 0 S ++ [(⟨.agg (dia n m), .int .i64 0, S.length⟩ : AE)]).modify S.length (fun x => ⟨x.key, .int .i64 v, x.born⟩) = esT 0 (Zz n m v S)) ∧ (∀ v, (Zz n m v S).length = S.length + 1) := by
  have h2 := qb3 h
  have e0 : ∀ v : Int, esT 0 S ++ [(⟨.agg (dia n m), .int .i64 v, S.length⟩ : AE)] = esT 0 (S ++ [(n, m, v)]) := fun v => by
    rw [qjl]; simp [esT]
  have hm := hmo.1
  have hidx : ∀ (l : List (Int × List Nat × Int)), Z0 n m l = none → Z0 n m (l ++ [(n, m, 0)]) = some l.length := fun l => by
    induction l with
    | nil => intro _; simp [Z0]
    | cons t l ih =>
      intro h
      unfold Z0 at h
      split at h
      · cases h
      · rename_i hne
        have h3 : Z0 n m l = none := by
          cases hi : Z0 n m l with
          | none => rfl
          | some i => rw [hi] at h; cases h
        simp only [List.cons_append, Z0, if_neg hne, ih h3, Option.map_some, List.length_cons]
  refine ⟨by rw [W0 hm ho, h]; rfl, ?_, ?_, fun v => ?_, fun v => ?_⟩
  · rw [e0, W0 hm (fun t ht => by
      rcases List.mem_append.1 ht with ht | ht
      · exact ho t ht
      · rw [List.mem_singleton.1 ht]; exact hmo), hidx S h]
    simp
  · rw [e0]
    have := qgu (ts := S ++ [(n, m, 0)]) (k := 0) (j := S.length) (by simp)
    rwa [Nat.zero_add] at this
  · rw [e0, qjj, h2.1, qjw (a := (n, m, 0)) (by simp)]
    simp
  · rw [h2.1]; simp
theorem qib {n : Int} {m : List Nat} {S : List (Int × List Nat × Int)} {j : Nat} (hm : m.length = 16) (ho : okT S) (h : Z0 n m S = some j) :
    wx KD true (.agg (dia n m)) (esT 0 S) 0 = some (some (j, ⟨.agg (dia n m), .int .i64 (S.getD j zT).2.2, j⟩)) ∧
    (esT 0 S).set j ⟨.agg (dia n m), .int .i64 (S.getD j zT).2.2, j⟩ = esT 0 S ∧
    (esT 0 S).findIdx? (fun x => (x.born : Int) == (j : Int)) = some j ∧
    (∀ f, (esT 0 S).modify j (fun x => ⟨x.key, .int .i64 ((S.getD j zT).2.2 + f), x.born⟩) = esT 0 (Zz n m f S)) ∧ (∀ f, (Zz n m f S).length = S.length) := by
  obtain ⟨h1, h2, h3, h4⟩ := G6 h
  refine ⟨by rw [W0 hm ho, h]; simp, ?_, ?_, fun f => ?_, fun f => by rw [h4]; simp⟩
  · have := qi3 (n := n) (v := (S.getD j zT).2.2) (m := m) (ts := S) (k := 0) (j := j)
    rw [Nat.zero_add] at this
    rw [this]
    congr 1
    have e : (n, m, (S.getD j zT).2.2) = S.getD j zT := by rw [← h2, ← h3]
    rw [e, Js h1, List.set_getElem_self]
  · have := qgu (ts := S) (k := 0) h1
    rwa [Nat.zero_add] at this
  · rw [qjj, h4]
    rw [qjw (List.getElem?_eq_getElem h1), ← Js h1, h2, h3]
theorem Yt {n F k : Int} (hF : 0 ≤ F) : ∀ {b acc : List (Int × List Nat × Int)} {M : Int}, 0 ≤ M → qcm n M acc → (∀ t ∈ b, okD t.2.1 ∧ t.1 = n ∧ isS n.toNat t.2.1 = true ∧ -F ≤ k * t.2.2 ∧ k * t.2.2 ≤ F) → qcm n (M + F * b.length) (xc k acc b)
  | [], acc, M, hM, h, _ => by simpa [xc] using h
  | t :: b, acc, M, hM, h, hb => by
    obtain ⟨h1, h2, h3, h4⟩ := hb t (List.mem_cons_self ..)
    have h5 := qu0 h1 h3 h4 hM h
    have := Yt hF (b := b) (by omega) h5 fun u hu => hb u (List.mem_cons_of_mem _ hu)
    rw [← h2] at this ⊢
    rw [List.length_cons, show M + F * ((b.length + 1 : Nat) : Int) = M + F + F * b.length by rw [Int.natCast_add, Int.mul_add]; omega]
    exact this
theorem qb8 {k : Int} : ∀ {b acc : List (Int × List Nat × Int)}, (xc k acc b).length ≤ acc.length + b.length
  | [], acc => by simp [xc]
  | t :: b, acc => by
    have h1 := qln (n := t.1) (m := t.2.1) (f := k * t.2.2) (ts := acc)
    have h2 := qb8 (k := k) (b := b) (acc := Zz t.1 t.2.1 (k * t.2.2) acc)
    have h3 : xc k acc (t :: b) = xc k (Zz t.1 t.2.1 (k * t.2.2) acc) b := rfl
    rw [h3, List.length_cons]; omega
theorem sum_nil {n : Int} : qcm n 0 [] := ⟨(fun t h => by cases h), (fun t h => by cases h), (fun t h => by cases h), .nil⟩
theorem qil {n M : Int} {S : List (Int × List Nat × Int)} (h : qcm n M S) : (S.map txt).Nodup := by
  unfold List.Nodup
  rw [List.pairwise_map]
  refine List.Pairwise.imp_of_mem ?_ h.one
  intro a b ha hb hne e
  unfold txt at e
  have h1 := h.dia a ha
  have h2 := h.dia b hb
  rw [h1.1, h2.1] at e
  exact hne (qgs h1.2 h2.2 (h.ok a ha).1 (h.ok b hb).1 e).2
theorem qux {n M p : Int} {S : List (Int × List Nat × Int)} (hn : 0 ≤ n ∧ n ≤ 8) (h : qcm n M S) : (0 ≤ qd9 S ∧ qd9 S ≤ 8) ∧ (∀ t ∈ S, t.1 = qd9 S) ∧ (if zr p S = [] then n else qd9 S) = n := by
  match S, h with
  | [], h => exact ⟨by simp [qd9], by simp, by simp [zr]⟩
  | t :: l, h =>
    have e : qd9 (t :: l) = n := (h.dia t (List.mem_cons_self ..)).1
    rw [e]
    exact ⟨hn, fun u hu => (h.dia u hu).1, by split <;> rfl⟩
theorem zi : B37 105 = some (v7) := rfl
def Gl : AT := (.one (oM 20 7) (.one (oF 21 0 9) (.one (oN 22 17 21) (.one (oF 24 17 9) (.one (oL 25 24) (.alt (o0 23 (.lookup [.int,.int,.int,.int,.int,.int,.int,.int,.int,.int,.int,.int,.int,.int,.int,.int,.int] true (.int .i64 0) false (.t 20) (.t 22))) (.one (oP 26 .add 23 25) (.one (o0 27 (.Wv [.int,.int,.int,.int,.int,.int,.int,.int,.int,.int,.int,.int,.int,.int,.int,.int,.int] true (.int .i64 0) (.t 20) (.t 22))) (.one (oE 28 1 27) (.one ⟨none,none,.op (.Kq (.t 20) (.t 28) (.t 26))⟩ (.nil))))) (.alt (o0 27 (.Wv [.int,.int,.int,.int,.int,.int,.int,.int,.int,.int,.int,.int,.int,.int,.int,.int,.int] true (.int .i64 0) (.t 20) (.t 22))) (.one (o0 23 (.lookup [.int,.int,.int,.int,.int,.int,.int,.int,.int,.int,.int,.int,.int,.int,.int,.int,.int] true (.int .i64 0) false (.t 20) (.t 22))) (.one (oP 26 .add 23 25) (.one (oE 28 1 27) (.one ⟨none,none,.op (.Kq (.t 20) (.t 28) (.t 26))⟩ (.nil))))) (.none))))))))
def qc6 : AC := .region [oK 29 .add 16 1,oM 16 29]
def Bf : AC := .seq (.region [oP 17 .lss 16 15]) (.seq (.cond 17 .skip (.exit 0)) (.seq (.block 1 (.seq (.region [oX 18 18 14 16,oN 19 18 18,o0 9 (.alloc [.int .i64 0,.int .u8 0,.int .u8 0,.int .u8 0,.int .u8 0,.int .u8 0,.int .u8 0,.int .u8 0,.int .u8 0,.int .u8 0,.int .u8 0,.int .u8 0,.int .u8 0,.int .u8 0,.int .u8 0,.int .u8 0,.int .u8 0,.int .i64 0]),oS 18 9 19]) (.tree false Gl))) qc6))
def Bc : AT := (.one (oM 37 7) (.one (oF 38 0 11) (.one (oN 39 17 38) (.one (oM 41 2) (.one (oF 42 17 11) (.one (oL 43 42) (.one (oP 44 .mul 41 43) (.alt (o0 40 (.lookup [.int,.int,.int,.int,.int,.int,.int,.int,.int,.int,.int,.int,.int,.int,.int,.int,.int] true (.int .i64 0) false (.t 37) (.t 39))) (.one (oP 45 .add 40 44) (.one (o0 46 (.Wv [.int,.int,.int,.int,.int,.int,.int,.int,.int,.int,.int,.int,.int,.int,.int,.int,.int] true (.int .i64 0) (.t 37) (.t 39))) (.one (oE 47 1 46) (.one ⟨none,none,.op (.Kq (.t 37) (.t 47) (.t 45))⟩ (.nil))))) (.alt (o0 46 (.Wv [.int,.int,.int,.int,.int,.int,.int,.int,.int,.int,.int,.int,.int,.int,.int,.int,.int] true (.int .i64 0) (.t 37) (.t 39))) (.one (o0 40 (.lookup [.int,.int,.int,.int,.int,.int,.int,.int,.int,.int,.int,.int,.int,.int,.int,.int,.int] true (.int .i64 0) false (.t 37) (.t 39))) (.one (oP 45 .add 40 44) (.one (oE 47 1 46) (.one ⟨none,none,.op (.Kq (.t 37) (.t 47) (.t 45))⟩ (.nil))))) (.none))))))))))
def qdy : AC := .region [oK 48 .add 33 1,oM 33 48]
def Gh : AC := .seq (.region [oP 34 .lss 33 32]) (.seq (.cond 34 .skip (.exit 2)) (.seq (.block 3 (.seq (.region [oX 35 18 31 33,oN 36 18 35,o0 11 (.alloc [.int .i64 0,.int .u8 0,.int .u8 0,.int .u8 0,.int .u8 0,.int .u8 0,.int .u8 0,.int .u8 0,.int .u8 0,.int .u8 0,.int .u8 0,.int .u8 0,.int .u8 0,.int .u8 0,.int .u8 0,.int .u8 0,.int .u8 0,.int .i64 0]),oS 18 11 36]) (.tree false Bc))) qdy))
def qdf : AC := .seq (.region [oM 49 7,oC 50 105 [.t 3,.t 49],oS 4 6 50]) .ret
def qcy : AC := .seq (.seq (.region [oF 30 3 4,oL 31 30,o0 32 (.len .slc (.t 31)),oI 33 0]) (.block 2 (.loop Gh))) qdf
def qn1 : AC := .seq (.region [o0 3 (.box (.t 0)),o0 4 (.box (.t 1)),oZ 6]) (.seq (.region [o0 12 (.Kt),oM 7 12]) (.seq (.seq (.region [oF 13 3 3,oL 14 13,o0 15 (.len .slc (.t 14)),oI 16 0]) (.block 0 (.loop Bf))) qcy))
theorem qwo : zk Try.prog 124 = some ⟨51, qn1, [.Q9 6 4]⟩ := by kernel_rfl
theorem quz (p c n p' c' k : Int) (a b : List (Int × List Nat × Int)) (hp : 2 ≤ p ∧ p ≤ 97) (hn : 0 ≤ n ∧ n ≤ 8) (ha : xd p n a) (hb : xd p n b) (hl : a.length ≤ 100000 ∧ b.length ≤ 100000) (hk : -1000001 ≤ k ∧ k ≤ 1000001) :
    Am.Fn Try.prog 124 [elemV p c n 0 a.length, elemV p' c' n 1 b.length, .int .i64 k] [.ro (qy a), .ro (qy b)] (fun v H' => v = elemV p c n 2 (zr p (xc k (xc 1 [] a) b)).length ∧ H' = [.ro (qy a), .ro (qy b), .vec 18 (qy (Z2 (zr p (xc k (xc 1 [] a) b))))]) := by
  refine Am.Fn.ofB qcl mixed qwo (by simp [elemV, AV.qn, AV.under]) (J2 (qc _) (qc _)) ?_
  have hal := zb ha.ok
  have hbl := zb hb.ok
  simp (maxSteps := 3000000) only [qf, zH, qn1, zi, v7, elemV, hal, Nat.le_refl, iE, iN, iB, iC, iL, iD, iA, iS, iM, qa, zZ, ↓qt, ↓reduceIte, reduceCtorEq, nA, nM, nS, nE, nL, nD]; try simp only [qa, zY]
  have hsum1 : ∀ i : Nat, i ≤ a.length → qcm n (100 * i) (xc 1 [] (a.take i)) ∧ (xc 1 [] (a.take i)).length ≤ i := fun i hi => by
    have h1 := Yt (n := n) (F := 100) (k := 1) (by omega) (b := a.take i) (acc := []) (M := 0) (by omega) sum_nil fun t ht => by
      have hm := List.mem_of_mem_take ht
      have h2 := ha.fac t hm
      exact ⟨ha.ok t hm, (ha.dia t hm).1, (ha.dia t hm).2, by omega, by omega⟩
    have h2 := qb8 (k := 1) (acc := []) (b := a.take i)
    rw [List.length_take, Nat.min_eq_left hi] at h1 h2
    exact ⟨by simpa using h1, by simpa using h2⟩
  refine WA.jq qcl (fun s => ∃ (i : Nat), i ≤ a.length ∧
      s = ⟨[(16, .int .i64 i), (15, .int .i64 a.length), (14, .slc 0 0 a.length false 0), (7, .map 5), (6, .ptr 4 0), (4, .ptr 3 0), (3, .ptr 2 0), (2, .int .i64 k)], [.ro (qy a), .ro (qy b), .cells [.int .i64 p, .int .i64 c, .int .i64 n, .slc 0 0 a.length false 0],
        .cells [.int .i64 p', .int .i64 c', .int .i64 n, .slc 1 0 b.length false 0], .cells [.int .i64 0, .int .i64 0, .int .i64 0, .v (.slice none 0 0)], wk (xc 1 [] (a.take i))]⟩)
    (fun s => match get s.env 16 with | .int _ x => a.length - x.toNat | _ => 0) ⟨_, qv.qw [16, 15, 14, 7, 6, 4, 3, 2], 0, by omega, rfl⟩ ?_
  rintro s ⟨i, hi, rfl⟩
  obtain ⟨hS, hSl⟩ := hsum1 i hi
  by_cases hlt : i < a.length
  · have hli : (i : Int) < a.length := by omega
    have hli' : (0 : Int) ≤ i := by omega
    have hw : qm .i64 ((i : Int) + 1) = ((i + 1 : Nat) : Int) := by rw [wrap64 (by omega) (by omega)]; rfl
    have hd := Qm ha.ok hlt
    have hf := Yr ha.ok hlt
    have hg := Xw ha.ok hlt
    have hok := ha.ok _ (List.getElem_mem hlt)
    have hsz := ha.dia _ (List.getElem_mem hlt)
    have hfc := ha.fac _ (List.getElem_mem hlt)
    have hb1 : i * 18 < a.length * 18 := by omega
    have hb2 : i * 18 + 18 ≤ a.length * 18 := by omega
    have hb3 : i * 18 + 17 < a.length * 18 := by omega
    have hn1 := qe6 (k := 1) (a := []) hlt
    obtain ⟨t, ht⟩ : ∃ t, t = a[i] := ⟨_, rfl⟩
    rw [← ht] at hd hf hg hok hsz hfc hn1
    clear ht
    obtain ⟨tn, m, f⟩ := t
    simp only at hd hf hg hok hsz hfc hn1
    obtain ⟨hsz1, hs⟩ := hsz
    have hsz1 := hsz1.symm
    subst hsz1
    have hov := ka (t := (0, List.replicate 16 0, 0)) (u := (n, m, f)) (by simp) hok.1
    have htl := xq (t := (n, m, f)) hok
    have htd := Bz (t := (n, m, f)) hok
    have htf := Z6 (t := (n, m, f)) hok
    simp (maxSteps := 3000000) only [qf, zH, Bf, zi, v7, hli, hli', hal, hb1, hb2, hb3, hw, hg, jr, htl, vy, yk, hov, iE, iN, iB, iC, iL, iD, iA, iS, iM, qa, zZ, ↓qt, ↓reduceIte, reduceCtorEq, nA, nM, nS, nE, nL, nD]; try simp only [qa, zY]
    refine WA.qng qcl (fun s => s = ⟨[(16, .int .i64 i), (15, .int .i64 a.length), (14, .slc 0 0 a.length false 0), (7, .map 5), (6, .ptr 4 0), (4, .ptr 3 0), (3, .ptr 2 0), (2, .int .i64 k)], [.ro (qy a), .ro (qy b), .cells [.int .i64 p, .int .i64 c, .int .i64 n, .slc 0 0 a.length false 0],
        .cells [.int .i64 p', .int .i64 c', .int .i64 n, .slc 1 0 b.length false 0], .cells [.int .i64 0, .int .i64 0, .int .i64 0, .v (.slice none 0 0)], wk (xc 1 [] (a.take (i + 1)))]⟩) ?_ ?_
    · rw [hn1, Int.one_mul]
      generalize xc 1 [] (a.take i) = S at hS hSl
      have hmT : wk S = .map (esT 0 S) S.length := rfl
      have hkok : kok KD true (.agg (dia n m)) = true := qen hok.1
      cases hix : Z0 n m S with
      | none =>
        obtain ⟨f1, f2, f3, f4, f5⟩ := qiv hok hS.ok hix
        have hw0 : qm .i64 (0 + f) = f := by rw [wrap64 (by omega) (by omega)]; omega
        unfold Gl
        simp (maxSteps := 3000000) only [qf, zH, zi, v7, Vs, Y0, hmT, hkok, f1, f2, f3, f4, htl, htd, htf, hw0, je, iE, iN, iB, iC, iL, iD, iA, iS, iM, qa, zZ, ↓qt, ↓reduceIte, reduceCtorEq, nA, nM, nS, nE, nL, nD]; try simp only [qa, zY]
        refine ⟨⟨_, qv.xv [0, 1, 2, 3, 4, 5] [16, 15, 14, 7, 6, 4, 3, 2] ⟨by decide, ?_⟩ ?_, ?_⟩, _, qv.xv [0, 1, 2, 3, 4, 5] [16, 15, 14, 7, 6, 4, 3, 2] ⟨by decide, ?_⟩ ?_, ?_⟩
        · simp only [qe _ _ (qc _), ↓zj, zK, ↓reduceIte, reduceCtorEq, nE, nB, nA]
        · simp only [qe _ _ (qc _), ↓zj, zK, ↓reduceIte, reduceCtorEq, nE, nB, nA]
        · simp only [qb _ _ (qc _), ↓y5, zL, ↓reduceIte, reduceCtorEq, nE, nA]
          rw [wk, f5]
        · simp only [qe _ _ (qc _), ↓zj, zK, ↓reduceIte, reduceCtorEq, nE, nB, nA]
        · simp only [qe _ _ (qc _), ↓zj, zK, ↓reduceIte, reduceCtorEq, nE, nB, nA]
        · simp only [qb _ _ (qc _), ↓y5, zL, ↓reduceIte, reduceCtorEq, nE, nA]
          rw [wk, f5]
      | some j =>
        obtain ⟨f1, f2, f3, f4, f5⟩ := qib hok.1 hS.ok hix
        have hj := G6 hix
        have hfj := hS.fac _ (show S.getD j zT ∈ S by rw [Js hj.1]; exact List.getElem_mem _)
        have hw0 : qm .i64 ((S.getD j zT).2.2 + f) = (S.getD j zT).2.2 + f := wrap64 (by omega) (by omega)
        unfold Gl
        simp (maxSteps := 3000000) only [qf, zH, zi, v7, Vs, Y0, hmT, hkok, f1, f2, f3, f4, htl, htd, htf, hw0, je, iE, iN, iB, iC, iL, iD, iA, iS, iM, qa, zZ, ↓qt, ↓reduceIte, reduceCtorEq, nA, nM, nS, nE, nL, nD]; try simp only [qa, zY]
        refine ⟨⟨_, qv.xv [0, 1, 2, 3, 4, 5] [16, 15, 14, 7, 6, 4, 3, 2] ⟨by decide, ?_⟩ ?_, ?_⟩, _, qv.xv [0, 1, 2, 3, 4, 5] [16, 15, 14, 7, 6, 4, 3, 2] ⟨by decide, ?_⟩ ?_, ?_⟩
        · simp only [qe _ _ (qc _), ↓zj, zK, ↓reduceIte, reduceCtorEq, nE, nB, nA]
        · simp only [qe _ _ (qc _), ↓zj, zK, ↓reduceIte, reduceCtorEq, nE, nB, nA]
        · simp only [qb _ _ (qc _), ↓y5, zL, ↓reduceIte, reduceCtorEq, nE, nA]
          rw [wk, f5]
        · simp only [qe _ _ (qc _), ↓zj, zK, ↓reduceIte, reduceCtorEq, nE, nB, nA]
        · simp only [qe _ _ (qc _), ↓zj, zK, ↓reduceIte, reduceCtorEq, nE, nB, nA]
        · simp only [qb _ _ (qc _), ↓y5, zL, ↓reduceIte, reduceCtorEq, nE, nA]
          rw [wk, f5]
    · rintro s rfl
      simp (maxSteps := 3000000) only [qf, zH, qc6, zi, v7, hw, iE, iN, iB, iC, iL, iD, iA, iS, iM, qa, zZ, ↓qt, ↓reduceIte, reduceCtorEq, nA, nM, nS, nE, nL, nD]; try simp only [qa, zY]
      refine ⟨_, qv.qw [16, 15, 14, 7, 6, 4, 3, 2], ⟨i + 1, by omega, rfl⟩, ?_⟩
      simp only [zL, ↓reduceIte, reduceCtorEq, nE, nA]; omega
  have hli : ¬ ((i : Int) < a.length) := by omega
  obtain rfl : i = a.length := by omega
  have htk : a.take a.length = a := List.take_length
  rw [htk] at hS hSl
  have hmT : wk (xc 1 [] (a.take a.length)) = wk (xc 1 [] a) := by rw [htk]
  simp (maxSteps := 3000000) only [qf, zH, Bf, qcy, zi, v7, hli, hmT, Int.lt_irrefl, hbl, iE, iN, iB, iC, iL, iD, iA, iS, iM, qa, zZ, ↓qt, ↓reduceIte, reduceCtorEq, nA, nM, nS, nE, nL, nD]; try simp only [qa, zY]
  have hsum2 : ∀ i : Nat, i ≤ b.length → qcm n (10000000 + 100000000 * i) (xc k (xc 1 [] a) (b.take i)) ∧ (xc k (xc 1 [] a) (b.take i)).length ≤ a.length + i := fun i hi => by
    have h1 := Yt (n := n) (F := 100000000) (k := k) (by omega) (b := b.take i) (acc := xc 1 [] a) (M := 100 * a.length) (by omega) hS fun t ht => by
      have hm := List.mem_of_mem_take ht
      have h2 := hb.fac t hm
      have h3 : -1000001 * t.2.2 ≤ k * t.2.2 := Int.mul_le_mul_of_nonneg_right (by omega) (by omega)
      have h4 : k * t.2.2 ≤ 1000001 * t.2.2 := Int.mul_le_mul_of_nonneg_right (by omega) (by omega)
      generalize k * t.2.2 = q at h3 h4 ⊢
      exact ⟨hb.ok t hm, (hb.dia t hm).1, (hb.dia t hm).2, by omega, by omega⟩
    have h2 := qb8 (k := k) (acc := xc 1 [] a) (b := b.take i)
    rw [List.length_take, Nat.min_eq_left hi] at h1 h2
    exact ⟨⟨h1.ok, h1.dia, fun t ht => by have := h1.fac t ht; omega, h1.one⟩, by omega⟩
  refine WA.jq qcl (fun s => ∃ (i : Nat), i ≤ b.length ∧
      s = ⟨[(33, .int .i64 i), (32, .int .i64 b.length), (31, .slc 1 0 b.length false 0), (7, .map 5), (6, .ptr 4 0), (3, .ptr 2 0), (2, .int .i64 k)], [.ro (qy a), .ro (qy b), .cells [.int .i64 p, .int .i64 c, .int .i64 n, .slc 0 0 a.length false 0],
        .cells [.int .i64 p', .int .i64 c', .int .i64 n, .slc 1 0 b.length false 0], .cells [.int .i64 0, .int .i64 0, .int .i64 0, .v (.slice none 0 0)], wk (xc k (xc 1 [] a) (b.take i))]⟩)
    (fun s => match get s.env 33 with | .int _ x => b.length - x.toNat | _ => 0) ⟨_, qv.qw [33, 32, 31, 7, 6, 3, 2], 0, by omega, rfl⟩ ?_
  clear hS hSl hmT htk hi hlt hli
  rintro s ⟨i, hi, rfl⟩
  obtain ⟨hS, hSl⟩ := hsum2 i hi
  by_cases hlt : i < b.length
  · have hli : (i : Int) < b.length := by omega
    have hli' : (0 : Int) ≤ i := by omega
    have hw : qm .i64 ((i : Int) + 1) = ((i + 1 : Nat) : Int) := by rw [wrap64 (by omega) (by omega)]; rfl
    have hd := Qm hb.ok hlt
    have hf := Yr hb.ok hlt
    have hg := Xw hb.ok hlt
    have hok := hb.ok _ (List.getElem_mem hlt)
    have hsz := hb.dia _ (List.getElem_mem hlt)
    have hfc := hb.fac _ (List.getElem_mem hlt)
    have hb1 : i * 18 < b.length * 18 := by omega
    have hb2 : i * 18 + 18 ≤ b.length * 18 := by omega
    have hn1 := qe6 (k := k) (a := xc 1 [] a) hlt
    obtain ⟨t, ht⟩ : ∃ t, t = b[i] := ⟨_, rfl⟩
    rw [← ht] at hd hf hg hok hsz hfc hn1
    clear ht
    obtain ⟨tn, m, f⟩ := t
    simp only at hd hf hg hok hsz hfc hn1
    obtain ⟨hsz1, hs⟩ := hsz
    have hsz1 := hsz1.symm
    subst hsz1
    have hov := ka (t := (0, List.replicate 16 0, 0)) (u := (n, m, f)) (by simp) hok.1
    have htl := xq (t := (n, m, f)) hok
    have htd := Bz (t := (n, m, f)) hok
    have htf := Z6 (t := (n, m, f)) hok
    have hkf : -100000000 ≤ k * f ∧ k * f ≤ 100000000 := by
      have h1 : -1000001 * f ≤ k * f := Int.mul_le_mul_of_nonneg_right (by omega) (by omega)
      have h2 : k * f ≤ 1000001 * f := Int.mul_le_mul_of_nonneg_right (by omega) (by omega)
      generalize k * f = q at h1 h2 ⊢
      omega
    obtain ⟨kf, hkfe⟩ : ∃ kf, kf = k * f := ⟨_, rfl⟩
    have hwk : qm .i64 (k * f) = kf := by rw [hkfe]; exact wrap64 (by omega) (by omega)
    rw [← hkfe] at hkf hn1
    simp (maxSteps := 3000000) only [qf, zH, Gh, zi, v7, hli, hli', hbl, hb1, hb2, hw, hg, jr, htl, vy, yk, hov, iE, iN, iB, iC, iL, iD, iA, iS, iM, qa, zZ, ↓qt, ↓reduceIte, reduceCtorEq, nA, nM, nS, nE, nL, nD]; try simp only [qa, zY]
    refine WA.qng qcl (fun s => s = ⟨[(33, .int .i64 i), (32, .int .i64 b.length), (31, .slc 1 0 b.length false 0), (7, .map 5), (6, .ptr 4 0), (3, .ptr 2 0), (2, .int .i64 k)], [.ro (qy a), .ro (qy b), .cells [.int .i64 p, .int .i64 c, .int .i64 n, .slc 0 0 a.length false 0],
        .cells [.int .i64 p', .int .i64 c', .int .i64 n, .slc 1 0 b.length false 0], .cells [.int .i64 0, .int .i64 0, .int .i64 0, .v (.slice none 0 0)], wk (xc k (xc 1 [] a) (b.take (i + 1)))]⟩) ?_ ?_
    · rw [hn1]
      generalize xc k (xc 1 [] a) (b.take i) = S at hS hSl
      have hmT : wk S = .map (esT 0 S) S.length := rfl
      have hkok : kok KD true (.agg (dia n m)) = true := qen hok.1
      cases hix : Z0 n m S with
      | none =>
        obtain ⟨f1, f2, f3, f4, f5⟩ := qiv hok hS.ok hix
        have hw0 : qm .i64 (0 + kf) = kf := by rw [wrap64 (by omega) (by omega)]; omega
        unfold Bc
        simp (maxSteps := 3000000) only [qf, zH, zi, v7, Vs, Y0, hmT, hkok, f1, f2, f3, f4, htl, htd, htf, hw0, hwk, je, iE, iN, iB, iC, iL, iD, iA, iS, iM, qa, zZ, ↓qt, ↓reduceIte, reduceCtorEq, nA, nM, nS, nE, nL, nD]; try simp only [qa, zY]
        refine ⟨⟨_, qv.xv [0, 1, 2, 3, 4, 5] [33, 32, 31, 7, 6, 3, 2] ⟨by decide, ?_⟩ ?_, ?_⟩, _, qv.xv [0, 1, 2, 3, 4, 5] [33, 32, 31, 7, 6, 3, 2] ⟨by decide, ?_⟩ ?_, ?_⟩
        · simp only [qe _ _ (qc _), ↓zj, zK, ↓reduceIte, reduceCtorEq, nE, nB, nA]
        · simp only [qe _ _ (qc _), ↓zj, zK, ↓reduceIte, reduceCtorEq, nE, nB, nA]
        · simp only [qb _ _ (qc _), ↓y5, zL, ↓reduceIte, reduceCtorEq, nE, nA]
          rw [wk, f5]
        · simp only [qe _ _ (qc _), ↓zj, zK, ↓reduceIte, reduceCtorEq, nE, nB, nA]
        · simp only [qe _ _ (qc _), ↓zj, zK, ↓reduceIte, reduceCtorEq, nE, nB, nA]
        · simp only [qb _ _ (qc _), ↓y5, zL, ↓reduceIte, reduceCtorEq, nE, nA]
          rw [wk, f5]
      | some j =>
        obtain ⟨f1, f2, f3, f4, f5⟩ := qib hok.1 hS.ok hix
        have hj := G6 hix
        have hfj := hS.fac _ (show S.getD j zT ∈ S by rw [Js hj.1]; exact List.getElem_mem _)
        have hw0 : qm .i64 ((S.getD j zT).2.2 + kf) = (S.getD j zT).2.2 + kf := wrap64 (by omega) (by omega)
        unfold Bc
        simp (maxSteps := 3000000) only [qf, zH, zi, v7, Vs, Y0, hmT, hkok, f1, f2, f3, f4, htl, htd, htf, hw0, hwk, je, iE, iN, iB, iC, iL, iD, iA, iS, iM, qa, zZ, ↓qt, ↓reduceIte, reduceCtorEq, nA, nM, nS, nE, nL, nD]; try simp only [qa, zY]
        refine ⟨⟨_, qv.xv [0, 1, 2, 3, 4, 5] [33, 32, 31, 7, 6, 3, 2] ⟨by decide, ?_⟩ ?_, ?_⟩, _, qv.xv [0, 1, 2, 3, 4, 5] [33, 32, 31, 7, 6, 3, 2] ⟨by decide, ?_⟩ ?_, ?_⟩
        · simp only [qe _ _ (qc _), ↓zj, zK, ↓reduceIte, reduceCtorEq, nE, nB, nA]
        · simp only [qe _ _ (qc _), ↓zj, zK, ↓reduceIte, reduceCtorEq, nE, nB, nA]
        · simp only [qb _ _ (qc _), ↓y5, zL, ↓reduceIte, reduceCtorEq, nE, nA]
          rw [wk, f5]
        · simp only [qe _ _ (qc _), ↓zj, zK, ↓reduceIte, reduceCtorEq, nE, nB, nA]
        · simp only [qe _ _ (qc _), ↓zj, zK, ↓reduceIte, reduceCtorEq, nE, nB, nA]
        · simp only [qb _ _ (qc _), ↓y5, zL, ↓reduceIte, reduceCtorEq, nE, nA]
          rw [wk, f5]
    · rintro s rfl
      simp (maxSteps := 3000000) only [qf, zH, qdy, zi, v7, hw, iE, iN, iB, iC, iL, iD, iA, iS, iM, qa, zZ, ↓qt, ↓reduceIte, reduceCtorEq, nA, nM, nS, nE, nL, nD]; try simp only [qa, zY]
      refine ⟨_, qv.qw [33, 32, 31, 7, 6, 3, 2], ⟨i + 1, by omega, rfl⟩, ?_⟩
      simp only [zL, ↓reduceIte, reduceCtorEq, nE, nA]; omega
  have hli : ¬ ((i : Int) < b.length) := by omega
  obtain rfl : i = b.length := by omega
  have htk : b.take b.length = b := List.take_length
  rw [htk] at hS hSl ⊢
  have hap := qil hS
  obtain ⟨hz1, hz2, hz3⟩ := qux (p := p) hn hS
  have hSo := hS.ok
  generalize xc k (xc 1 [] a) b = S at *
  have hmT : wk S = .map (esT 0 S) S.length := rfl
  have hts := qkk (ts := S) (k := 0) hSo
  have hSl' : S.length ≤ 1000000 := by omega
  have hpp : 0 < p ∧ p ≤ 1000000 := by omega
  simp (maxSteps := 3000000) only [qf, zH, Gh, qdf, zi, v7, hli, hmT, Int.lt_irrefl, hts, hpp, hSl', hz1, hz2, hz3, hap, and_self, elemV, iE, iN, iB, iC, iL, iD, iA, iS, iM, qa, zZ, ↓qt, ↓reduceIte, reduceCtorEq, nA, nM, nS, nE, nL, nD]; try simp only [qa, zY]
  refine ⟨hz2, rfl, ?_⟩
  refine Ret.xv [0, 1, 6] ⟨⟨by simp, rfl, by decide⟩, ?_⟩ (rs := [.agg [.int .i64 p, .int .i64 c, .int .i64 n, .slc 6 0 (zr p S).length false 0]]) rfl rfl (by simp [xa]) ?_ ⟨?_, ?_⟩
  · simp only [qe _ _ (qc _), ↓zj, zK, ↓reduceIte, reduceCtorEq, nE, nB, nA]
  · intro j l; match j with
    | 0 => simp [q9, AO.ren]
    | 1 => simp [q9, AO.ren]
    | 2 => simp [q9, AO.ren]
    | j + 3 => simp [q9]
  · simp only [xa]
    simp only [zL, ↓reduceIte, reduceCtorEq, nE, nA]
  · simp only [qb _ _ (qc _), zL, ↓reduceIte, reduceCtorEq, nE, nA]
theorem qgh {n k : Int} {m : List Nat} : ∀ {b acc : List (Int × List Nat × Int)}, (∀ t ∈ acc, t.1 = n) → (∀ t ∈ b, t.1 = n) → cf m (xc k acc b) = cf m acc + k * cf m b ∧ ∀ t ∈ xc k acc b, t.1 = n
  | [], acc, h, _ => ⟨by simp [xc, cf], h⟩
  | t :: b, acc, h, hb => by
    have h0 := hb t (List.mem_cons_self ..)
    have h1 : ∀ u ∈ Zz t.1 t.2.1 (k * t.2.2) acc, u.1 = n := fun u hu => by
      rcases Yo hu with ⟨v, hv, e, _⟩ | ⟨rfl, _⟩
      · rw [e]; exact h v hv
      · exact h0
    have ih := qgh (k := k) (m := m) (b := b) h1 fun u hu => hb u (List.mem_cons_of_mem _ hu)
    have e : xc k acc (t :: b) = xc k (Zz t.1 t.2.1 (k * t.2.2) acc) b := rfl
    rw [e]
    refine ⟨?_, ih.2⟩
    have h2 := qje (f := k * t.2.2) (m := m) (m' := t.2.1) h
    rw [← h0] at h2
    rw [ih.1, h2, cf, Int.mul_add]
    split
    · omega
    · rw [Int.mul_zero]; omega
theorem qrf {p n k : Int} {m : List Nat} {ts : List (Int × List Nat × Int)} (h : ∀ t ∈ ts, t.1 = n) : ∀ t ∈ vi p ts n m k, t.1 = n := fun t ht => by
  rw [G2] at ht
  split at ht
  · exact h t ht
  · rcases Yl ht with h1 | ⟨h1, _⟩
    · exact h t h1
    · exact h1
theorem qrm {p n k : Int} {m : List Nat} : ∀ {b acc : List (Int × List Nat × Int)}, (∀ t ∈ acc, t.1 = n) → p ∣ cf m (qcf p n k acc b) - (cf m acc + k * cf m b)
  | [], acc, h => by simp [qcf, cf]
  | t :: b, acc, h => by
    have ih := qrm (p := p) (k := k) (m := m) (b := b) (qrf (p := p) (m := t.2.1) (k := k * t.2.2) h)
    have h1 := qql (p := p) (k := k * t.2.2) (m := m) (m' := t.2.1) h
    have e : qcf p n k acc (t :: b) = qcf p n k (vi p acc n t.2.1 (k * t.2.2)) b := rfl
    rw [e]
    refine k8 ih h1 ?_
    rw [cf, Int.mul_add]
    split
    · omega
    · rw [Int.mul_zero]; omega
theorem quj {p n k M : Int} {a b : List (Int × List Nat × Int)} (hp : 0 < p) (ha : xd p n a) (hb : xd p n b) (h : qcm n M (xc k (xc 1 [] a) b)) : Z2 (zr p (xc k (xc 1 [] a) b)) = qcf p n k a b := by
  have ha' : ∀ t ∈ a, t.1 = n := fun t ht => (ha.dia t ht).1
  have hb' : ∀ t ∈ b, t.1 = n := fun t ht => (hb.dia t ht).1
  refine qdk hp (ql1 hp h) (qr2 hp ha hb).1 fun m => ?_
  have h1 := qgh (n := n) (k := 1) (m := m) (acc := []) (b := a) (by simp) ha'
  have h2 := qgh (k := k) (m := m) h1.2 hb'
  have h3 := qqx (p := p) (m := m) (S := xc k (xc 1 [] a) b)
  have h4 := qrm (p := p) (k := k) (m := m) (b := b) ha'
  refine qe2 h3 h4 ?_
  rw [h2.1, h1.1]
  simp only [cf]; omega
theorem qv9 {p n k : Int} {a b : List (Int × List Nat × Int)} (hp : 2 ≤ p ∧ p ≤ 97) (ha : xd p n a) (hb : xd p n b) (hk : -1000001 ≤ k ∧ k ≤ 1000001) : ∃ M, qcm n M (xc k (xc 1 [] a) b) := by
  have h1 := Yt (n := n) (F := 100) (k := 1) (by omega) (b := a) (acc := []) (M := 0) (by omega) sum_nil fun t hm => by
    have h2 := ha.fac t hm
    exact ⟨ha.ok t hm, (ha.dia t hm).1, (ha.dia t hm).2, by omega, by omega⟩
  exact ⟨_, Yt (n := n) (F := 100000000) (k := k) (by omega) (b := b) (by omega) h1 fun t hm => by
    have h2 := hb.fac t hm
    have h3 : -1000001 * t.2.2 ≤ k * t.2.2 := Int.mul_le_mul_of_nonneg_right (by omega) (by omega)
    have h4 : k * t.2.2 ≤ 1000001 * t.2.2 := Int.mul_le_mul_of_nonneg_right (by omega) (by omega)
    generalize k * t.2.2 = q at h3 h4 ⊢
    exact ⟨hb.ok t hm, (hb.dia t hm).1, (hb.dia t hm).2, by omega, by omega⟩⟩
def Bv : BE := fun hp xs => match xs with
  | [.agg [.int .i64 p, .int .i64 c, .int .i64 n, .slc b 0 la false 0], .agg [.int .i64 p', .int .i64 c', .int .i64 n', .slc b' 0 lb false 0], .int .i64 k] => match rd hp b, rd hp b' with
    | some L, some L' => match Vz la L, Vz lb L' with
      | some ta, some tb => chk ((((2 ≤ p ∧ p ≤ 97) ∧ (0 ≤ n ∧ n ≤ 8) ∧ n' = n) ∧ Kr p n ta ∧ Kr p n tb) ∧ (ta.length ≤ 100000 ∧ tb.length ≤ 100000) ∧ (-1000001 ≤ k ∧ k ≤ 1000001)) (some (elemV p c n hp.length (qcf p n k ta tb).length, hp ++ [.vec 18 (qy (qcf p n k ta tb))]))
      | _, _ => none
    | _, _ => none
  | _ => none
theorem q0k : Am.Callee Try.prog 124 Bv := Callee.fp fun hp xs v hp' he => by
  unfold Bv at he
  split at he
  · rename_i p c n b la p' c' n' b' lb k
    split at he
    · rename_i L L' hL hL'
      split at he
      · rename_i ta tb h1 h1'
        obtain ⟨⟨⟨⟨a1, a2, a3⟩, a4, a5⟩, a6, a7⟩, he2⟩ := ql he
        simp only [Option.some.injEq, Prod.mk.injEq] at he2
        obtain ⟨rfl, rfl⟩ := he2
        obtain ⟨e1, e2, e3, e4⟩ := Q3 h1
        obtain ⟨f1, f2, f3, f4⟩ := Q3 h1'
        have g1 := zb e2
        have g2 := zb f2
        subst a3
        have hfn := quz p c n' p' c' k ta tb a1 a2 (a4.qjv e2) (a5.qjv f2) a6 a7
        obtain ⟨M, hM⟩ := qv9 a1 (a4.qjv e2) (a5.qjv f2) a7
        have hlaw := quj (by omega) (a4.qjv e2) (a5.qjv f2) hM
        have hlen : (zr p (xc k (xc 1 [] ta) tb)).length = (qcf p n' k ta tb).length := by rw [← hlaw]; exact (kh _).length_eq.symm
        rw [hlaw, hlen] at hfn
        refine ⟨[(b, 0), (b', 0)], [elemV p c n' 0 ta.length, elemV p' c' n' 1 tb.length, .int .i64 k], _, _, _, hfn, by simp [elemV, AV.ren, AV.zg, ofL, e1, f1], rfl,
          ⟨⟨L, hL, by omega, by rw [List.drop_zero, qb _ _ (qc _), g1, e1]; exact e3⟩, ⟨L', hL', by omega, by rw [List.drop_zero, qb _ _ (qc _), g2, f1]; exact f3⟩, trivial⟩, rfl,
          ⟨qi _ _ (qc _), qi _ _ (qc _), trivial⟩, ⟨⟨trivial, trivial, trivial, by simp [AV.under], trivial⟩, ⟨trivial, trivial, trivial, by simp [AV.under], trivial⟩, trivial, trivial⟩, by simp [elemV, AV.ren, AV.zg, Ren.ext], ?_⟩
        simp [after, upd, AO.wr, AO.ren, qb _ _ (qc _)]
      · cases he
    · cases he
  · cases he
def B38 : zh := (B37.put 124 (Bv))
theorem qzx : qq Try.prog B38 := (qcl.put (q0k))
abbrev qoj : AO := .cells [.int .i64 0, .int .i64 0, .int .i64 0, .v (.slice none 0 0)]
abbrev ER := Int × Int × Int × List (Int × List Nat × Int) × Int
def q2w (r : ER) : Prop := okT r.2.2.2.1 ∧ r.2.2.2.1.length ≤ 300
def B39 : zh := B38
theorem qfu : qq Try.prog B39 := qzx
structure NC (L : Nat) (F : Nat → Nat) : Prop where
  lt : ∀ k, k < L → F k < L
  inv : ∀ k, k < L → F (F k) = k
  fix : ∀ k, k < L → F k ≠ k
  wq : ∀ j l, j < L → l < L → ¬(j < l ∧ l < F j ∧ F j < F l)
def mf (n : Nat) (m : List Nat) (k : Nat) : Nat := place n (m.getD (place n k) 0)
theorem z6 {n : Nat} {m : List Nat} (h : isS n m = true) : (1 ≤ n ∧ n ≤ 8) ∧ (∀ i, i < 2 * n → m.getD i 0 < 2 * n ∧ m.getD i 0 ≠ i ∧ m.getD (m.getD i 0) 0 = i) ∧ ∀ i, 2 * n ≤ i → i < 16 → m.getD i 0 = 0 := by
  unfold isS at h
  simp only [Bool.and_eq_true, decide_eq_true_eq] at h
  obtain ⟨hn, hp, hc⟩ := h
  refine ⟨hn, fun i hi => ?_, fun i hi hi' => ?_⟩
  · have := List.all_eq_true.1 hp i (List.mem_range.2 (by omega))
    rw [if_neg (by omega)] at this
    simpa using this
  · have := List.all_eq_true.1 hp i (List.mem_range.2 hi')
    rw [if_pos hi] at this
    simpa using this
theorem qks {n : Nat} {m : List Nat} (h : isS n m = true) : NC (2 * n) (mf n m) := by
  obtain ⟨hn, hp', hz⟩ := z6 h
  unfold isS at h
  simp only [Bool.and_eq_true, decide_eq_true_eq] at h
  obtain ⟨_, _, hc⟩ := h
  refine ⟨fun k hk => ze (hp' _ (ze hk)).1, fun k hk => ?_, fun k hk e => ?_, ?_⟩
  · show place n (m.getD (place n (place n (m.getD (place n k) 0))) 0) = k
    rw [zd (hp' _ (ze hk)).1, (hp' _ (ze hk)).2.2, zd hk]
  · apply (hp' _ (ze hk)).2.1
    rw [← zd (hp' _ (ze hk)).1]
    show place n (mf n m k) = place n k
    rw [e]
  · rintro j l hj hl ⟨b1, b2, b3⟩
    have h1 := List.all_eq_true.1 (List.all_eq_true.1 hc (place n j) (List.mem_range.2 (ze hj))) (place n l) (List.mem_range.2 (ze hl))
    simp only [Kn, Km, zd hj, zd hl, Bool.not_eq_true', decide_eq_false_iff_not] at h1
    apply h1
    show min j (mf n m j) < min l (mf n m l) ∧ min l (mf n m l) < max j (mf n m j) ∧ max j (mf n m j) < max l (mf n m l)
    omega
theorem qzw {n : Nat} {m : List Nat} (hn : 1 ≤ n ∧ n ≤ 8) (hz : ∀ i, 2 * n ≤ i → i < 16 → m.getD i 0 = 0) (hl : ∀ i, i < 2 * n → m.getD i 0 < 2 * n) (h : NC (2 * n) (mf n m)) : isS n m = true := by
  have hm : ∀ i, i < 2 * n → mf n m (place n i) = place n (m.getD i 0) := fun i hi => by unfold mf; rw [zd hi]
  unfold isS
  simp only [Bool.and_eq_true, decide_eq_true_eq]
  refine ⟨hn, List.all_eq_true.2 fun i hi => ?_, List.all_eq_true.2 fun i hi => List.all_eq_true.2 fun k hk => ?_⟩
  · have hi' := List.mem_range.1 hi
    split
    · rename_i g1; simpa using hz i g1 hi'
    · rename_i g1
      have hi2 : i < 2 * n := by omega
      have h1 := hl i hi2
      simp only [decide_eq_true_eq]
      refine ⟨h1, fun e => ?_, ?_⟩
      · apply h.fix (place n i) (ze hi2)
        rw [hm i hi2, e]
      · have h2 := h.inv (place n i) (ze hi2)
        rw [hm i hi2, hm _ h1] at h2
        have h3 := congrArg (place n) h2
        rwa [zd (hl _ h1), zd hi2] at h3
  · have hi' := List.mem_range.1 hi
    have hk' := List.mem_range.1 hk
    simp only [Kn, Km, ← hm i hi', ← hm k hk', Bool.not_eq_true', decide_eq_false_iff_not]
    rintro ⟨b1, b2, b3⟩
    have hx := ze hi'
    have hy := ze hk'
    generalize place n i = x at *
    generalize place n k = y at *
    have a := h.lt x hx
    have a' := h.lt y hy
    have c := h.inv x hx
    have c' := h.inv y hy
    have k1 := h.wq x y hx hy
    have k2 := h.wq x (mf n m y) hx a'
    have k3 := h.wq (mf n m x) y a hy
    have k4 := h.wq (mf n m x) (mf n m y) a a'
    rw [c'] at k2
    rw [c] at k3
    rw [c, c'] at k4
    omega
def up (j k : Nat) : Nat := if k < j then k else k + 2
def dn (j k : Nat) : Nat := if k < j then k else k - 2
theorem qrb {j k : Nat} (h1 : k ≠ j) (h2 : k ≠ j + 1) : up j (dn j k) = k := by
  unfold up dn
  by_cases h : k < j
  · rw [if_pos h, if_pos h]
  · rw [if_neg h, if_neg (by omega)]; omega
theorem qqr {j k : Nat} : dn j (up j k) = k := by
  unfold up dn
  by_cases h : k < j
  · rw [if_pos h, if_pos h]
  · rw [if_neg h, if_neg (by omega)]; omega
theorem qhw {j k : Nat} : up j k ≠ j ∧ up j k ≠ j + 1 := by unfold up; split <;> omega
theorem qhx {j k k' : Nat} : up j k < up j k' ↔ k < k' := by unfold up; split <;> split <;> omega
theorem qn2 {j k L : Nat} (hj : j ≤ L) : up j k < L + 2 ↔ k < L := by unfold up; split <;> omega
theorem NC.insert {L j : Nat} {F F' : Nat → Nat} (h : NC L F) (hj : j ≤ L) (e1 : F' j = j + 1) (e2 : F' (j + 1) = j) (e : ∀ k, k < L → F' (up j k) = up j (F k)) : NC (L + 2) F' := by
  have hc : ∀ k, k < L + 2 → k = j ∨ k = j + 1 ∨ ∃ i, i < L ∧ k = up j i := fun k hk => by
    by_cases h1 : k = j
    · exact .inl h1
    by_cases h2 : k = j + 1
    · exact .inr (.inl h2)
    exact .inr (.inr ⟨dn j k, (qn2 hj).1 (by rw [qrb h1 h2]; exact hk), (qrb h1 h2).symm⟩)
  refine ⟨fun k hk => ?_, fun k hk => ?_, fun k hk => ?_, fun a b ha hb => ?_⟩
  · rcases hc k hk with rfl | rfl | ⟨i, hi, rfl⟩
    · omega
    · omega
    · rw [e i hi]; exact (qn2 hj).2 (h.lt i hi)
  · rcases hc k hk with rfl | rfl | ⟨i, hi, rfl⟩
    · rw [e1, e2]
    · rw [e2, e1]
    · rw [e i hi, e _ (h.lt i hi), h.inv i hi]
  · rcases hc k hk with rfl | rfl | ⟨i, hi, rfl⟩
    · omega
    · omega
    · rw [e i hi]
      intro h2
      have := congrArg (dn j) h2
      rw [qqr, qqr] at this
      exact h.fix i hi this
  · rcases hc a ha with rfl | rfl | ⟨i, hi, rfl⟩
    · rw [e1]; omega
    · rw [e2]; omega
    · rcases hc b hb with rfl | rfl | ⟨l, hl, rfl⟩
      · rw [e1, e i hi]; have := @qhw b (F i); omega
      · rw [e2, e i hi]; have := @qhw j (F i); have := @qhw j i; omega
      · rw [e i hi, e l hl, qhx, qhx, qhx]; exact h.wq i l hi hl
theorem NC.remove {L j : Nat} {F F' : Nat → Nat} (h : NC (L + 2) F) (hj : j ≤ L) (e : ∀ k, k < L → F' k = dn j (if F (up j k) = j then F (j + 1) else if F (up j k) = j + 1 then F j else F (up j k))) : NC L F' := by
  let G : Nat → Nat := fun x => if F x = j then F (j + 1) else if F x = j + 1 then F j else F x
  have hG : ∀ x, x < L + 2 → x ≠ j → x ≠ j + 1 → G x < L + 2 ∧ G x ≠ j ∧ G x ≠ j + 1 ∧ G (G x) = x ∧ G x ≠ x := fun x hx n1 n2 => by
    have a := h.lt x hx
    have c := h.inv x hx
    have f := h.fix x hx
    have a0 := h.lt j (by omega)
    have c0 := h.inv j (by omega)
    have f0 := h.fix j (by omega)
    have a1 := h.lt (j + 1) (by omega)
    have c1 := h.inv (j + 1) (by omega)
    have f1 := h.fix (j + 1) (by omega)
    show (if F x = j then F (j + 1) else if F x = j + 1 then F j else F x) < L + 2 ∧ _
    by_cases g1 : F x = j
    · have e0 : F j = x := by rw [← g1]; exact c
      have e3 : G x = F (j + 1) := if_pos g1
      have n3 : F (j + 1) ≠ j := fun g => by rw [g] at c1; omega
      refine ⟨by rw [if_pos g1]; exact a1, by rw [e3]; exact n3, by rw [e3]; exact f1, ?_, ?_⟩
      · rw [e3]
        show (if F (F (j + 1)) = j then F (j + 1) else if F (F (j + 1)) = j + 1 then F j else F (F (j + 1))) = x
        rw [c1, if_neg (by omega), if_pos rfl, e0]
      · rw [e3]; intro g; rw [g] at c1; omega
    · by_cases g2 : F x = j + 1
      · have e0 : F (j + 1) = x := by rw [← g2]; exact c
        have e3 : G x = F j := by show (if F x = j then F (j + 1) else if F x = j + 1 then F j else F x) = _; rw [if_neg g1, if_pos g2]
        have n3 : F j ≠ j + 1 := fun g => by rw [g] at c0; omega
        refine ⟨by rw [if_neg g1, if_pos g2]; exact a0, by rw [e3]; exact f0, by rw [e3]; exact n3, ?_, ?_⟩
        · rw [e3]
          show (if F (F j) = j then F (j + 1) else if F (F j) = j + 1 then F j else F (F j)) = x
          rw [c0, if_pos rfl, e0]
        · rw [e3]; intro g; rw [g] at c0; omega
      · have e3 : G x = F x := by show (if F x = j then F (j + 1) else if F x = j + 1 then F j else F x) = _; rw [if_neg g1, if_neg g2]
        refine ⟨by rw [if_neg g1, if_neg g2]; exact a, by rw [e3]; exact g1, by rw [e3]; exact g2, ?_, by rw [e3]; exact f⟩
        rw [e3]
        show (if F (F x) = j then F (j + 1) else if F (F x) = j + 1 then F j else F (F x)) = x
        rw [c, if_neg n1, if_neg n2]
  have hX : ∀ x y, x < L + 2 → y < L + 2 → x ≠ j → x ≠ j + 1 → y ≠ j → y ≠ j + 1 → ¬(x < y ∧ y < G x ∧ G x < G y) := fun x y hx hy n1 n2 n3 n4 => by
    have a := h.lt x hx
    have c := h.inv x hx
    have b := h.lt y hy
    have d := h.inv y hy
    have a0 := h.lt j (by omega)
    have c0 := h.inv j (by omega)
    have f0 := h.fix j (by omega)
    have a1 := h.lt (j + 1) (by omega)
    have c1 := h.inv (j + 1) (by omega)
    have f1 := h.fix (j + 1) (by omega)
    have gx : G x = if F x = j then F (j + 1) else if F x = j + 1 then F j else F x := rfl
    have gy : G y = if F y = j then F (j + 1) else if F y = j + 1 then F j else F y := rfl
    have k1 := h.wq x y hx hy
    by_cases g1 : F x = j
    · have e0 : F j = x := by rw [← g1]; exact c
      rw [gx, if_pos g1]
      by_cases g3 : F y = j
      · have : F j = y := by rw [← g3]; exact d
        omega
      by_cases g4 : F y = j + 1
      · have e4 : F (j + 1) = y := by rw [← g4]; exact d
        omega
      rw [gy, if_neg g3, if_neg g4]
      have k2 := h.wq (j + 1) y (by omega) hy
      have k3 := h.wq (F (j + 1)) (F y) a1 b
      have k4 := h.wq y (j + 1) hy (by omega)
      have k5 := h.wq x y hx hy
      have k6 := h.wq y (F (j + 1)) hy a1
      rw [c1, d] at k3
      rw [c1] at k6
      omega
    · by_cases g2 : F x = j + 1
      · have e0 : F (j + 1) = x := by rw [← g2]; exact c
        rw [gx, if_neg g1, if_pos g2]
        by_cases g3 : F y = j
        · have e3 : F j = y := by rw [← g3]; exact d
          omega
        by_cases g4 : F y = j + 1
        · have : F (j + 1) = y := by rw [← g4]; exact d
          omega
        rw [gy, if_neg g3, if_neg g4]
        have k2 := h.wq j y (by omega) hy
        have k3 := h.wq (F j) (F y) a0 b
        have k4 := h.wq y j hy (by omega)
        have k6 := h.wq y (F j) hy a0
        rw [c0, d] at k3
        rw [c0] at k6
        omega
      · rw [gx, if_neg g1, if_neg g2]
        by_cases g3 : F y = j
        · have e3 : F j = y := by rw [← g3]; exact d
          rw [gy, if_pos g3]
          have k2 := h.wq x (j + 1) hx (by omega)
          have k3 := h.wq (F (j + 1)) x a1 hx
          have k4 := h.wq x (F (j + 1)) hx a1
          have k5 := h.wq (j + 1) (F x) (by omega) a
          have k6 := h.wq j x (by omega) hx
          have k7 := h.wq (j + 1) x (by omega) hx
          rw [c1] at k3 k4
          rw [c] at k5
          omega
        by_cases g4 : F y = j + 1
        · have e4 : F (j + 1) = y := by rw [← g4]; exact d
          rw [gy, if_neg g3, if_pos g4]
          have k2 := h.wq x j hx (by omega)
          have k3 := h.wq (F j) x a0 hx
          have k4 := h.wq x (F j) hx a0
          have k5 := h.wq j (F x) (by omega) a
          have k6 := h.wq j x (by omega) hx
          have k7 := h.wq (j + 1) x (by omega) hx
          rw [c0] at k3 k4
          rw [c] at k5
          omega
        rw [gy, if_neg g3, if_neg g4]
        exact k1
  have hu : ∀ k, k < L → up j k < L + 2 ∧ up j k ≠ j ∧ up j k ≠ j + 1 := fun k hk => ⟨(qn2 hj).2 hk, qhw.1, qhw.2⟩
  have he : ∀ k, k < L → F' k = dn j (G (up j k)) := e
  have hue : ∀ k, k < L → up j (F' k) = G (up j k) := fun k hk => by
    obtain ⟨b1, b2, b3⟩ := hu k hk
    obtain ⟨_, b4, b5, _⟩ := hG _ b1 b2 b3
    rw [he k hk, qrb b4 b5]
  have hlt : ∀ k, k < L → F' k < L := fun k hk => by
    obtain ⟨b1, b2, b3⟩ := hu k hk
    obtain ⟨b0, b4, b5, _⟩ := hG _ b1 b2 b3
    rw [← qn2 hj, hue k hk]; exact b0
  have upi : ∀ {a b : Nat}, up j a = up j b → a = b := fun {a b} hab => by have := congrArg (dn j) hab; rwa [qqr, qqr] at this
  refine ⟨hlt, fun k hk => ?_, fun k hk => ?_, fun a b ha hb => ?_⟩
  · obtain ⟨b1, b2, b3⟩ := hu k hk
    apply upi
    rw [hue _ (hlt k hk), hue k hk]
    exact (hG _ b1 b2 b3).2.2.2.1
  · obtain ⟨b1, b2, b3⟩ := hu k hk
    intro g
    have := hue k hk
    rw [g] at this
    exact (hG _ b1 b2 b3).2.2.2.2 this.symm
  · obtain ⟨b1, b2, b3⟩ := hu a ha
    obtain ⟨d1, d2, d3⟩ := hu b hb
    have := hX _ _ b1 d1 b2 b3 d2 d3
    rw [← hue a ha, ← hue b hb, qhx, qhx, qhx] at this
    exact this
def fl (n i : Nat) : Nat := (i + n) % (2 * n)
def cl (n i : Nat) : Nat := if i < n then i else i - 1
end Go.Proofs.Ytfhckbbgmblhbaa

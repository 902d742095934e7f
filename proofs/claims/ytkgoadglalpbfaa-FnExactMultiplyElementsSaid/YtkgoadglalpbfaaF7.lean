/- Contracts: an element of a sum. -/
import Derived.Test.YtkgoadglalpbfaaF6
namespace Go.Proofs.Ytkgoadglalpbfaa
open Go.Am Go.Dia
open Nat renaming reduceAdd → nA, reduceMul → nM, reduceSub → nS, reduceEqDiff → nE, reduceLT → nL, reduceLeDiff → nD, reduceBEq → nB
open Int renaming reduceEq → iE, reduceNe → iN, reduceBEq → iB, reduceBNe → iC, reduceLT → iL, reduceLE → iD, reduceAdd → iA, reduceSub → iS, reduceMul → iM
set_option linter.unusedSimpArgs false
set_option linter.unusedVariables false
set_option maxRecDepth 4000
set_option maxHeartbeats 1000000
def Yk : BE := fun hp xs => match xs with
  | [.slc b 0 n false 0, .fn 138 [] []] => match hp[b]? with
    | some (.vec 18 l) => match Qz n l with
      | some ts => chk (l.length = n * 18 ∧ n ≤ 1000000 ∧ (∀ t ∈ ts, 0 ≤ t.1 ∧ t.1 ≤ 8) ∧ (ts.map txt).Nodup) (some (.tup [], hp.set b (.vec 18 (qq (X4 ts)))))
      | none => none
    | _ => none
  | _ => none
theorem qxm : Am.Callee Try.prog 137 Yk := Callee.wr1 fun hp xs v hp' he => by
  unfold Yk at he
  split at he
  · rename_i b n
    split at he
    · rename_i l hb
      split at he
      · rename_i ts hts
        obtain ⟨h0, he⟩ := qm he
        simp only [Option.some.injEq, Prod.mk.injEq] at he
        obtain ⟨rfl, rfl⟩ := he
        obtain ⟨e1, e2, e3, e4⟩ := xz hts
        have hl : l = qq ts := by rw [← e3, List.take_of_length_le (by omega)]
        subst hl
        refine ⟨18, qq ts, _, b, [.slc 0 0 ts.length false 0, .fn 138 [] []], hb, rfl, qa _, qa _, ?_, rfl, ⟨by simp [AV.under], ⟨trivial, trivial⟩, trivial⟩, rfl, ?_⟩
        · simp only [AV.zt, AV.ren, one, if_true, e1, Nat.zero_add]
        · exact qxa ts (by omega) (fun t ht => ⟨e2 t ht, h0.2.2.1 t ht⟩) h0.2.2.2
      · cases he
    · cases he
  · cases he
def B27 : z7 := (B26.put 137 (Yk))
theorem qmf : ze Try.prog B27 := (qto.put (qxm))
theorem Zg : B27 103 = some (qu Y5) := rfl
theorem ju : B27 137 = some (Yk) := rfl
def esT : Nat → List (Int × List Nat × Int) → List AE
  | _, [] => []
  | k, t :: l => ⟨.agg (dia t.1 t.2.1), .int .i64 t.2.2, k⟩ :: esT (k + 1) l
def Qe (ts : List (Int × List Nat × Int)) : AO := .map (esT 0 ts) ts.length
def xx (p : Int) (ts : List (Int × List Nat × Int)) : List (Int × List Nat × Int) := ts.filterMap fun t => if t.2.2.emod p = 0 then none else some (t.1, t.2.1, t.2.2.emod p)
def ui (ts : List (Int × List Nat × Int)) (seen : List Nat) : List (Int × List Nat × Int) := seen.map fun i => ts.getD i (0, [], 0)
theorem Ut : ∀ {ts : List (Int × List Nat × Int)} {k : Nat} {e : AE}, e ∈ esT k ts → ∃ i, i < ts.length ∧ e = ⟨.agg (dia (ts.getD i (0, [], 0)).1 (ts.getD i (0, [], 0)).2.1), .int .i64 (ts.getD i (0, [], 0)).2.2, k + i⟩
  | [], k, e, h => by cases h
  | t :: l, k, e, h => by
    rcases List.mem_cons.1 h with rfl | h
    · exact ⟨0, by simp, by simp⟩
    · obtain ⟨i, h1, rfl⟩ := Ut h
      refine ⟨i + 1, by simpa using h1, ?_⟩
      simp only [List.getD_cons_succ, AE.mk.injEq, true_and]; omega
theorem qnf : ∀ {ts : List (Int × List Nat × Int)} {k i : Nat}, i < ts.length → (⟨.agg (dia (ts.getD i (0, [], 0)).1 (ts.getD i (0, [], 0)).2.1), .int .i64 (ts.getD i (0, [], 0)).2.2, k + i⟩ : AE) ∈ esT k ts
  | t :: l, k, 0, h => by simp [esT]
  | t :: l, k, i + 1, h => by
    have := qnf (ts := l) (k := k + 1) (i := i) (by simpa using h)
    simp only [esT, List.mem_cons]
    right
    rw [show k + (i + 1) = k + 1 + i by omega]
    simpa using this
theorem qko : ∀ {ts : List (Int × List Nat × Int)} {k i : Nat}, i < ts.length → (esT k ts).find? (fun x => x.born == k + i) = some ⟨.agg (dia (ts.getD i (0, [], 0)).1 (ts.getD i (0, [], 0)).2.1), .int .i64 (ts.getD i (0, [], 0)).2.2, k + i⟩
  | t :: l, k, 0, h => by simp [esT]
  | t :: l, k, i + 1, h => by
    have := qko (ts := l) (k := k + 1) (i := i) (by simpa using h)
    rw [show k + 1 + i = k + (i + 1) by omega] at this
    simp only [esT, List.find?_cons]
    rw [show (k == k + (i + 1)) = false by simp]
    simpa using this
theorem K9 (n : Nat) (ts : List (Int × List Nat × Int)) (k : Nat) : ∀ e ∈ esT k ts, e.key.under n ∧ e.val.under n := fun e he => by
  obtain ⟨i, _, rfl⟩ := Ut he
  exact ⟨qk _ _ (qh _ _), trivial⟩
theorem Qf (ρ : Ren) (ts : List (Int × List Nat × Int)) : (Qe ts).ren ρ = Qe ts := by
  simp only [Qe, AO.ren]
  congr 1
  conv => rhs; rw [← List.map_id (esT 0 ts)]
  refine List.map_congr_left fun e he => ?_
  obtain ⟨i, _, rfl⟩ := Ut he
  simp only [AE.ren, AV.ren, qd _ _ (qh _ _), id]
theorem Jx (ids : List Nat) (ts : List (Int × List Nat × Int)) : (Qe ts).within ids = true := by
  simp only [Qe, AO.within, List.all_eq_true]
  intro e he
  obtain ⟨i, _, rfl⟩ := Ut he
  simp only [AV.within, qc _ _ (qh _ _), Bool.and_self]
theorem yz (ids : List Nat) (ts : List (Int × List Nat × Int)) (k : Nat) : (AO.map (esT 0 ts) k).within ids = true := Jx ids ts
theorem Jp (ρ : Ren) (ts : List (Int × List Nat × Int)) (k : Nat) : (AO.map (esT 0 ts) k).ren ρ = AO.map (esT 0 ts) k := by
  have := Qf ρ ts
  simp only [Qe, AO.ren, AO.map.injEq] at this ⊢
  exact ⟨this.1, trivial⟩
theorem qsi {r m : Nat} {ts : List (Int × List Nat × Int)} {seen : List Nat} {hp : List AO} {K : AV → List AO → Prop} (h1 : hp[r]? = some (.jr (some m) ts.length seen ts.length)) (h2 : hp[m]? = some (Qe ts))
    (hend : (∀ i, i < ts.length → i ∈ seen) → K (.tup [.bool false]) hp)
    (hgo : ∀ i, i < ts.length → i ∉ seen → K (.tup [.bool true, .agg (dia (ts.getD i (0, [], 0)).1 (ts.getD i (0, [], 0)).2.1), .int .i64 (ts.getD i (0, [], 0)).2.2]) (hp.set r (.jr (some m) ts.length (seen ++ [i]) ts.length))) :
    wbN (.ptr r 0) hp K := by
  simp only [wbN, qns, h1, h2, Qe]
  refine ⟨_, qav ⟨trivial, trivial, fun e he => ?_⟩, fun h => ?_, fun e he hs => ?_⟩
  · obtain ⟨i, h3, rfl⟩ := Ut he; show 0 + i < _; omega
  · refine hend fun i hi => ?_
    have := h _ (qnf (k := 0) hi)
    simpa using this
  · obtain ⟨i, h3, rfl⟩ := Ut he
    simp only [Nat.zero_add] at hs ⊢
    exact hgo i h3 hs
theorem qsd {B : z7} {n0 nt : Nat} {dst : Option Nat} {it : Opd} {l : List AI} {b : AC} {Q : AX → St → Prop} {s : St}
    (h : wbN (ev s.env it) s.hp (fun v hp' => wbC Try.prog B n0 nt (.seq (.region l) b) Q ⟨xy dst v s.env, hp'⟩)) : wbC Try.prog B n0 nt (.seq (.region (⟨dst, none, .next it⟩ :: l)) b) Q s := h
theorem qtb {ts : List (Int × List Nat × Int)} {seen : List Nat} (hn : seen.Nodup) (hlt : ∀ i ∈ seen, i < ts.length) (h : ∀ i, i < ts.length → i ∈ seen) : (ui ts seen).Perm ts := by
  have hp : seen.Perm (List.range ts.length) := (List.perm_ext_iff_of_nodup hn List.nodup_range).2 fun i => ⟨fun hi => List.mem_range.2 (hlt i hi), fun hi => h i (List.mem_range.1 hi)⟩
  have e : (List.range ts.length).map (fun i => ts.getD i (0, [], 0)) = ts := by
    apply List.ext_getElem (by simp)
    intro i h1 h2
    simp at h1
    simp [h1]
  unfold ui
  refine (hp.map _).trans ?_
  rw [e]
theorem qpa {p : Int} {a b : List (Int × List Nat × Int)} (h : a.Perm b) : (xx p a).Perm (xx p b) := h.filterMap _
theorem qc0 {p : Int} : ∀ {l : List (Int × List Nat × Int)}, Ym l → Ym (xx p l) := fun {l} h => by
  unfold Ym xx at *
  refine List.Nodup.sublist ?_ h
  induction l with
  | nil => exact List.nil_sublist _
  | cons t l ih =>
    simp only [List.filterMap_cons]
    split
    · exact (ih (List.nodup_cons.1 h).2).trans (List.sublist_cons_self _ _)
    · rename_i u hu
      split at hu
      · cases hu
      · cases hu
        exact (ih (List.nodup_cons.1 h).2).cons_cons _
theorem qcm {p : Int} {l : List (Int × List Nat × Int)} {t : Int × List Nat × Int} (h : t ∈ xx p l) : ∃ u ∈ l, t = (u.1, u.2.1, u.2.2.emod p) ∧ u.2.2.emod p ≠ 0 := by
  obtain ⟨u, hu, he⟩ := List.mem_filterMap.1 h
  split at he
  · cases he
  · rename_i hne; cases he; exact ⟨u, hu, rfl, hne⟩
theorem qnx {p : Int} {l : List (Int × List Nat × Int)} (h : okT l) : okT (xx p l) := fun t ht => by
  obtain ⟨u, hu, rfl, _⟩ := qcm ht; exact h u hu
theorem qk2 {ts : List (Int × List Nat × Int)} {seen : List Nat} (h : okT ts) (hlt : ∀ i ∈ seen, i < ts.length) : okT (ui ts seen) := fun t ht => by
  obtain ⟨i, hi, rfl⟩ := List.mem_map.1 ht
  have := hlt i hi
  simp only [List.getD_eq_getElem?_getD, List.getElem?_eq_getElem this, Option.getD_some]
  exact h _ (List.getElem_mem _)
theorem qfq (l : List (Int × List Nat × Int)) (t : Int × List Nat × Int) : qq l ++ trm t = qq (l ++ [t]) := by simp [qq]
theorem xq : [AV.int .i64 0, .int .u8 0, .int .u8 0, .int .u8 0, .int .u8 0, .int .u8 0, .int .u8 0, .int .u8 0, .int .u8 0, .int .u8 0, .int .u8 0, .int .u8 0, .int .u8 0, .int .u8 0, .int .u8 0, .int .u8 0, .int .u8 0] = dia 0 (List.replicate 16 0) := rfl
theorem ud {n : Int} {m : List Nat} (h : m.length = 16) : over (dia 0 (List.replicate 16 0)) 0 (dia n m) = dia n m := Ko (by rw [qe, qe, h, List.length_replicate])
theorem qac {n : Int} {m : List Nat} (h : m.length = 16) : over (trm (0, List.replicate 16 0, 0)) 0 (dia n m) = trm (n, m, 0) := V3 (by simp) h
theorem xt : (trm (0, List.replicate 16 0, 0)).length = 18 := rfl
theorem yo : (dia 0 (List.replicate 16 0)).length = 17 := rfl
def Xb : AC := .seq (.region [⟨some 23,none,.next (.t 22)⟩,oE 24 0 23]) (.seq (.cond 24 .skip (.exit 0)) (.block 1 (.seq (.region [o0 25 (.entry (.t 22)),oE 26 0 25,oE 27 1 25,o0 6 (.alloc [.int .i64 0,.int .u8 0,.int .u8 0,.int .u8 0,.int .u8 0,.int .u8 0,.int .u8 0,.int .u8 0,.int .u8 0,.int .u8 0,.int .u8 0,.int .u8 0,.int .u8 0,.int .u8 0,.int .u8 0,.int .u8 0,.int .u8 0]),oS 17 6 26,oM 7 27]) (.seq (.region [oM 28 7,oM 29 0,o0 30 (.j3 (.t 29)),oF 31 0 30,oL 32 31,oC 33 103 [.t 28,.t 32],oM 7 33]) (.seq (.region [oM 34 7,oK 35 .neq 34 0]) (.cond 35 (.seq (.region [oF 36 0 6,oL 37 36,oF 38 2 5,oT 38 37]) (.region [oF 39 3 5,oL 40 39,oN 41 17 6,oM 42 7,o0 43 (.build [.int .i64 0,.int .u8 0,.int .u8 0,.int .u8 0,.int .u8 0,.int .u8 0,.int .u8 0,.int .u8 0,.int .u8 0,.int .u8 0,.int .u8 0,.int .u8 0,.int .u8 0,.int .u8 0,.int .u8 0,.int .u8 0,.int .u8 0,.int .i64 0] [(0,17,.t 41),(17,1,.t 42)]),o0 44 (.gr 1 [.int .i64 0,.int .u8 0,.int .u8 0,.int .u8 0,.int .u8 0,.int .u8 0,.int .u8 0,.int .u8 0,.int .u8 0,.int .u8 0,.int .u8 0,.int .u8 0,.int .u8 0,.int .u8 0,.int .u8 0,.int .u8 0,.int .u8 0,.int .i64 0] [(0,18,.t 43)]),o0 45 (.append 18 32 (.t 40) (.t 44)),oF 46 3 5,oT 46 45])) .skip))))))
def Xg : AC := .seq (.region [oF 47 3 5,oL 48 47,⟨some 49,none,.call (.c (.fn 137 [] [])) [.t 48,(.c (.fn 138 [] []))]⟩]) (.seq (.region [oN 50 4 5,oS 4 4 50]) .ret)
def Vg : AC := .seq (.region [o0 4 (.alloc [.int .i64 0,.int .i64 0,.int .i64 0,(.v (.slice none 0 0))])]) (.seq (.draw false [oM 8 0,o0 9 (.j3 (.t 8)),oF 10 0 9,oL 11 10,oM 12 0,o0 13 (.j3 (.t 12)),oF 14 1 13,oL 15 14,oM 16 0,o0 17 (.j3 (.t 16)),oF 18 2 17,oL 19 18,o0 20 (.build [.int .i64 0,.int .i64 0,.int .i64 0,(.v (.slice none 0 0))] [(0,1,.t 11),(1,1,.t 15),(2,1,.t 19)]),o0 5 (.alloc [.int .i64 0,.int .i64 0,.int .i64 0,(.v (.slice none 0 0))]),oS 4 5 20]) (.seq (.seq (.region [oM 21 1,o0 22 (.Uo (.t 21))]) (.block 0 (.loop Xb))) Xg))
theorem qag : zy Try.prog 113 = some ⟨51, Vg, [.kd 4 4]⟩ := by kernel_rfl
def qgi (p c n sz : Int) (ts : List (Int × List Nat × Int)) (seen : List Nat) : St :=
  ⟨[(22, .ptr 4 0), (5, .ptr 3 0), (4, .ptr 2 0), (0, .ptr 0 0)], [.ro [.int .i64 p, .int .i64 c, .int .i64 n], Qe ts, .cells [.int .i64 0, .int .i64 0, .int .i64 0, .v (.slice none 0 0)],
    .cells [.int .i64 p, .int .i64 c, .int .i64 (if xx p (ui ts seen) = [] then n else sz), .slc 5 0 (xx p (ui ts seen)).length false 0], .jr (some 1) ts.length seen ts.length, .vec 18 (qq (xx p (ui ts seen)))]⟩
def qx2 (p c n sz : Int) (ts : List (Int × List Nat × Int)) (s : St) : Prop := ∃ seen : List Nat, seen.Nodup ∧ (∀ i ∈ seen, i < ts.length) ∧ s = qgi p c n sz ts seen
def qqz (ts : List (Int × List Nat × Int)) (s : St) : Nat := match s.hp[4]? with | some (AO.jr _ _ seen _) => ts.length - seen.length | _ => 0
theorem qwq (p c n sz : Int) (ts : List (Int × List Nat × Int)) (hp : 0 < p ∧ p ≤ 1000000) (hs : 0 ≤ sz ∧ sz ≤ 8) (ht : okT ts) (hz : ∀ t ∈ ts, t.1 = sz) (ha : Ym ts) (hl : ts.length ≤ 1000000) :
    Am.Fn Try.prog 113 [.ptr 0 0, .map 1] [.ro [.int .i64 p, .int .i64 c, .int .i64 n], Qe ts] (fun v H' => v = elemV p c (if xx p ts = [] then n else sz) 2 (xx p ts).length ∧
      H' = [.ro [.int .i64 p, .int .i64 c, .int .i64 n], Qe ts, .vec 18 (qq (X4 (xx p ts)))]) := by
  refine Am.Fn.ofB qmf mixed qag (by simp) ?_ ?_
  · intro j o hj
    match j, hj with
    | 0, hj => cases hj; exact ⟨trivial, trivial, trivial, trivial⟩
    | 1, hj => cases hj; exact K9 _ _ _
    | j + 2, hj => simp at hj
  have hm : Qe ts = .map (esT 0 ts) ts.length := rfl
  simp (maxSteps := 3000000) only [Vg, hm, qhd, qg5, qhu, qg2, qhx, Zg, ju, Y5, Yk, vt, rd, wrt, wrl, AO.y6, List.getElem?_cons_zero, List.getElem?_cons_succ, List.set_cons_zero, List.set_cons_succ, qb, zZ, ↓qp, ↓reduceIte, reduceCtorEq, nA, nM, nS, nE, nL, nD]; try simp only [qb, zY]
  refine ⟨rfl, WA.j8 qmf (qx2 p c n sz ts) (qqz ts) ⟨qgi p c n sz ts [], ?_, [], .nil, by simp, rfl⟩ ?_⟩
  · refine qz.trans (qz.zc [22, 5, 4, 0]) ?_
    refine Eq.subst (motive := fun s' => qz 2 _ s') ?_ (qz.qwx 3 3 18 rfl rfl (by simp) ?_ ?_)
    · simp only [zc, z6]
      rfl
    · simp [zc, z6, AV.under]
    · simp only [List.mem_cons, List.not_mem_nil, or_false, forall_eq_or_imp, forall_eq]
      exact ⟨⟨trivial, trivial, trivial, trivial⟩, K9 _ _ _, ⟨trivial, trivial, trivial, trivial, trivial⟩, ⟨trivial, trivial, trivial, trivial, trivial⟩, fun b h => by cases h; simp⟩
  rintro s ⟨seen, hnd, hlt, rfl⟩
  unfold Xb
  refine qsd (qsi (r := 4) (m := 1) (ts := ts) (seen := seen) rfl rfl (fun hall => ?_) (fun i hi hsn => ?_))
  · have hpm := qtb hnd hlt hall
    have hr := qpa (p := p) hpm
    have hrt := qnx (p := p) (qk2 ht hlt)
    have hap : (List.map txt (xx p (ui ts seen))).Nodup := (hr.map txt).nodup_iff.2 (qc0 ha)
    have hsz : ∀ t ∈ xx p (ui ts seen), 0 ≤ t.1 ∧ t.1 ≤ 8 := fun t h => by
      obtain ⟨u, hu, rfl, _⟩ := qcm (hr.mem_iff.1 h)
      simp only [hz u hu]; exact hs
    have hlen : (xx p (ui ts seen)).length = (xx p ts).length := hr.length_eq
    have hle : (xx p ts).length ≤ 1000000 := Nat.le_trans (List.length_filterMap_le _ _) hl
    have hle' : (xx p (ui ts seen)).length ≤ 1000000 := by omega
    have hso : X4 (xx p (ui ts seen)) = X4 (xx p ts) := qkx ((kj _).trans hr) ((Gw hap).imp fun {a b} h => qbk _ _ h) (qc0 ha)
    have hnil : (xx p (ui ts seen) = []) = (xx p ts = []) := propext ⟨fun h => by rw [h] at hr; exact List.nil_perm.1 hr, fun h => by rw [h] at hr; exact List.perm_nil.1 hr⟩
    have htl := qt hrt
    have hto := xj hrt
    rw [hlen] at htl hto
    unfold qgi
    simp (maxSteps := 3000000) only [qf, zH, Xg, Zg, ju, Y5, Yk, htl, hto, hle, hap, hsz, hso, hnil, hlen, qb, zZ, ↓qp, ↓reduceIte, reduceCtorEq, nA, nM, nS, nE, nL, nD]; try simp only [qb, zY]
    refine ⟨hsz, rfl, ?_⟩
    refine Ret.zw [0, 1, 5] ⟨⟨by simp, rfl, by decide⟩, ?_⟩ (rs := [.agg [.int .i64 p, .int .i64 c, .int .i64 (if xx p ts = [] then n else sz), .slc 5 0 (xx p ts).length false 0]]) rfl rfl (by simp [xc]) ?_ ⟨?_, ?_⟩
    · simp only [Jx, ↓yz, qc _ _ (qa _), zK, ↓reduceIte, reduceCtorEq, nE, nB, nA]
    · intro j l; match j with
      | 0 => exact fun _ => ⟨_, rfl⟩
      | 1 => simp [zi, Qf]; simp [Qe]
      | 2 => simp [zi, AO.ren]
      | j + 3 => simp [zi]
    · simp only [elemV, xc]
      simp only [zL, ↓reduceIte, reduceCtorEq, nE, nA]
    · simp only [Qf, ↓Jp, qd _ _ (qa _), zL, ↓reduceIte, reduceCtorEq, nE, nA]
      rfl
  · unfold qgi
    have htm : ts.getD i (0, [], 0) ∈ ts := by rw [List.getD_eq_getElem?_getD, List.getElem?_eq_getElem hi]; exact List.getElem_mem _
    have hk : okD (ts.getD i (0, [], 0)).2.1 := ht _ htm
    have h1 : (ts.getD i (0, [], 0)).1 = sz := hz _ htm
    have hfind := qko (ts := ts) (k := 0) hi
    have hlast : (seen ++ [i]).getLast? = some i := List.getLast?_concat ..
    have hpk : ui ts (seen ++ [i]) = ui ts seen ++ [ts.getD i (0, [], 0)] := by simp [ui]
    have hnd' : (seen ++ [i]).Nodup := by
      rw [List.nodup_append]
      exact ⟨hnd, by simp, fun a ha b hb => by simp at hb; subst hb; rintro rfl; exact hsn ha⟩
    have hlt' : ∀ j ∈ seen ++ [i], j < ts.length := fun j hj => by
      rcases List.mem_append.1 hj with h | h
      · exact hlt j h
      · simp at h; omega
    have hsl : seen.length < ts.length := by
      have := Um ts.length (seen ++ [i]) hnd' hlt'
      simp at this; omega
    rw [Nat.zero_add] at hfind
    generalize htt : ts.getD i (0, [], 0) = t at hk h1 hfind hpk ⊢
    obtain ⟨n1, m1, k1⟩ := t
    simp only at hk h1 hfind
    subst h1
    have hone : (dia n1 m1).all AV.one = true := xd _ _
    have hrt := qnx (p := p) (qk2 ht hlt)
    have htl := qt hrt
    have htk : List.take ((xx p (ui ts seen)).length * 18) (qq (xx p (ui ts seen))) = qq (xx p (ui ts seen)) := List.take_of_length_le (by rw [htl]; exact Nat.le_refl _)
    have hbd : (xx p (ui ts seen)).length ≤ 1000000 := by
      have := List.length_filterMap_le (fun t : Int × List Nat × Int => if t.2.2.emod p = 0 then none else some (t.1, t.2.1, t.2.2.emod p)) (ui ts seen)
      have h2 : (ui ts seen).length = seen.length := by simp [ui]
      unfold xx; omega
    by_cases hkz : k1.emod p = 0
    · have hre : xx p (ui ts (seen ++ [i])) = xx p (ui ts seen) := by rw [hpk]; simp [xx, hkz]
      simp (maxSteps := 3000000) only [qf, zH, Zg, ju, Y5, Yk, hkz, hp, hm, qe, hk.1, hlast, hfind, hone, xq, ud hk.1, qac hk.1, Wj (t := (n1, m1, 0)) hk.1, jt, u6, xt, yo, q9 hk.1, j1, src, Bc, qng, Int.toNat_zero, Option.map_some, Option.map_none, List.length_replicate, Zx (t := (0, List.replicate 16 0, 0)) (u := (n1, m1, k1.emod p)) (by simp) hk.1, Jd (t := (n1, m1, k1.emod p)) hk.1, htk, htl, qb, zZ, ↓qp, ↓reduceIte, reduceCtorEq, nA, nM, nS, nE, nL, nD]; try simp only [qb, zY]
      refine ⟨_, qz.zw [0, 1, 2, 3, 4, 5] [22, 5, 4, 0] ⟨by decide, ?_⟩ ?_, ⟨seen ++ [i], hnd', hlt', ?_⟩, ?_⟩
      · simp only [Jx, ↓yz, qc _ _ (qa _), zK, ↓reduceIte, reduceCtorEq, nE, nB, nA]
      · simp only [zK, ↓reduceIte, reduceCtorEq, nE, nB, nA]
      · unfold qgi
        simp only [Qf, ↓Jp, qd _ _ (qa _), hre, zL, ↓reduceIte, reduceCtorEq, nE, nA]
        rfl
      · simp only [qqz]
        simp only [Qf, ↓Jp, zL, ↓reduceIte, reduceCtorEq, nE, nA]
        simp; omega
    · have hre : xx p (ui ts (seen ++ [i])) = xx p (ui ts seen) ++ [(n1, m1, k1.emod p)] := by rw [hpk]; simp [xx, hkz]
      simp (maxSteps := 3000000) only [qf, zH, Zg, ju, Y5, Yk, hkz, hp, hm, qe, hk.1, hlast, hfind, hone, xq, ud hk.1, qac hk.1, Wj (t := (n1, m1, 0)) hk.1, jt, u6, xt, yo, q9 hk.1, j1, src, Bc, qng, Int.toNat_zero, Option.map_some, Option.map_none, List.length_replicate, Zx (t := (0, List.replicate 16 0, 0)) (u := (n1, m1, k1.emod p)) (by simp) hk.1, Jd (t := (n1, m1, k1.emod p)) hk.1, htk, htl, qb, zZ, ↓qp, ↓reduceIte, reduceCtorEq, nA, nM, nS, nE, nL, nD]; try simp only [qb, zY]
      refine ⟨rfl, ⟨Nat.le_refl _, by omega⟩, rfl, _, qz.zw [0, 1, 2, 3, 4, 8] [22, 5, 4, 0] ⟨by decide, ?_⟩ ?_, ⟨seen ++ [i], hnd', hlt', ?_⟩, ?_⟩
      · simp only [Jx, ↓yz, qfq, qc _ _ (qa _), zK, ↓reduceIte, reduceCtorEq, nE, nB, nA]
      · simp only [zK, ↓reduceIte, reduceCtorEq, nE, nB, nA]
      · unfold qgi
        have hne : (xx p (ui ts seen) ++ [(n1, m1, k1.emod p)] = []) = False := by simp
        simp only [Qf, ↓Jp, qfq, qd _ _ (qa _), hre, hne, List.length_append, List.length_nil, List.length_cons, zL, ↓reduceIte, reduceCtorEq, nE, nA]
        rfl
      · simp only [qqz]
        simp only [Qf, ↓Jp, zL, ↓reduceIte, reduceCtorEq, nE, nA]
        simp; omega
end Go.Proofs.Ytkgoadglalpbfaa

/- Contracts: elements that a law is handed. Contracts: elements that are right. Contracts: elements that are right, the program's side. Contracts: a term put to terms. Contracts: sums of elements, the spec's side. Contracts: the spec's sum of elements. -/
import Derived.Test.YtkgoadglalpbfaaP2
namespace Go.Proofs.Ytkgoadglalpbfaa
open Go.Am Go.Dia
open Nat renaming reduceAdd → nA, reduceMul → nM, reduceSub → nS, reduceEqDiff → nE, reduceLT → nL, reduceLeDiff → nD, reduceBEq → nB
open Int renaming reduceEq → iE, reduceNe → iN, reduceBEq → iB, reduceBNe → iC, reduceLT → iL, reduceLE → iD, reduceAdd → iA, reduceSub → iS, reduceMul → iM
set_option linter.unusedSimpArgs false
set_option linter.unusedVariables false
set_option maxRecDepth 4000
set_option maxHeartbeats 1000000
theorem G8 : B30 24 = some (qj J4) := rfl
def qf1 : AC := .seq (.region [o0 1 (.box (.t 0)),o0 2 (.alloc [.int .i64 0,.int .u8 0,.int .u8 0,.int .u8 0,.int .u8 0,.int .u8 0,.int .u8 0,.int .u8 0,.int .u8 0,.int .u8 0,.int .u8 0,.int .u8 0,.int .u8 0,.int .u8 0,.int .u8 0,.int .u8 0,.int .u8 0,.int .i64 0])]) (.seq (.region [o0 3 (.alloc [.int .i64 0,.int .u8 0,.int .u8 0,.int .u8 0,.int .u8 0,.int .u8 0,.int .u8 0,.int .u8 0,.int .u8 0,.int .u8 0,.int .u8 0,.int .u8 0,.int .u8 0,.int .u8 0,.int .u8 0,.int .u8 0,.int .u8 0,.int .i64 0])]) (.seq (.region [oF 4 0 1,oN 5 17 4,oC 6 24 [.t 5],oF 7 0 3,oS 17 7 6]) (.seq (.region [oF 8 17 1,oL 9 8,oF 10 17 3,oT 10 9]) (.seq (.region [oN 11 18 3,oS 18 2 11]) .ret))))
theorem qoc : zk Try.prog 98 = some ⟨12, qf1, [.Qa 2 18]⟩ := by kernel_rfl
theorem qs2 (t : Int × List Nat × Int) (ht : okD t.2.1) : Am.Fn Try.prog 98 [.agg (trm t)] [] (fun v H' => v = .agg (trm t) ∧ H' = []) := by
  refine Am.Fn.xj (R := fun v => v = _) qou mixed qoc (by simp) (by simp) ?_
  obtain ⟨n, m, k⟩ := t
  simp only at ht
  have e1 : List.take 17 (trm (n, m, k)) = dia n m := Vn (t := (n, m, k)) ht
  have e3 : (trm (n, m, k))[17]? = some (.int .i64 k) := kx (t := (n, m, k)) ht
  have e2 : (trm (n, m, 0)).set 17 (.int .i64 k) = trm (n, m, k) := qsa (t := (n, m, 0)) ht
  simp (maxSteps := 3000000) only [qh, zH, qf1, G8, J4, xv, xh, w9, ht.1, qp ht, e1, e2, e3, qbi ht.1, qc, Qw (t := (0, List.replicate 16 0, 0)) (u := (n, m, k)) (by simp) ht.1, Zl (t := (n, m, k)) ht.1, x8, zi, AV.one, List.length_replicate, iE, iN, iB, iC, iL, iD, iA, iS, iM, qa, zZ, ↓qm, ↓reduceIte, reduceCtorEq, nA, nM, nS, nE, nL, nD]; try simp only [qa, zY]
  exact vu _
def uc : List AV → Option AV
  | [.agg l] => match qcn l with
    | some t => some (.agg (trm t))
    | none => none
  | _ => none
theorem qvs : Am.Callee Try.prog 98 (qj uc) := Am.Callee.plain fun xs v he => by
  unfold uc at he
  split at he
  · split at he
    · rename_i l t ht
      cases he
      obtain ⟨rfl, hm⟩ := W0 ht
      exact ⟨by simp only [AV.zg, AV.zm, vu, Bool.and_self], by simp only [AV.zm, vu], qs2 t hm⟩
    · cases he
  · cases he
def q1e : zo := (B30.put 98 (qj uc))
theorem qpo : qx Try.prog q1e := (qou.put (qvs))
def qdj (H : List AO) (X : AV) (ts : List (Int × List Nat × Int)) : Prop :=
  okT ts ∧ ((X = .v (.slice none 0 0) ∧ H = [] ∧ ts = []) ∨ (X = .slc 0 0 0 true 0 ∧ H = [.dead] ∧ ts = []) ∨ ∃ all cap, X = .slc 0 0 ts.length true cap ∧ ts.length ≤ cap ∧ H = [.ro (qt all)] ∧ okT all ∧ all.take ts.length = ts ∧ ts.length ≤ all.length)
def U8 (hp : List AO) (X : AV) : Option (List (Int × List Nat × Int)) := match X with
  | .v (.slice none 0 0) => some []
  | .slc b 0 n true cap => match hp[b]? with
    | some .dead => if n = 0 ∧ cap = 0 then some [] else none
    | some (.ro l) => match Jt (l.length / 18) l with
      | some all => if l.length = all.length * 18 ∧ n ≤ cap ∧ n ≤ all.length then some (all.take n) else none
      | none => none
    | _ => none
  | _ => none
theorem Ye {hp : List AO} {X : AV} {ts : List (Int × List Nat × Int)} (h : U8 hp X = some ts) : ∃ (bs : List (Nat × Nat)) (H : List AO) (X' : AV), qdj H X' ts ∧ X'.ren (ofL bs) = X ∧ vq X = true ∧ Bj hp (ofL bs) bs H ∧
    Ji bs H = true ∧ AO.qa2 H.length H ∧ X'.under H.length ∧ (∀ o ∈ H, o.wr = false) ∧ (∀ bs', after ⟨[], hp⟩ (ofL bs) bs H (H ++ bs') = hp ++ bs'.map (AO.ren ((ofL bs).ext H.length hp.length))) := by
  unfold U8 at h
  split at h
  · cases h
    exact ⟨[], [], .v (.slice none 0 0), ⟨fun t ht => (by cases ht), .inl ⟨rfl, rfl, rfl⟩⟩, rfl, rfl, trivial, rfl, trivial, trivial, by simp, fun bs' => by simp [after, upd]⟩
  · rename_i b n cap
    split at h
    · rename_i hb
      split at h
      · rename_i h0
        cases h
        obtain ⟨rfl, rfl⟩ := h0
        refine ⟨[(b, 0)], [.dead], .slc 0 0 0 true 0, ⟨fun t ht => (by cases ht), .inr (.inl ⟨rfl, rfl, rfl⟩)⟩, by simp [AV.ren, ofL], rfl, ⟨(List.getElem?_eq_some_iff.1 hb).1, trivial⟩, rfl, ⟨trivial, trivial⟩, by simp [AV.under], by simp [AO.wr], fun bs' => ?_⟩
        simp [after, upd, AO.wr]
      · cases h
    · rename_i l hb
      split at h
      · rename_i all hall
        split at h
        · rename_i h0
          cases h
          obtain ⟨e1, e2, e3, e4⟩ := j2 hall
          have hl : l = qt all := by rw [← e3, List.take_of_length_le (by omega)]
          subst hl
          have hlen : (all.take n).length = n := by simp; omega
          refine ⟨[(b, 0)], [.ro (qt all)], .slc 0 0 n true cap, ⟨fun t ht => e2 t (List.mem_of_mem_take ht), .inr (.inr ⟨all, cap, by rw [hlen], by rw [hlen]; exact h0.2.1, rfl, e2, by rw [hlen], by rw [hlen]; exact h0.2.2⟩)⟩, by simp [AV.ren, ofL], rfl, ⟨⟨qt all, by simp [rd, hb], by simp, by simp [qd _ _ (qb _)]⟩, trivial⟩, rfl, ⟨ql _ _ (qb _), trivial⟩, by simp [AV.under], by simp [AO.wr], fun bs' => ?_⟩
          simp [after, upd, AO.wr]
        · cases h
      · cases h
    · cases h
  · cases h
theorem Zh {H : List AO} {X : AV} {ts : List (Int × List Nat × Int)} (h : qdj H X ts) : ∀ (j : Nat) (o' : AO), H[j]? = some o' → o'.under H.length := by
  intro j o' hj
  rcases h.2 with ⟨_, rfl, _⟩ | ⟨_, rfl, _⟩ | ⟨all, cap, _, _, rfl, _⟩
  · simp at hj
  · cases j with
    | succ j => simp at hj
    | zero => cases hj; trivial
  · cases j with
    | succ j => simp at hj
    | zero => cases hj; exact ql _ _ (qb _)
def Vk : AC := .seq (.region [oI 4 0]) (.seq (.region [oM 5 1,oM 6 0,o0 7 (.len .slc (.t 6)),oP 8 .sub 5 7,oM 1 8]) (.seq (.seq (.region [oM 9 1,oK 10 .lss 9 0]) (.cond 10 (.seq (.region [oI 4 (-1)]) .ret) .skip)) (.seq (.region [oM 11 1,oM 4 11]) .ret)))
theorem qm0 : zk Try.prog 45 = some ⟨12, Vk, [.slot 4]⟩ := by kernel_rfl
theorem qri (H : List AO) (X : AV) (ts : List (Int × List Nat × Int)) (k : Int) (h : qdj H X ts) (hk : 0 ≤ k ∧ k ≤ 1000000000) (hl : ts.length ≤ 9223372036854775807) :
    Am.Fn Try.prog 45 [X, .int .i64 k] H (fun v H' => v = .int .i64 (if k - ts.length < 0 then -1 else k - ts.length) ∧ H' = H) := by
  refine Am.Fn.xj (R := fun v => v = _) qpo mixed qm0 (by simp) (Zh h) ?_
  have hw : qu .i64 (k - (ts.length : Int)) = k - ts.length := wrap64 (by omega) (by omega)
  rcases h.2 with ⟨rfl, rfl, rfl⟩ | ⟨rfl, rfl, rfl⟩ | ⟨all, cap, rfl, hc, rfl, _⟩
  · have hw0 : qu .i64 k = k := by simpa using hw
    have hk0 : ¬ (k < 0) := by omega
    simp (maxSteps := 3000000) only [qh, zH, Vk, iE, iN, iB, iC, iL, iD, iA, iS, iM, hw0, hk0, yu, Gt, List.length_nil, Int.sub_zero, qa, zZ, ↓qm, ↓reduceIte, reduceCtorEq, nA, nM, nS, nE, nL, nD]; try simp only [qa, zY]
  · have hw0 : qu .i64 k = k := by simpa using hw
    have hk0 : ¬ (k < 0) := by omega
    simp (maxSteps := 3000000) only [qh, zH, Vk, iE, iN, iB, iC, iL, iD, iA, iS, iM, hw0, hk0, yu, Gt, List.length_nil, Int.sub_zero, qa, zZ, ↓qm, ↓reduceIte, reduceCtorEq, nA, nM, nS, nE, nL, nD]; try simp only [qa, zY]
    exact ⟨_, rfl⟩
  · simp (maxSteps := 3000000) only [qh, zH, Vk, iE, iN, iB, iC, iL, iD, iA, iS, iM, hw, yu, hc, qa, zZ, ↓qm, ↓reduceIte, reduceCtorEq, nA, nM, nS, nE, nL, nD]; try simp only [qa, zY]
    exact ⟨fun h => ⟨⟨_, rfl⟩, by rw [if_pos h]⟩, fun h => ⟨⟨_, rfl⟩, by rw [if_neg h]⟩⟩
def wj : BE := fun hp xs => match xs with
  | [X, .int .i64 k] => match U8 hp X with
    | some ts => chk ((0 ≤ k ∧ k ≤ 1000000000) ∧ ts.length ≤ 9223372036854775807) (some (.int .i64 (if k - ts.length < 0 then -1 else k - ts.length), hp))
    | none => none
  | _ => none
theorem qqr : Am.Callee Try.prog 45 wj := Callee.fp fun hp xs v hp' he => by
  unfold wj at he
  split at he
  · rename_i X k
    split at he
    · rename_i ts hts
      obtain ⟨⟨h1, h2⟩, he⟩ := qk he
      cases he
      obtain ⟨bs, H, X', hX, e1, e2, e3, e4, e5, e6, e7, e8⟩ := Ye hts
      refine ⟨bs, [X', .int .i64 k], H, H, _, qri H X' ts k hX h1 h2, by simp only [AV.zl, AV.ren, e1], (by simp only [List.all_cons, e2, List.all_nil, Bool.true_and, Bool.and_true]; rfl), e3, e4, e5, ⟨e6, trivial, trivial⟩, by simp [AV.ren], ?_⟩
      have := e8 []
      simpa using this
    · cases he
  · cases he
def qt4 : zo := (q1e.put 45 (wj))
theorem qp7 : qx Try.prog qt4 := (qpo.put (qqr))
theorem yw : qt4 24 = some (qj J4) := rfl
theorem gv : qt4 98 = some (qj uc) := rfl
theorem bq : qt4 45 = some (wj) := rfl
def ki : AC := .seq (.region [o0 2 (.box (.t 0)),oI 4 0]) (.seq (.region [oF 5 3 2,oL 6 5,oM 7 1,oC 8 45 [.t 6,.t 7],oM 1 8]) (.seq (.seq (.region [oM 9 1,oK 10 .lss 9 0]) (.cond 10 (.seq (.region [oI 4 (-1)]) .ret) .skip)) (.seq (.region [oM 11 1,oM 4 11]) .ret)))
theorem qgj : zk Try.prog 14 = some ⟨12, ki, [.slot 4]⟩ := by kernel_rfl
theorem qmm (H : List AO) (X : AV) (ts : List (Int × List Nat × Int)) (p c n k : Int) (h : qdj H X ts) (hX : ∀ rest, U8 (H ++ rest) X = some ts) (hk : 0 ≤ k ∧ k ≤ 1000000000) (hl : ts.length ≤ 9223372036854775807) :
    Am.Fn Try.prog 14 [.agg [.int .i64 p, .int .i64 c, .int .i64 n, X], .int .i64 k] H (fun v H' => v = .int .i64 (if k - ts.length < 0 then -1 else k - ts.length) ∧ H' = H) := by
  refine Am.Fn.xj (R := fun v => v = _) qp7 mixed qgj (by simp) (Zh h) ?_
  have hH : H = [] ∨ ∃ o, H = [o] := by
    rcases h.2 with ⟨_, rfl, _⟩ | ⟨_, rfl, _⟩ | ⟨_, _, _, _, rfl, _⟩
    · exact .inl rfl
    · exact .inr ⟨_, rfl⟩
    · exact .inr ⟨_, rfl⟩
  have hsub : -(1 : Int) < 0 := by decide
  by_cases hlt : k - (ts.length : Int) < 0
  · rcases hH with rfl | ⟨o, rfl⟩
    · simp only [List.nil_append] at hX
      simp (maxSteps := 3000000) only [qh, zH, ki, yw, gv, bq, J4, wj, uc, iE, iN, iB, iC, iL, iD, iA, iS, iM, hX, hk, hl, hlt, qa, zZ, ↓qm, ↓reduceIte, reduceCtorEq, nA, nM, nS, nE, nL, nD]; try simp only [qa, zY]
    · simp only [List.cons_append, List.nil_append] at hX
      simp (maxSteps := 3000000) only [qh, zH, ki, yw, gv, bq, J4, wj, uc, iE, iN, iB, iC, iL, iD, iA, iS, iM, hX, hk, hl, hlt, qa, zZ, ↓qm, ↓reduceIte, reduceCtorEq, nA, nM, nS, nE, nL, nD]; try simp only [qa, zY]
      exact ⟨_, rfl⟩
  · rcases hH with rfl | ⟨o, rfl⟩
    · simp only [List.nil_append] at hX
      simp (maxSteps := 3000000) only [qh, zH, ki, yw, gv, bq, J4, wj, uc, iE, iN, iB, iC, iL, iD, iA, iS, iM, hX, hk, hl, hlt, qa, zZ, ↓qm, ↓reduceIte, reduceCtorEq, nA, nM, nS, nE, nL, nD]; try simp only [qa, zY]
    · simp only [List.cons_append, List.nil_append] at hX
      simp (maxSteps := 3000000) only [qh, zH, ki, yw, gv, bq, J4, wj, uc, iE, iN, iB, iC, iL, iD, iA, iS, iM, hX, hk, hl, hlt, qa, zZ, ↓qm, ↓reduceIte, reduceCtorEq, nA, nM, nS, nE, nL, nD]; try simp only [qa, zY]
      exact ⟨_, rfl⟩
theorem qe8 {H : List AO} {X : AV} {ts : List (Int × List Nat × Int)} (h : qdj H X ts) (rest : List AO) : U8 (H ++ rest) X = some ts := by
  rcases h.2 with ⟨rfl, rfl, rfl⟩ | ⟨rfl, rfl, rfl⟩ | ⟨all, cap, rfl, hc, rfl, hall, htk, hle⟩
  · rfl
  · rfl
  · have hl := qw hall
    have h2 : all.length * 18 / 18 = all.length := by omega
    simp only [U8, List.cons_append, List.nil_append, List.getElem?_cons_zero, hl, h2, jq hall, true_and, hc, hle, and_self, if_true, htk]
def uv : BE := fun hp xs => match xs with
  | [.agg [.int .i64 p, .int .i64 c, .int .i64 n, X], .int .i64 k] => match U8 hp X with
    | some ts => chk ((0 ≤ k ∧ k ≤ 1000000000) ∧ ts.length ≤ 9223372036854775807) (some (.int .i64 (if k - ts.length < 0 then -1 else k - ts.length), hp))
    | none => none
  | _ => none
theorem qlm : Am.Callee Try.prog 14 uv := Callee.fp fun hp xs v hp' he => by
  unfold uv at he
  split at he
  · rename_i p c n X k
    split at he
    · rename_i ts hts
      obtain ⟨⟨h1, h2⟩, he⟩ := qk he
      cases he
      obtain ⟨bs, H, X', hX, e1, e2, e3, e4, e5, e6, e7, e8⟩ := Ye hts
      refine ⟨bs, [.agg [.int .i64 p, .int .i64 c, .int .i64 n, X'], .int .i64 k], H, H, _, qmm H X' ts p c n k hX (qe8 hX) h1 h2, by simp only [AV.zl, AV.ren, e1], rfl, e3, e4, e5, ⟨⟨trivial, trivial, trivial, e6, trivial⟩, trivial, trivial⟩, by simp [AV.ren], ?_⟩
      have := e8 []
      simpa using this
    · cases he
  · cases he
def qte : zo := (qt4.put 14 (uv))
theorem qao : qx Try.prog qte := (qp7.put (qlm))
theorem Gb : qte 24 = some (qj J4) := rfl
theorem qbo : qte 98 = some (qj uc) := rfl
theorem qa0 : qte 45 = some (wj) := rfl
theorem qkh : ∀ n, rep n (trm (0, List.replicate 16 0, 0)) = qt (List.replicate n (0, List.replicate 16 0, 0))
  | 0 => rfl
  | n + 1 => by rw [rep, qkh n, List.replicate_succ]; rfl
theorem qhk : ∀ {us : List (Int × List Nat × Int)} {i : Nat} {t : Int × List Nat × Int}, okT us → okD t.2.1 → i < us.length → over (qt us) (i * 18) (trm t) = qt (us.set i t)
  | u :: us, 0, t, h, ht, hi => by
    have h1 := zp (h u (List.mem_cons_self ..))
    simp only [qt, List.flatMap_cons, List.set_cons_zero, over, Nat.zero_mul, List.take_zero, List.nil_append, Nat.zero_add, zp ht]
    rw [List.drop_append_of_le_length (by omega), List.drop_of_length_le (by omega), List.nil_append]
  | u :: us, i + 1, t, h, ht, hi => by
    have h1 := zp (h u (List.mem_cons_self ..))
    have ih := qhk (us := us) (i := i) (t := t) (fun v hv => h v (List.mem_cons_of_mem _ hv)) ht (by simpa using hi)
    simp only [qt, List.flatMap_cons, List.set_cons_succ] at ih ⊢
    rw [← ih]
    simp only [over, zp ht]
    rw [show (i + 1) * 18 = 18 + i * 18 by omega, List.take_append, List.take_of_length_le (by omega), h1, show 18 + i * 18 - 18 = i * 18 by omega, List.drop_append, List.drop_of_length_le (by omega), h1, show 18 + i * 18 + 18 - 18 = i * 18 + 18 by omega]
    simp
def bz : AC := .seq (.seq (.region [oM 8 4,oM 9 0,o0 10 (.len .slc (.t 9)),oP 11 .lss 8 10]) (.cond 11 .skip (.exit 0))) (.seq (.block 1 (.region [oM 14 3,oM 15 4,oM 16 0,oM 17 4,oX 18 18 16 17,oN 19 18 18,oC 20 98 [.t 19],oX 21 18 14 15,oS 18 21 20])) (.region [oM 12 4,oK 13 .add 12 1,oM 4 13]))
def Qv : AC := .seq (.region [oM 22 3,oM 2 22]) .ret
def Vg : AC := .seq (.region [o0 2 (.mov (.c (.v (.slice none 0 0))))]) (.seq (.region [oM 5 0,o0 6 (.len .slc (.t 5)),o0 7 (.X1 18 32 [.int .i64 0,.int .u8 0,.int .u8 0,.int .u8 0,.int .u8 0,.int .u8 0,.int .u8 0,.int .u8 0,.int .u8 0,.int .u8 0,.int .u8 0,.int .u8 0,.int .u8 0,.int .u8 0,.int .u8 0,.int .u8 0,.int .u8 0,.int .i64 0] (.t 6) (.t 6)),oM 3 7]) (.seq (.seq (.region [oI 4 0]) (.block 0 (.loop bz))) Qv))
theorem qlv : zk Try.prog 47 = some ⟨23, Vg, [.slot 2]⟩ := by kernel_rfl
theorem qrc (H : List AO) (X : AV) (ts : List (Int × List Nat × Int)) (h : qdj H X ts) (hl : ts.length ≤ 1100000) :
    Am.Fn Try.prog 47 [X] H (fun v H' => v = .slc H.length 0 ts.length false 0 ∧ H' = H ++ [.vec 18 (qt ts)]) := by
  refine Am.Fn.ofW qao mixed qlv (by simp) (Zh h) ?_
  rcases h.2 with ⟨rfl, rfl, rfl⟩ | ⟨rfl, rfl, rfl⟩ | ⟨all, cap, rfl, hc, rfl, hall, htk, hle⟩
  · simp (maxSteps := 3000000) only [qh, zH, Vg, iE, iN, iB, iC, iL, iD, iA, iS, iM, yu, Gt, List.length_nil, xv, xh, Int.toNat_zero, rep, qa, zZ, ↓qm, ↓reduceIte, reduceCtorEq, nA, nM, nS, nE, nL, nD]; try simp only [qa, zY]
    refine ⟨by decide, WA.jt qao (fun s => s = ⟨[(4, .int .i64 0), (3, .slc 0 0 0 true 0), (0, .v (.slice none 0 0))], [.cells []]⟩) (fun _ => 0) ⟨_, q6.qz [4, 3, 0], rfl⟩ ?_⟩
    rintro s rfl
    simp (maxSteps := 3000000) only [qh, zH, bz, Qv, iE, iN, iB, iC, iL, iD, iA, iS, iM, yu, Gt, List.length_nil, qa, zZ, ↓qm, ↓reduceIte, reduceCtorEq, nA, nM, nS, nE, nL, nD]; try simp only [qa, zY]
    refine ⟨_, q6.trans (q6.qz [2]) (q6.vec 0 0 18 (by decide) rfl rfl rfl rfl), ?_⟩
    refine Ret.jn [0] ⟨⟨by simp, rfl, by decide⟩, ?_⟩ (rs := [.slc 0 0 0 false 0]) rfl rfl (by simp [z6]) ?_ ⟨?_, ?_⟩
    · simp only [qz, zs, zV, ↓reduceIte, nE, reduceCtorEq, nB]
      simp only [zK, ↓reduceIte, reduceCtorEq, nE, nB, nA]
    · intro j l; match j with
      | 0 => simp [zb, Y7, AO.xd, AO.ren]
      | j + 1 => simp [zb]
    · simp only [z6]
      simp only [zL, ↓reduceIte, reduceCtorEq, nE, nA]
    · rfl
  · simp (maxSteps := 3000000) only [qh, zH, Vg, iE, iN, iB, iC, iL, iD, iA, iS, iM, yu, Gt, List.length_nil, xv, xh, Int.toNat_zero, rep, qa, zZ, ↓qm, ↓reduceIte, reduceCtorEq, nA, nM, nS, nE, nL, nD]; try simp only [qa, zY]
    refine ⟨by decide, WA.jt qao (fun s => s = ⟨[(4, .int .i64 0), (3, .slc 1 0 0 true 0), (0, .slc 0 0 0 true 0)], [.dead, .cells []]⟩) (fun _ => 0) ⟨_, q6.qz [4, 3, 0], rfl⟩ ?_⟩
    rintro s rfl
    simp (maxSteps := 3000000) only [qh, zH, bz, Qv, iE, iN, iB, iC, iL, iD, iA, iS, iM, yu, Gt, List.length_nil, qa, zZ, ↓qm, ↓reduceIte, reduceCtorEq, nA, nM, nS, nE, nL, nD]; try simp only [qa, zY]
    refine ⟨_, q6.trans (q6.qz [2]) (q6.vec 1 0 18 (by decide) rfl rfl rfl rfl), ?_⟩
    refine Ret.jn [0, 1] ⟨⟨by simp, rfl, by decide⟩, ?_⟩ (rs := [.slc 1 0 0 false 0]) rfl rfl (by simp [z6]) ?_ ⟨?_, ?_⟩
    · simp only [qz, zs, zV, ↓reduceIte, nE, reduceCtorEq, nB]
      simp only [zK, ↓reduceIte, reduceCtorEq, nE, nB, nA]
    · intro j l; match j with
      | 0 => simp [zb, Y7, AO.xd, AO.ren]
      | 1 => simp [zb, Y7, AO.xd, AO.ren]
      | j + 2 => simp [zb]
    · simp only [z6]
      simp only [zL, ↓reduceIte, reduceCtorEq, nE, nA]
    · rfl
  · simp (maxSteps := 3000000) only [qh, zH, Vg, iE, iN, iB, iC, iL, iD, iA, iS, iM, yu, hc, List.length_nil, xv, xh, qkh, qa, zZ, ↓qm, ↓reduceIte, reduceCtorEq, nA, nM, nS, nE, nL, nD]; try simp only [qa, zY]
    refine ⟨⟨by omega, by omega, by omega⟩, WA.jt qao (fun s => ∃ (i : Nat) (us : List (Int × List Nat × Int)), i ≤ ts.length ∧ us = ts.take i ++ List.replicate (ts.length - i) (0, List.replicate 16 0, 0) ∧ s = ⟨[(4, .int .i64 i), (3, .slc 1 0 ts.length true ts.length), (0, .slc 0 0 ts.length true cap)], [.ro (qt all), .cells (qt us)]⟩)
      (fun s => match get s.env 4 with | .int _ x => ts.length - x.toNat | _ => 0) ⟨_, q6.qz [4, 3, 0], 0, _, by omega, by simp, rfl⟩ ?_⟩
    rintro s ⟨i, us, hi, hus, rfl⟩
    have hul : us.length = ts.length := by rw [hus]; simp; omega
    have huo : okT us := by
      rw [hus]; intro t h'
      rcases List.mem_append.1 h' with h' | h'
      · exact h.1 t (List.mem_of_mem_take h')
      · rw [(List.mem_replicate.1 h').2]; exact ⟨by simp, by intro x hx; simp at hx; omega⟩
    have hutl := qw huo
    have hal := qw hall
    have hw : qu .i64 ((i : Int) + 1) = ((i + 1 : Nat) : Int) := by rw [wrap64 (by omega) (by omega)]; rfl
    by_cases hlt : i < ts.length
    · have hai : i < all.length := by omega
      have hget : all[i] = ts[i] := by
        have : ts[i] = (all.take ts.length)[i]'(by simp; omega) := by congr 1; exact htk.symm
        rw [this, List.getElem_take]
      have h0 := ub hall hai
      rw [hget] at h0
      have hok : okD ts[i].2.1 := h.1 _ (List.getElem_mem hlt)
      have hov := qhk huo hok (show i < us.length by omega)
      have hset : us.set i ts[i] = ts.take (i + 1) ++ List.replicate (ts.length - (i + 1)) (0, List.replicate 16 0, 0) := by
        rw [hus, List.set_append_right _ _ (by rw [List.length_take]; omega), List.length_take, Nat.min_eq_left hi, Nat.sub_self, show ts.length - i = (ts.length - (i + 1)) + 1 by omega, List.replicate_succ, List.set_cons_zero, List.take_succ_eq_append_getElem hlt, List.append_assoc]
        rfl
      have hli : ((i : Int) < (ts.length : Int)) := by omega
      have hli' : (0 : Int) ≤ i := by omega
      have hb1 : i * 18 < all.length * 18 := by omega
      have hb2 : i * 18 + 18 ≤ all.length * 18 := by omega
      have hb3 : i * 18 < us.length * 18 := by omega
      have hb4 : i * 18 + 18 ≤ us.length * 18 := by omega
      simp (maxSteps := 3000000) only [qh, zH, bz, Gb, qbo, qa0, J4, wj, uc, iE, iN, iB, iC, iL, iD, iA, iS, iM, yu, hc, hw, hal, hutl, h0, hov, Bq hok, x8, zp hok, hli, hli', hb1, hb2, hb3, hb4, and_self, qa, zZ, ↓qm, ↓reduceIte, reduceCtorEq, nA, nM, nS, nE, nL, nD]; try simp only [qa, zY]
      refine ⟨_, q6.qz [4, 3, 0], ⟨i + 1, us.set i ts[i], by omega, hset, ?_⟩, ?_⟩
      · simp only [zL, ↓reduceIte, reduceCtorEq, nE, nA]
      · simp only [zL, ↓reduceIte, reduceCtorEq, nE, nA]; omega
    · have hi' : i = ts.length := by omega
      subst hi'
      have hu : us = ts := by rw [hus]; simp
      subst hu
      simp (maxSteps := 3000000) only [qh, zH, bz, Qv, iE, iN, iB, iC, iL, iD, iA, iS, iM, yu, hc, Int.lt_irrefl, qa, zZ, ↓qm, ↓reduceIte, reduceCtorEq, nA, nM, nS, nE, nL, nD]; try simp only [qa, zY]
      refine ⟨_, q6.trans (q6.qz [2]) (q6.vec 1 us.length 18 (by decide) rfl hutl.symm rfl ?_), ?_⟩
      · simp only [wi _ _ (qb _), zV, ↓reduceIte, nE, reduceCtorEq, nB]
      refine Ret.jn [0, 1] ⟨⟨by simp, rfl, by decide⟩, ?_⟩ (rs := [.slc 1 0 us.length false 0]) ?_ rfl (by simp [z6]) ?_ ⟨?_, ?_⟩
      · simp only [qz, zs, vm _ _ _ (qb _), zV, ↓reduceIte, nE, reduceCtorEq, nB]
        simp only [qg _ _ (qb _), zK, ↓reduceIte, reduceCtorEq, nE, nB, nA]
      · simp only [qz, zs, zV, ↓reduceIte, nE, reduceCtorEq, nB]
        rfl
      · intro j l; match j with
        | 0 => exact fun _ => ⟨_, rfl⟩
        | 1 => simp [zb, Y7, AO.xd, AO.ren]
        | j + 2 => simp [zb]
      · simp only [z6]
        simp only [zL, ↓reduceIte, reduceCtorEq, nE, nA]
      · simp only [vm _ _ _ (qb _), zV, ↓reduceIte, nE, reduceCtorEq, nB]
        simp only [qd _ _ (qb _), zL, ↓reduceIte, reduceCtorEq, nE, nA]
def Je : BE := fun hp xs => match xs with
  | [X] => match U8 hp X with
    | some ts => chk (ts.length ≤ 1100000) (some (.slc hp.length 0 ts.length false 0, hp ++ [.vec 18 (qt ts)]))
    | none => none
  | _ => none
theorem qqs : Am.Callee Try.prog 47 Je := Callee.fp fun hp xs v hp' he => by
  unfold Je at he
  split at he
  · rename_i X
    split at he
    · rename_i ts hts
      obtain ⟨h1, he⟩ := qk he
      simp only [Option.some.injEq, Prod.mk.injEq] at he
      obtain ⟨rfl, rfl⟩ := he
      obtain ⟨bs, H, X', hX, e1, e2, e3, e4, e5, e6, e7, e8⟩ := Ye hts
      refine ⟨bs, [X'], H, _, _, qrc H X' ts hX h1, by simp only [AV.zl, e1], (by simp only [List.all_cons, e2, List.all_nil, Bool.true_and, Bool.and_true]), e3, e4, e5, ⟨e6, trivial⟩, ?_, ?_⟩
      · simp [AV.ren, Ren.ext]
      · rw [e8]; simp only [List.map_cons, List.map_nil, Vr, qd _ _ (qb _)]
    · cases he
  · cases he
def qr9 : zo := (qte.put 47 (Je))
theorem qpk : qx Try.prog qr9 := (qao.put (qqs))
theorem Xu : qr9 24 = some (qj J4) := rfl
theorem Wl : qr9 98 = some (qj uc) := rfl
theorem J9 : qr9 45 = some (wj) := rfl
theorem Vj : qr9 47 = some (Je) := rfl
def Vs : AC := .seq (.region [o0 1 (.box (.t 0)),o0 2 (.alloc [.int .i64 0,.int .i64 0,.int .i64 0,(.v (.slice none 0 0))])]) (.seq (.region [o0 3 (.alloc [.int .i64 0,.int .i64 0,.int .i64 0,(.v (.slice none 0 0))])]) (.seq (.region [oF 4 0 1,oL 5 4,oF 6 0 3,oT 6 5]) (.seq (.region [oF 7 1 1,oL 8 7,oF 9 1 3,oT 9 8]) (.seq (.region [oF 10 2 1,oL 11 10,oF 12 2 3,oT 12 11]) (.seq (.region [oF 13 3 1,oL 14 13,oC 15 47 [.t 14],oF 16 3 3,oT 16 15]) (.seq (.region [oN 17 4 3,oS 4 2 17]) .ret))))))
theorem qg4 : zk Try.prog 16 = some ⟨18, Vs, [.Qa 2 4]⟩ := by kernel_rfl
theorem qlf (H : List AO) (X : AV) (ts : List (Int × List Nat × Int)) (p c n : Int) (h : qdj H X ts) (hl : ts.length ≤ 1100000) :
    Am.Fn Try.prog 16 [.agg [.int .i64 p, .int .i64 c, .int .i64 n, X]] H (fun v H' => v = elemV p c n H.length ts.length ∧ H' = H ++ [.vec 18 (qt ts)]) := by
  refine Am.Fn.ofB qpk mixed qg4 (by simp) (Zh h) ?_
  have hX := qe8 h
  have hH : H = [] ∨ ∃ o, H = [o] ∧ ((∃ l, o = .ro l ∧ AV.zg l = true) ∨ o = .dead) := by
    rcases h.2 with ⟨_, rfl, _⟩ | ⟨_, rfl, _⟩ | ⟨all, _, _, _, rfl, _⟩
    · exact .inl rfl
    · exact .inr ⟨_, rfl, .inr rfl⟩
    · exact .inr ⟨_, rfl, .inl ⟨_, rfl, qb all⟩⟩
  rcases hH with rfl | ⟨o, rfl, ho⟩
  · simp only [List.nil_append] at hX
    simp (maxSteps := 3000000) only [qh, zH, Vs, Xu, Wl, J9, Vj, J4, wj, uc, Je, iE, iN, iB, iC, iL, iD, iA, iS, iM, hX, hl, qa, zZ, ↓qm, ↓reduceIte, reduceCtorEq, nA, nM, nS, nE, nL, nD]; try simp only [qa, zY]
    refine ⟨rfl, rfl, rfl, rfl, rfl, ?_⟩
    refine Ret.jn [3] ⟨⟨by simp, rfl, by decide⟩, ?_⟩ (rs := [.agg [.int .i64 p, .int .i64 c, .int .i64 n, .slc 3 0 ts.length false 0]]) rfl rfl (by simp [z6]) ?_ ⟨?_, ?_⟩
    · simp only [qg _ _ (qb _), zK, ↓reduceIte, reduceCtorEq, nE, nB, nA]
    · intro j l; match j with
      | 0 => simp [zb, AO.ren]
      | j + 1 => simp [zb]
    · simp only [z6, elemV]
      simp only [zL, ↓reduceIte, reduceCtorEq, nE, nA]
    · simp only [qd _ _ (qb _), zL, ↓reduceIte, reduceCtorEq, nE, nA]
  · simp only [List.cons_append, List.nil_append] at hX
    simp (maxSteps := 3000000) only [qh, zH, Vs, Xu, Wl, J9, Vj, J4, wj, uc, Je, iE, iN, iB, iC, iL, iD, iA, iS, iM, hX, hl, qa, zZ, ↓qm, ↓reduceIte, reduceCtorEq, nA, nM, nS, nE, nL, nD]; try simp only [qa, zY]
    refine ⟨rfl, rfl, rfl, rfl, rfl, ?_⟩
    have ho1 : o.within [0, 4] = true := by
      rcases ho with ⟨l, rfl, hs⟩ | rfl
      · exact qg _ _ hs
      · rfl
    have ho2 : ∀ ρ, o.ren ρ = o := by
      intro ρ
      rcases ho with ⟨l, rfl, hs⟩ | rfl
      · simp only [AO.ren, qd _ _ hs]
      · rfl
    refine Ret.jn [0, 4] ⟨⟨by simp, rfl, by decide⟩, ?_⟩ (rs := [.agg [.int .i64 p, .int .i64 c, .int .i64 n, .slc 4 0 ts.length false 0]]) rfl rfl (by simp [z6]) ?_ ⟨?_, ?_⟩
    · simp only [qg _ _ (qb _), ho1, zK, ↓reduceIte, reduceCtorEq, nE, nB, nA]
    · intro j l; match j with
      | 0 =>
        simp only [zb, List.map_cons, List.getElem?_cons_zero, ho2]
        exact fun h => ⟨l, h⟩
      | 1 => simp [zb, AO.ren]
      | j + 2 => simp [zb]
    · simp only [z6, elemV]
      simp only [zL, ↓reduceIte, reduceCtorEq, nE, nA]
    · simp only [qd _ _ (qb _), ho2, zL, ↓reduceIte, reduceCtorEq, nE, nA]
def ur : BE := fun hp xs => match xs with
  | [.agg [.int .i64 p, .int .i64 c, .int .i64 n, X]] => match U8 hp X with
    | some ts => chk (ts.length ≤ 1100000) (some (elemV p c n hp.length ts.length, hp ++ [.vec 18 (qt ts)]))
    | none => none
  | _ => none
theorem qjn : Am.Callee Try.prog 16 ur := Callee.fp fun hp xs v hp' he => by
  unfold ur at he
  split at he
  · rename_i p c n X
    split at he
    · rename_i ts hts
      obtain ⟨h1, he⟩ := qk he
      simp only [Option.some.injEq, Prod.mk.injEq] at he
      obtain ⟨rfl, rfl⟩ := he
      obtain ⟨bs, H, X', hX, e1, e2, e3, e4, e5, e6, e7, e8⟩ := Ye hts
      refine ⟨bs, [.agg [.int .i64 p, .int .i64 c, .int .i64 n, X']], H, _, _, qlf H X' ts p c n hX h1, by simp only [AV.zl, AV.ren, e1], rfl, e3, e4, e5, ⟨⟨trivial, trivial, trivial, e6, trivial⟩, trivial⟩, ?_, ?_⟩
      · simp [elemV, AV.ren, AV.zl, Ren.ext]
      · rw [e8]; simp only [List.map_cons, List.map_nil, Vr, qd _ _ (qb _)]
    · cases he
  · cases he
def B31 : zo := (qr9.put 16 (ur))
theorem qzu : qx Try.prog B31 := (qpk.put (qjn))
theorem qe5 {α : Type} (l : List α) (a b k : Nat) (h : a ≤ b) : List.take a (List.drop k l) = List.take a (List.take b (List.drop k l)) := by
  rw [List.take_take, Nat.min_eq_left h]
theorem kn {ts : List (Int × List Nat × Int)} {i : Nat} (h : okT ts) (hi : i < ts.length) : List.take 17 (List.drop (i * 18) (qt ts)) = dia ts[i].1 ts[i].2.1 := by
  rw [qe5 _ 17 18 _ (by decide), ub h hi]
  have := Vn (h _ (List.getElem_mem hi))
  rwa [List.drop_zero] at this
theorem K4 {ts : List (Int × List Nat × Int)} {i : Nat} (h : okT ts) (hi : i < ts.length) : (qt ts)[i * 18 + 17]? = some (.int .i64 ts[i].2.2) := by
  have h1 := kx (h _ (List.getElem_mem hi))
  rw [← ub h hi, List.getElem?_take, if_pos (by decide), List.getElem?_drop] at h1
  exact h1
def ky : List AV → Option AV
  | [.agg l, .agg l'] => match yk l, yk l' with
    | some (n, m), some (n', m') => chk ((0 ≤ n ∧ n ≤ 8) ∧ 0 ≤ n' ∧ n' ≤ 8) (some (.bool (Op.bytesLess (xi n.toNat m) (xi n'.toNat m'))))
    | _, _ => none
  | _ => none
theorem qfp : B30 60 = some (qj vk) := rfl
theorem qer : B30 58 = some (qj jz) := rfl
theorem qa7 : B30 59 = some (qj vh) := rfl
theorem qby : B30 109 = some (qj xr) := rfl
def qda : AC := .seq (.region [o0 2 (.box (.t 0)),o0 3 (.box (.t 1)),oB 4 false]) (.seq (.draw true [oN 5 17 2,oN 7 17 3,oC 6 109 [.t 5],oC 8 109 [.t 7],oP 9 .lss 6 8,oM 4 9]) .ret)
theorem qk1 : zk Try.prog 114 = some ⟨10, qda, [.slot 4]⟩ := by kernel_rfl
theorem qzv (n n' : Int) (m m' : List Nat) (hm : okD m) (hm' : okD m') (hn : 0 ≤ n ∧ n ≤ 8) (hn' : 0 ≤ n' ∧ n' ≤ 8) :
    Am.Fn Try.prog 114 [.agg (dia n m), .agg (dia n' m')] [] (fun v H' => v = .bool (Op.bytesLess (xi n.toNat m) (xi n'.toNat m')) ∧ H' = []) := by
  refine Am.Fn.xj (R := fun v => v = _) qou mixed qk1 (by simp) (by simp) ?_
  simp (maxSteps := 3000000) only [qh, zH, qda, qfp, qer, qa7, qby, vk, jz, vh, xr, qc, hm.1, hm'.1, qp hm, qp hm', qn hm.1, qn hm'.1, hn, hn', iE, iN, iB, iC, iL, iD, iA, iS, iM, qa, zZ, ↓qm, ↓reduceIte, reduceCtorEq, nA, nM, nS, nE, nL, nD]; try simp only [qa, zY]
  exact ⟨⟨_, rfl⟩, _, rfl⟩
theorem qzh : Am.Callee Try.prog 114 (qj ky) := Am.Callee.plain fun xs v he => by
  unfold ky at he
  split at he
  · split at he
    · rename_i l l' n m n' m' hd hd'
      obtain ⟨⟨h1, h2⟩, he⟩ := qk he
      cases he
      obtain ⟨rfl, hm⟩ := zj hd
      obtain ⟨rfl, hm'⟩ := zj hd'
      exact ⟨by simp only [AV.zg, AV.zm, qe, Bool.and_self], rfl, qzv _ _ _ _ hm hm' h1 h2⟩
    · cases he
  · cases he
def B32 : zo := (B31.put 114 (qj ky))
theorem qol : qx Try.prog B32 := (qzu.put (qzh))
theorem xy : B32 60 = some (qj vk) := rfl
theorem xx : B32 58 = some (qj jz) := rfl
theorem zw : B32 59 = some (qj vh) := rfl
theorem xa : B32 109 = some (qj xr) := rfl
theorem xb : B32 114 = some (qj ky) := rfl
def zT : Int × List Nat × Int := (0, [], 0)
def Xv (p n : Int) (ts : List (Int × List Nat × Int)) (i : Nat) : Bool :=
  isS (ts.getD i zT).1.toNat (ts.getD i zT).2.1 && ((ts.getD i zT).1 == n) && decide (1 ≤ (ts.getD i zT).2.2 ∧ (ts.getD i zT).2.2 ≤ p - 1) && (i == 0 || ltT (ts.getD (i - 1) zT) (ts.getD i zT))
def yi (p c n : Int) (ts : List (Int × List Nat × Int)) : Bool :=
  yn p && decide (0 ≤ c ∧ c ≤ p - 1) && decide (1 ≤ n ∧ n ≤ 8) && decide (ts.length ≤ 140) && (List.range ts.length).all (Xv p n ts)
theorem uz {ts : List (Int × List Nat × Int)} {i : Nat} (h : i < ts.length) : ts.getD i zT = ts[i] := by
  rw [List.getD_eq_getElem?_getD, List.getElem?_eq_getElem h]; rfl
theorem Z8 {p c n : Int} {ts : List (Int × List Nat × Int)} {i : Nat} (h : i < ts.length) (hg : Xv p n ts i = false) : false = yi p c n ts := by
  have : (List.range ts.length).all (Xv p n ts) = false := by
    rw [← Bool.not_eq_true, List.all_eq_true]
    intro h2
    have := h2 i (List.mem_range.2 h)
    rw [hg] at this; cases this
  simp [yi, this]
theorem qg7 {p c n : Int} {ts : List (Int × List Nat × Int)} (hp : yn p = true) (hc : 0 ≤ c ∧ c ≤ p - 1) (hn : 1 ≤ n ∧ n ≤ 8) (hl : ts.length ≤ 140) (h : ∀ i, i < ts.length → Xv p n ts i = true) : true = yi p c n ts := by
  have : (List.range ts.length).all (Xv p n ts) = true := by
    rw [List.all_eq_true]
    exact fun i hi => h i (List.mem_range.1 hi)
  simp only [yi, this, hp, decide_eq_true hc, decide_eq_true hn, decide_eq_true hl, Bool.and_self]
theorem qcq {p : Int} (h : yn p = true) : 2 ≤ p ∧ p ≤ 97 := by
  simp only [yn, Bool.and_eq_true, decide_eq_true_eq] at h
  exact h.1
def u3 : AC := .cond 81 (.seq (.region [oB 2 false]) .ret) .skip
def ba : AC := .region [oM 35 3,oK 36 .add 35 1,oM 3 36]
def yh : AC := .seq (.seq (.region [oM 30 3,oF 31 3 1,oL 32 31,o0 33 (.len .slc (.t 32)),oP 34 .lss 30 33]) (.cond 34 .skip (.exit 0))) (.seq (.block 1 (.seq (.region [oF 37 3 1,oL 38 37,oM 39 3,oX 40 18 38 39,oF 41 0 40,oN 42 17 41,o0 4 (.alloc [.int .i64 0,.int .u8 0,.int .u8 0,.int .u8 0,.int .u8 0,.int .u8 0,.int .u8 0,.int .u8 0,.int .u8 0,.int .u8 0,.int .u8 0,.int .u8 0,.int .u8 0,.int .u8 0,.int .u8 0,.int .u8 0,.int .u8 0]),oS 17 4 42]) (.seq (.draw false [oN 43 17 4,oC 44 58 [.t 43],o0 45 (.un .not (.t 44)),oM 46 45,oG 47 46 false (.v7 0 (.t 4)),oG 48 46 false (.wo (.t 47)),oG 49 46 false (.v7 2 (.t 1)),oG 50 46 false (.wo (.t 49)),oG 51 46 false (.bin .neq (.t 48) (.t 50)),o0 52 (.pick (.t 46) (.c (.bool true)) (.t 51)),oM 53 52,oG 54 53 false (.v7 3 (.t 1)),oG 55 53 false (.wo (.t 54)),oG 56 53 false (.mov (.t 3)),oG 57 53 false (.Zg 18 (.t 55) (.t 56)),oG 58 53 false (.v7 17 (.t 57)),oG 59 53 false (.wo (.t 58)),oG 60 53 false (.v7 0 (.t 1)),oG 61 53 false (.wo (.t 60)),oG 62 53 false (.bin .sub (.t 61) (.c (.int .i64 1))),⟨some 63,some (53,false),.call (.c (.fn 60 [] [])) [.t 59,(.c (.int .i64 1)),.t 62]⟩,oG 64 53 false (.un .not (.t 63)),o0 65 (.pick (.t 53) (.c (.bool true)) (.t 64)),oM 66 65,oG 67 66 false (.mov (.t 3)),oG 68 66 false (.bin .gtr (.t 67) (.c (.int .i64 0))),oG 69 66 false (.mov (.t 68)),oG 70 69 true (.v7 3 (.t 1)),oG 71 69 true (.wo (.t 70)),oG 72 69 true (.mov (.t 3)),oG 73 69 true (.bin .sub (.t 72) (.c (.int .i64 1))),oG 74 69 true (.Zg 18 (.t 71) (.t 73)),oG 75 69 true (.v7 0 (.t 74)),oG 76 69 true (.Q0 17 (.t 75)),oG 77 69 true (.Q0 17 (.t 4)),⟨some 78,some (69,true),.call (.c (.fn 114 [] [])) [.t 76,.t 77]⟩,oG 79 69 true (.un .not (.t 78)),oG 80 66 false (.pick (.t 69) (.t 79) (.c (.bool false))),o0 81 (.pick (.t 66) (.c (.bool true)) (.t 80))]) u3))) ba)
def qam : AC := .seq (.region [oB 2 true]) .ret
def Jc : AC := .seq (.region [o0 1 (.box (.t 0)),oB 2 false]) (.seq (.seq (.region [oF 5 0 1,oL 6 5,oC 7 59 [.t 6],o0 8 (.un .not (.t 7)),oM 9 8,oG 10 9 false (.v7 1 (.t 1)),oG 11 9 false (.wo (.t 10)),oG 12 9 false (.v7 0 (.t 1)),oG 13 9 false (.wo (.t 12)),oG 14 9 false (.bin .sub (.t 13) (.c (.int .i64 1))),⟨some 15,some (9,false),.call (.c (.fn 60 [] [])) [.t 11,(.c (.int .i64 0)),.t 14]⟩,oG 16 9 false (.un .not (.t 15)),o0 17 (.pick (.t 9) (.c (.bool true)) (.t 16)),oM 18 17,oG 19 18 false (.v7 2 (.t 1)),oG 20 18 false (.wo (.t 19)),⟨some 21,some (18,false),.call (.c (.fn 60 [] [])) [.t 20,(.c (.int .i64 1)),(.c (.int .i64 8))]⟩,oG 22 18 false (.un .not (.t 21)),o0 23 (.pick (.t 18) (.c (.bool true)) (.t 22)),oM 24 23,oG 25 24 false (.v7 3 (.t 1)),oG 26 24 false (.wo (.t 25)),oG 27 24 false (.len .slc (.t 26)),oG 28 24 false (.bin .gtr (.t 27) (.c (.int .i64 140))),o0 29 (.pick (.t 24) (.c (.bool true)) (.t 28))]) (.cond 29 (.seq (.region [oB 2 false]) .ret) .skip)) (.seq (.seq (.region [oI 3 0]) (.block 0 (.loop yh))) qam))
theorem qrw : zk Try.prog 68 = some ⟨82, Jc, [.slot 2]⟩ := by kernel_rfl
theorem qqz (p c n : Int) (ts : List (Int × List Nat × Int)) (ht : okT ts) (hl : ts.length ≤ 1000000000) :
    Am.Fn Try.prog 68 [elemV p c n 0 ts.length] [.ro (qt ts)] (fun v H' => v = .bool (yi p c n ts) ∧ H' = [.ro (qt ts)]) := by
  refine Am.Fn.xj (R := fun v => v = _) qol mixed qrw (by simp) (bb (qb _)) ?_
  have htl := qw ht
  cases hP : yn p with
  | false =>
    have : yi p c n ts = false := by simp [yi, hP]
    simp (maxSteps := 3000000) only [qh, zH, Jc, xy, xx, zw, xa, xb, vk, jz, ky, vh, xr, elemV, hP, iE, iN, iB, iC, iL, iD, iA, iS, iM, this, qa, zZ, ↓qm, ↓reduceIte, reduceCtorEq, nA, nM, nS, nE, nL, nD]; try simp only [qa, zY]
    exact ⟨_, rfl⟩
  | true =>
  have hpr := qcq hP
  have hwp : qu .i64 (p - 1) = p - 1 := wrap64 (by omega) (by omega)
  by_cases hc : 0 ≤ c ∧ c ≤ p - 1
  case neg =>
    have : yi p c n ts = false := by simp only [yi, decide_eq_false hc, Bool.and_false, Bool.false_and]
    simp (maxSteps := 3000000) only [qh, zH, Jc, xy, xx, zw, xa, xb, vk, jz, ky, vh, xr, elemV, hP, hwp, hc, iE, iN, iB, iC, iL, iD, iA, iS, iM, this, qa, zZ, ↓qm, ↓reduceIte, reduceCtorEq, nA, nM, nS, nE, nL, nD]; try simp only [qa, zY]
    exact ⟨_, rfl⟩
  by_cases hn : 1 ≤ n ∧ n ≤ 8
  case neg =>
    have : yi p c n ts = false := by simp only [yi, decide_eq_false hn, Bool.and_false, Bool.false_and]
    simp (maxSteps := 3000000) only [qh, zH, Jc, xy, xx, zw, xa, xb, vk, jz, ky, vh, xr, elemV, hP, hwp, hc, hn, and_self, iE, iN, iB, iC, iL, iD, iA, iS, iM, this, qa, zZ, ↓qm, ↓reduceIte, reduceCtorEq, nA, nM, nS, nE, nL, nD]; try simp only [qa, zY]
    exact ⟨_, rfl⟩
  by_cases h140 : ts.length ≤ 140
  case neg =>
    have : yi p c n ts = false := by simp only [yi, decide_eq_false h140, Bool.and_false, Bool.false_and]
    have h140' : (140 : Int) < ts.length := by omega
    simp (maxSteps := 3000000) only [qh, zH, Jc, xy, xx, zw, xa, xb, vk, jz, ky, vh, xr, elemV, hP, hwp, hc, hn, and_self, h140', gt_iff_lt, iE, iN, iB, iC, iL, iD, iA, iS, iM, this, qa, zZ, ↓qm, ↓reduceIte, reduceCtorEq, nA, nM, nS, nE, nL, nD]; try simp only [qa, zY]
    exact ⟨_, rfl⟩
  have h140' : ¬ ((140 : Int) < ts.length) := by omega
  simp (maxSteps := 3000000) only [qh, zH, Jc, xy, xx, zw, xa, xb, vk, jz, ky, vh, xr, elemV, hP, hwp, hc, hn, and_self, h140', gt_iff_lt, iE, iN, iB, iC, iL, iD, iA, iS, iM, qa, zZ, ↓qm, ↓reduceIte, reduceCtorEq, nA, nM, nS, nE, nL, nD]; try simp only [qa, zY]
  refine WA.jt qol (fun s => ∃ i : Nat, s = ⟨[(3, .int .i64 i), (1, .ptr 1 0)], [.ro (qt ts), .cells [.int .i64 p, .int .i64 c, .int .i64 n, .slc 0 0 ts.length false 0]]⟩ ∧ i ≤ ts.length ∧ ∀ j, j < i → Xv p n ts j = true)
    (fun s => match get s.env 3 with | .int _ k => (200 - k).toNat | _ => 0) ⟨_, q6.qz [3, 1], 0, rfl, by omega, by intros; omega⟩ ?_
  rintro s ⟨i, rfl, hi, hgood⟩
  by_cases hlt : i < ts.length
  case neg =>
    have hli : ¬ ((i : Int) < ts.length) := by omega
    simp (maxSteps := 3000000) only [qh, zH, yh, qam, hli, iE, iN, iB, iC, iL, iD, iA, iS, iM, qa, zZ, ↓qm, ↓reduceIte, reduceCtorEq, nA, nM, nS, nE, nL, nD]; try simp only [qa, zY]
    exact ⟨⟨_, rfl⟩, qg7 hP hc hn h140 fun j hj => hgood j (by omega)⟩
  have hli : (i : Int) < ts.length := by omega
  have hli' : (0 : Int) ≤ i := by omega
  have hw : qu .i64 ((i : Int) + 1) = ((i + 1 : Nat) : Int) := by rw [wrap64 (by omega) (by omega)]; rfl
  have hd := kn ht hlt
  have hf := K4 ht hlt
  have hok := ht _ (List.getElem_mem hlt)
  have hb1 : i * 18 < ts.length * 18 := by omega
  have hb2 : i * 18 + 18 ≤ ts.length * 18 := by omega
  have hb3 : i * 18 + 17 ≤ ts.length * 18 := by omega
  have hb4 : i * 18 + 17 < ts.length * 18 := by omega
  have hG : Xv p n ts i = (isS ts[i].1.toNat ts[i].2.1 && (ts[i].1 == n) && decide (1 ≤ ts[i].2.2 ∧ ts[i].2.2 ≤ p - 1) && (i == 0 || ltT (ts.getD (i - 1) zT) ts[i])) := by
    simp only [Xv, uz hlt]
  generalize hT : ts[i] = T at hd hf hok hG
  obtain ⟨a, m, k⟩ := T
  simp only at hd hf hok hG
  cases hA : isS a.toNat m with
  | false =>
    have hr := Z8 (c := c) (p := p) (n := n) hlt (by rw [hG, hA]; rfl)
    simp (maxSteps := 3000000) only [qh, zH, yh, u3, ba, xy, xx, zw, xa, xb, vk, jz, ky, vh, xr, hli, hli', hd, hf, htl, hb1, hb2, hb3, hb4, hA, qp hok, qn hok.1, qc, hok.1, zi, zq, List.length_replicate, Nat.le_refl, yx hok.1, vp, hwp, gt_iff_lt, iE, iN, iB, iC, iL, iD, iA, iS, iM, and_self, qa, zZ, ↓qm, ↓reduceIte, reduceCtorEq, nA, nM, nS, nE, nL, nD]; try simp only [qa, zY]
    first | exact hr | exact hr.symm | exact ⟨⟨_, rfl⟩, hr⟩ | trace_state
  | true =>
  by_cases han : a = n
  case neg =>
    have hr := Z8 (c := c) (p := p) (n := n) hlt (by rw [hG, hA, beq_false_of_ne han]; rfl)
    simp (maxSteps := 3000000) only [qh, zH, yh, u3, ba, xy, xx, zw, xa, xb, vk, jz, ky, vh, xr, hli, hli', hd, hf, htl, hb1, hb2, hb3, hb4, hA, qp hok, qn hok.1, qc, hok.1, zi, zq, List.length_replicate, Nat.le_refl, yx hok.1, vp, hwp, gt_iff_lt, han, iE, iN, iB, iC, iL, iD, iA, iS, iM, and_self, qa, zZ, ↓qm, ↓reduceIte, reduceCtorEq, nA, nM, nS, nE, nL, nD]; try simp only [qa, zY]
    first | exact hr | exact hr.symm | exact ⟨⟨_, rfl⟩, hr⟩ | trace_state
  subst han
  by_cases hk : 1 ≤ k ∧ k ≤ p - 1
  case neg =>
    have hr := Z8 (c := c) (p := p) (n := a) hlt (by rw [hG, hA, beq_self_eq_true, decide_eq_false hk]; rfl)
    simp (maxSteps := 3000000) only [qh, zH, yh, u3, ba, xy, xx, zw, xa, xb, vk, jz, ky, vh, xr, hli, hli', hd, hf, htl, hb1, hb2, hb3, hb4, hA, qp hok, qn hok.1, qc, hok.1, zi, zq, List.length_replicate, Nat.le_refl, yx hok.1, vp, hwp, gt_iff_lt, hk, iE, iN, iB, iC, iL, iD, iA, iS, iM, and_self, qa, zZ, ↓qm, ↓reduceIte, reduceCtorEq, nA, nM, nS, nE, nL, nD]; try simp only [qa, zY]
    first | exact hr | exact hr.symm | exact ⟨⟨_, rfl⟩, hr⟩ | trace_state
  have hnext : (i == 0 || ltT (ts.getD (i - 1) zT) (a, m, k)) = true → ∀ j, j < i + 1 → Xv p a ts j = true := by
    intro h j hj
    by_cases e : j = i
    · subst e; rw [hG, hA, beq_self_eq_true, decide_eq_true hk, h]; rfl
    · exact hgood j (by omega)
  by_cases hpos : 0 < i
  case neg =>
    have hk0 : ¬ ((0 : Int) < (i : Int)) := by omega
    simp (maxSteps := 3000000) only [qh, zH, yh, u3, ba, xy, xx, zw, xa, xb, vk, jz, ky, vh, xr, hli, hli', hd, hf, htl, hb1, hb2, hb3, hb4, hA, qp hok, qn hok.1, qc, hok.1, zi, zq, List.length_replicate, Nat.le_refl, yx hok.1, vp, hwp, gt_iff_lt, hk, hk0, hw, iE, iN, iB, iC, iL, iD, iA, iS, iM, and_self, qa, zZ, ↓qm, ↓reduceIte, reduceCtorEq, nA, nM, nS, nE, nL, nD]; try simp only [qa, zY]
    refine ⟨_, q6.jn [0, 1] [3, 1] ⟨by decide, ?_⟩ ?_, ⟨i + 1, ?_, by omega, hnext (by simp; omega)⟩, ?_⟩
    · simp only [qg _ _ (qb _), zK, ↓reduceIte, reduceCtorEq, nE, nB, nA]
    · simp only [qg _ _ (qb _), zK, ↓reduceIte, reduceCtorEq, nE, nB, nA]
    · simp only [qd _ _ (qb _), zL, ↓reduceIte, reduceCtorEq, nE, nA]
    · simp only [zL, ↓reduceIte, reduceCtorEq, nE, nA]; omega
  have hk0 : (0 : Int) < (i : Int) := by omega
  have hprev := hgood (i - 1) (by omega)
  have hlt' : i - 1 < ts.length := by omega
  have hw' : qu .i64 ((i : Int) - 1) = ((i - 1 : Nat) : Int) := by rw [wrap64 (by omega) (by omega)]; omega
  have hd' := kn ht hlt'
  have hok' := ht _ (List.getElem_mem hlt')
  simp only [uz hlt'] at hnext hprev
  have hlt0 : ts.getD (i - 1) zT = ts[i - 1] := uz hlt'
  generalize hT' : ts[i - 1] = T' at hd' hok' hprev hnext hlt0
  obtain ⟨a', m', k'⟩ := T'
  simp only at hd' hok' hprev hnext hlt0
  have ha' : a' = a := by
    simp only [Xv, hlt0, Bool.and_eq_true, beq_iff_eq] at hprev
    exact hprev.1.1.2
  subst ha'
  have hc1 : (((i - 1 : Nat) : Int)) < ts.length := by omega
  have hc2 : (0 : Int) ≤ ((i - 1 : Nat) : Int) := by omega
  have hc3 : (i - 1) * 18 < ts.length * 18 := by omega
  have hc4 : (i - 1) * 18 + 18 ≤ ts.length * 18 := by omega
  have hc5 : (i - 1) * 18 + 17 ≤ ts.length * 18 := by omega
  have hn8 : 0 ≤ a' ∧ a' ≤ 8 := by omega
  cases hL : ltT (a', m', k') (a', m, k) with
  | false =>
    have hr := Z8 (c := c) (p := p) (n := a') hlt (by rw [hG, hA, beq_self_eq_true, decide_eq_true hk, hlt0, hL]; simp; omega)
    have hL' : Op.bytesLess (xi a'.toNat m') (xi a'.toNat m) = false := hL
    simp (maxSteps := 3000000) only [qh, zH, yh, u3, ba, xy, xx, zw, xa, xb, vk, jz, ky, vh, xr, hli, hli', hd, hf, htl, hb1, hb2, hb3, hb4, hA, qp hok, qn hok.1, qc, hok.1, zi, zq, List.length_replicate, Nat.le_refl, yx hok.1, vp, hwp, gt_iff_lt, hk, hk0, hw, hw', hd', hc1, hc2, hc3, hc4, hc5, qp hok', hn8, hL', iE, iN, iB, iC, iL, iD, iA, iS, iM, and_self, qa, zZ, ↓qm, ↓reduceIte, reduceCtorEq, nA, nM, nS, nE, nL, nD]; try simp only [qa, zY]
    first | exact hr | exact hr.symm | exact ⟨⟨_, rfl⟩, hr⟩ | trace_state
  | true =>
    have hL' : Op.bytesLess (xi a'.toNat m') (xi a'.toNat m) = true := hL
    simp (maxSteps := 3000000) only [qh, zH, yh, u3, ba, xy, xx, zw, xa, xb, vk, jz, ky, vh, xr, hli, hli', hd, hf, htl, hb1, hb2, hb3, hb4, hA, qp hok, qn hok.1, qc, hok.1, zi, zq, List.length_replicate, Nat.le_refl, yx hok.1, vp, hwp, gt_iff_lt, hk, hk0, hw, hw', hd', hc1, hc2, hc3, hc4, hc5, qp hok', hn8, hL', iE, iN, iB, iC, iL, iD, iA, iS, iM, and_self, qa, zZ, ↓qm, ↓reduceIte, reduceCtorEq, nA, nM, nS, nE, nL, nD]; try simp only [qa, zY]
    refine ⟨_, q6.jn [0, 1] [3, 1] ⟨by decide, ?_⟩ ?_, ⟨i + 1, ?_, by omega, hnext (by rw [hL]; simp)⟩, ?_⟩
    · simp only [qg _ _ (qb _), zK, ↓reduceIte, reduceCtorEq, nE, nB, nA]
    · simp only [qg _ _ (qb _), zK, ↓reduceIte, reduceCtorEq, nE, nB, nA]
    · simp only [qd _ _ (qb _), zL, ↓reduceIte, reduceCtorEq, nE, nA]
    · simp only [zL, ↓reduceIte, reduceCtorEq, nE, nA]; omega
def v8 : BE := fun hp xs => match xs with
  | [.agg [.int .i64 p, .int .i64 c, .int .i64 n, .slc b 0 k false 0]] => match rd hp b with
    | some L => match Jt k L with
      | some ts => chk (k ≤ 1000000000) (some (.bool (yi p c n ts), hp))
      | none => none
    | _ => none
  | _ => none
theorem qc5 {f : FuncId} (h : ∀ p c n ts, okT ts → ts.length ≤ 1000000000 → Am.Fn Try.prog f [elemV p c n 0 ts.length] [.ro (qt ts)] (fun v H' => v = .bool (yi p c n ts) ∧ H' = [.ro (qt ts)])) : Am.Callee Try.prog f v8 := Callee.ro1 fun hp xs v hp' he => by
  unfold v8 at he
  split at he
  · rename_i p c n b k
    split at he
    · rename_i L hL
      split at he
      · rename_i ts hts
        obtain ⟨h0, he⟩ := qk he
        simp only [Option.some.injEq, Prod.mk.injEq] at he
        obtain ⟨rfl, rfl⟩ := he
        obtain ⟨e1, e2, e3, e4⟩ := j2 hts
        have g1 := qw e2
        refine ⟨qt ts, b, [elemV p c n 0 ts.length], rfl, ⟨L, hL, by omega, by rw [g1, e1]; exact e3⟩, qb _, ?_, rfl, ⟨⟨trivial, trivial, trivial, by simp [AV.under], trivial⟩, trivial⟩, rfl, h p c n ts e2 (by omega)⟩
        simp only [elemV, AV.zl, AV.ren, one, if_true, e1, Nat.zero_add]
      · cases he
    · cases he
  · cases he
def B33 : zo := (B32.put 68 (v8))
theorem qn0 : qx Try.prog B33 := (qol.put (qc5 qqz))
theorem V7 {t : Int × List Nat × Int} : (trm t)[0]? = some (.int .i64 t.1) := rfl
theorem qfd {t : Int × List Nat × Int} (h : okD t.2.1) : List.take 17 (trm t) = dia t.1 t.2.1 := by
  have := Vn h
  rwa [List.drop_zero] at this
theorem zn : B33 100 = some (Z6 17 vl) := rfl
theorem zy : B33 99 = some (qj jz) := rfl
theorem xo : B33 64 = some (qj j3) := rfl
theorem we : B33 93 = some (qj vk) := rfl
def jr : AC := .seq (.region [oP 27 .lss 26 25]) (.seq (.cond 27 .skip (.exit 0)) (.seq (.block 1 (.seq (.region [oM 28 26,oX 29 18 24 26,oN 30 18 29,o0 4 (.alloc [.int .i64 0,.int .u8 0,.int .u8 0,.int .u8 0,.int .u8 0,.int .u8 0,.int .u8 0,.int .u8 0,.int .u8 0,.int .u8 0,.int .u8 0,.int .u8 0,.int .u8 0,.int .u8 0,.int .u8 0,.int .u8 0,.int .u8 0,.int .i64 0]),oM 3 28,oS 18 4 30]) (.seq (.seq (.region [oF 31 0 4,oF 32 0 31,oL 33 32,oF 34 2 1,oL 35 34,oP 36 .neq 33 35,oM 37 36,oG 38 37 false (.v7 0 (.t 4)),oG 39 37 false (.Q0 17 (.t 38)),⟨some 40,some (37,false),.call (.c (.fn 99 [] [])) [.t 39]⟩,oG 41 37 false (.un .not (.t 40)),o0 42 (.pick (.t 37) (.c (.bool true)) (.t 41)),oM 43 42,oG 44 43 false (.v7 17 (.t 4)),oG 45 43 false (.wo (.t 44)),oG 46 43 false (.v7 0 (.t 1)),oG 47 43 false (.wo (.t 46)),oG 48 43 false (.bin .sub (.t 47) (.c (.int .i64 1))),⟨some 49,some (43,false),.call (.c (.fn 93 [] [])) [.t 45,(.c (.int .i64 1)),.t 48]⟩,oG 50 43 false (.un .not (.t 49)),o0 51 (.pick (.t 43) (.c (.bool true)) (.t 50))]) (.cond 51 (.seq (.region [oB 2 false]) .ret) .skip)) (.seq (.region [oM 52 3,oK 53 .gtr 52 0,oM 54 53,oG 55 54 true (.v7 3 (.t 1)),oG 56 54 true (.wo (.t 55)),oG 57 54 true (.mov (.t 3)),oG 58 54 true (.bin .sub (.t 57) (.c (.int .i64 1))),oG 59 54 true (.Zg 18 (.t 56) (.t 58)),oG 60 54 true (.v7 0 (.t 59)),⟨some 61,some (54,true),.call (.c (.fn 100 [] [])) [.t 60]⟩,oG 62 54 true (.v7 0 (.t 4)),⟨some 63,some (54,true),.call (.c (.fn 100 [] [])) [.t 62]⟩,oG 64 54 true (.bin .geq (.t 61) (.t 63)),o0 65 (.pick (.t 54) (.t 64) (.c (.bool false)))]) (.cond 65 (.seq (.region [oB 2 false]) .ret) .skip))))) (.region [oK 66 .add 26 1,oM 26 66])))
def vb : AC := .seq (.region [oB 2 true]) .ret
def kh : AC := .seq (.region [o0 1 (.box (.t 0)),oB 2 false]) (.seq (.seq (.region [oF 5 0 1,oL 6 5,oF 7 1 1,oL 8 7,oC 9 64 [.t 6,.t 8],o0 10 (.un .not (.t 9)),oM 11 10,oG 12 11 false (.v7 2 (.t 1)),oG 13 11 false (.wo (.t 12)),⟨some 14,some (11,false),.call (.c (.fn 93 [] [])) [.t 13,(.c (.int .i64 1)),(.c (.int .i64 8))]⟩,oG 15 11 false (.un .not (.t 14)),o0 16 (.pick (.t 11) (.c (.bool true)) (.t 15)),oM 17 16,oG 18 17 false (.v7 3 (.t 1)),oG 19 17 false (.wo (.t 18)),oG 20 17 false (.len .slc (.t 19)),oG 21 17 false (.bin .gtr (.t 20) (.c (.int .i64 140))),o0 22 (.pick (.t 17) (.c (.bool true)) (.t 21))]) (.cond 22 (.seq (.region [oB 2 false]) .ret) .skip)) (.seq (.seq (.region [oF 23 3 1,oL 24 23,o0 25 (.len .slc (.t 24)),oI 26 0]) (.block 0 (.loop jr))) vb))
theorem qf7 : zk Try.prog 48 = some ⟨67, kh, [.slot 2]⟩ := by kernel_rfl
theorem qga (p c n : Int) (ts : List (Int × List Nat × Int)) (ht : okT ts) (hl : ts.length ≤ 1000000000) :
    Am.Fn Try.prog 48 [elemV p c n 0 ts.length] [.ro (qt ts)] (fun v H' => v = .bool (yi p c n ts) ∧ H' = [.ro (qt ts)]) := by
  refine Am.Fn.xj (R := fun v => v = _) qn0 mixed qf7 (by simp) (bb (qb _)) ?_
  have htl := qw ht
  cases hP : yn p && decide (0 ≤ c ∧ c ≤ p - 1) with
  | false =>
    have : yi p c n ts = false := by simp only [yi, hP, Bool.false_and]
    simp (maxSteps := 3000000) only [qh, zH, kh, zn, zy, xo, we, j3, vk, jz, vl, elemV, hP, iE, iN, iB, iC, iL, iD, iA, iS, iM, this, qa, zZ, ↓qm, ↓reduceIte, reduceCtorEq, nA, nM, nS, nE, nL, nD]; try simp only [qa, zY]
    exact ⟨_, rfl⟩
  | true =>
  have hP' := hP
  rw [Bool.and_eq_true, decide_eq_true_eq] at hP'
  obtain ⟨hpb, hc⟩ := hP'
  have hpr := qcq hpb
  have hwp : qu .i64 (p - 1) = p - 1 := wrap64 (by omega) (by omega)
  by_cases hn : 1 ≤ n ∧ n ≤ 8
  case neg =>
    have : yi p c n ts = false := by simp only [yi, decide_eq_false hn, Bool.and_false, Bool.false_and]
    simp (maxSteps := 3000000) only [qh, zH, kh, zn, zy, xo, we, j3, vk, jz, vl, elemV, hP, hwp, hn, and_self, iE, iN, iB, iC, iL, iD, iA, iS, iM, this, qa, zZ, ↓qm, ↓reduceIte, reduceCtorEq, nA, nM, nS, nE, nL, nD]; try simp only [qa, zY]
    exact ⟨_, rfl⟩
  by_cases h140 : ts.length ≤ 140
  case neg =>
    have : yi p c n ts = false := by simp only [yi, decide_eq_false h140, Bool.and_false, Bool.false_and]
    have h140' : (140 : Int) < ts.length := by omega
    simp (maxSteps := 3000000) only [qh, zH, kh, zn, zy, xo, we, j3, vk, jz, vl, elemV, hP, hwp, hn, and_self, h140', gt_iff_lt, iE, iN, iB, iC, iL, iD, iA, iS, iM, this, qa, zZ, ↓qm, ↓reduceIte, reduceCtorEq, nA, nM, nS, nE, nL, nD]; try simp only [qa, zY]
    exact ⟨_, rfl⟩
  have h140' : ¬ ((140 : Int) < ts.length) := by omega
  simp (maxSteps := 3000000) only [qh, zH, kh, zn, zy, xo, we, j3, vk, jz, vl, elemV, hP, hwp, hn, and_self, h140', gt_iff_lt, iE, iN, iB, iC, iL, iD, iA, iS, iM, qa, zZ, ↓qm, ↓reduceIte, reduceCtorEq, nA, nM, nS, nE, nL, nD]; try simp only [qa, zY]
  refine WA.jt qn0 (fun s => ∃ i : Nat, s = ⟨[(26, .int .i64 i), (25, .int .i64 ts.length), (24, .slc 0 0 ts.length false 0), (1, .ptr 1 0)], [.ro (qt ts), .cells [.int .i64 p, .int .i64 c, .int .i64 n, .slc 0 0 ts.length false 0]]⟩ ∧ i ≤ ts.length ∧ ∀ j, j < i → Xv p n ts j = true)
    (fun s => match get s.env 26 with | .int _ k => (200 - k).toNat | _ => 0) ⟨_, q6.qz [26, 25, 24, 1], 0, rfl, by omega, by intros; omega⟩ ?_
  rintro s ⟨i, rfl, hi, hgood⟩
  by_cases hlt : i < ts.length
  case neg =>
    have hli : ¬ ((i : Int) < ts.length) := by omega
    simp (maxSteps := 3000000) only [qh, zH, jr, vb, hli, iE, iN, iB, iC, iL, iD, iA, iS, iM, qa, zZ, ↓qm, ↓reduceIte, reduceCtorEq, nA, nM, nS, nE, nL, nD]; try simp only [qa, zY]
    exact ⟨⟨_, rfl⟩, qg7 hpb hc hn h140 fun j hj => hgood j (by omega)⟩
  have hli : (i : Int) < ts.length := by omega
  have hli' : (0 : Int) ≤ i := by omega
  have hw : qu .i64 ((i : Int) + 1) = ((i + 1 : Nat) : Int) := by rw [wrap64 (by omega) (by omega)]; rfl
  have hd := ub ht hlt
  have hok := ht _ (List.getElem_mem hlt)
  have hb1 : i * 18 < ts.length * 18 := by omega
  have hb2 : i * 18 + 18 ≤ ts.length * 18 := by omega
  have hG : Xv p n ts i = (isS ts[i].1.toNat ts[i].2.1 && (ts[i].1 == n) && decide (1 ≤ ts[i].2.2 ∧ ts[i].2.2 ≤ p - 1) && (i == 0 || ltT (ts.getD (i - 1) zT) ts[i])) := by
    simp only [Xv, uz hlt]
  generalize hT : ts[i] = T at hd hok hG
  have hu1 : List.take 17 (trm T) = dia T.1 T.2.1 := qfd hok
  have hu2 : (trm T)[17]? = some (.int .i64 T.2.2) := kx hok
  have hu3 := zp hok
  have hu4 : over (trm (0, List.replicate 16 0, 0)) 0 (trm T) = trm T := Qw (by simp) hok.1
  obtain ⟨a, m, k⟩ := T
  simp only at hd hok hG hu1 hu2
  by_cases han : a = n
  case neg =>
    have hr := Z8 (c := c) (p := p) (n := n) hlt (by rw [hG, beq_false_of_ne han]; simp)
    simp (maxSteps := 3000000) only [qh, zH, jr, zn, zy, xo, we, j3, vk, jz, vl, hli, hli', hd, htl, hb1, hb2, han, xv, xh, hu1, hu2, hu3, hu4, V7, x8, hwp, gt_iff_lt, iE, iN, iB, iC, iL, iD, iA, iS, iM, and_self, qa, zZ, ↓qm, ↓reduceIte, reduceCtorEq, nA, nM, nS, nE, nL, nD]; try simp only [qa, zY]
    exact ⟨⟨_, rfl⟩, hr⟩
  subst han
  cases hA : isS a.toNat m with
  | false =>
    have hr := Z8 (c := c) (p := p) (n := a) hlt (by rw [hG, hA]; rfl)
    simp (maxSteps := 3000000) only [qh, zH, jr, vb, zn, zy, xo, we, j3, vk, jz, vl, hli, hli', hd, htl, hb1, hb2, xv, xh, hu1, hu2, hu3, hu4, V7, x8, hwp, gt_iff_lt, qp hok, hA, iE, iN, iB, iC, iL, iD, iA, iS, iM, and_self, qa, zZ, ↓qm, ↓reduceIte, reduceCtorEq, nA, nM, nS, nE, nL, nD]; try simp only [qa, zY]
    exact ⟨⟨_, rfl⟩, hr⟩
  | true =>
  by_cases hk : 1 ≤ k ∧ k ≤ p - 1
  case neg =>
    have hr := Z8 (c := c) (p := p) (n := a) hlt (by rw [hG, hA, beq_self_eq_true, decide_eq_false hk]; rfl)
    simp (maxSteps := 3000000) only [qh, zH, jr, vb, zn, zy, xo, we, j3, vk, jz, vl, hli, hli', hd, htl, hb1, hb2, xv, xh, hu1, hu2, hu3, hu4, V7, x8, hwp, gt_iff_lt, qp hok, hA, hk, iE, iN, iB, iC, iL, iD, iA, iS, iM, and_self, qa, zZ, ↓qm, ↓reduceIte, reduceCtorEq, nA, nM, nS, nE, nL, nD]; try simp only [qa, zY]
    exact ⟨⟨_, rfl⟩, hr⟩
  have hnext : (i == 0 || ltT (ts.getD (i - 1) zT) (a, m, k)) = true → ∀ j, j < i + 1 → Xv p a ts j = true := by
    intro h j hj
    by_cases e : j = i
    · subst e; rw [hG, hA, beq_self_eq_true, decide_eq_true hk, h]; rfl
    · exact hgood j (by omega)
  by_cases hpos : 0 < i
  case neg =>
    have hk0 : ¬ ((0 : Int) < (i : Int)) := by omega
    simp (maxSteps := 3000000) only [qh, zH, jr, vb, zn, zy, xo, we, j3, vk, jz, vl, hli, hli', hd, htl, hb1, hb2, xv, xh, hu1, hu2, hu3, hu4, V7, x8, hwp, gt_iff_lt, qp hok, hA, hk, hk0, hw, iE, iN, iB, iC, iL, iD, iA, iS, iM, and_self, qa, zZ, ↓qm, ↓reduceIte, reduceCtorEq, nA, nM, nS, nE, nL, nD]; try simp only [qa, zY]
    refine ⟨_, q6.jn [0, 1] [26, 25, 24, 1] ⟨by decide, ?_⟩ ?_, ⟨i + 1, ?_, by omega, hnext (by simp; omega)⟩, ?_⟩
    · simp only [qg _ _ (qb _), zK, ↓reduceIte, reduceCtorEq, nE, nB, nA]
    · simp only [qg _ _ (qb _), zK, ↓reduceIte, reduceCtorEq, nE, nB, nA]
    · simp only [qd _ _ (qb _), zL, ↓reduceIte, reduceCtorEq, nE, nA]
    · simp only [zL, ↓reduceIte, reduceCtorEq, nE, nA]; omega
  have hk0 : (0 : Int) < (i : Int) := by omega
  have hprev := hgood (i - 1) (by omega)
  have hlt' : i - 1 < ts.length := by omega
  have hw' : qu .i64 ((i : Int) - 1) = ((i - 1 : Nat) : Int) := by rw [wrap64 (by omega) (by omega)]; omega
  have hd' := kn ht hlt'
  have hok' := ht _ (List.getElem_mem hlt')
  simp only [uz hlt'] at hnext hprev
  have hlt0 : ts.getD (i - 1) zT = ts[i - 1] := uz hlt'
  generalize hT' : ts[i - 1] = T' at hd' hok' hprev hnext hlt0
  obtain ⟨a', m', k'⟩ := T'
  simp only at hd' hok' hprev hnext hlt0
  have ha' : a' = a := by
    simp only [Xv, hlt0, Bool.and_eq_true, beq_iff_eq] at hprev
    exact hprev.1.1.2
  subst ha'
  have hc1 : (((i - 1 : Nat) : Int)) < ts.length := by omega
  have hc2 : (0 : Int) ≤ ((i - 1 : Nat) : Int) := by omega
  have hc3 : (i - 1) * 18 < ts.length * 18 := by omega
  have hc4 : (i - 1) * 18 + 18 ≤ ts.length * 18 := by omega
  have hc5 : (i - 1) * 18 + 17 ≤ ts.length * 18 := by omega
  have hn8 : 0 ≤ a' ∧ a' ≤ 8 := by omega
  cases hL : ltT (a', m', k') (a', m, k) with
  | false =>
    have hr := Z8 (c := c) (p := p) (n := a') hlt (by rw [hG, hA, beq_self_eq_true, decide_eq_true hk, hlt0, hL]; simp; omega)
    have hL' : Op.bytesLess (xi a'.toNat m') (xi a'.toNat m) = false := hL
    simp (maxSteps := 3000000) only [qh, zH, jr, vb, zn, zy, xo, we, j3, vk, jz, vl, hli, hli', hd, htl, hb1, hb2, xv, xh, hu1, hu2, hu3, hu4, V7, x8, hwp, gt_iff_lt, qp hok, hA, hk, hk0, hw, hw', hd', hc1, hc2, hc3, hc4, hc5, qp hok', hn8, hL', iE, iN, iB, iC, iL, iD, iA, iS, iM, and_self, qa, zZ, ↓qm, ↓reduceIte, reduceCtorEq, nA, nM, nS, nE, nL, nD]; try simp only [qa, zY]
    exact ⟨⟨_, rfl⟩, hr⟩
  | true =>
    have hL' : Op.bytesLess (xi a'.toNat m') (xi a'.toNat m) = true := hL
    simp (maxSteps := 3000000) only [qh, zH, jr, vb, zn, zy, xo, we, j3, vk, jz, vl, hli, hli', hd, htl, hb1, hb2, xv, xh, hu1, hu2, hu3, hu4, V7, x8, hwp, gt_iff_lt, qp hok, hA, hk, hk0, hw, hw', hd', hc1, hc2, hc3, hc4, hc5, qp hok', hn8, hL', iE, iN, iB, iC, iL, iD, iA, iS, iM, and_self, qa, zZ, ↓qm, ↓reduceIte, reduceCtorEq, nA, nM, nS, nE, nL, nD]; try simp only [qa, zY]
    refine ⟨_, q6.jn [0, 1] [26, 25, 24, 1] ⟨by decide, ?_⟩ ?_, ⟨i + 1, ?_, by omega, hnext (by rw [hL]; simp)⟩, ?_⟩
    · simp only [qg _ _ (qb _), zK, ↓reduceIte, reduceCtorEq, nE, nB, nA]
    · simp only [qg _ _ (qb _), zK, ↓reduceIte, reduceCtorEq, nE, nB, nA]
    · simp only [qd _ _ (qb _), zL, ↓reduceIte, reduceCtorEq, nE, nA]
    · simp only [zL, ↓reduceIte, reduceCtorEq, nE, nA]; omega
def B34 : zo := (B33.put 48 (v8))
theorem qng : qx Try.prog B34 := (qn0.put (qc5 qga))
theorem jk : B34 108 = some (qj J2) := rfl
theorem x7 : B34 109 = some (qj xr) := rfl
def Y9 (ts : List (Int × List Nat × Int)) (n : Int) (m : List Nat) : Nat := (ts.takeWhile fun t => ltT t (n, m, 0)).length
def yq (p : Int) (ts : List (Int × List Nat × Int)) (n : Int) (m : List Nat) (k : Int) : List (Int × List Nat × Int) :=
  if k.emod p = 0 then ts else
  if Y9 ts n m < ts.length ∧ (ts.getD (Y9 ts n m) zT).1 = n ∧ (ts.getD (Y9 ts n m) zT).2.1 = m then
    ts.take (Y9 ts n m) ++ (if ((ts.getD (Y9 ts n m) zT).2.2 + k.emod p).emod p = 0 then [] else [(n, m, ((ts.getD (Y9 ts n m) zT).2.2 + k.emod p).emod p)]) ++ ts.drop (Y9 ts n m + 1)
  else ts.take (Y9 ts n m) ++ (n, m, k.emod p) :: ts.drop (Y9 ts n m)
theorem qtc : ∀ {ts : List (Int × List Nat × Int)} {n : Int} {m : List Nat} {i : Nat}, i ≤ ts.length → (∀ j, j < i → ltT (ts.getD j zT) (n, m, 0) = true) → (∀ j, i ≤ j → j < ts.length → ltT (ts.getD j zT) (n, m, 0) = false) → Y9 ts n m = i
  | [], n, m, i, h, _, _ => by simp at h; subst h; rfl
  | t :: ts, n, m, 0, h, _, h2 => by
    have := h2 0 (Nat.le_refl 0) (by simp)
    simp only [List.getD_cons_zero] at this
    simp [Y9, List.takeWhile_cons, this]
  | t :: ts, n, m, i + 1, h, h1, h2 => by
    have h0 := h1 0 (by omega)
    simp only [List.getD_cons_zero] at h0
    have ih := qtc (ts := ts) (n := n) (m := m) (i := i) (by simpa using h) (fun j hj => by simpa using h1 (j + 1) (by omega)) (fun j hj hl => by simpa using h2 (j + 1) (by omega) (by simpa using hl))
    simp only [Y9] at ih
    simp only [Y9, List.takeWhile_cons, h0, if_true, List.length_cons, ih]
theorem qr5 (ts : List (Int × List Nat × Int)) (h : okT ts) (i : Nat) : List.take (i * 18) (qt ts) = qt (ts.take i) := by
  induction i generalizing ts with
  | zero => simp [qt]
  | succ i ih => match ts, h with
    | [], _ => simp [qt]
    | t :: ts, h =>
      have hl := zp (h t (List.mem_cons_self ..))
      have := ih ts fun u hu => h u (List.mem_cons_of_mem _ hu)
      simp only [qt, List.flatMap_cons, List.take_succ_cons] at this ⊢
      rw [show (i + 1) * 18 = 18 + i * 18 by omega, List.take_append, List.take_of_length_le (by omega), hl, show 18 + i * 18 - 18 = i * 18 by omega, this]
theorem qhw (ts : List (Int × List Nat × Int)) (h : okT ts) (i : Nat) : List.drop (i * 18) (qt ts) = qt (ts.drop i) := by
  induction i generalizing ts with
  | zero => simp [qt]
  | succ i ih => match ts, h with
    | [], _ => simp [qt]
    | t :: ts, h =>
      have hl := zp (h t (List.mem_cons_self ..))
      have := ih ts fun u hu => h u (List.mem_cons_of_mem _ hu)
      simp only [qt, List.flatMap_cons, List.drop_succ_cons] at this ⊢
      rw [show (i + 1) * 18 = 18 + i * 18 by omega, List.drop_append, List.drop_of_length_le (by omega), hl, show 18 + i * 18 - 18 = i * 18 by omega, this, List.nil_append]
theorem Xb (a b : List (Int × List Nat × Int)) : qt (a ++ b) = qt a ++ qt b := by simp [qt]
theorem qbv {n n' : Int} {m m' : List Nat} (h : m.length = 16) (h' : m'.length = 16) : jl [.int, .int, .int, .int, .int, .int, .int, .int, .int, .int, .int, .int, .int, .int, .int, .int, .int] (dia n m) (dia n' m') = some (decide (n = n' ∧ m = m')) := V6 h h'
structure q09 (p n : Int) (ts : List (Int × List Nat × Int)) : Prop where
  ok : okT ts
  len : ts.length ≤ 1000000
  size : ∀ t ∈ ts, t.1 = n
  small : ∀ t ∈ ts, -1000000000000 ≤ t.2.2 ∧ t.2.2 ≤ 1000000000000
  up : upT ts
theorem qnm (p n : Int) (ts : List (Int × List Nat × Int)) (m : List Nat) (k : Int) (hp : 0 < p ∧ p ≤ 1000000) (hn : 0 ≤ n ∧ n ≤ 8) (hm : okD m) (ht : q09 p n ts) :
    Am.Fn Try.prog 61 [.int .i64 p, .slc 0 0 ts.length false 0, .agg (dia n m), .int .i64 k] [.vec 18 (qt ts)]
      (fun v H' => if k.emod p = 0 then v = .slc 0 0 ts.length false 0 ∧ H' = [.vec 18 (qt ts)] else v = .slc 1 0 (yq p ts n m k).length false 0 ∧ H' = [.vec 18 (qt ts), .vec 18 (qt (yq p ts n m k))]) := by
  refine Am.Fn.ofB qng mixed qek (by simp) (fun j o hj => by
    match j, hj with
    | 0, hj => cases hj; exact ql _ _ (qb _)
    | j + 1, hj => simp at hj) ?_
  have hml := hm.1
  have htl := qw ht.ok
  by_cases hk : k.emod p = 0
  · simp (maxSteps := 3000000) only [qh, zH, Yk, jk, x7, J2, xr, hp, hk, iE, iN, iB, iC, iL, iD, iA, iS, iM, qa, zZ, ↓qm, ↓reduceIte, reduceCtorEq, nA, nM, nS, nE, nL, nD]; try simp only [qa, zY]
    refine Ret.jn [0] ⟨⟨by simp, rfl, by decide⟩, ?_⟩ (rs := [.slc 0 0 ts.length false 0]) rfl rfl (by simp [z6]) ?_ ⟨?_, ?_⟩
    · simp only [qg _ _ (qb _), zK, ↓reduceIte, reduceCtorEq, nE, nB, nA]
    · intro j l; match j with
      | 0 => simp [zb, AO.ren]
      | j + 1 => simp [zb]
    · simp only [z6]
      simp only [zL, ↓reduceIte, reduceCtorEq, nE, nA]
    · simp only [qd _ _ (qb _), zL, ↓reduceIte, reduceCtorEq, nE, nA]
  have hlen := ht.len
  have hup : ∀ i j, i < j → j < ts.length → ltT (ts.getD i zT) (ts.getD j zT) = true := fun i j hij hj => by
    rw [uz hj, uz (by omega)]
    exact (List.pairwise_iff_getElem.1 ht.up) i j (by omega) hj hij
  simp (maxSteps := 3000000) only [qh, zH, Yk, jk, x7, J2, xr, hp, hk, qn hml, qc, hml, qp hm, hn, and_self, iE, iN, iB, iC, iL, iD, iA, iS, iM, qa, zZ, ↓qm, ↓reduceIte, reduceCtorEq, nA, nM, nS, nE, nL, nD]; try simp only [qa, zY]
  refine WA.jt qng (fun s => ∃ lo hi : Nat, lo ≤ hi ∧ hi ≤ ts.length ∧ (∀ j, j < lo → ltT (ts.getD j zT) (n, m, 0) = true) ∧ (∀ j, hi ≤ j → j < ts.length → ltT (ts.getD j zT) (n, m, 0) = false) ∧
      s = ⟨[(11, .str (xi n.toNat m)), (10, .int .i64 hi), (9, .int .i64 lo), (6, .ptr 1 0), (0, .int .i64 p), (1, .slc 0 0 ts.length false 0), (3, .int .i64 (k.emod p))], [.vec 18 (qt ts), .cells (dia n m)]⟩)
    (fun s => match get s.env 9, get s.env 10 with | .int _ lo, .int _ hi => (hi - lo).toNat | _, _ => 0) ⟨_, q6.qz [11, 10, 9, 6, 0, 1, 3], 0, ts.length, by omega, Nat.le_refl _, by intros; omega, by intros; omega, rfl⟩ ?_
  rintro s ⟨lo, hi, h1, h2, hlow, hhigh, rfl⟩
  by_cases hlt : lo < hi
  · have hli : (lo : Int) < hi := by omega
    have hmid : ((lo + hi) / 2 : Nat) < ts.length := by omega
    generalize hmd : (lo + hi) / 2 = mid at hmid
    have hw1 : qu .i64 ((lo : Int) + hi) = ((lo + hi : Nat) : Int) := by rw [wrap64 (by omega) (by omega)]; omega
    have hw2 : qu .i64 (((lo + hi : Nat) : Int).tdiv 2) = (mid : Int) := by
      rw [Int.tdiv_eq_ediv_of_nonneg (by omega), wrap64 (by omega) (by omega)]; omega
    have hw3 : qu .i64 ((mid : Int) + 1) = ((mid + 1 : Nat) : Int) := by rw [wrap64 (by omega) (by omega)]; rfl
    have hd := kn ht.ok hmid
    have hok := ht.ok _ (List.getElem_mem hmid)
    have hsz := ht.size _ (List.getElem_mem hmid)
    have hb1 : mid * 18 < ts.length * 18 := by omega
    have hb2 : mid * 18 + 18 ≤ ts.length * 18 := by omega
    have hb3 : mid * 18 + 17 ≤ ts.length * 18 := by omega
    have hmi : (mid : Int) < ts.length := by omega
    have hmi' : (0 : Int) ≤ mid := by omega
    have hat : ts.getD mid zT = ts[mid] := uz hmid
    rw [hsz] at hd
    cases hL : ltT (ts.getD mid zT) (n, m, 0) with
    | true =>
      have hL' : Op.bytesLess (xi n.toNat ts[mid].2.1) (xi n.toNat m) = true := by
        rw [hat] at hL; unfold ltT txt at hL; rw [hsz] at hL; exact hL
      simp (maxSteps := 3000000) only [qh, zH, vi, wg, jk, x7, J2, xr, hli, hw1, hw2, hw3, hd, htl, hb1, hb2, hb3, hmi, hmi', qp hok, hn, hL', iE, iN, iB, iC, iL, iD, iA, iS, iM, and_self, yu, qa, zZ, ↓qm, ↓reduceIte, reduceCtorEq, nA, nM, nS, nE, nL, nD]; try simp only [qa, zY]
      refine ⟨_, q6.qz [11, 10, 9, 6, 0, 1, 3], ⟨mid + 1, hi, by omega, h2, fun j hj => ?_, hhigh, rfl⟩, ?_⟩
      · by_cases e : j = mid
        · subst e; exact hL
        · exact ya _ _ _ (hup j mid (by omega) hmid) hL
      · simp only [zL, ↓reduceIte, reduceCtorEq, nE, nA]; omega
    | false =>
      have hL' : Op.bytesLess (xi n.toNat ts[mid].2.1) (xi n.toNat m) = false := by
        rw [hat] at hL; unfold ltT txt at hL; rw [hsz] at hL; exact hL
      simp (maxSteps := 3000000) only [qh, zH, vi, wg, jk, x7, J2, xr, hli, hw1, hw2, hw3, hd, htl, hb1, hb2, hb3, hmi, hmi', qp hok, hn, hL', iE, iN, iB, iC, iL, iD, iA, iS, iM, and_self, yu, qa, zZ, ↓qm, ↓reduceIte, reduceCtorEq, nA, nM, nS, nE, nL, nD]; try simp only [qa, zY]
      refine ⟨_, q6.qz [11, 10, 9, 6, 0, 1, 3], ⟨lo, mid, by omega, by omega, hlow, fun j hj hjl => ?_, rfl⟩, ?_⟩
      · by_cases e : j = mid
        · subst e; exact hL
        · cases hb : ltT (ts.getD j zT) (n, m, 0) with
          | false => rfl
          | true =>
            have := ya _ _ _ (hup mid j (by omega) hjl) hb
            unfold ltT at hL; rw [hL] at this; cases this
      · simp only [zL, ↓reduceIte, reduceCtorEq, nE, nA]; omega
  · have hli : ¬ ((lo : Int) < hi) := by omega
    obtain rfl : lo = hi := by omega
    have hcut : Y9 ts n m = lo := qtc h2 hlow hhigh
    have hll : (lo : Int) ≤ ts.length := by omega
    have hl0 : (0 : Int) ≤ lo := by omega
    have htk := qr5 ts ht.ok lo
    have htd := qhw ts ht.ok lo
    have htd1 := qhw ts ht.ok (lo + 1)
    have hokt : okT (ts.take lo) := fun t h => ht.ok t (List.mem_of_mem_take h)
    have hokd : okT (ts.drop lo) := fun t h => ht.ok t (List.mem_of_mem_drop h)
    have hokd1 : okT (ts.drop (lo + 1)) := fun t h => ht.ok t (List.mem_of_mem_drop h)
    have hlt1 := qw hokt
    have hlt2 := qw hokd
    have hlt3 := qw hokd1
    rw [List.length_take, Nat.min_eq_left h2] at hlt1
    rw [List.length_drop] at hlt2 hlt3
    have hb0 : lo * 18 ≤ ts.length * 18 := by omega
    have hones : ∀ l, (qt l).all AV.one = true := fun l => by
      simp only [qt, List.all_flatMap]; simp [x8]
    have htt : List.take (lo * 18) (qt (ts.take lo)) = qt (ts.take lo) := by rw [List.take_of_length_le (by omega)]
    have hby : lo * 32 ≤ 1099511627776 := by omega
    have hz : (List.replicate 16 0 : List Nat).length = 16 := rfl
    have e1 : over (trm (0, List.replicate 16 0, 0)) 0 (dia n m) = trm (n, m, 0) := X2 (t := (0, List.replicate 16 0, 0)) hz hml
    have e2 : ∀ f : Int, over (trm (n, m, 0)) 17 [.int .i64 f] = trm (n, m, f) := fun f => Jp (t := (n, m, 0)) hml
    have e3 : ∀ f : Int, over (trm (0, List.replicate 16 0, 0)) 0 (trm (n, m, f)) = trm (n, m, f) := fun f => Qw (t := (0, List.replicate 16 0, 0)) hz hml
    have e4 : ∀ f : Int, List.take 18 (trm (n, m, f)) = trm (n, m, f) := fun f => Zl (t := (n, m, f)) hml
    by_cases hlo : lo < ts.length
    · have hli2 : (lo : Int) < ts.length := by omega
      have hd := kn ht.ok hlo
      have hf := K4 ht.ok hlo
      have hok := ht.ok _ (List.getElem_mem hlo)
      have hsz := ht.size _ (List.getElem_mem hlo)
      have hsm := ht.small _ (List.getElem_mem hlo)
      have hat : ts.getD lo zT = ts[lo] := uz hlo
      generalize hT : ts[lo] = T at hd hf hok hsz hsm hat
      obtain ⟨n', m', f⟩ := T
      simp only at hd hf hok hsz hsm
      subst hsz
      have hb1 : lo * 18 < ts.length * 18 := by omega
      have hb2 : lo * 18 + 17 ≤ ts.length * 18 := by omega
      have hb3 : lo * 18 + 17 < ts.length * 18 := by omega
      by_cases hmm : m' = m
      · subst hmm
        have hwf : qu .i64 (f + k.emod p) = f + k.emod p := by
          have : 0 ≤ k.emod p := Int.emod_nonneg k (show p ≠ 0 by omega)
          have : k.emod p < p := Int.emod_lt_of_pos k hp.1
          rw [wrap64 (by omega) (by omega)]
        have hw1 : qu .i64 ((lo : Int) + 1) = ((lo + 1 : Nat) : Int) := by rw [wrap64 (by omega) (by omega)]; rfl
        have hll1 : ((lo + 1 : Nat) : Int) ≤ ts.length := by omega
        have hll2 : (0 : Int) ≤ ((lo + 1 : Nat) : Int) := by omega
        have ht2 : List.take ((ts.length - (lo + 1)) * 18) (List.drop ((lo + 1) * 18) (qt ts)) = qt (ts.drop (lo + 1)) := by rw [htd1, List.take_of_length_le (by omega)]
        by_cases hs : (f + k.emod p).emod p = 0
        · have hput : yq p ts n' m' k = ts.take lo ++ ts.drop (lo + 1) := by
            simp only [yq, if_neg hk, hcut, hat, hs, hlo, and_self, if_true, List.append_nil]
          have hln : lo + (ts.length - (lo + 1)) = (yq p ts n' m' k).length := by rw [hput]; simp; omega
          have hl18 : qt (yq p ts n' m' k) = qt (ts.take lo) ++ qt (ts.drop (lo + 1)) := by rw [hput, Xb]
          simp (maxSteps := 3000000) only [qh, zH, vi, yl, ym, yr, wg, jk, x7, J2, xr, hli, src, lim, Option.map_some, Option.map_none, hll, hl0, and_self, yu, htl, hb0, hones, hby, Nat.sub_zero, Nat.le_refl, htk, htt, hlt1, xv, w9, x8, hml, qn hml, qc, e1, e2, e3, e4, hz, hli2, hb1, hb2, hb3, hd, hf, qbv hok.1 hml, decide_true, hwf, hw1, hll1, hll2, hs, iE, iN, iB, iC, iL, iD, iA, iS, iM, qa, zZ, ↓qm, ↓reduceIte, reduceCtorEq, nA, nM, nS, nE, nL, nD]; try simp only [qa, zY]
          refine ⟨hp, fun hlast => ⟨by omega, ⟨by rw [ht2]; exact hones _, by omega⟩, ?_⟩, fun hlast => ⟨rfl, ?_⟩⟩
          · rw [ht2, ← hl18, hln]
            refine Ret.jn [0, 4] ⟨⟨by simp, rfl, by decide⟩, ?_⟩ (rs := [.slc 4 0 (yq p ts n' m' k).length false 0]) rfl rfl (by simp [z6]) ?_ ⟨?_, ?_⟩
            · simp only [qg _ _ (qb _), zK, ↓reduceIte, reduceCtorEq, nE, nB, nA]
            · intro j l; match j with
              | 0 => simp [zb, AO.ren]
              | 1 => simp [zb, AO.ren]
              | j + 2 => simp [zb]
            · simp only [z6]
              simp only [zL, ↓reduceIte, reduceCtorEq, nE, nA]
            · simp only [qd _ _ (qb _), zL, ↓reduceIte, reduceCtorEq, nE, nA]
          · have h0 : ts.drop (lo + 1) = [] := List.drop_of_length_le (by omega)
            have h1 : qt (ts.take lo) = qt (yq p ts n' m' k) := by rw [hl18, h0]; simp [qt]
            have h2' : lo = (yq p ts n' m' k).length := by omega
            simp only [List.append_nil, h1]
            refine Ret.jn [0, 5] ⟨⟨by simp, rfl, by decide⟩, ?_⟩ (rs := [.slc 5 0 lo false 0]) rfl rfl (by simp [z6]) ?_ ⟨?_, ?_⟩
            · simp only [qg _ _ (qb _), zK, ↓reduceIte, reduceCtorEq, nE, nB, nA]
            · intro j l; match j with
              | 0 => simp [zb, AO.ren]
              | 1 => simp [zb, AO.ren]
              | j + 2 => simp [zb]
            · simp only [z6]
              simp only [← h2', zL, ↓reduceIte, reduceCtorEq, nE, nA]
            · simp only [qd _ _ (qb _), zL, ↓reduceIte, reduceCtorEq, nE, nA]
        · have hput : yq p ts n' m' k = ts.take lo ++ [(n', m', (f + k.emod p).emod p)] ++ ts.drop (lo + 1) := by
            simp only [yq, if_neg hk, hcut, hat, hs, hlo, and_self, if_true, if_false]
          have hln : lo + 1 + (ts.length - (lo + 1)) = (yq p ts n' m' k).length := by rw [hput]; simp; omega
          have hlr : (qt (ts.take lo) ++ trm (n', m', (f + k.emod p).emod p)).length = (lo + 1) * 18 := by rw [List.length_append, hlt1, w9, hml]; omega
          have hl18 : List.take ((lo + 1) * 18) (qt (ts.take lo) ++ trm (n', m', (f + k.emod p).emod p)) ++ qt (ts.drop (lo + 1)) = qt (yq p ts n' m' k) := by
            rw [List.take_of_length_le (by omega), hput, Xb, Xb]
            simp [qt]
          simp (maxSteps := 3000000) only [qh, zH, vi, yl, ym, yr, wg, jk, x7, J2, xr, hli, src, lim, Option.map_some, Option.map_none, hll, hl0, and_self, yu, htl, hb0, hones, hby, Nat.sub_zero, Nat.le_refl, htk, htt, hlt1, xv, w9, x8, hml, qn hml, qc, e1, e2, e3, e4, hz, hli2, hb1, hb2, hb3, hd, hf, qbv hok.1 hml, decide_true, hwf, hw1, hll1, hll2, hs, iE, iN, iB, iC, iL, iD, iA, iS, iM, qa, zZ, ↓qm, ↓reduceIte, reduceCtorEq, nA, nM, nS, nE, nL, nD]; try simp only [qa, zY]
          refine ⟨hp, by omega, fun hlast => ⟨by omega, ⟨by omega, by rw [ht2]; exact hones _, by omega⟩, ?_⟩, fun hlast => ⟨⟨by omega, rfl, by omega⟩, ?_⟩⟩
          · rw [ht2, hl18, hln]
            refine Ret.jn [0, 6] ⟨⟨by simp, rfl, by decide⟩, ?_⟩ (rs := [.slc 6 0 (yq p ts n' m' k).length false 0]) rfl rfl (by simp [z6]) ?_ ⟨?_, ?_⟩
            · simp only [qg _ _ (qb _), zK, ↓reduceIte, reduceCtorEq, nE, nB, nA]
            · intro j l; match j with
              | 0 => simp [zb, AO.ren]
              | 1 => simp [zb, AO.ren]
              | j + 2 => simp [zb]
            · simp only [z6]
              simp only [zL, ↓reduceIte, reduceCtorEq, nE, nA]
            · simp only [qd _ _ (qb _), zL, ↓reduceIte, reduceCtorEq, nE, nA]
          · have h0 : ts.drop (lo + 1) = [] := List.drop_of_length_le (by omega)
            have h1 : List.take ((lo + 1) * 18) (qt (ts.take lo) ++ trm (n', m', (f + k.emod p).emod p)) = qt (yq p ts n' m' k) := by rw [← hl18, h0]; simp [qt]
            have h2' : lo + 1 = (yq p ts n' m' k).length := by omega
            simp only [List.append_nil, h1]
            refine Ret.jn [0, 7] ⟨⟨by simp, rfl, by decide⟩, ?_⟩ (rs := [.slc 7 0 (lo + 1) false 0]) rfl rfl (by simp [z6]) ?_ ⟨?_, ?_⟩
            · simp only [qg _ _ (qb _), zK, ↓reduceIte, reduceCtorEq, nE, nB, nA]
            · intro j l; match j with
              | 0 => simp [zb, AO.ren]
              | 1 => simp [zb, AO.ren]
              | j + 2 => simp [zb]
            · simp only [z6]
              simp only [← h2', zL, ↓reduceIte, reduceCtorEq, nE, nA]
            · simp only [qd _ _ (qb _), zL, ↓reduceIte, reduceCtorEq, nE, nA]
      · have hor : (lo = 0 ∨ lo < ts.length) := .inr hlo
        have hput : yq p ts n' m k = ts.take lo ++ (n', m, k.emod p) :: ts.drop lo := by
          simp only [yq, if_neg hk, hcut, hat, hmm, and_false, if_false]
        simp (maxSteps := 3000000) only [qh, zH, vi, yl, ym, yr, wg, jk, x7, J2, xr, hli, src, lim, Option.map_some, Option.map_none, hll, hl0, and_self, yu, htl, hb0, hones, hby, Nat.sub_zero, Nat.le_refl, htk, htt, hlt1, xv, w9, x8, hml, qn hml, qc, e1, e2, e3, e4, hz, hli2, hb1, hb2, hd, qbv hok.1 hml, hmm, and_false, hor, iE, iN, iB, iC, iL, iD, iA, iS, iM, qa, zZ, ↓qm, ↓reduceIte, reduceCtorEq, nA, nM, nS, nE, nL, nD]; try simp only [qa, zY]
        have ht2 : List.take ((ts.length - lo) * 18) (List.drop (lo * 18) (qt ts)) = qt (ts.drop lo) := by rw [htd, List.take_of_length_le (by omega)]
        have hlr : (qt (ts.take lo) ++ trm (n', m, k.emod p)).length = (lo + 1) * 18 := by rw [List.length_append, hlt1, w9, hml]; omega
        have hcon : List.take ((lo + 1) * 18) (qt (ts.take lo) ++ trm (n', m, k.emod p)) ++ List.take ((ts.length - lo) * 18) (List.drop (lo * 18) (qt ts)) = qt (yq p ts n' m k) := by
          rw [ht2, List.take_of_length_le (by omega), hput, Xb]
          simp [qt]
        have hpl : lo + 1 + (ts.length - lo) = (yq p ts n' m k).length := by
          rw [hput]; simp; omega
        refine ⟨by omega, by omega, ⟨by omega, by rw [ht2]; exact hones _, by omega⟩, ?_⟩
        rw [hcon, hpl]
        refine Ret.jn [0, 6] ⟨⟨by simp, rfl, by decide⟩, ?_⟩ (rs := [.slc 6 0 (yq p ts n' m k).length false 0]) rfl rfl (by simp [z6]) ?_ ⟨?_, ?_⟩
        · simp only [qg _ _ (qb _), zK, ↓reduceIte, reduceCtorEq, nE, nB, nA]
        · intro j l; match j with
          | 0 => simp [zb, AO.ren]
          | 1 => simp [zb, AO.ren]
          | j + 2 => simp [zb]
        · simp only [z6]
          simp only [zL, ↓reduceIte, reduceCtorEq, nE, nA]
        · simp only [qd _ _ (qb _), zL, ↓reduceIte, reduceCtorEq, nE, nA]
    · have hli2 : ¬ (lo : Int) < ts.length := by omega
      obtain rfl : lo = ts.length := by omega
      have hput : yq p ts n m k = ts ++ [(n, m, k.emod p)] := by
        simp only [yq, if_neg hk, hcut, Nat.lt_irrefl, false_and, if_false, List.take_length, List.drop_length]
      have hlr : (qt (ts.take ts.length) ++ trm (n, m, k.emod p)).length = (ts.length + 1) * 18 := by rw [List.length_append, hlt1, w9, hml]; omega
      have hcon : List.take ((ts.length + 1) * 18) (qt (ts.take ts.length) ++ trm (n, m, k.emod p)) = qt (yq p ts n m k) := by
        rw [List.take_of_length_le (by omega), hput, Xb, List.take_length]
        simp [qt]
      have hpl : ts.length + 1 = (yq p ts n m k).length := by
        rw [hput]; simp
      by_cases hz0 : ts.length = 0
      · have hor : (ts.length = 0 ∨ ts.length < ts.length) := .inl hz0
        simp (maxSteps := 3000000) only [qh, zH, vi, yl, ym, yr, wg, jk, x7, J2, xr, hli, src, lim, Option.map_some, Option.map_none, hll, hl0, and_self, yu, htl, hb0, hones, hby, Nat.sub_zero, Nat.le_refl, htk, htt, hlt1, xv, w9, x8, hml, qn hml, qc, e1, e2, e3, e4, hz, hli2, Int.lt_irrefl, hor, Nat.sub_self, Nat.zero_mul, List.take_zero, List.all_nil, iE, iN, iB, iC, iL, iD, iA, iS, iM, qa, zZ, ↓qm, ↓reduceIte, reduceCtorEq, nA, nM, nS, nE, nL, nD]; try simp only [qa, zY]
        refine ⟨by omega, ⟨by omega, by omega⟩, ?_⟩
        rw [hcon, hpl]
        refine Ret.jn [0, 6] ⟨⟨by simp, rfl, by decide⟩, ?_⟩ (rs := [.slc 6 0 (yq p ts n m k).length false 0]) rfl rfl (by simp [z6]) ?_ ⟨?_, ?_⟩
        · simp only [qg _ _ (qb _), zK, ↓reduceIte, reduceCtorEq, nE, nB, nA]
        · intro j l; match j with
          | 0 => simp [zb, AO.ren]
          | 1 => simp [zb, AO.ren]
          | j + 2 => simp [zb]
        · simp only [z6]
          simp only [zL, ↓reduceIte, reduceCtorEq, nE, nA]
        · simp only [qd _ _ (qb _), zL, ↓reduceIte, reduceCtorEq, nE, nA]
      · have hor : ¬ (ts.length = 0 ∨ ts.length < ts.length) := by omega
        simp (maxSteps := 3000000) only [qh, zH, vi, yl, ym, yr, wg, jk, x7, J2, xr, hli, src, lim, Option.map_some, Option.map_none, hll, hl0, and_self, yu, htl, hb0, hones, hby, Nat.sub_zero, Nat.le_refl, htk, htt, hlt1, xv, w9, x8, hml, qn hml, qc, e1, e2, e3, e4, hz, hli2, Int.lt_irrefl, hor, List.all_nil, iE, iN, iB, iC, iL, iD, iA, iS, iM, qa, zZ, ↓qm, ↓reduceIte, reduceCtorEq, nA, nM, nS, nE, nL, nD]; try simp only [qa, zY]
        refine ⟨by omega, ⟨by omega, by omega⟩, ?_⟩
        rw [hcon, hpl]
        refine Ret.jn [0, 7] ⟨⟨by simp, rfl, by decide⟩, ?_⟩ (rs := [.slc 7 0 (yq p ts n m k).length false 0]) rfl rfl (by simp [z6]) ?_ ⟨?_, ?_⟩
        · simp only [qg _ _ (qb _), zK, ↓reduceIte, reduceCtorEq, nE, nB, nA]
        · intro j l; match j with
          | 0 => simp [zb, AO.ren]
          | 1 => simp [zb, AO.ren]
          | j + 2 => simp [zb]
        · simp only [z6]
          simp only [zL, ↓reduceIte, reduceCtorEq, nE, nA]
        · simp only [qd _ _ (qb _), zL, ↓reduceIte, reduceCtorEq, nE, nA]
def qrj (n : Int) (ts : List (Int × List Nat × Int)) : Prop := ts.length ≤ 1000000 ∧ (∀ t ∈ ts, t.1 = n) ∧ (∀ t ∈ ts, -1000000000000 ≤ t.2.2 ∧ t.2.2 ≤ 1000000000000) ∧ (ts.Pairwise fun a b => ltT a b = true)
instance {n : Int} {ts : List (Int × List Nat × Int)} : Decidable (qrj n ts) := by unfold qrj; infer_instance
theorem qrj.fit {p n : Int} {ts : List (Int × List Nat × Int)} (h : qrj n ts) (ho : okT ts) : q09 p n ts := ⟨ho, h.1, h.2.1, h.2.2.1, h.2.2.2⟩
theorem qh2 {α : Type} {l : List α} {i : Nat} {a : α} (h : l[i]? = some a) : l.set i a = l := by
  obtain ⟨hi, rfl⟩ := List.getElem?_eq_some_iff.1 h
  exact List.set_getElem_self hi
def Yu : BE := fun hp xs => match xs with
  | [.int .i64 p, .slc b 0 len false 0, .agg l, .int .i64 k] => match hp[b]? with
    | some (.vec 18 L) => match Jt len L, yk l with
      | some ts, some (n, m) => chk ((L.length = len * 18 ∧ (0 < p ∧ p ≤ 1000000)) ∧ (0 ≤ n ∧ n ≤ 8) ∧ qrj n ts) (if k.emod p = 0 then some (.slc b 0 len false 0, hp) else some (.slc hp.length 0 (yq p ts n m k).length false 0, hp ++ [.vec 18 (qt (yq p ts n m k))]))
      | _, _ => none
    | _ => none
  | _ => none
theorem q1h : Am.Callee Try.prog 61 Yu := Callee.fp fun hp xs v hp' he => by
  unfold Yu at he
  split at he
  · rename_i p b len l k
    split at he
    · rename_i L hb
      split at he
      · rename_i ts n m hts hd
        obtain ⟨⟨⟨h1, h2⟩, h3, h4⟩, he2⟩ := qk he
        obtain ⟨rfl, hm⟩ := zj hd
        obtain ⟨e1, e2, e3, e4⟩ := j2 hts
        have hl : L = qt ts := by rw [← e3, List.take_of_length_le (by omega)]
        subst hl
        subst e1
        have hc := qnm p n ts m k h2 h3 hm (h4.fit e2)
        have hfit : Bj hp (ofL [(b, 0)]) [(b, 0)] [.vec 18 (qt ts)] := by
          refine ⟨?_, trivial⟩
          simp only [Fits, qd _ _ (qb _)]
          exact ⟨trivial, by rw [hb, Vr, qd _ _ (qb _)]⟩
        by_cases hk : k.emod p = 0
        · rw [if_pos hk] at he2
          simp only [Option.some.injEq, Prod.mk.injEq] at he2
          obtain ⟨rfl, rfl⟩ := he2
          have hc := hc.mono (R' := fun v H' => v = .slc 0 0 ts.length false 0 ∧ H' = [.vec 18 (qt ts)]) fun v H' h => by rw [if_pos hk] at h; exact h
          refine ⟨[(b, 0)], [.int .i64 p, .slc 0 0 ts.length false 0, .agg (dia n m), .int .i64 k], _, _, _, hc, by simp [AV.ren, AV.zl, ofL, qd _ _ (qe _ _)], rfl, hfit, rfl, ⟨ql _ _ (qb _), trivial⟩, ⟨trivial, by simp [AV.under], ql _ _ (qe _ _), trivial, trivial⟩, by simp [AV.ren, Ren.ext, ofL], ?_⟩
          simp only [after, upd, AO.wr, if_true, Vr, qd _ _ (qb _), List.length_cons, List.length_nil, List.drop_succ_cons, List.drop_nil, List.map_nil, List.append_nil]
          exact qh2 hb
        · rw [if_neg hk] at he2
          simp only [Option.some.injEq, Prod.mk.injEq] at he2
          obtain ⟨rfl, rfl⟩ := he2
          have hc := hc.mono (R' := fun v H' => v = .slc 1 0 (yq p ts n m k).length false 0 ∧ H' = [.vec 18 (qt ts), .vec 18 (qt (yq p ts n m k))]) fun v H' h => by rw [if_neg hk] at h; exact h
          refine ⟨[(b, 0)], [.int .i64 p, .slc 0 0 ts.length false 0, .agg (dia n m), .int .i64 k], _, _, _, hc, by simp [AV.ren, AV.zl, ofL, qd _ _ (qe _ _)], rfl, hfit, rfl, ⟨ql _ _ (qb _), trivial⟩, ⟨trivial, by simp [AV.under], ql _ _ (qe _ _), trivial, trivial⟩, by simp [AV.ren, Ren.ext], ?_⟩
          simp only [after, upd, AO.wr, if_true, Vr, qd _ _ (qb _), List.length_cons, List.length_nil, List.drop_succ_cons, List.drop_zero, List.map_cons, List.map_nil]
          rw [qh2 hb]
      · cases he
    · cases he
  · cases he
def B35 : zo := (B34.put 61 (Yu))
theorem qs4 : qx Try.prog B35 := (qng.put (q1h))
def qau : AC := .seq (.region [o0 1 (.box (.t 0)),o0 2 (.alloc [.int .i64 0,.int .i64 0,.int .i64 0,(.v (.slice none 0 0))])]) (.seq (.region [oF 3 0 1,oL 4 3,oF 5 1 1,oL 6 5,oF 7 2 1,oL 8 7,o0 9 (.gb 0 [] []),o0 10 (.build [.int .i64 0,.int .i64 0,.int .i64 0,(.v (.slice none 0 0))] [(0,1,.t 4),(1,1,.t 6),(2,1,.t 8),(3,1,.t 9)]),oS 4 2 10]) .ret)
theorem qiw : zk Try.prog 70 = some ⟨11, qau, [.Qa 2 4]⟩ := by kernel_rfl
theorem qi7 (p c n : Int) (k : Nat) :
    Am.Fn Try.prog 70 [elemV p c n 0 k] [.ro []] (fun v H' => v = elemV p c n 1 0 ∧ H' = [.ro [], .vec 18 []]) := by
  refine Am.Fn.ofW qs4 mixed qiw (by simp [elemV, AV.qy, AV.under]) (bb rfl) ?_
  simp (maxSteps := 3000000) only [qh, zH, qau, qa, elemV, iE, iN, iB, iC, iL, iD, iA, iS, iM, rep, qa, zZ, ↓qm, ↓reduceIte, reduceCtorEq, nA, nM, nS, nE, nL, nD]; try simp only [qa, zY]
  refine ⟨rfl, _, q6.trans (q6.qz [2]) (q6.vec 3 0 18 (by decide) rfl rfl rfl rfl), ?_⟩
  refine Ret.jn [0, 3] ⟨⟨by simp, rfl, by decide⟩, ?_⟩ (rs := [.agg [.int .i64 p, .int .i64 c, .int .i64 n, .slc 3 0 0 false 0]]) ?_ rfl (by simp [z6]) ?_ ⟨?_, ?_⟩
  · simp only [qz, zs, zV, ↓reduceIte, nE, reduceCtorEq, nB]
    simp only [zK, ↓reduceIte, reduceCtorEq, nE, nB, nA]
  · simp only [qz, zs, zV, ↓reduceIte, nE, reduceCtorEq, nB]
    rfl
  · intro j l; match j with
    | 0 => simp [zb, Y7, AO.xd, AO.ren]
    | 1 => simp [zb, Y7, AO.xd, AO.ren]
    | j + 2 => simp [zb]
  · simp only [z6]
    simp only [zL, ↓reduceIte, reduceCtorEq, nE, nA]
  · rfl
def xl : BE := fun hp xs => match xs with
  | [.agg [.int .i64 p, .int .i64 c, .int .i64 n, .slc b 0 k false 0]] => match rd hp b with
    | some _ => some (elemV p c n hp.length 0, hp ++ [.vec 18 []])
    | none => none
  | _ => none
theorem qx5 : Am.Callee Try.prog 70 xl := Callee.fp fun hp xs v hp' he => by
  unfold xl at he
  split at he
  · rename_i p c n b k
    split at he
    · rename_i L hL
      simp only [Option.some.injEq, Prod.mk.injEq] at he
      obtain ⟨rfl, rfl⟩ := he
      refine ⟨[(b, 0)], [elemV p c n 0 k], _, _, _, qi7 p c n k, by simp [elemV, AV.ren, AV.zl, ofL], rfl, ⟨⟨L, hL, by simp, by simp [AV.zl]⟩, trivial⟩, rfl, ⟨trivial, trivial⟩, ⟨⟨trivial, trivial, trivial, by simp [AV.under], trivial⟩, trivial⟩, by simp [elemV, AV.ren, AV.zl, Ren.ext], ?_⟩
      simp [after, upd, AO.wr, AO.ren, AV.zl]
    · cases he
  · cases he
def B36 : zo := (B35.put 70 (xl))
theorem q0h : qx Try.prog B36 := (qs4.put (qx5))
theorem qe9 {n n' : Nat} {m m' : List Nat} (h : isS n m = true) (h' : isS n' m' = true) (hm : m.length = 16) (hm' : m'.length = 16) (e : xi n m = xi n' m') : n = n' ∧ m = m' := by
  rw [Ko n m hm] at h
  rw [Ko n' m' hm'] at h'
  simp only [isI, Bool.and_eq_true, beq_iff_eq] at h h'
  have h1 := h.2.2
  rw [e, h'.2.2] at h1
  simp only [Option.some.injEq, Prod.mk.injEq] at h1
  exact ⟨h1.1.symm, h1.2.symm⟩
structure j9 (p n : Int) (ts : List (Int × List Nat × Int)) : Prop where
  ok : okT ts
  dia : ∀ t ∈ ts, t.1 = n ∧ isS n.toNat t.2.1 = true
  fac : ∀ t ∈ ts, 1 ≤ t.2.2 ∧ t.2.2 ≤ p - 1
  up : upT ts
theorem j9.fit {p n : Int} {ts : List (Int × List Nat × Int)} (h : j9 p n ts) (hp : p ≤ 1000000) (hl : ts.length ≤ 1000000) : qrj n ts :=
  ⟨hl, fun t ht => (h.dia t ht).1, fun t ht => by have := h.fac t ht; omega, h.up⟩
theorem qmq {p c n : Int} {ts : List (Int × List Nat × Int)} (ho : okT ts) (h : yi p c n ts = true) : j9 p n ts := by
  simp only [yi, Bool.and_eq_true, decide_eq_true_eq, List.all_eq_true, List.mem_range] at h
  have hg : ∀ i (hi : i < ts.length), isS ts[i].1.toNat ts[i].2.1 = true ∧ ts[i].1 = n ∧ (1 ≤ ts[i].2.2 ∧ ts[i].2.2 ≤ p - 1) ∧ (i = 0 ∨ ltT (ts.getD (i - 1) zT) ts[i] = true) := fun i hi => by
    have := h.2 i hi
    simp only [Xv, uz hi, Bool.and_eq_true, Bool.or_eq_true, beq_iff_eq, decide_eq_true_eq] at this
    exact ⟨this.1.1.1, this.1.1.2, this.1.2, this.2⟩
  have hstep : ∀ i j, i < j → ∀ (hj : j < ts.length), ltT (ts.getD i zT) (ts.getD j zT) = true := by
    intro i j hij
    induction j with
    | zero => omega
    | succ j ih =>
      intro hj
      have h1 := (hg (j + 1) hj).2.2.2
      have h2 : ltT (ts.getD j zT) (ts.getD (j + 1) zT) = true := by
        rcases h1 with h1 | h1
        · omega
        · rw [uz hj]; exact h1
      by_cases e : i = j
      · subst e; exact h2
      · exact ya _ _ _ (ih (by omega) (by omega)) h2
  refine ⟨ho, fun t ht => ?_, fun t ht => ?_, ?_⟩
  · obtain ⟨i, hi, rfl⟩ := List.mem_iff_getElem.1 ht
    have := hg i hi
    refine ⟨this.2.1, ?_⟩
    rw [← this.2.1]; exact this.1
  · obtain ⟨i, hi, rfl⟩ := List.mem_iff_getElem.1 ht
    exact (hg i hi).2.2.1
  · unfold upT
    rw [List.pairwise_iff_getElem]
    intro i j hi hj hij
    have := hstep i j hij hj
    rwa [uz hi, uz hj] at this
def Km (p n : Int) (m : List Nat) (kk : Int) : List (Int × List Nat × Int) → List (Int × List Nat × Int)
  | [] => [(n, m, kk)]
  | t :: l => if ltT t (n, m, 0) then t :: Km p n m kk l else
    if t.1 = n ∧ t.2.1 = m then (if (t.2.2 + kk).emod p = 0 then [] else [(n, m, (t.2.2 + kk).emod p)]) ++ l else (n, m, kk) :: t :: l
theorem qq1 (t : Int × List Nat × Int) (l : List (Int × List Nat × Int)) (n : Int) (m : List Nat) : Y9 (t :: l) n m = if ltT t (n, m, 0) = true then Y9 l n m + 1 else 0 := by
  unfold Y9
  rw [List.takeWhile_cons]
  split <;> rfl
theorem qan (p n : Int) (m : List Nat) (k : Int) (ts : List (Int × List Nat × Int)) : yq p ts n m k = if k.emod p = 0 then ts else Km p n m (k.emod p) ts := by
  unfold yq
  split
  · rfl
  · rename_i hk
    induction ts with
    | nil => simp [Y9, Km]
    | cons t l ih =>
      rw [qq1]
      unfold Km
      by_cases h : ltT t (n, m, 0) = true
      · simp only [if_pos h, List.length_cons, Nat.add_lt_add_iff_right, List.getD_cons_succ, List.take_succ_cons, List.drop_succ_cons]
        rw [← ih]
        split <;> simp
      · simp only [if_neg h, List.length_cons, List.getD_cons_zero, List.take_zero, List.drop_zero, List.nil_append, List.drop_succ_cons]
        by_cases h2 : t.1 = n ∧ t.2.1 = m
        · rw [if_pos ⟨by omega, h2⟩, if_pos h2]
        · rw [if_neg (fun h3 => h2 h3.2), if_neg h2]
theorem qku {p n : Int} {m : List Nat} {kk : Int} : ∀ {ts : List (Int × List Nat × Int)}, (Km p n m kk ts).length ≤ ts.length + 1
  | [] => Nat.le_refl _
  | t :: l => by
    unfold Km
    split
    · have := qku (p := p) (n := n) (m := m) (kk := kk) (ts := l)
      simp only [List.length_cons]; omega
    · split
      · split <;> simp <;> omega
      · simp
theorem V1 {p n : Int} {m : List Nat} {kk : Int} {u : Int × List Nat × Int} : ∀ {ts : List (Int × List Nat × Int)}, u ∈ Km p n m kk ts → u ∈ ts ∨ (u.1 = n ∧ u.2.1 = m ∧ (u.2.2 = kk ∨ ∃ f : Int, u.2.2 = (f + kk).emod p ∧ (f + kk).emod p ≠ 0))
  | [], h => by
    rw [Km, List.mem_singleton] at h
    subst h; exact .inr ⟨rfl, rfl, .inl rfl⟩
  | t :: l, h => by
    unfold Km at h
    split at h
    · rcases List.mem_cons.1 h with rfl | h
      · exact .inl (List.mem_cons_self ..)
      · rcases V1 h with h | h
        · exact .inl (List.mem_cons_of_mem _ h)
        · exact .inr h
    · split at h
      · split at h
        · exact .inl (List.mem_cons_of_mem _ h)
        · rename_i hne
          rcases List.mem_cons.1 h with rfl | h
          · exact .inr ⟨rfl, rfl, .inr ⟨t.2.2, rfl, hne⟩⟩
          · exact .inl (List.mem_cons_of_mem _ h)
      · rcases List.mem_cons.1 h with rfl | h
        · exact .inr ⟨rfl, rfl, .inl rfl⟩
        · exact .inl h
theorem qzn {t u u' : Int × List Nat × Int} (h1 : u.1 = u'.1) (h2 : u.2.1 = u'.2.1) : ltT t u = ltT t u' := by unfold ltT txt; rw [h1, h2]
theorem qx8 {t t' u : Int × List Nat × Int} (h1 : t.1 = t'.1) (h2 : t.2.1 = t'.2.1) : ltT t u = ltT t' u := by unfold ltT txt; rw [h1, h2]
theorem qpu {p n : Int} {m : List Nat} {kk : Int} (hm : okD m) (hs : isS n.toNat m = true) : ∀ {ts : List (Int × List Nat × Int)}, okT ts → (∀ t ∈ ts, t.1 = n ∧ isS n.toNat t.2.1 = true) → upT ts → upT (Km p n m kk ts)
  | [], _, _, _ => by unfold Km upT; exact List.pairwise_singleton _ _
  | t :: l, ho, hd, hu => by
    have hu' := List.pairwise_cons.1 hu
    have ih := qpu (p := p) (kk := kk) hm hs (ts := l) (fun u h => ho u (List.mem_cons_of_mem _ h)) (fun u h => hd u (List.mem_cons_of_mem _ h)) hu'.2
    unfold Km
    split
    · rename_i hlt
      refine List.pairwise_cons.2 ⟨fun u hu2 => ?_, ih⟩
      rcases V1 hu2 with h | ⟨h1, h2, _⟩
      · exact hu'.1 u h
      · rw [qzn (u' := (n, m, 0)) h1 h2]; exact hlt
    · rename_i hlt
      split
      · rename_i he
        split
        · exact hu'.2
        · refine List.pairwise_cons.2 ⟨fun u hu2 => ?_, hu'.2⟩
          rw [qx8 (t' := t) he.1.symm he.2.symm]
          exact hu'.1 u hu2
      · rename_i he
        have hx : ltT (n, m, kk) t = true := by
          cases hb : ltT (n, m, kk) t with
          | true => rfl
          | false =>
            exfalso
            have hdt := hd t (List.mem_cons_self ..)
            have e := Z7 _ _ (Bool.eq_false_iff.2 hlt) hb
            unfold txt at e
            simp only [hdt.1] at e
            exact he ⟨hdt.1, (qe9 hdt.2 hs (ho t (List.mem_cons_self ..)).1 hm.1 e).2⟩
        refine List.pairwise_cons.2 ⟨fun u hu2 => ?_, hu⟩
        rcases List.mem_cons.1 hu2 with rfl | h
        · exact hx
        · exact ya _ _ _ hx (hu'.1 u h)
theorem qsc {p n : Int} {m : List Nat} {k : Int} {ts : List (Int × List Nat × Int)} (hp : 0 < p) (hm : okD m) (hs : isS n.toNat m = true) (h : j9 p n ts) : j9 p n (yq p ts n m k) := by
  rw [qan]
  split
  · exact h
  · rename_i hk
    have b1 : 0 ≤ k.emod p := Int.emod_nonneg k (by omega)
    have b2 : k.emod p < p := Int.emod_lt_of_pos k hp
    refine ⟨fun u hu => ?_, fun u hu => ?_, fun u hu => ?_, qpu hm hs h.ok h.dia h.up⟩
    · rcases V1 hu with h1 | ⟨_, h2, _⟩
      · exact h.ok u h1
      · rw [h2]; exact hm
    · rcases V1 hu with h1 | ⟨h1, h2, _⟩
      · exact h.dia u h1
      · rw [h2]; exact ⟨h1, hs⟩
    · rcases V1 hu with h1 | ⟨_, _, h3 | ⟨f, h3, h4⟩⟩
      · exact h.fac u h1
      · omega
      · have c1 : 0 ≤ (f + k.emod p).emod p := Int.emod_nonneg _ (by omega)
        have c2 : (f + k.emod p).emod p < p := Int.emod_lt_of_pos _ hp
        omega
theorem qvx {p n : Int} {m : List Nat} {k : Int} {ts : List (Int × List Nat × Int)} : (yq p ts n m k).length ≤ ts.length + 1 := by
  rw [qan]; split
  · omega
  · exact qku
def qfx (p n : Int) (ts : List (Int × List Nat × Int)) : Prop := (∀ t ∈ ts, t.1 = n ∧ isS n.toNat t.2.1 = true) ∧ (∀ t ∈ ts, 1 ≤ t.2.2 ∧ t.2.2 ≤ p - 1) ∧ (ts.Pairwise fun a b => ltT a b = true)
instance {p n : Int} {ts : List (Int × List Nat × Int)} : Decidable (qfx p n ts) := by unfold qfx; infer_instance
theorem qfx.q1a {p n : Int} {ts : List (Int × List Nat × Int)} (h : qfx p n ts) (ho : okT ts) : j9 p n ts := ⟨ho, h.1, h.2.1, h.2.2⟩
theorem j9.dec {p n : Int} {ts : List (Int × List Nat × Int)} (h : j9 p n ts) : qfx p n ts := ⟨h.dia, h.fac, h.up⟩
def B37 : zo := B36
theorem q0g : qx Try.prog B37 := q0h
end Go.Proofs.Ytkgoadglalpbfaa

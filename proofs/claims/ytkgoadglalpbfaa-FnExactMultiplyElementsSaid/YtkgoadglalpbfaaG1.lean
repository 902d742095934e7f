/- Contracts: elements that a law is handed. -/
import Derived.Test.YtkgoadglalpbfaaF9
namespace Go.Proofs.Ytkgoadglalpbfaa
open Go.Am Go.Dia
open Nat renaming reduceAdd → nA, reduceMul → nM, reduceSub → nS, reduceEqDiff → nE, reduceLT → nL, reduceLeDiff → nD, reduceBEq → nB
open Int renaming reduceEq → iE, reduceNe → iN, reduceBEq → iB, reduceBNe → iC, reduceLT → iL, reduceLE → iD, reduceAdd → iA, reduceSub → iS, reduceMul → iM
set_option linter.unusedSimpArgs false
set_option linter.unusedVariables false
set_option maxRecDepth 4000
set_option maxHeartbeats 1000000
theorem Bw : B30 24 = some (qu Ja) := rfl
def qdq : AC := .seq (.region [o0 1 (.box (.t 0)),o0 2 (.alloc [.int .i64 0,.int .u8 0,.int .u8 0,.int .u8 0,.int .u8 0,.int .u8 0,.int .u8 0,.int .u8 0,.int .u8 0,.int .u8 0,.int .u8 0,.int .u8 0,.int .u8 0,.int .u8 0,.int .u8 0,.int .u8 0,.int .u8 0,.int .i64 0])]) (.seq (.region [o0 3 (.alloc [.int .i64 0,.int .u8 0,.int .u8 0,.int .u8 0,.int .u8 0,.int .u8 0,.int .u8 0,.int .u8 0,.int .u8 0,.int .u8 0,.int .u8 0,.int .u8 0,.int .u8 0,.int .u8 0,.int .u8 0,.int .u8 0,.int .u8 0,.int .i64 0])]) (.seq (.region [oF 4 0 1,oN 5 17 4,oC 6 24 [.t 5],oF 7 0 3,oS 17 7 6]) (.seq (.region [oF 8 17 1,oL 9 8,oF 10 17 3,oT 10 9]) (.seq (.region [oN 11 18 3,oS 18 2 11]) .ret))))
theorem ql2 : zy Try.prog 98 = some ⟨12, qdq, [.kd 2 18]⟩ := by kernel_rfl
theorem qra (t : Int × List Nat × Int) (ht : okD t.2.1) : Am.Fn Try.prog 98 [.agg (trm t)] [] (fun v H' => v = .agg (trm t) ∧ H' = []) := by
  refine Am.Fn.jw (R := fun v => v = _) qlx mixed ql2 (by simp) (by simp) ?_
  obtain ⟨n, m, k⟩ := t
  simp only at ht
  have e1 : List.take 17 (trm (n, m, k)) = dia n m := Jw (t := (n, m, k)) ht
  have e3 : (trm (n, m, k))[17]? = some (.int .i64 k) := bz (t := (n, m, k)) ht
  have e2 : (trm (n, m, 0)).set 17 (.int .i64 k) = trm (n, m, k) := qf2 (t := (n, m, 0)) ht
  simp (maxSteps := 3000000) only [qf, zH, qdq, Bw, Ja, jt, xt, u6, ht.1, zd ht, e1, e2, e3, qac ht.1, qe, Zx (t := (0, List.replicate 16 0, 0)) (u := (n, m, k)) (by simp) ht.1, Jd (t := (n, m, k)) ht.1, j1, xd, AV.one, List.length_replicate, iE, iN, iB, iC, iL, iD, iA, iS, iM, qb, zZ, ↓qp, ↓reduceIte, reduceCtorEq, nA, nM, nS, nE, nL, nD]; try simp only [qb, zY]
  exact v7 _
def y9 : List AV → Option AV
  | [.agg l] => match qa1 l with
    | some t => some (.agg (trm t))
    | none => none
  | _ => none
theorem qsk : Am.Callee Try.prog 98 (qu y9) := Am.Callee.plain fun xs v he => by
  unfold y9 at he
  split at he
  · split at he
    · rename_i l t ht
      cases he
      obtain ⟨rfl, hm⟩ := Wl ht
      exact ⟨by simp only [AV.zs, AV.xb, v7, Bool.and_self], by simp only [AV.xb, v7], qra t hm⟩
    · cases he
  · cases he
def qx4 : z7 := (B30.put 98 (qu y9))
theorem qn3 : ze Try.prog qx4 := (qlx.put (qsk))
def K5 (H : List AO) (X : AV) (ts : List (Int × List Nat × Int)) : Prop :=
  okT ts ∧ ((X = .v (.slice none 0 0) ∧ H = [] ∧ ts = []) ∨ (X = .slc 0 0 0 true 0 ∧ H = [.dead] ∧ ts = []) ∨ ∃ all cap, X = .slc 0 0 ts.length true cap ∧ ts.length ≤ cap ∧ H = [.ro (qq all)] ∧ okT all ∧ all.take ts.length = ts ∧ ts.length ≤ all.length)
def Zt (hp : List AO) (X : AV) : Option (List (Int × List Nat × Int)) := match X with
  | .v (.slice none 0 0) => some []
  | .slc b 0 n true cap => match hp[b]? with
    | some .dead => if n = 0 ∧ cap = 0 then some [] else none
    | some (.ro l) => match Qz (l.length / 18) l with
      | some all => if l.length = all.length * 18 ∧ n ≤ cap ∧ n ≤ all.length then some (all.take n) else none
      | none => none
    | _ => none
  | _ => none
theorem Wk {hp : List AO} {X : AV} {ts : List (Int × List Nat × Int)} (h : Zt hp X = some ts) : ∃ (bs : List (Nat × Nat)) (H : List AO) (X' : AV), K5 H X' ts ∧ X'.ren (ofL bs) = X ∧ wh X = true ∧ Yx hp (ofL bs) bs H ∧
    Jk bs H = true ∧ AO.G7 H.length H ∧ X'.under H.length ∧ (∀ o ∈ H, o.wr = false) ∧ (∀ bs', after ⟨[], hp⟩ (ofL bs) bs H (H ++ bs') = hp ++ bs'.map (AO.ren ((ofL bs).ext H.length hp.length))) := by
  unfold Zt at h
  split at h
  · cases h
    exact ⟨[], [], .v (.slice none 0 0), ⟨fun t ht => (by cases ht), .inl ⟨rfl, rfl, rfl⟩⟩, rfl, rfl, trivial, rfl, trivial, trivial, by simp, fun bs' => by simp [after, upd]⟩
  · rename_i b n cap
    split at h
    · rename_i hb
      split at h
      · rename_i h0
        cases h
        obtain ⟨rfl, rfl⟩ := h0
        refine ⟨[(b, 0)], [.dead], .slc 0 0 0 true 0, ⟨fun t ht => (by cases ht), .inr (.inl ⟨rfl, rfl, rfl⟩)⟩, by simp [AV.ren, ofL], rfl, ⟨(List.getElem?_eq_some_iff.1 hb).1, trivial⟩, rfl, ⟨trivial, trivial⟩, by simp [AV.under], by simp [AO.wr], fun bs' => ?_⟩
        simp [after, upd, AO.wr]
      · cases h
    · rename_i l hb
      split at h
      · rename_i all hall
        split at h
        · rename_i h0
          cases h
          obtain ⟨e1, e2, e3, e4⟩ := xz hall
          have hl : l = qq all := by rw [← e3, List.take_of_length_le (by omega)]
          subst hl
          have hlen : (all.take n).length = n := by simp; omega
          refine ⟨[(b, 0)], [.ro (qq all)], .slc 0 0 n true cap, ⟨fun t ht => e2 t (List.mem_of_mem_take ht), .inr (.inr ⟨all, cap, by rw [hlen], by rw [hlen]; exact h0.2.1, rfl, e2, by rw [hlen], by rw [hlen]; exact h0.2.2⟩)⟩, by simp [AV.ren, ofL], rfl, ⟨⟨qq all, by simp [rd, hb], by simp, by simp [qd _ _ (qa _)]⟩, trivial⟩, rfl, ⟨qk _ _ (qa _), trivial⟩, by simp [AV.under], by simp [AO.wr], fun bs' => ?_⟩
          simp [after, upd, AO.wr]
        · cases h
      · cases h
    · cases h
  · cases h
theorem V8 {H : List AO} {X : AV} {ts : List (Int × List Nat × Int)} (h : K5 H X ts) : ∀ (j : Nat) (o' : AO), H[j]? = some o' → o'.under H.length := by
  intro j o' hj
  rcases h.2 with ⟨_, rfl, _⟩ | ⟨_, rfl, _⟩ | ⟨all, cap, _, _, rfl, _⟩
  · simp at hj
  · cases j with
    | succ j => simp at hj
    | zero => cases hj; trivial
  · cases j with
    | succ j => simp at hj
    | zero => cases hj; exact qk _ _ (qa _)
def Ju : AC := .seq (.region [oI 4 0]) (.seq (.region [oM 5 1,oM 6 0,o0 7 (.len .slc (.t 6)),oP 8 .sub 5 7,oM 1 8]) (.seq (.seq (.region [oM 9 1,oK 10 .lss 9 0]) (.cond 10 (.seq (.region [oI 4 (-1)]) .ret) .skip)) (.seq (.region [oM 11 1,oM 4 11]) .ret)))
theorem qiv : zy Try.prog 45 = some ⟨12, Ju, [.slot 4]⟩ := by kernel_rfl
theorem qqn (H : List AO) (X : AV) (ts : List (Int × List Nat × Int)) (k : Int) (h : K5 H X ts) (hk : 0 ≤ k ∧ k ≤ 1000000000) (hl : ts.length ≤ 9223372036854775807) :
    Am.Fn Try.prog 45 [X, .int .i64 k] H (fun v H' => v = .int .i64 (if k - ts.length < 0 then -1 else k - ts.length) ∧ H' = H) := by
  refine Am.Fn.jw (R := fun v => v = _) qn3 mixed qiv (by simp) (V8 h) ?_
  have hw : q8 .i64 (k - (ts.length : Int)) = k - ts.length := wrap64 (by omega) (by omega)
  rcases h.2 with ⟨rfl, rfl, rfl⟩ | ⟨rfl, rfl, rfl⟩ | ⟨all, cap, rfl, hc, rfl, _⟩
  · have hw0 : q8 .i64 k = k := by simpa using hw
    have hk0 : ¬ (k < 0) := by omega
    simp (maxSteps := 3000000) only [qf, zH, Ju, iE, iN, iB, iC, iL, iD, iA, iS, iM, hw0, hk0, u9, Bc, List.length_nil, Int.sub_zero, qb, zZ, ↓qp, ↓reduceIte, reduceCtorEq, nA, nM, nS, nE, nL, nD]; try simp only [qb, zY]
  · have hw0 : q8 .i64 k = k := by simpa using hw
    have hk0 : ¬ (k < 0) := by omega
    simp (maxSteps := 3000000) only [qf, zH, Ju, iE, iN, iB, iC, iL, iD, iA, iS, iM, hw0, hk0, u9, Bc, List.length_nil, Int.sub_zero, qb, zZ, ↓qp, ↓reduceIte, reduceCtorEq, nA, nM, nS, nE, nL, nD]; try simp only [qb, zY]
    exact ⟨_, rfl⟩
  · simp (maxSteps := 3000000) only [qf, zH, Ju, iE, iN, iB, iC, iL, iD, iA, iS, iM, hw, u9, hc, qb, zZ, ↓qp, ↓reduceIte, reduceCtorEq, nA, nM, nS, nE, nL, nD]; try simp only [qb, zY]
    exact ⟨fun h => ⟨⟨_, rfl⟩, by rw [if_pos h]⟩, fun h => ⟨⟨_, rfl⟩, by rw [if_neg h]⟩⟩
def w9 : BE := fun hp xs => match xs with
  | [X, .int .i64 k] => match Zt hp X with
    | some ts => chk ((0 ≤ k ∧ k ≤ 1000000000) ∧ ts.length ≤ 9223372036854775807) (some (.int .i64 (if k - ts.length < 0 then -1 else k - ts.length), hp))
    | none => none
  | _ => none
theorem qoz : Am.Callee Try.prog 45 w9 := Callee.fp fun hp xs v hp' he => by
  unfold w9 at he
  split at he
  · rename_i X k
    split at he
    · rename_i ts hts
      obtain ⟨⟨h1, h2⟩, he⟩ := qm he
      cases he
      obtain ⟨bs, H, X', hX, e1, e2, e3, e4, e5, e6, e7, e8⟩ := Wk hts
      refine ⟨bs, [X', .int .i64 k], H, H, _, qqn H X' ts k hX h1 h2, by simp only [AV.zt, AV.ren, e1], (by simp only [List.all_cons, e2, List.all_nil, Bool.true_and, Bool.and_true]; rfl), e3, e4, e5, ⟨e6, trivial, trivial⟩, by simp [AV.ren], ?_⟩
      have := e8 []
      simpa using this
    · cases he
  · cases he
def qtk : z7 := (qx4.put 45 (w9))
theorem qoi : ze Try.prog qtk := (qn3.put (qoz))
theorem y8 : qtk 24 = some (qu Ja) := rfl
theorem gi : qtk 98 = some (qu y9) := rfl
theorem bh : qtk 45 = some (w9) := rfl
def ka : AC := .seq (.region [o0 2 (.box (.t 0)),oI 4 0]) (.seq (.region [oF 5 3 2,oL 6 5,oM 7 1,oC 8 45 [.t 6,.t 7],oM 1 8]) (.seq (.seq (.region [oM 9 1,oK 10 .lss 9 0]) (.cond 10 (.seq (.region [oI 4 (-1)]) .ret) .skip)) (.seq (.region [oM 11 1,oM 4 11]) .ret)))
theorem qei : zy Try.prog 14 = some ⟨12, ka, [.slot 4]⟩ := by kernel_rfl
theorem qkt (H : List AO) (X : AV) (ts : List (Int × List Nat × Int)) (p c n k : Int) (h : K5 H X ts) (hX : ∀ rest, Zt (H ++ rest) X = some ts) (hk : 0 ≤ k ∧ k ≤ 1000000000) (hl : ts.length ≤ 9223372036854775807) :
    Am.Fn Try.prog 14 [.agg [.int .i64 p, .int .i64 c, .int .i64 n, X], .int .i64 k] H (fun v H' => v = .int .i64 (if k - ts.length < 0 then -1 else k - ts.length) ∧ H' = H) := by
  refine Am.Fn.jw (R := fun v => v = _) qoi mixed qei (by simp) (V8 h) ?_
  have hH : H = [] ∨ ∃ o, H = [o] := by
    rcases h.2 with ⟨_, rfl, _⟩ | ⟨_, rfl, _⟩ | ⟨_, _, _, _, rfl, _⟩
    · exact .inl rfl
    · exact .inr ⟨_, rfl⟩
    · exact .inr ⟨_, rfl⟩
  have hsub : -(1 : Int) < 0 := by decide
  by_cases hlt : k - (ts.length : Int) < 0
  · rcases hH with rfl | ⟨o, rfl⟩
    · simp only [List.nil_append] at hX
      simp (maxSteps := 3000000) only [qf, zH, ka, y8, gi, bh, Ja, w9, y9, iE, iN, iB, iC, iL, iD, iA, iS, iM, hX, hk, hl, hlt, qb, zZ, ↓qp, ↓reduceIte, reduceCtorEq, nA, nM, nS, nE, nL, nD]; try simp only [qb, zY]
    · simp only [List.cons_append, List.nil_append] at hX
      simp (maxSteps := 3000000) only [qf, zH, ka, y8, gi, bh, Ja, w9, y9, iE, iN, iB, iC, iL, iD, iA, iS, iM, hX, hk, hl, hlt, qb, zZ, ↓qp, ↓reduceIte, reduceCtorEq, nA, nM, nS, nE, nL, nD]; try simp only [qb, zY]
      exact ⟨_, rfl⟩
  · rcases hH with rfl | ⟨o, rfl⟩
    · simp only [List.nil_append] at hX
      simp (maxSteps := 3000000) only [qf, zH, ka, y8, gi, bh, Ja, w9, y9, iE, iN, iB, iC, iL, iD, iA, iS, iM, hX, hk, hl, hlt, qb, zZ, ↓qp, ↓reduceIte, reduceCtorEq, nA, nM, nS, nE, nL, nD]; try simp only [qb, zY]
    · simp only [List.cons_append, List.nil_append] at hX
      simp (maxSteps := 3000000) only [qf, zH, ka, y8, gi, bh, Ja, w9, y9, iE, iN, iB, iC, iL, iD, iA, iS, iM, hX, hk, hl, hlt, qb, zZ, ↓qp, ↓reduceIte, reduceCtorEq, nA, nM, nS, nE, nL, nD]; try simp only [qb, zY]
      exact ⟨_, rfl⟩
theorem qcp {H : List AO} {X : AV} {ts : List (Int × List Nat × Int)} (h : K5 H X ts) (rest : List AO) : Zt (H ++ rest) X = some ts := by
  rcases h.2 with ⟨rfl, rfl, rfl⟩ | ⟨rfl, rfl, rfl⟩ | ⟨all, cap, rfl, hc, rfl, hall, htk, hle⟩
  · rfl
  · rfl
  · have hl := qt hall
    have h2 : all.length * 18 / 18 = all.length := by omega
    simp only [Zt, List.cons_append, List.nil_append, List.getElem?_cons_zero, hl, h2, xj hall, true_and, hc, hle, and_self, if_true, htk]
def zm : BE := fun hp xs => match xs with
  | [.agg [.int .i64 p, .int .i64 c, .int .i64 n, X], .int .i64 k] => match Zt hp X with
    | some ts => chk ((0 ≤ k ∧ k ≤ 1000000000) ∧ ts.length ≤ 9223372036854775807) (some (.int .i64 (if k - ts.length < 0 then -1 else k - ts.length), hp))
    | none => none
  | _ => none
theorem qjp : Am.Callee Try.prog 14 zm := Callee.fp fun hp xs v hp' he => by
  unfold zm at he
  split at he
  · rename_i p c n X k
    split at he
    · rename_i ts hts
      obtain ⟨⟨h1, h2⟩, he⟩ := qm he
      cases he
      obtain ⟨bs, H, X', hX, e1, e2, e3, e4, e5, e6, e7, e8⟩ := Wk hts
      refine ⟨bs, [.agg [.int .i64 p, .int .i64 c, .int .i64 n, X'], .int .i64 k], H, H, _, qkt H X' ts p c n k hX (qcp hX) h1 h2, by simp only [AV.zt, AV.ren, e1], rfl, e3, e4, e5, ⟨⟨trivial, trivial, trivial, e6, trivial⟩, trivial, trivial⟩, by simp [AV.ren], ?_⟩
      have := e8 []
      simpa using this
    · cases he
  · cases he
def qr3 : z7 := (qtk.put 14 (zm))
theorem Kt : ze Try.prog qr3 := (qoi.put (qjp))
theorem U2 : qr3 24 = some (qu Ja) := rfl
theorem qab : qr3 98 = some (qu y9) := rfl
theorem K0 : qr3 45 = some (w9) := rfl
theorem qjs : ∀ n, rep n (trm (0, List.replicate 16 0, 0)) = qq (List.replicate n (0, List.replicate 16 0, 0))
  | 0 => rfl
  | n + 1 => by rw [rep, qjs n, List.replicate_succ]; rfl
theorem qga : ∀ {us : List (Int × List Nat × Int)} {i : Nat} {t : Int × List Nat × Int}, okT us → okD t.2.1 → i < us.length → over (qq us) (i * 18) (trm t) = qq (us.set i t)
  | u :: us, 0, t, h, ht, hi => by
    have h1 := zx (h u (List.mem_cons_self ..))
    simp only [qq, List.flatMap_cons, List.set_cons_zero, over, Nat.zero_mul, List.take_zero, List.nil_append, Nat.zero_add, zx ht]
    rw [List.drop_append_of_le_length (by omega), List.drop_of_length_le (by omega), List.nil_append]
  | u :: us, i + 1, t, h, ht, hi => by
    have h1 := zx (h u (List.mem_cons_self ..))
    have ih := qga (us := us) (i := i) (t := t) (fun v hv => h v (List.mem_cons_of_mem _ hv)) ht (by simpa using hi)
    simp only [qq, List.flatMap_cons, List.set_cons_succ] at ih ⊢
    rw [← ih]
    simp only [over, zx ht]
    rw [show (i + 1) * 18 = 18 + i * 18 by omega, List.take_append, List.take_of_length_le (by omega), h1, show 18 + i * 18 - 18 = i * 18 by omega, List.drop_append, List.drop_of_length_le (by omega), h1, show 18 + i * 18 + 18 - 18 = i * 18 + 18 by omega]
    simp
def b7 : AC := .seq (.seq (.region [oM 8 4,oM 9 0,o0 10 (.len .slc (.t 9)),oP 11 .lss 8 10]) (.cond 11 .skip (.exit 0))) (.seq (.block 1 (.region [oM 14 3,oM 15 4,oM 16 0,oM 17 4,oX 18 18 16 17,oN 19 18 18,oC 20 98 [.t 19],oX 21 18 14 15,oS 18 21 20])) (.region [oM 12 4,oK 13 .add 12 1,oM 4 13]))
def Qw : AC := .seq (.region [oM 22 3,oM 2 22]) .ret
def Jt : AC := .seq (.region [o0 2 (.mov (.c (.v (.slice none 0 0))))]) (.seq (.region [oM 5 0,o0 6 (.len .slc (.t 5)),o0 7 (.Xh 18 32 [.int .i64 0,.int .u8 0,.int .u8 0,.int .u8 0,.int .u8 0,.int .u8 0,.int .u8 0,.int .u8 0,.int .u8 0,.int .u8 0,.int .u8 0,.int .u8 0,.int .u8 0,.int .u8 0,.int .u8 0,.int .u8 0,.int .u8 0,.int .i64 0] (.t 6) (.t 6)),oM 3 7]) (.seq (.seq (.region [oI 4 0]) (.block 0 (.loop b7))) Qw))
theorem qiq : zy Try.prog 47 = some ⟨23, Jt, [.slot 2]⟩ := by kernel_rfl
theorem qou (H : List AO) (X : AV) (ts : List (Int × List Nat × Int)) (h : K5 H X ts) (hl : ts.length ≤ 1100000) :
    Am.Fn Try.prog 47 [X] H (fun v H' => v = .slc H.length 0 ts.length false 0 ∧ H' = H ++ [.vec 18 (qq ts)]) := by
  refine Am.Fn.ofW Kt mixed qiq (by simp) (V8 h) ?_
  rcases h.2 with ⟨rfl, rfl, rfl⟩ | ⟨rfl, rfl, rfl⟩ | ⟨all, cap, rfl, hc, rfl, hall, htk, hle⟩
  · simp (maxSteps := 3000000) only [qf, zH, Jt, iE, iN, iB, iC, iL, iD, iA, iS, iM, u9, Bc, List.length_nil, jt, xt, Int.toNat_zero, rep, qb, zZ, ↓qp, ↓reduceIte, reduceCtorEq, nA, nM, nS, nE, nL, nD]; try simp only [qb, zY]
    refine ⟨by decide, WA.j8 Kt (fun s => s = ⟨[(4, .int .i64 0), (3, .slc 0 0 0 true 0), (0, .v (.slice none 0 0))], [.cells []]⟩) (fun _ => 0) ⟨_, qz.zc [4, 3, 0], rfl⟩ ?_⟩
    rintro s rfl
    simp (maxSteps := 3000000) only [qf, zH, b7, Qw, iE, iN, iB, iC, iL, iD, iA, iS, iM, u9, Bc, List.length_nil, qb, zZ, ↓qp, ↓reduceIte, reduceCtorEq, nA, nM, nS, nE, nL, nD]; try simp only [qb, zY]
    refine ⟨_, qz.trans (qz.zc [2]) (qz.vec 0 0 18 (by decide) rfl rfl rfl rfl), ?_⟩
    refine Ret.zw [0] ⟨⟨by simp, rfl, by decide⟩, ?_⟩ (rs := [.slc 0 0 0 false 0]) rfl rfl (by simp [xc]) ?_ ⟨?_, ?_⟩
    · simp only [zc, z6, zV, ↓reduceIte, nE, reduceCtorEq, nB]
      simp only [zK, ↓reduceIte, reduceCtorEq, nE, nB, nA]
    · intro j l; match j with
      | 0 => simp [zi, Yi, AO.xr, AO.ren]
      | j + 1 => simp [zi]
    · simp only [xc]
      simp only [zL, ↓reduceIte, reduceCtorEq, nE, nA]
    · rfl
  · simp (maxSteps := 3000000) only [qf, zH, Jt, iE, iN, iB, iC, iL, iD, iA, iS, iM, u9, Bc, List.length_nil, jt, xt, Int.toNat_zero, rep, qb, zZ, ↓qp, ↓reduceIte, reduceCtorEq, nA, nM, nS, nE, nL, nD]; try simp only [qb, zY]
    refine ⟨by decide, WA.j8 Kt (fun s => s = ⟨[(4, .int .i64 0), (3, .slc 1 0 0 true 0), (0, .slc 0 0 0 true 0)], [.dead, .cells []]⟩) (fun _ => 0) ⟨_, qz.zc [4, 3, 0], rfl⟩ ?_⟩
    rintro s rfl
    simp (maxSteps := 3000000) only [qf, zH, b7, Qw, iE, iN, iB, iC, iL, iD, iA, iS, iM, u9, Bc, List.length_nil, qb, zZ, ↓qp, ↓reduceIte, reduceCtorEq, nA, nM, nS, nE, nL, nD]; try simp only [qb, zY]
    refine ⟨_, qz.trans (qz.zc [2]) (qz.vec 1 0 18 (by decide) rfl rfl rfl rfl), ?_⟩
    refine Ret.zw [0, 1] ⟨⟨by simp, rfl, by decide⟩, ?_⟩ (rs := [.slc 1 0 0 false 0]) rfl rfl (by simp [xc]) ?_ ⟨?_, ?_⟩
    · simp only [zc, z6, zV, ↓reduceIte, nE, reduceCtorEq, nB]
      simp only [zK, ↓reduceIte, reduceCtorEq, nE, nB, nA]
    · intro j l; match j with
      | 0 => simp [zi, Yi, AO.xr, AO.ren]
      | 1 => simp [zi, Yi, AO.xr, AO.ren]
      | j + 2 => simp [zi]
    · simp only [xc]
      simp only [zL, ↓reduceIte, reduceCtorEq, nE, nA]
    · rfl
  · simp (maxSteps := 3000000) only [qf, zH, Jt, iE, iN, iB, iC, iL, iD, iA, iS, iM, u9, hc, List.length_nil, jt, xt, qjs, qb, zZ, ↓qp, ↓reduceIte, reduceCtorEq, nA, nM, nS, nE, nL, nD]; try simp only [qb, zY]
    refine ⟨⟨by omega, by omega, by omega⟩, WA.j8 Kt (fun s => ∃ (i : Nat) (us : List (Int × List Nat × Int)), i ≤ ts.length ∧ us = ts.take i ++ List.replicate (ts.length - i) (0, List.replicate 16 0, 0) ∧ s = ⟨[(4, .int .i64 i), (3, .slc 1 0 ts.length true ts.length), (0, .slc 0 0 ts.length true cap)], [.ro (qq all), .cells (qq us)]⟩)
      (fun s => match get s.env 4 with | .int _ x => ts.length - x.toNat | _ => 0) ⟨_, qz.zc [4, 3, 0], 0, _, by omega, by simp, rfl⟩ ?_⟩
    rintro s ⟨i, us, hi, hus, rfl⟩
    have hul : us.length = ts.length := by rw [hus]; simp; omega
    have huo : okT us := by
      rw [hus]; intro t h'
      rcases List.mem_append.1 h' with h' | h'
      · exact h.1 t (List.mem_of_mem_take h')
      · rw [(List.mem_replicate.1 h').2]; exact ⟨by simp, by intro x hx; simp at hx; omega⟩
    have hutl := qt huo
    have hal := qt hall
    have hw : q8 .i64 ((i : Int) + 1) = ((i + 1 : Nat) : Int) := by rw [wrap64 (by omega) (by omega)]; rfl
    by_cases hlt : i < ts.length
    · have hai : i < all.length := by omega
      have hget : all[i] = ts[i] := by
        have : ts[i] = (all.take ts.length)[i]'(by simp; omega) := by congr 1; exact htk.symm
        rw [this, List.getElem_take]
      have h0 := gw hall hai
      rw [hget] at h0
      have hok : okD ts[i].2.1 := h.1 _ (List.getElem_mem hlt)
      have hov := qga huo hok (show i < us.length by omega)
      have hset : us.set i ts[i] = ts.take (i + 1) ++ List.replicate (ts.length - (i + 1)) (0, List.replicate 16 0, 0) := by
        rw [hus, List.set_append_right _ _ (by rw [List.length_take]; omega), List.length_take, Nat.min_eq_left hi, Nat.sub_self, show ts.length - i = (ts.length - (i + 1)) + 1 by omega, List.replicate_succ, List.set_cons_zero, List.take_succ_eq_append_getElem hlt, List.append_assoc]
        rfl
      have hli : ((i : Int) < (ts.length : Int)) := by omega
      have hli' : (0 : Int) ≤ i := by omega
      have hb1 : i * 18 < all.length * 18 := by omega
      have hb2 : i * 18 + 18 ≤ all.length * 18 := by omega
      have hb3 : i * 18 < us.length * 18 := by omega
      have hb4 : i * 18 + 18 ≤ us.length * 18 := by omega
      simp (maxSteps := 3000000) only [qf, zH, b7, U2, qab, K0, Ja, w9, y9, iE, iN, iB, iC, iL, iD, iA, iS, iM, u9, hc, hw, hal, hutl, h0, hov, Uy hok, j1, zx hok, hli, hli', hb1, hb2, hb3, hb4, and_self, qb, zZ, ↓qp, ↓reduceIte, reduceCtorEq, nA, nM, nS, nE, nL, nD]; try simp only [qb, zY]
      refine ⟨_, qz.zc [4, 3, 0], ⟨i + 1, us.set i ts[i], by omega, hset, ?_⟩, ?_⟩
      · simp only [zL, ↓reduceIte, reduceCtorEq, nE, nA]
      · simp only [zL, ↓reduceIte, reduceCtorEq, nE, nA]; omega
    · have hi' : i = ts.length := by omega
      subst hi'
      have hu : us = ts := by rw [hus]; simp
      subst hu
      simp (maxSteps := 3000000) only [qf, zH, b7, Qw, iE, iN, iB, iC, iL, iD, iA, iS, iM, u9, hc, Int.lt_irrefl, qb, zZ, ↓qp, ↓reduceIte, reduceCtorEq, nA, nM, nS, nE, nL, nD]; try simp only [qb, zY]
      refine ⟨_, qz.trans (qz.zc [2]) (qz.vec 1 us.length 18 (by decide) rfl hutl.symm rfl ?_), ?_⟩
      · simp only [wt _ _ (qa _), zV, ↓reduceIte, nE, reduceCtorEq, nB]
      refine Ret.zw [0, 1] ⟨⟨by simp, rfl, by decide⟩, ?_⟩ (rs := [.slc 1 0 us.length false 0]) ?_ rfl (by simp [xc]) ?_ ⟨?_, ?_⟩
      · simp only [zc, z6, vr _ _ _ (qa _), zV, ↓reduceIte, nE, reduceCtorEq, nB]
        simp only [qc _ _ (qa _), zK, ↓reduceIte, reduceCtorEq, nE, nB, nA]
      · simp only [zc, z6, zV, ↓reduceIte, nE, reduceCtorEq, nB]
        rfl
      · intro j l; match j with
        | 0 => exact fun _ => ⟨_, rfl⟩
        | 1 => simp [zi, Yi, AO.xr, AO.ren]
        | j + 2 => simp [zi]
      · simp only [xc]
        simp only [zL, ↓reduceIte, reduceCtorEq, nE, nA]
      · simp only [vr _ _ _ (qa _), zV, ↓reduceIte, nE, reduceCtorEq, nB]
        simp only [qd _ _ (qa _), zL, ↓reduceIte, reduceCtorEq, nE, nA]
def Xt : BE := fun hp xs => match xs with
  | [X] => match Zt hp X with
    | some ts => chk (ts.length ≤ 1100000) (some (.slc hp.length 0 ts.length false 0, hp ++ [.vec 18 (qq ts)]))
    | none => none
  | _ => none
theorem qqi : Am.Callee Try.prog 47 Xt := Callee.fp fun hp xs v hp' he => by
  unfold Xt at he
  split at he
  · rename_i X
    split at he
    · rename_i ts hts
      obtain ⟨h1, he⟩ := qm he
      simp only [Option.some.injEq, Prod.mk.injEq] at he
      obtain ⟨rfl, rfl⟩ := he
      obtain ⟨bs, H, X', hX, e1, e2, e3, e4, e5, e6, e7, e8⟩ := Wk hts
      refine ⟨bs, [X'], H, _, _, qou H X' ts hX h1, by simp only [AV.zt, e1], (by simp only [List.all_cons, e2, List.all_nil, Bool.true_and, Bool.and_true]), e3, e4, e5, ⟨e6, trivial⟩, ?_, ?_⟩
      · simp [AV.ren, Ren.ext]
      · rw [e8]; simp only [List.map_cons, List.map_nil, yc, qd _ _ (qa _)]
    · cases he
  · cases he
def qpc : z7 := (qr3.put 47 (Xt))
theorem qoc : ze Try.prog qpc := (Kt.put (qqi))
theorem Xe : qpc 24 = some (qu Ja) := rfl
theorem Vz : qpc 98 = some (qu y9) := rfl
theorem Jz : qpc 45 = some (w9) := rfl
theorem Jr : qpc 47 = some (Xt) := rfl
def J2 : AC := .seq (.region [o0 1 (.box (.t 0)),o0 2 (.alloc [.int .i64 0,.int .i64 0,.int .i64 0,(.v (.slice none 0 0))])]) (.seq (.region [o0 3 (.alloc [.int .i64 0,.int .i64 0,.int .i64 0,(.v (.slice none 0 0))])]) (.seq (.region [oF 4 0 1,oL 5 4,oF 6 0 3,oT 6 5]) (.seq (.region [oF 7 1 1,oL 8 7,oF 9 1 3,oT 9 8]) (.seq (.region [oF 10 2 1,oL 11 10,oF 12 2 3,oT 12 11]) (.seq (.region [oF 13 3 1,oL 14 13,oC 15 47 [.t 14],oF 16 3 3,oT 16 15]) (.seq (.region [oN 17 4 3,oS 4 2 17]) .ret))))))
theorem qet : zy Try.prog 16 = some ⟨18, J2, [.kd 2 4]⟩ := by kernel_rfl
theorem qk5 (H : List AO) (X : AV) (ts : List (Int × List Nat × Int)) (p c n : Int) (h : K5 H X ts) (hl : ts.length ≤ 1100000) :
    Am.Fn Try.prog 16 [.agg [.int .i64 p, .int .i64 c, .int .i64 n, X]] H (fun v H' => v = elemV p c n H.length ts.length ∧ H' = H ++ [.vec 18 (qq ts)]) := by
  refine Am.Fn.ofB qoc mixed qet (by simp) (V8 h) ?_
  have hX := qcp h
  have hH : H = [] ∨ ∃ o, H = [o] ∧ ((∃ l, o = .ro l ∧ AV.zs l = true) ∨ o = .dead) := by
    rcases h.2 with ⟨_, rfl, _⟩ | ⟨_, rfl, _⟩ | ⟨all, _, _, _, rfl, _⟩
    · exact .inl rfl
    · exact .inr ⟨_, rfl, .inr rfl⟩
    · exact .inr ⟨_, rfl, .inl ⟨_, rfl, qa all⟩⟩
  rcases hH with rfl | ⟨o, rfl, ho⟩
  · simp only [List.nil_append] at hX
    simp (maxSteps := 3000000) only [qf, zH, J2, Xe, Vz, Jz, Jr, Ja, w9, y9, Xt, iE, iN, iB, iC, iL, iD, iA, iS, iM, hX, hl, qb, zZ, ↓qp, ↓reduceIte, reduceCtorEq, nA, nM, nS, nE, nL, nD]; try simp only [qb, zY]
    refine ⟨rfl, rfl, rfl, rfl, rfl, ?_⟩
    refine Ret.zw [3] ⟨⟨by simp, rfl, by decide⟩, ?_⟩ (rs := [.agg [.int .i64 p, .int .i64 c, .int .i64 n, .slc 3 0 ts.length false 0]]) rfl rfl (by simp [xc]) ?_ ⟨?_, ?_⟩
    · simp only [qc _ _ (qa _), zK, ↓reduceIte, reduceCtorEq, nE, nB, nA]
    · intro j l; match j with
      | 0 => simp [zi, AO.ren]
      | j + 1 => simp [zi]
    · simp only [xc, elemV]
      simp only [zL, ↓reduceIte, reduceCtorEq, nE, nA]
    · simp only [qd _ _ (qa _), zL, ↓reduceIte, reduceCtorEq, nE, nA]
  · simp only [List.cons_append, List.nil_append] at hX
    simp (maxSteps := 3000000) only [qf, zH, J2, Xe, Vz, Jz, Jr, Ja, w9, y9, Xt, iE, iN, iB, iC, iL, iD, iA, iS, iM, hX, hl, qb, zZ, ↓qp, ↓reduceIte, reduceCtorEq, nA, nM, nS, nE, nL, nD]; try simp only [qb, zY]
    refine ⟨rfl, rfl, rfl, rfl, rfl, ?_⟩
    have ho1 : o.within [0, 4] = true := by
      rcases ho with ⟨l, rfl, hs⟩ | rfl
      · exact qc _ _ hs
      · rfl
    have ho2 : ∀ ρ, o.ren ρ = o := by
      intro ρ
      rcases ho with ⟨l, rfl, hs⟩ | rfl
      · simp only [AO.ren, qd _ _ hs]
      · rfl
    refine Ret.zw [0, 4] ⟨⟨by simp, rfl, by decide⟩, ?_⟩ (rs := [.agg [.int .i64 p, .int .i64 c, .int .i64 n, .slc 4 0 ts.length false 0]]) rfl rfl (by simp [xc]) ?_ ⟨?_, ?_⟩
    · simp only [qc _ _ (qa _), ho1, zK, ↓reduceIte, reduceCtorEq, nE, nB, nA]
    · intro j l; match j with
      | 0 =>
        simp only [zi, List.map_cons, List.getElem?_cons_zero, ho2]
        exact fun h => ⟨l, h⟩
      | 1 => simp [zi, AO.ren]
      | j + 2 => simp [zi]
    · simp only [xc, elemV]
      simp only [zL, ↓reduceIte, reduceCtorEq, nE, nA]
    · simp only [qd _ _ (qa _), ho2, zL, ↓reduceIte, reduceCtorEq, nE, nA]
def zn : BE := fun hp xs => match xs with
  | [.agg [.int .i64 p, .int .i64 c, .int .i64 n, X]] => match Zt hp X with
    | some ts => chk (ts.length ≤ 1100000) (some (elemV p c n hp.length ts.length, hp ++ [.vec 18 (qq ts)]))
    | none => none
  | _ => none
theorem qk0 : Am.Callee Try.prog 16 zn := Callee.fp fun hp xs v hp' he => by
  unfold zn at he
  split at he
  · rename_i p c n X
    split at he
    · rename_i ts hts
      obtain ⟨h1, he⟩ := qm he
      simp only [Option.some.injEq, Prod.mk.injEq] at he
      obtain ⟨rfl, rfl⟩ := he
      obtain ⟨bs, H, X', hX, e1, e2, e3, e4, e5, e6, e7, e8⟩ := Wk hts
      refine ⟨bs, [.agg [.int .i64 p, .int .i64 c, .int .i64 n, X']], H, _, _, qk5 H X' ts p c n hX h1, by simp only [AV.zt, AV.ren, e1], rfl, e3, e4, e5, ⟨⟨trivial, trivial, trivial, e6, trivial⟩, trivial⟩, ?_, ?_⟩
      · simp [elemV, AV.ren, AV.zt, Ren.ext]
      · rw [e8]; simp only [List.map_cons, List.map_nil, yc, qd _ _ (qa _)]
    · cases he
  · cases he
def B31 : z7 := (qpc.put 16 (zn))
theorem qw9 : ze Try.prog B31 := (qoc.put (qk0))
end Go.Proofs.Ytkgoadglalpbfaa

/- Contracts of functions of the program, and plain laws, part 2: each text of this part is proved without further condition. -/
import Derived.Test.YtfhckbbgmblhbaaZ1
namespace Go.Proofs.Ytfhckbbgmblhbaa
open Go.Am Go.Dia
open Nat renaming reduceAdd → nA, reduceMul → nM, reduceSub → nS, reduceEqDiff → nE, reduceLT → nL, reduceLeDiff → nD, reduceBEq → nB
open Int renaming reduceEq → iE, reduceNe → iN, reduceBEq → iB, reduceBNe → iC, reduceLT → iL, reduceLE → iD, reduceAdd → iA, reduceSub → iS, reduceMul → iM
set_option linter.unusedSimpArgs false
set_option linter.unusedVariables false
set_option maxRecDepth 4000
set_option maxHeartbeats 1000000
def tsE : Nat → List AE → Option (List (Int × List Nat × Int))
  | _, [] => some []
  | k, ⟨.agg l, .int .i64 v, b⟩ :: es => match vy l, tsE (k + 1) es with
    | some (n, m), some ts => if b = k then some ((n, m, v) :: ts) else none
    | _, _ => none
  | _, _ => none
theorem qgj : ∀ {ts : List (Int × List Nat × Int)} {k : Nat}, okT ts → tsE k (esT k ts) = some ts
  | [], _, _ => rfl
  | t :: l, k, h => by
    simp only [esT, tsE, qy (h t (List.mem_cons_self ..)), qgj (ts := l) (k := k + 1) fun u hu => h u (List.mem_cons_of_mem _ hu), if_true]
theorem qpf : ∀ {es : List AE} {k : Nat} {ts : List (Int × List Nat × Int)}, tsE k es = some ts → es = esT k ts ∧ okT ts
  | [], k, ts, h => by simp only [tsE, Option.some.injEq] at h; subst h; exact ⟨rfl, fun t ht => by cases ht⟩
  | ⟨key, val, b⟩ :: es, k, ts, h => by
    unfold tsE at h
    split at h
    · rename_i e; cases e
    · rename_i e; cases e
      split at h
      · rename_i n m ts' hd hts
        split at h
        · rename_i hb
          cases h; subst hb
          obtain ⟨rfl, hm⟩ := zl hd
          obtain ⟨e1, e2⟩ := qpf hts
          refine ⟨by rw [e1]; rfl, fun t ht => ?_⟩
          rcases List.mem_cons.1 ht with rfl | ht
          · exact hm
          · exact e2 t ht
        · cases h
      · cases h
    · cases h
theorem qoo {α : Type} : ∀ {l : List α} {i : Nat} {a : α}, l[i]? = some a → l.set i a = l
  | [], i, a, h => by simp at h
  | x :: l, 0, a, h => by simp only [List.getElem?_cons_zero, Option.some.injEq] at h; simp [h]
  | x :: l, i + 1, a, h => by simp only [List.getElem?_cons_succ] at h; simp [qoo h]
def qfy (ts : List (Int × List Nat × Int)) : Int := match ts with | t :: _ => t.1 | [] => 0
def j3 : BE := fun hp xs => match xs with
  | [.ptr b 0, .map m] => match rd hp b, hp[m]? with
    | some (.int .i64 p :: .int .i64 c :: .int .i64 n :: _), some (.map es ck) => match tsE 0 es with
      | some ts => chk (ck = ts.length ∧ (0 < p ∧ p ≤ 1000000) ∧ ts.length ≤ 1000000 ∧ (0 ≤ qfy ts ∧ qfy ts ≤ 8) ∧ (∀ t ∈ ts, t.1 = qfy ts) ∧ (ts.map txt).Nodup)
          (some (elemV p c (if zr p ts = [] then n else qfy ts) hp.length (zr p ts).length, hp ++ [.vec 18 (xb (Qs (zr p ts)))]))
      | none => none
    | _, _ => none
  | _ => none
theorem q4x : Am.Callee Try.prog 105 j3 := Callee.fp fun hp xs v hp' he => by
  unfold j3 at he
  split at he
  · rename_i b m
    split at he
    · rename_i p c n L es ck hrd hm
      split at he
      · rename_i ts hts
        obtain ⟨⟨h1, h2, h3, h4, h5, h6⟩, he⟩ := qm he
        simp only [Option.some.injEq, Prod.mk.injEq] at he
        obtain ⟨rfl, rfl⟩ := he
        obtain ⟨rfl, hok⟩ := qpf hts
        subst h1
        have hne : m ≠ b := by
          rintro rfl
          simp [rd, hm] at hrd
        refine ⟨[(b, 0), (m, 0)], [.ptr 0 0, .map 1], _, _, _, q64 p c n (qfy ts) ts h2 h4 hok h5 h6 h3, ?_, rfl, ⟨⟨_, hrd, by simp, by simp [AV.zg, AV.ren]⟩, ⟨rfl, ?_⟩, trivial⟩, ?_, ?_, ?_, ?_, ?_⟩
        · simp [ofL, AV.zg, AV.ren]
        · rw [Zv]; exact hm
        · simp [Wb, AO.wr, hne]
        · exact ⟨⟨trivial, trivial, trivial, trivial⟩, qd2 _ _ _, trivial⟩
        · exact ⟨by simp [AV.under], by simp [AV.under], trivial⟩
        · simp [elemV, AV.ren, AV.zg, Ren.ext]
        · simp only [after, upd, q7p, show (j5 ts).wr = true from rfl, Zv, q4e, bc, if_true, Bool.false_eq_true, if_false, qoo (show hp[m]? = some (j5 ts) from hm), qb _ _ (qc _), List.length_cons, List.length_nil, List.drop_succ_cons, List.drop_zero, List.map_cons, List.map_nil]
      · cases he
    · cases he
  · cases he
def B28 : zb := (B27.put 105 (j3))
theorem qz7 : qo Try.prog B28 := (qri.put (q4x))
theorem Gc : B28 105 = some (j3) := rfl
abbrev KD : List LT := [LT.int, LT.int, LT.int, LT.int, LT.int, LT.int, LT.int, LT.int, LT.int, LT.int, LT.int, LT.int, LT.int, LT.int, LT.int, LT.int, LT.int]
theorem qpt : ∀ (m m' : List Nat), m.length = m'.length → j6 (List.replicate m.length .int) (u8s m) (u8s m') = some (decide (m = m'))
  | [], [], _ => rfl
  | [], _ :: _, h => by simp at h
  | _ :: _, [], h => by simp at h
  | a :: m, b :: m', h => by
    have ih := qpt m m' (by simpa using h)
    simp only [u8s] at ih
    simp only [List.length_cons, List.replicate_succ, u8s, List.map_cons, j6, leq, if_true, ih]
    by_cases e : a = b
    · subst e; simp
    · have : ¬ ((a : Int) = (b : Int)) := by omega
      simp [e, this]
theorem qin {n n' : Int} {m m' : List Nat} (h : m.length = 16) (h' : m'.length = 16) : j6 KD (dia n m) (dia n' m') = some (decide (n = n' ∧ m = m')) := by
  have h1 := qpt m m' (by rw [h, h'])
  rw [h] at h1
  have h2 : KD = .int :: List.replicate 16 .int := rfl
  rw [h2]
  simp only [dia, j6, leq, if_true, h1]
  by_cases e : n = n'
  · subst e; simp
  · simp [e]
theorem qcj {n : Int} {m : List Nat} (h : m.length = 16) : kok KD true (.agg (dia n m)) = true := by
  simp only [kok, keq, qin h h]
def qil : AC := .seq (.region [o0 6 (.box (.t 2)),oZ 8]) (.seq (.region [oM 10 0,oM 11 1,oF 12 0 6,oL 13 12,o0 14 (.build [.int .i64 0,.int .i64 0,.int .i64 0,(.v (.slice none 0 0))] [(0,1,.t 10),(1,1,.t 11),(2,1,.t 13)]),oZ 9,oS 4 9 14]) (.seq (.region [o0 15 (.Ku),oN 16 17 6,oM 17 3,⟨none,none,.op (.Kn [.int,.int,.int,.int,.int,.int,.int,.int,.int,.int,.int,.int,.int,.int,.int,.int,.int] true (.t 15) (.t 16) (.t 17))⟩,oM 18 15,oC 19 105 [.t 9,.t 18],oS 4 8 19]) .ret))
theorem qr8 : zh Try.prog 103 = some ⟨20, qil, [.bg 8 4]⟩ := by kernel_rfl
theorem qzv (p c n : Int) (m : List Nat) (k : Int) (hp : 0 < p ∧ p ≤ 1000000) (hn : 0 ≤ n ∧ n ≤ 8) (hm : okD m) :
    Am.Fn Try.prog 103 [.int .i64 p, .int .i64 c, .agg (dia n m), .int .i64 k] [] (fun v H' => v = elemV p c n 0 (if k.emod p = 0 then ([] : List (Int × List Nat × Int)) else [(n, m, k.emod p)]).length ∧ H' = [.vec 18 (xb (if k.emod p = 0 then [] else [(n, m, k.emod p)]))]) := by
  refine Am.Fn.ofB qz7 mixed qr8 (by simp) (by simp) ?_
  have hr : zr p [(n, m, k)] = if k.emod p = 0 then [] else [(n, m, k.emod p)] := by
    unfold zr; by_cases h : k.emod p = 0 <;> simp [h]
  have hle : (if k.emod p = 0 then [] else [(n, m, k.emod p)]).length ≤ 1 := by split <;> simp
  generalize (if k.emod p = 0 then [] else [(n, m, k.emod p)]) = L at hr hle ⊢
  have hs : Qs L = L := by
    match L, hle with
    | [], _ => rfl
    | [t], _ => rfl
  have hsz : qfy [(n, m, k)] = n := rfl
  have hall : ∀ t ∈ [(n, m, k)], t.1 = n := by simp
  have hnd : [txt (n, m, k)].Nodup := by simp
  simp (maxSteps := 3000000) only [qf, zH, qil, Gc, j3, qe, hm.1, qy hm, qcj hm.1, qw hm.1, jb, wk, tsE, hp, hn, hsz, hall, hnd, hr, hs, elemV, ite_self, qa, zZ, ↓qp, ↓reduceIte, reduceCtorEq, nA, nM, nS, nE, nL, nD]; try simp only [qa, zY]
  refine ⟨rfl, hall, rfl, ?_⟩
  refine Ret.xy [4] ⟨⟨by simp, rfl, by decide⟩, ?_⟩ (rs := [.agg [.int .i64 p, .int .i64 c, .int .i64 n, .slc 4 0 L.length false 0]]) rfl rfl (by simp [xt]) ?_ ⟨?_, ?_⟩
  · simp only [qh _ _ (qc _), zK, ↓reduceIte, reduceCtorEq, nE, nB, nA]
  · intro j l; match j with
    | 0 => simp [zj, AO.ren]
    | j + 1 => simp [zj]
  · simp only [xt]
    simp only [zL, ↓reduceIte, reduceCtorEq, nE, nA]
  · simp only [qb _ _ (qc _), zL, ↓reduceIte, reduceCtorEq, nE, nA]
def wt : List AV → Option (AV × List AO)
  | [.int .i64 p, .int .i64 c, .agg l, .int .i64 k] => match vy l with
    | some (n, m) => chk ((0 < p ∧ p ≤ 1000000) ∧ (0 ≤ n ∧ n ≤ 8)) (some (elemV p c n 0 (if k.emod p = 0 then ([] : List (Int × List Nat × Int)) else [(n, m, k.emod p)]).length, [.vec 18 (xb (if k.emod p = 0 then [] else [(n, m, k.emod p)]))]))
    | none => none
  | _ => none
theorem qz5 : Am.Callee Try.prog 103 (kx wt) :=
  Am.Callee.new fun xs v H he => by
    unfold wt at he
    split at he
    · rename_i p c l k
      split at he
      · rename_i n m hd
        obtain ⟨⟨h1, h2⟩, he⟩ := qm he
        obtain ⟨rfl, hm⟩ := zl hd
        have e1 := congrArg Prod.fst (Option.some.inj he)
        have e2 := congrArg Prod.snd (Option.some.inj he)
        simp only at e1 e2
        subst e1; subst e2
        exact ⟨by simp only [AV.zf, AV.zo, qg, Bool.and_self], qzv p c n m k h1 h2 hm⟩
      · cases he
    · cases he
def B29 : zb := (B28.put 103 (kx wt))
theorem q6g : qo Try.prog B29 := (qz7.put (qz5))
theorem V1 (p c n : Int) (b k m : Nat) : AV.ren (Yf m) (.agg [.int .i64 p, .int .i64 c, .int .i64 n, .slc b 0 k false 0]) = .agg [.int .i64 p, .int .i64 c, .int .i64 n, .slc (m + b) 0 k false 0] := rfl
def B30 : zb := B29
theorem qx4 : qo Try.prog B30 := q6g
theorem qmf (p c n e : Int) (b k m : Nat) : AV.ren (Yf m) (.tup [.agg [.int .i64 p, .int .i64 c, .int .i64 n, .slc b 0 k false 0], .int .i64 e]) = .tup [.agg [.int .i64 p, .int .i64 c, .int .i64 n, .slc (m + b) 0 k false 0], .int .i64 e] := rfl
def q8s : zb := B30
theorem q26 : qo Try.prog q8s := qx4
def q4b (hp : List AO) (X : AV) : Option (List (Int × List Nat × Int)) := match X with
  | .v (.slice none 0 0) => some []
  | .slc b 0 n true cap => match hp[b]? with
    | some .dead => if n = 0 ∧ cap = 0 then some [] else none
    | some (.ro l) => match qah (l.length / 18) l with
      | some all => if l.length = all.length * 18 ∧ n ≤ cap ∧ n ≤ all.length then some (all.take n) else none
      | none => none
    | _ => none
  | _ => none
def q7m : zb := q8s
theorem q2h : qo Try.prog q7m := q26
def q7i : zb := q7m
theorem q37 : qo Try.prog q7i := q2h
def q75 : zb := q7i
theorem q17 : qo Try.prog q75 := q37
def B31 : zb := q75
theorem q4z : qo Try.prog B31 := q17
theorem qis {α : Type} (l : List α) (a b k : Nat) (h : a ≤ b) : List.take a (List.drop k l) = List.take a (List.take b (List.drop k l)) := by
  rw [List.take_take, Nat.min_eq_left h]
theorem qip {ts : List (Int × List Nat × Int)} {i : Nat} (h : okT ts) (hi : i < ts.length) : List.take 17 (List.drop (i * 18) (xb ts)) = dia ts[i].1 ts[i].2.1 := by
  rw [qis _ 17 18 _ (by decide), Zw h hi]
  have := qcz (h _ (List.getElem_mem hi))
  rwa [List.drop_zero] at this
theorem qox {ts : List (Int × List Nat × Int)} {i : Nat} (h : okT ts) (hi : i < ts.length) : (xb ts)[i * 18 + 17]? = some (.int .i64 ts[i].2.2) := by
  have h1 := Qr (h _ (List.getElem_mem hi))
  rw [← Zw h hi, List.getElem?_take, if_pos (by decide), List.getElem?_drop] at h1
  exact h1
def Gr : List AV → Option AV
  | [.agg l, .agg l'] => match vy l, vy l' with
    | some (n, m), some (n', m') => chk ((0 ≤ n ∧ n ≤ 8) ∧ 0 ≤ n' ∧ n' ≤ 8) (some (.bool (Op.bytesLess (vb n.toNat m) (vb n'.toNat m'))))
    | _, _ => none
  | _ => none
theorem qi9 : B30 66 = some (qk uk) := rfl
theorem qim : B30 91 = some (qk Ke) := rfl
theorem qcn : B30 137 = some (qk wq) := rfl
theorem qd7 : B30 150 = some (qk qc4) := rfl
def qfl : AC := .seq (.region [o0 2 (.box (.t 0)),o0 3 (.box (.t 1)),oB 4 false]) (.seq (.draw true [oN 5 17 2,oN 7 17 3,oC 6 150 [.t 5],oC 8 150 [.t 7],oP 9 .lss 6 8,oM 4 9]) .ret)
theorem qph : zh Try.prog 138 = some ⟨10, qfl, [.slot 4]⟩ := by kernel_rfl
theorem q6r (n n' : Int) (m m' : List Nat) (hm : okD m) (hm' : okD m') (hn : 0 ≤ n ∧ n ≤ 8) (hn' : 0 ≤ n' ∧ n' ≤ 8) :
    Am.Fn Try.prog 138 [.agg (dia n m), .agg (dia n' m')] [] (fun v H' => v = .bool (Op.bytesLess (vb n.toNat m) (vb n'.toNat m')) ∧ H' = []) := by
  refine Am.Fn.xp (R := fun v => v = _) qx4 mixed qph (by simp) (by simp) ?_
  simp (maxSteps := 3000000) only [qf, zH, qfl, qi9, qim, qcn, qd7, uk, Ke, wq, qc4, qe, hm.1, hm'.1, qy hm, qy hm', qw hm.1, qw hm'.1, hn, hn', iE, iN, iB, iC, iL, iD, iA, iS, iM, qa, zZ, ↓qp, ↓reduceIte, reduceCtorEq, nA, nM, nS, nE, nL, nD]; try simp only [qa, zY]
  exact ⟨⟨_, rfl⟩, _, rfl⟩
theorem q44 : Am.Callee Try.prog 138 (qk Gr) := Am.Callee.plain fun xs v he => by
  unfold Gr at he
  split at he
  · split at he
    · rename_i l l' n m n' m' hd hd'
      obtain ⟨⟨h1, h2⟩, he⟩ := qm he
      cases he
      obtain ⟨rfl, hm⟩ := zl hd
      obtain ⟨rfl, hm'⟩ := zl hd'
      exact ⟨by simp only [AV.zf, AV.zo, qg, Bool.and_self], rfl, q6r _ _ _ _ hm hm' h1 h2⟩
    · cases he
  · cases he
def B32 : zb := (B31.put 138 (qk Gr))
theorem q6j : qo Try.prog B32 := (q4z.put (q44))
def zT : Int × List Nat × Int := (0, [], 0)
theorem qab {ts : List (Int × List Nat × Int)} {i : Nat} (h : i < ts.length) : ts.getD i zT = ts[i] := by
  rw [List.getD_eq_getElem?_getD, List.getElem?_eq_getElem h]; rfl
def B33 : zb := B32
theorem q6y : qo Try.prog B33 := q6j
theorem Y1 {t : Int × List Nat × Int} (h : okD t.2.1) : List.take 17 (trm t) = dia t.1 t.2.1 := by
  have := qcz h
  rwa [List.drop_zero] at this
def B34 : zb := B33
theorem q6w : qo Try.prog B34 := q6y
def qdk (ts : List (Int × List Nat × Int)) (n : Int) (m : List Nat) : Nat := (ts.takeWhile fun t => ltT t (n, m, 0)).length
def qgo (p : Int) (ts : List (Int × List Nat × Int)) (n : Int) (m : List Nat) (k : Int) : List (Int × List Nat × Int) :=
  if k.emod p = 0 then ts else
  if qdk ts n m < ts.length ∧ (ts.getD (qdk ts n m) zT).1 = n ∧ (ts.getD (qdk ts n m) zT).2.1 = m then
    ts.take (qdk ts n m) ++ (if ((ts.getD (qdk ts n m) zT).2.2 + k.emod p).emod p = 0 then [] else [(n, m, ((ts.getD (qdk ts n m) zT).2.2 + k.emod p).emod p)]) ++ ts.drop (qdk ts n m + 1)
  else ts.take (qdk ts n m) ++ (n, m, k.emod p) :: ts.drop (qdk ts n m)
def q8o (n : Int) (ts : List (Int × List Nat × Int)) : Prop := ts.length ≤ 1000000 ∧ (∀ t ∈ ts, t.1 = n) ∧ (∀ t ∈ ts, -1000000000000 ≤ t.2.2 ∧ t.2.2 ≤ 1000000000000) ∧ (ts.Pairwise fun a b => ltT a b = true)
instance {n : Int} {ts : List (Int × List Nat × Int)} : Decidable (q8o n ts) := by unfold q8o; infer_instance
def B35 : zb := B34
theorem qr6 : qo Try.prog B35 := q6w
def U0 : AC := .seq (.region [o0 1 (.box (.t 0)),oZ 2]) (.seq (.region [oF 3 0 1,oL 4 3,oF 5 1 1,oL 6 5,oF 7 2 1,oL 8 7,o0 9 (.gi 0 [] []),o0 10 (.build [.int .i64 0,.int .i64 0,.int .i64 0,(.v (.slice none 0 0))] [(0,1,.t 4),(1,1,.t 6),(2,1,.t 8),(3,1,.t 9)]),oS 4 2 10]) .ret)
theorem qc3 : zh Try.prog 97 = some ⟨11, U0, [.bg 2 4]⟩ := by kernel_rfl
theorem qla (p c n : Int) (k : Nat) :
    Am.Fn Try.prog 97 [elemV p c n 0 k] [.ro []] (fun v H' => v = elemV p c n 1 0 ∧ H' = [.ro [], .vec 18 []]) := by
  refine Am.Fn.ofW qr6 mixed qc3 (by simp [elemV, AV.qt, AV.under]) (qcb rfl) ?_
  simp (maxSteps := 3000000) only [qf, zH, U0, qa, elemV, iE, iN, iB, iC, iL, iD, iA, iS, iM, rep, qa, zZ, ↓qp, ↓reduceIte, reduceCtorEq, nA, nM, nS, nE, nL, nD]; try simp only [qa, zY]
  refine ⟨rfl, _, qu.trans (qu.qv [2]) (qu.vec 3 0 18 (by decide) rfl rfl rfl rfl), ?_⟩
  refine Ret.xy [0, 3] ⟨⟨by simp, rfl, by decide⟩, ?_⟩ (rs := [.agg [.int .i64 p, .int .i64 c, .int .i64 n, .slc 3 0 0 false 0]]) ?_ rfl (by simp [xt]) ?_ ⟨?_, ?_⟩
  · simp only [qv, zu, zV, ↓reduceIte, nE, reduceCtorEq, nB]
    simp only [zK, ↓reduceIte, reduceCtorEq, nE, nB, nA]
  · simp only [qv, zu, zV, ↓reduceIte, nE, reduceCtorEq, nB]
    rfl
  · intro j l; match j with
    | 0 => simp [zj, qal, AO.xh, AO.ren]
    | 1 => simp [zj, qal, AO.xh, AO.ren]
    | j + 2 => simp [zj]
  · simp only [xt]
    simp only [zL, ↓reduceIte, reduceCtorEq, nE, nA]
  · rfl
def Xu : BE := fun hp xs => match xs with
  | [.agg [.int .i64 p, .int .i64 c, .int .i64 n, .slc b 0 k false 0]] => match rd hp b with
    | some _ => some (elemV p c n hp.length 0, hp ++ [.vec 18 []])
    | none => none
  | _ => none
theorem q2e : Am.Callee Try.prog 97 Xu := Callee.fp fun hp xs v hp' he => by
  unfold Xu at he
  split at he
  · rename_i p c n b k
    split at he
    · rename_i L hL
      simp only [Option.some.injEq, Prod.mk.injEq] at he
      obtain ⟨rfl, rfl⟩ := he
      refine ⟨[(b, 0)], [elemV p c n 0 k], _, _, _, qla p c n k, by simp [elemV, AV.ren, AV.zg, ofL], rfl, ⟨⟨L, hL, by simp, by simp [AV.zg]⟩, trivial⟩, rfl, ⟨trivial, trivial⟩, ⟨⟨trivial, trivial, trivial, by simp [AV.under], trivial⟩, trivial⟩, by simp [elemV, AV.ren, AV.zg, Ren.ext], ?_⟩
      simp [after, upd, AO.wr, AO.ren, AV.zg]
    · cases he
  · cases he
def B36 : zb := (B35.put 97 (Xu))
theorem q5l : qo Try.prog B36 := (qr6.put (q2e))
theorem qhg {n n' : Nat} {m m' : List Nat} (h : isS n m = true) (h' : isS n' m' = true) (hm : m.length = 16) (hm' : m'.length = 16) (e : vb n m = vb n' m') : n = n' ∧ m = m' := by
  rw [V2 n m hm] at h
  rw [V2 n' m' hm'] at h'
  simp only [isI, Bool.and_eq_true, beq_iff_eq] at h h'
  have h1 := h.2.2
  rw [e, h'.2.2] at h1
  simp only [Option.some.injEq, Prod.mk.injEq] at h1
  exact ⟨h1.1.symm, h1.2.symm⟩
structure z8 (p n : Int) (ts : List (Int × List Nat × Int)) : Prop where
  ok : okT ts
  dia : ∀ t ∈ ts, t.1 = n ∧ isS n.toNat t.2.1 = true
  fac : ∀ t ∈ ts, 1 ≤ t.2.2 ∧ t.2.2 ≤ p - 1
  up : upT ts
def qba (p n : Int) (m : List Nat) (kk : Int) : List (Int × List Nat × Int) → List (Int × List Nat × Int)
  | [] => [(n, m, kk)]
  | t :: l => if ltT t (n, m, 0) then t :: qba p n m kk l else
    if t.1 = n ∧ t.2.1 = m then (if (t.2.2 + kk).emod p = 0 then [] else [(n, m, (t.2.2 + kk).emod p)]) ++ l else (n, m, kk) :: t :: l
theorem qwp (t : Int × List Nat × Int) (l : List (Int × List Nat × Int)) (n : Int) (m : List Nat) : qdk (t :: l) n m = if ltT t (n, m, 0) = true then qdk l n m + 1 else 0 := by
  unfold qdk
  rw [List.takeWhile_cons]
  split <;> rfl
theorem qfz (p n : Int) (m : List Nat) (k : Int) (ts : List (Int × List Nat × Int)) : qgo p ts n m k = if k.emod p = 0 then ts else qba p n m (k.emod p) ts := by
  unfold qgo
  split
  · rfl
  · rename_i hk
    induction ts with
    | nil => simp [qdk, qba]
    | cons t l ih =>
      rw [qwp]
      unfold qba
      by_cases h : ltT t (n, m, 0) = true
      · simp only [if_pos h, List.length_cons, Nat.add_lt_add_iff_right, List.getD_cons_succ, List.take_succ_cons, List.drop_succ_cons]
        rw [← ih]
        split <;> simp
      · simp only [if_neg h, List.length_cons, List.getD_cons_zero, List.take_zero, List.drop_zero, List.nil_append, List.drop_succ_cons]
        by_cases h2 : t.1 = n ∧ t.2.1 = m
        · rw [if_pos ⟨by omega, h2⟩, if_pos h2]
        · rw [if_neg (fun h3 => h2 h3.2), if_neg h2]
theorem qn1 {p n : Int} {m : List Nat} {kk : Int} : ∀ {ts : List (Int × List Nat × Int)}, (qba p n m kk ts).length ≤ ts.length + 1
  | [] => Nat.le_refl _
  | t :: l => by
    unfold qba
    split
    · have := qn1 (p := p) (n := n) (m := m) (kk := kk) (ts := l)
      simp only [List.length_cons]; omega
    · split
      · split <;> simp <;> omega
      · simp
theorem Yn {p n : Int} {m : List Nat} {kk : Int} {u : Int × List Nat × Int} : ∀ {ts : List (Int × List Nat × Int)}, u ∈ qba p n m kk ts → u ∈ ts ∨ (u.1 = n ∧ u.2.1 = m ∧ (u.2.2 = kk ∨ ∃ f : Int, u.2.2 = (f + kk).emod p ∧ (f + kk).emod p ≠ 0))
  | [], h => by
    rw [qba, List.mem_singleton] at h
    subst h; exact .inr ⟨rfl, rfl, .inl rfl⟩
  | t :: l, h => by
    unfold qba at h
    split at h
    · rcases List.mem_cons.1 h with rfl | h
      · exact .inl (List.mem_cons_self ..)
      · rcases Yn h with h | h
        · exact .inl (List.mem_cons_of_mem _ h)
        · exact .inr h
    · split at h
      · split at h
        · exact .inl (List.mem_cons_of_mem _ h)
        · rename_i hne
          rcases List.mem_cons.1 h with rfl | h
          · exact .inr ⟨rfl, rfl, .inr ⟨t.2.2, rfl, hne⟩⟩
          · exact .inl (List.mem_cons_of_mem _ h)
      · rcases List.mem_cons.1 h with rfl | h
        · exact .inr ⟨rfl, rfl, .inl rfl⟩
        · exact .inl h
theorem q45 {t u u' : Int × List Nat × Int} (h1 : u.1 = u'.1) (h2 : u.2.1 = u'.2.1) : ltT t u = ltT t u' := by unfold ltT txt; rw [h1, h2]
theorem q2u {t t' u : Int × List Nat × Int} (h1 : t.1 = t'.1) (h2 : t.2.1 = t'.2.1) : ltT t u = ltT t' u := by unfold ltT txt; rw [h1, h2]
theorem qup {p n : Int} {m : List Nat} {kk : Int} (hm : okD m) (hs : isS n.toNat m = true) : ∀ {ts : List (Int × List Nat × Int)}, okT ts → (∀ t ∈ ts, t.1 = n ∧ isS n.toNat t.2.1 = true) → upT ts → upT (qba p n m kk ts)
  | [], _, _, _ => by unfold qba upT; exact List.pairwise_singleton _ _
  | t :: l, ho, hd, hu => by
    have hu' := List.pairwise_cons.1 hu
    have ih := qup (p := p) (kk := kk) hm hs (ts := l) (fun u h => ho u (List.mem_cons_of_mem _ h)) (fun u h => hd u (List.mem_cons_of_mem _ h)) hu'.2
    unfold qba
    split
    · rename_i hlt
      refine List.pairwise_cons.2 ⟨fun u hu2 => ?_, ih⟩
      rcases Yn hu2 with h | ⟨h1, h2, _⟩
      · exact hu'.1 u h
      · rw [q45 (u' := (n, m, 0)) h1 h2]; exact hlt
    · rename_i hlt
      split
      · rename_i he
        split
        · exact hu'.2
        · refine List.pairwise_cons.2 ⟨fun u hu2 => ?_, hu'.2⟩
          rw [q2u (t' := t) he.1.symm he.2.symm]
          exact hu'.1 u hu2
      · rename_i he
        have hx : ltT (n, m, kk) t = true := by
          cases hb : ltT (n, m, kk) t with
          | true => rfl
          | false =>
            exfalso
            have hdt := hd t (List.mem_cons_self ..)
            have e := X7 _ _ (Bool.eq_false_iff.2 hlt) hb
            unfold txt at e
            simp only [hdt.1] at e
            exact he ⟨hdt.1, (qhg hdt.2 hs (ho t (List.mem_cons_self ..)).1 hm.1 e).2⟩
        refine List.pairwise_cons.2 ⟨fun u hu2 => ?_, hu⟩
        rcases List.mem_cons.1 hu2 with rfl | h
        · exact hx
        · exact Qx _ _ _ hx (hu'.1 u h)
theorem qk3 {p n : Int} {m : List Nat} {k : Int} {ts : List (Int × List Nat × Int)} (hp : 0 < p) (hm : okD m) (hs : isS n.toNat m = true) (h : z8 p n ts) : z8 p n (qgo p ts n m k) := by
  rw [qfz]
  split
  · exact h
  · rename_i hk
    have b1 : 0 ≤ k.emod p := Int.emod_nonneg k (by omega)
    have b2 : k.emod p < p := Int.emod_lt_of_pos k hp
    refine ⟨fun u hu => ?_, fun u hu => ?_, fun u hu => ?_, qup hm hs h.ok h.dia h.up⟩
    · rcases Yn hu with h1 | ⟨_, h2, _⟩
      · exact h.ok u h1
      · rw [h2]; exact hm
    · rcases Yn hu with h1 | ⟨h1, h2, _⟩
      · exact h.dia u h1
      · rw [h2]; exact ⟨h1, hs⟩
    · rcases Yn hu with h1 | ⟨_, _, h3 | ⟨f, h3, h4⟩⟩
      · exact h.fac u h1
      · omega
      · have c1 : 0 ≤ (f + k.emod p).emod p := Int.emod_nonneg _ (by omega)
        have c2 : (f + k.emod p).emod p < p := Int.emod_lt_of_pos _ hp
        omega
theorem qp1 {p n : Int} {m : List Nat} {k : Int} {ts : List (Int × List Nat × Int)} : (qgo p ts n m k).length ≤ ts.length + 1 := by
  rw [qfz]; split
  · omega
  · exact qn1
def qbd (p n k : Int) (acc b : List (Int × List Nat × Int)) : List (Int × List Nat × Int) := b.foldl (fun acc t => qgo p acc n t.2.1 (k * t.2.2)) acc
theorem qdp {p n k : Int} {a : List (Int × List Nat × Int)} (hp : 0 < p) (ha : z8 p n a) : ∀ {b : List (Int × List Nat × Int)}, z8 p n b → z8 p n (qbd p n k a b) ∧ (qbd p n k a b).length ≤ a.length + b.length := by
  intro b
  unfold qbd
  induction b generalizing a with
  | nil => exact fun _ => ⟨ha, by simp⟩
  | cons t b ih =>
    intro hb
    have h1 := qk3 (k := k * t.2.2) hp (hb.ok t (List.mem_cons_self ..)) (hb.dia t (List.mem_cons_self ..)).2 ha
    have h2 := qp1 (p := p) (n := n) (m := t.2.1) (k := k * t.2.2) (ts := a)
    have h3 := ih h1 ⟨fun u h => hb.ok u (List.mem_cons_of_mem _ h), fun u h => hb.dia u (List.mem_cons_of_mem _ h), fun u h => hb.fac u (List.mem_cons_of_mem _ h), (List.pairwise_cons.1 hb.up).2⟩
    rw [List.foldl_cons]
    refine ⟨h3.1, ?_⟩
    have := h3.2
    simp only [List.length_cons]; omega
def Ug (p n : Int) (ts : List (Int × List Nat × Int)) : Prop := (∀ t ∈ ts, t.1 = n ∧ isS n.toNat t.2.1 = true) ∧ (∀ t ∈ ts, 1 ≤ t.2.2 ∧ t.2.2 ≤ p - 1) ∧ (ts.Pairwise fun a b => ltT a b = true)
instance {p n : Int} {ts : List (Int × List Nat × Int)} : Decidable (Ug p n ts) := by unfold Ug; infer_instance
theorem Ug.qfv {p n : Int} {ts : List (Int × List Nat × Int)} (h : Ug p n ts) (ho : okT ts) : z8 p n ts := ⟨ho, h.1, h.2.1, h.2.2⟩
theorem z8.dec {p n : Int} {ts : List (Int × List Nat × Int)} (h : z8 p n ts) : Ug p n ts := ⟨h.dia, h.fac, h.up⟩
def B37 : zb := B36
theorem qed : qo Try.prog B37 := q5l
def Za (n : Int) (m : List Nat) : List (Int × List Nat × Int) → Option Nat
  | [] => none
  | t :: l => if n = t.1 ∧ m = t.2.1 then some 0 else (Za n m l).map (· + 1)
theorem Yq {n : Int} {m : List Nat} (hm : m.length = 16) : ∀ {ts : List (Int × List Nat × Int)} {k i : Nat}, okT ts →
    wk KD true (.agg (dia n m)) (esT k ts) i = some ((Za n m ts).map fun j => (i + j, ⟨.agg (dia n m), .int .i64 (ts.getD j zT).2.2, k + j⟩))
  | [], k, i, _ => rfl
  | t :: l, k, i, h => by
    have h1 := (h t (List.mem_cons_self ..)).1
    have ih := Yq (n := n) hm (ts := l) (k := k + 1) (i := i + 1) fun u hu => h u (List.mem_cons_of_mem _ hu)
    unfold esT wk
    simp only [keq, qin hm h1, Za]
    by_cases e : n = t.1 ∧ m = t.2.1
    · simp only [decide_eq_true e, if_pos e, Option.map_some, Nat.add_zero, List.getD_cons_zero]
      obtain ⟨rfl, rfl⟩ := e
      rfl
    · simp only [decide_eq_false e, if_neg e, ih, Option.map_map]
      congr 1
      congr 1
      funext j
      simp only [Function.comp, List.getD_cons_succ]
      rw [show i + 1 + j = i + (j + 1) by omega, show k + 1 + j = k + (j + 1) by omega]
def gu (n : Int) (m : List Nat) (f : Int) : List (Int × List Nat × Int) → List (Int × List Nat × Int)
  | [] => [(n, m, f)]
  | t :: l => if n = t.1 ∧ m = t.2.1 then (t.1, t.2.1, t.2.2 + f) :: l else t :: gu n m f l
theorem ql0 : ∀ {a b : List (Int × List Nat × Int)} {k : Nat}, esT k (a ++ b) = esT k a ++ esT (k + a.length) b
  | [], b, k => rfl
  | t :: a, b, k => by
    simp only [List.cons_append, esT, ql0, List.length_cons]
    rw [show k + 1 + a.length = k + (a.length + 1) by omega]
theorem qmy {n v : Int} {m : List Nat} : ∀ {ts : List (Int × List Nat × Int)} {k j : Nat}, (esT k ts).set j ⟨.agg (dia n m), .int .i64 v, k + j⟩ = esT k (ts.set j (n, m, v))
  | [], k, j => rfl
  | t :: ts, k, 0 => rfl
  | t :: ts, k, j + 1 => by
    simp only [esT, List.set_cons_succ]
    rw [show k + (j + 1) = k + 1 + j by omega, qmy]
theorem qlt {v : Int} : ∀ {ts : List (Int × List Nat × Int)} {k j : Nat}, (esT k ts).modify j (fun x => ⟨x.key, .int .i64 v, x.born⟩) = esT k (ts.modify j fun t => (t.1, t.2.1, v))
  | [], k, j => by cases j <;> rfl
  | t :: ts, k, 0 => rfl
  | t :: ts, k, j + 1 => by
    simp only [esT, List.modify_succ_cons, qlt]
theorem qgs : ∀ {ts : List (Int × List Nat × Int)} {k j : Nat}, j < ts.length → (esT k ts).findIdx? (fun x => (x.born : Int) == ((k + j : Nat) : Int)) = some j
  | t :: ts, k, 0, _ => by simp [esT, List.findIdx?_cons]
  | t :: ts, k, j + 1, h => by
    have := qgs (ts := ts) (k := k + 1) (j := j) (by simpa using h)
    rw [show k + 1 + j = k + (j + 1) by omega] at this
    have hne : ((k : Int) == ((k + (j + 1) : Nat) : Int)) = false := by rw [beq_eq_false_iff_ne]; omega
    simp only [esT, List.findIdx?_cons, hne, this, Bool.false_eq_true, if_false, Option.map_some]
theorem U8 {n : Int} {m : List Nat} : ∀ {ts : List (Int × List Nat × Int)} {j : Nat}, Za n m ts = some j → j < ts.length ∧ (ts.getD j zT).1 = n ∧ (ts.getD j zT).2.1 = m ∧ ∀ f, gu n m f ts = ts.set j (n, m, (ts.getD j zT).2.2 + f)
  | t :: l, j, h => by
    unfold Za at h
    split at h
    · rename_i e
      cases h
      obtain ⟨rfl, rfl⟩ := e
      exact ⟨by simp, rfl, rfl, fun f => by simp [gu]⟩
    · rename_i e
      cases hi : Za n m l with
      | none => rw [hi] at h; cases h
      | some i =>
        rw [hi] at h; cases h
        obtain ⟨h1, h2, h3, h4⟩ := U8 hi
        exact ⟨by simp; omega, by simpa using h2, by simpa using h3, fun f => by simp [gu, if_neg e, h4]⟩
theorem qd6 {n : Int} {m : List Nat} : ∀ {ts : List (Int × List Nat × Int)}, Za n m ts = none → (∀ f, gu n m f ts = ts ++ [(n, m, f)]) ∧ ∀ t ∈ ts, ¬ (n = t.1 ∧ m = t.2.1)
  | [], _ => ⟨fun _ => rfl, by simp⟩
  | t :: l, h => by
    unfold Za at h
    split at h
    · cases h
    · rename_i e
      have hi : Za n m l = none := by
        cases hi : Za n m l with
        | none => rfl
        | some i => rw [hi] at h; cases h
      obtain ⟨h1, h2⟩ := qd6 hi
      refine ⟨fun f => by simp [gu, if_neg e, h1], fun u hu => ?_⟩
      rcases List.mem_cons.1 hu with rfl | hu
      · exact e
      · exact h2 u hu
structure qak (n M : Int) (ts : List (Int × List Nat × Int)) : Prop where
  ok : okT ts
  dia : ∀ t ∈ ts, t.1 = n ∧ isS n.toNat t.2.1 = true
  fac : ∀ t ∈ ts, -M ≤ t.2.2 ∧ t.2.2 ≤ M
  one : ts.Pairwise fun a b => a.2.1 ≠ b.2.1
theorem Wa {n f : Int} {m : List Nat} {u : Int × List Nat × Int} : ∀ {ts : List (Int × List Nat × Int)}, u ∈ gu n m f ts → (∃ t ∈ ts, u.1 = t.1 ∧ u.2.1 = t.2.1 ∧ (u.2.2 = t.2.2 ∨ u.2.2 = t.2.2 + f)) ∨ (u = (n, m, f) ∧ ∀ t ∈ ts, ¬ (n = t.1 ∧ m = t.2.1))
  | [], h => by
    rw [gu, List.mem_singleton] at h
    exact .inr ⟨h, by simp⟩
  | t :: l, h => by
    unfold gu at h
    split at h
    · rcases List.mem_cons.1 h with rfl | h
      · exact .inl ⟨t, List.mem_cons_self .., rfl, rfl, .inr rfl⟩
      · exact .inl ⟨u, List.mem_cons_of_mem _ h, rfl, rfl, .inl rfl⟩
    · rename_i e
      rcases List.mem_cons.1 h with rfl | h
      · exact .inl ⟨u, List.mem_cons_self .., rfl, rfl, .inl rfl⟩
      · rcases Wa h with ⟨v, hv, h1⟩ | ⟨h1, h2⟩
        · exact .inl ⟨v, List.mem_cons_of_mem _ hv, h1⟩
        · refine .inr ⟨h1, fun v hv => ?_⟩
          rcases List.mem_cons.1 hv with rfl | hv
          · exact e
          · exact h2 v hv
theorem qie {n f : Int} {m : List Nat} : ∀ {ts : List (Int × List Nat × Int)}, (∀ t ∈ ts, t.1 = n) → (ts.Pairwise fun a b => a.2.1 ≠ b.2.1) → (gu n m f ts).Pairwise fun a b => a.2.1 ≠ b.2.1
  | [], _, _ => List.pairwise_singleton _ _
  | t :: l, hs, h => by
    have h' := List.pairwise_cons.1 h
    unfold gu
    split
    · exact List.pairwise_cons.2 ⟨fun u hu => h'.1 u hu, h'.2⟩
    · rename_i e
      refine List.pairwise_cons.2 ⟨fun u hu => ?_, qie (fun u hu => hs u (List.mem_cons_of_mem _ hu)) h'.2⟩
      rcases Wa hu with ⟨v, hv, _, h2, _⟩ | ⟨rfl, _⟩
      · rw [h2]; exact h'.1 v hv
      · intro e2; exact e ⟨(hs t (List.mem_cons_self ..)).symm, e2.symm⟩
theorem qo9 {n f M F : Int} {m : List Nat} {ts : List (Int × List Nat × Int)} (hm : okD m) (hs : isS n.toNat m = true) (hf : -F ≤ f ∧ f ≤ F) (hM : 0 ≤ M) (h : qak n M ts) : qak n (M + F) (gu n m f ts) := by
  refine ⟨fun u hu => ?_, fun u hu => ?_, fun u hu => ?_, qie (fun t ht => (h.dia t ht).1) h.one⟩
  · rcases Wa hu with ⟨v, hv, _, h2, _⟩ | ⟨rfl, _⟩
    · rw [h2]; exact h.ok v hv
    · exact hm
  · rcases Wa hu with ⟨v, hv, h1, h2, _⟩ | ⟨rfl, _⟩
    · rw [h1, h2]; exact h.dia v hv
    · exact ⟨rfl, hs⟩
  · rcases Wa hu with ⟨v, hv, _, _, h3⟩ | ⟨rfl, _⟩
    · have := h.fac v hv
      rcases h3 with h3 | h3 <;> omega
    · simp only; omega
def xk (k : Int) (acc b : List (Int × List Nat × Int)) : List (Int × List Nat × Int) := b.foldl (fun acc t => gu t.1 t.2.1 (k * t.2.2) acc) acc
theorem qgp {k : Int} {a b : List (Int × List Nat × Int)} {i : Nat} (h : i < b.length) : xk k a (b.take (i + 1)) = gu b[i].1 b[i].2.1 (k * b[i].2.2) (xk k a (b.take i)) := by
  rw [List.take_succ_eq_append_getElem h, xk, List.foldl_append]; rfl
theorem qhl {n f : Int} {m : List Nat} : ∀ {ts : List (Int × List Nat × Int)}, (gu n m f ts).length ≤ ts.length + 1
  | [] => Nat.le_refl _
  | t :: l => by
    unfold gu
    split
    · simp
    · have := qhl (n := n) (m := m) (f := f) (ts := l)
      simp only [List.length_cons]; omega
def cf (m : List Nat) : List (Int × List Nat × Int) → Int
  | [] => 0
  | t :: l => (if t.2.1 = m then t.2.2 else 0) + cf m l
theorem qzm {m : List Nat} : ∀ {a b : List (Int × List Nat × Int)}, cf m (a ++ b) = cf m a + cf m b
  | [], b => by simp [cf]
  | t :: a, b => by simp only [List.cons_append, cf, qzm (a := a)]; omega
theorem q2p {m : List Nat} {a b : List (Int × List Nat × Int)} (h : a.Perm b) : cf m a = cf m b := by
  induction h with
  | nil => rfl
  | cons x _ ih => simp only [cf, ih]
  | swap x y l => simp only [cf]; omega
  | trans _ _ h1 h2 => rw [h1, h2]
theorem gw (p a : Int) : p ∣ a.emod p - a := ⟨-(a / p), by
  have : a.emod p = a - p * (a / p) := Int.emod_def a p
  rw [this, Int.mul_neg]; omega⟩
theorem u5 {p x y z : Int} (h1 : p ∣ x) (h2 : p ∣ y) (e : z = x + y) : p ∣ z := e ▸ Int.dvd_add h1 h2
theorem Yg {p x y z : Int} (h1 : p ∣ x) (h2 : p ∣ y) (e : z = x - y) : p ∣ z := e ▸ Int.dvd_sub h1 h2
theorem qmr {p a : Int} (h : a.emod p = 0) : p ∣ a := Int.dvd_of_emod_eq_zero h
theorem qgi {n f : Int} {m m' : List Nat} : ∀ {ts : List (Int × List Nat × Int)}, (∀ t ∈ ts, t.1 = n) → cf m (gu n m' f ts) = cf m ts + if m' = m then f else 0
  | [], _ => by simp [gu, cf]
  | t :: l, h => by
    have h0 := h t (List.mem_cons_self ..)
    unfold gu
    split
    · rename_i e
      simp only [cf, e.2]
      split <;> omega
    · simp only [cf, qgi (ts := l) fun u hu => h u (List.mem_cons_of_mem _ hu)]
      omega
theorem qt0 {p : Int} {m : List Nat} : ∀ {ts : List (Int × List Nat × Int)}, p ∣ cf m (zr p ts) - cf m ts
  | [] => by simp [zr, cf]
  | t :: l => by
    have ih := qt0 (p := p) (m := m) (ts := l)
    unfold zr at ih ⊢
    rw [List.filterMap_cons]
    split
    · rename_i e
      split at e
      · rename_i e2
        simp only [cf]
        split
        · exact Yg ih (qmr e2) (by omega)
        · exact u5 ih (Int.dvd_zero p) (by omega)
      · cases e
    · rename_i u e
      split at e
      · cases e
      · cases e
        simp only [cf]
        split
        · exact u5 ih (gw p t.2.2) (by omega)
        · exact u5 ih (Int.dvd_zero p) (by omega)
theorem qs8 {p n kk : Int} {m m' : List Nat} : ∀ {ts : List (Int × List Nat × Int)}, (∀ t ∈ ts, t.1 = n) → p ∣ cf m (qba p n m' kk ts) - (cf m ts + if m' = m then kk else 0)
  | [], _ => by simp [qba, cf]
  | t :: l, h => by
    have ih := qs8 (p := p) (kk := kk) (m := m) (m' := m') (ts := l) fun u hu => h u (List.mem_cons_of_mem _ hu)
    unfold qba
    split
    · simp only [cf]
      exact u5 ih (Int.dvd_zero p) (by omega)
    · split
      · rename_i e
        rw [qzm]
        split
        · rename_i e0
          simp only [cf, e.2]
          split
          · exact Yg (Int.dvd_zero p) (qmr e0) (by omega)
          · exact u5 (Int.dvd_zero p) (Int.dvd_zero p) (by omega)
        · simp only [cf, e.2]
          split
          · exact u5 (gw p (t.2.2 + kk)) (Int.dvd_zero p) (by omega)
          · exact u5 (Int.dvd_zero p) (Int.dvd_zero p) (by omega)
      · simp only [cf]
        exact u5 (Int.dvd_zero p) (Int.dvd_zero p) (by omega)
theorem qti {p n k : Int} {m m' : List Nat} {ts : List (Int × List Nat × Int)} (h : ∀ t ∈ ts, t.1 = n) : p ∣ cf m (qgo p ts n m' k) - (cf m ts + if m' = m then k else 0) := by
  rw [qfz]
  split
  · rename_i e
    split
    · exact Yg (Int.dvd_zero p) (qmr e) (by omega)
    · exact u5 (Int.dvd_zero p) (Int.dvd_zero p) (by omega)
  · have h1 := qs8 (p := p) (kk := k.emod p) (m := m) (m' := m') h
    split at h1
    · rename_i e
      rw [if_pos e]
      exact u5 h1 (gw p k) (by omega)
    · rename_i e
      rw [if_neg e]; exact h1
theorem qlr {m : List Nat} : ∀ {ts : List (Int × List Nat × Int)}, (∀ t ∈ ts, t.2.1 ≠ m) → cf m ts = 0
  | [], _ => rfl
  | t :: l, h => by
    simp only [cf, if_neg (h t (List.mem_cons_self ..)), qlr (ts := l) fun u hu => h u (List.mem_cons_of_mem _ hu)]; rfl
theorem qr2 : ∀ {ts : List (Int × List Nat × Int)}, (ts.Pairwise fun a b => a.2.1 ≠ b.2.1) → ∀ t ∈ ts, cf t.2.1 ts = t.2.2
  | u :: l, h, t, ht => by
    have h' := List.pairwise_cons.1 h
    rcases List.mem_cons.1 ht with rfl | ht
    · simp only [cf, if_true, qlr fun v hv e => h'.1 v hv e.symm]; omega
    · simp only [cf, if_neg (h'.1 t ht), qr2 h'.2 t ht]; omega
theorem q1m {ts : List (Int × List Nat × Int)} {n : Int} (hs : ∀ t ∈ ts, t.1 = n) (h : upT ts) : ts.Pairwise fun a b => a.2.1 ≠ b.2.1 := by
  refine List.Pairwise.imp_of_mem ?_ h
  intro a b ha hb hlt e
  have : txt a = txt b := by unfold txt; rw [hs a ha, hs b hb, e]
  unfold ltT at hlt
  rw [this, ug] at hlt; cases hlt
theorem kz {p n : Int} {ts : List (Int × List Nat × Int)} (h : z8 p n ts) (hp : 0 < p) (m : List Nat) : (0 ≤ cf m ts ∧ cf m ts ≤ p - 1) ∧ ∀ t : Int × List Nat × Int, t.2.1 = m → (t ∈ ts ↔ t.1 = n ∧ t.2.2 = cf m ts ∧ cf m ts ≠ 0) := by
  have ha := q1m (fun t ht => (h.dia t ht).1) h.up
  by_cases hx : ∃ t ∈ ts, t.2.1 = m
  · obtain ⟨t, ht, rfl⟩ := hx
    have e := qr2 ha t ht
    have hf := h.fac t ht
    rw [e]
    refine ⟨by omega, fun u hu => ⟨fun hm => ?_, fun ⟨h1, h2, _⟩ => ?_⟩⟩
    · have e2 := qr2 ha u hm
      rw [hu, e] at e2
      exact ⟨(h.dia u hm).1, e2.symm, by omega⟩
    · have : u = t := by
        obtain ⟨a, b, c⟩ := u
        obtain ⟨a', b', c'⟩ := t
        simp only at h1 h2 hu
        rw [h1, h2, hu, ← (h.dia _ ht).1]
      rw [this]; exact ht
  · have e := qlr (m := m) (ts := ts) fun t ht e => hx ⟨t, ht, e⟩
    rw [e]
    exact ⟨by omega, fun u hu => ⟨fun hm => absurd ⟨u, hm, hu⟩ hx, fun h3 => absurd rfl h3.2.2⟩⟩
theorem qqo {ts : List (Int × List Nat × Int)} (h : upT ts) : ts.Nodup := h.imp fun {a b} hlt e => by
  subst e; unfold ltT at hlt; rw [ug] at hlt; cases hlt
theorem G6 {p n : Int} {a b : List (Int × List Nat × Int)} (hp : 0 < p) (ha : z8 p n a) (hb : z8 p n b) (h : ∀ m, p ∣ cf m a - cf m b) : a = b := by
  have he : ∀ m, cf m a = cf m b := fun m => by
    obtain ⟨q, hq⟩ := h m
    have h1 := (kz ha hp m).1
    have h2 := (kz hb hp m).1
    have : q = 0 := by
      rcases Int.lt_trichotomy q 0 with hl | hl | hl
      · exfalso
        have : p * q ≤ p * (-1) := Int.mul_le_mul_of_nonneg_left (by omega) (by omega)
        omega
      · exact hl
      · exfalso
        have : p * 1 ≤ p * q := Int.mul_le_mul_of_nonneg_left (by omega) (by omega)
        omega
    subst this
    omega
  refine qdq ha.up hb.up ((List.perm_ext_iff_of_nodup (qqo ha.up) (qqo hb.up)).2 fun t => ?_)
  rw [(kz ha hp t.2.1).2 t rfl, (kz hb hp t.2.1).2 t rfl, he]
theorem qiu {p n M : Int} {S : List (Int × List Nat × Int)} (hp : 0 < p) (h : qak n M S) : z8 p n (Qs (zr p S)) := by
  have hmem : ∀ t ∈ Qs (zr p S), ∃ u ∈ S, t = (u.1, u.2.1, u.2.2.emod p) ∧ u.2.2.emod p ≠ 0 := fun t ht => qho ((ua _).mem_iff.1 ht)
  refine ⟨fun t ht => ?_, fun t ht => ?_, fun t ht => ?_, qb5 (qhh ?_)⟩
  · obtain ⟨u, hu, rfl, _⟩ := hmem t ht; exact h.ok u hu
  · obtain ⟨u, hu, rfl, _⟩ := hmem t ht; exact h.dia u hu
  · obtain ⟨u, hu, rfl, hne⟩ := hmem t ht
    have b1 : 0 ≤ u.2.2.emod p := Int.emod_nonneg _ (by omega)
    have b2 : u.2.2.emod p < p := Int.emod_lt_of_pos _ hp
    simp only; omega
  · unfold Kl List.Nodup
    rw [List.pairwise_map]
    refine List.Pairwise.imp_of_mem ?_ h.one
    intro a b ha hb hne e
    unfold txt at e
    have h1 := h.dia a ha
    have h2 := h.dia b hb
    rw [h1.1, h2.1] at e
    exact hne (qhg h1.2 h2.2 (h.ok a ha).1 (h.ok b hb).1 e).2
theorem qmw {p : Int} {m : List Nat} {S : List (Int × List Nat × Int)} : p ∣ cf m (Qs (zr p S)) - cf m S := by
  rw [q2p (ua _)]; exact qt0
theorem b8 (P : Program) (B : zb) (cf : Bool) (K : St → Prop) (s : St) (a : AI) (t r : AT) : Gw P B cf (.alt a t r) K s = (qbt P B cf a (Gw P B cf t K) s ∧ Gw P B cf r K s) := nrX rfl
theorem Q3 (P : Program) (B : zb) (cf : Bool) (K : St → Prop) (s : St) : Gw P B cf .none K s = True := nrX rfl
theorem qlj {α : Type} {f : α → α} : ∀ {l : List α} {j : Nat} {a : α}, l[j]? = some a → l.modify j f = l.set j (f a)
  | [], j, a, h => by simp at h
  | x :: l, 0, a, h => by simp only [List.getElem?_cons_zero, Option.some.injEq] at h; subst h; rfl
  | x :: l, j + 1, a, h => by
    simp only [List.getElem?_cons_succ] at h
    simp only [List.modify_succ_cons, List.set_cons_succ, qlj h]
theorem qdl {n : Int} {m : List Nat} {S : List (Int × List Nat × Int)} (hmo : okD m) (ho : okT S) (h : Za n m S = none) :
    wk KD true (.agg (dia n m)) (esT 0 S) 0 = some none ∧
    wk KD true (.agg (dia n m)) (esT 0 S ++ [(⟨.agg (dia n m), .int .i64 0, S.length⟩ : AE)]) 0 = some (some (S.length, ⟨.agg (dia n m), .int .i64 0, S.length⟩)) ∧
    (esT 0 S ++ [(⟨.agg (dia n m), .int .i64 0, S.length⟩ : AE)]).findIdx? (fun x => (x.born : Int) == (S.length : Int)) = some S.length ∧
    (∀ v, (esT 0 S ++ [(⟨.agg (dia n m), .int .i64 0, S.length⟩ : AE)]).modify S.length (fun x => ⟨x.key, .int .i64 v, x.born⟩) = esT 0 (gu n m v S)) ∧ (∀ v, (gu n m v S).length = S.length + 1) := by
  have h2 := qd6 h
  have e0 : ∀ v : Int, esT 0 S ++ [(⟨.agg (dia n m), .int .i64 v, S.length⟩ : AE)] = esT 0 (S ++ [(n, m, v)]) := fun v => by
    rw [ql0]; simp [esT]
  have hm := hmo.1
  have hidx : ∀ (l : List (Int × List Nat × Int)), Za n m l = none → Za n m (l ++ [(n, m, 0)]) = some l.length := fun l => by
    induction l with
    | nil => intro _; simp [Za]
    | cons t l ih =>
      intro h
      unfold Za at h
      split at h
      · cases h
      · rename_i hne
        have h3 : Za n m l = none := by
          cases hi : Za n m l with
          | none => rfl
          | some i => rw [hi] at h; cases h
        simp only [List.cons_append, Za, if_neg hne, ih h3, Option.map_some, List.length_cons]
  refine ⟨by rw [Yq hm ho, h]; rfl, ?_, ?_, fun v => ?_, fun v => ?_⟩
  · rw [e0, Yq hm (fun t ht => by
      rcases List.mem_append.1 ht with ht | ht
      · exact ho t ht
      · rw [List.mem_singleton.1 ht]; exact hmo), hidx S h]
    simp
  · rw [e0]
    have := qgs (ts := S ++ [(n, m, 0)]) (k := 0) (j := S.length) (by simp)
    rwa [Nat.zero_add] at this
  · rw [e0, qlt, h2.1, qlj (a := (n, m, 0)) (by simp)]
    simp
  · rw [h2.1]; simp
theorem qee {n : Int} {m : List Nat} {S : List (Int × List Nat × Int)} {j : Nat} (hm : m.length = 16) (ho : okT S) (h : Za n m S = some j) :
    wk KD true (.agg (dia n m)) (esT 0 S) 0 = some (some (j, ⟨.agg (dia n m), .int .i64 (S.getD j zT).2.2, j⟩)) ∧
    (esT 0 S).set j ⟨.agg (dia n m), .int .i64 (S.getD j zT).2.2, j⟩ = esT 0 S ∧
    (esT 0 S).findIdx? (fun x => (x.born : Int) == (j : Int)) = some j ∧
    (∀ f, (esT 0 S).modify j (fun x => ⟨x.key, .int .i64 ((S.getD j zT).2.2 + f), x.born⟩) = esT 0 (gu n m f S)) ∧ (∀ f, (gu n m f S).length = S.length) := by
  obtain ⟨h1, h2, h3, h4⟩ := U8 h
  refine ⟨by rw [Yq hm ho, h]; simp, ?_, ?_, fun f => ?_, fun f => by rw [h4]; simp⟩
  · have := qmy (n := n) (v := (S.getD j zT).2.2) (m := m) (ts := S) (k := 0) (j := j)
    rw [Nat.zero_add] at this
    rw [this]
    congr 1
    have e : (n, m, (S.getD j zT).2.2) = S.getD j zT := by rw [← h2, ← h3]
    rw [e, qab h1, List.set_getElem_self]
  · have := qgs (ts := S) (k := 0) h1
    rwa [Nat.zero_add] at this
  · rw [qlt, h4]
    rw [qlj (List.getElem?_eq_getElem h1), ← qab h1, h2, h3]
theorem Yv {n F k : Int} (hF : 0 ≤ F) : ∀ {b acc : List (Int × List Nat × Int)} {M : Int}, 0 ≤ M → qak n M acc → (∀ t ∈ b, okD t.2.1 ∧ t.1 = n ∧ isS n.toNat t.2.1 = true ∧ -F ≤ k * t.2.2 ∧ k * t.2.2 ≤ F) → qak n (M + F * b.length) (xk k acc b)
  | [], acc, M, hM, h, _ => by simpa [xk] using h
  | t :: b, acc, M, hM, h, hb => by
    obtain ⟨h1, h2, h3, h4⟩ := hb t (List.mem_cons_self ..)
    have h5 := qo9 h1 h3 h4 hM h
    have := Yv hF (b := b) (by omega) h5 fun u hu => hb u (List.mem_cons_of_mem _ hu)
    rw [← h2] at this ⊢
    rw [List.length_cons, show M + F * ((b.length + 1 : Nat) : Int) = M + F + F * b.length by rw [Int.natCast_add, Int.mul_add]; omega]
    exact this
theorem qdt {k : Int} : ∀ {b acc : List (Int × List Nat × Int)}, (xk k acc b).length ≤ acc.length + b.length
  | [], acc => by simp [xk]
  | t :: b, acc => by
    have h1 := qhl (n := t.1) (m := t.2.1) (f := k * t.2.2) (ts := acc)
    have h2 := qdt (k := k) (b := b) (acc := gu t.1 t.2.1 (k * t.2.2) acc)
    have h3 : xk k acc (t :: b) = xk k (gu t.1 t.2.1 (k * t.2.2) acc) b := rfl
    rw [h3, List.length_cons]; omega
theorem sum_nil {n : Int} : qak n 0 [] := ⟨(fun t h => by cases h), (fun t h => by cases h), (fun t h => by cases h), .nil⟩
theorem qds {n M : Int} {S : List (Int × List Nat × Int)} (h : qak n M S) : (S.map txt).Nodup := by
  unfold List.Nodup
  rw [List.pairwise_map]
  refine List.Pairwise.imp_of_mem ?_ h.one
  intro a b ha hb hne e
  unfold txt at e
  have h1 := h.dia a ha
  have h2 := h.dia b hb
  rw [h1.1, h2.1] at e
  exact hne (qhg h1.2 h2.2 (h.ok a ha).1 (h.ok b hb).1 e).2
theorem qsn {n M p : Int} {S : List (Int × List Nat × Int)} (hn : 0 ≤ n ∧ n ≤ 8) (h : qak n M S) : (0 ≤ qfy S ∧ qfy S ≤ 8) ∧ (∀ t ∈ S, t.1 = qfy S) ∧ (if zr p S = [] then n else qfy S) = n := by
  match S, h with
  | [], h => exact ⟨by simp [qfy], by simp, by simp [zr]⟩
  | t :: l, h =>
    have e : qfy (t :: l) = n := (h.dia t (List.mem_cons_self ..)).1
    rw [e]
    exact ⟨hn, fun u hu => (h.dia u hu).1, by split <;> rfl⟩
theorem zi : B37 105 = some (j3) := rfl
def Gz : AT := (.one (oM 20 7) (.one (oF 21 0 9) (.one (oN 22 17 21) (.one (oF 24 17 9) (.one (oL 25 24) (.alt (o0 23 (.lookup [.int,.int,.int,.int,.int,.int,.int,.int,.int,.int,.int,.int,.int,.int,.int,.int,.int] true (.int .i64 0) false (.t 20) (.t 22))) (.one (oP 26 .add 23 25) (.one (o0 27 (.Jh [.int,.int,.int,.int,.int,.int,.int,.int,.int,.int,.int,.int,.int,.int,.int,.int,.int] true (.int .i64 0) (.t 20) (.t 22))) (.one (oE 28 1 27) (.one ⟨none,none,.op (.Bj (.t 20) (.t 28) (.t 26))⟩ (.nil))))) (.alt (o0 27 (.Jh [.int,.int,.int,.int,.int,.int,.int,.int,.int,.int,.int,.int,.int,.int,.int,.int,.int] true (.int .i64 0) (.t 20) (.t 22))) (.one (o0 23 (.lookup [.int,.int,.int,.int,.int,.int,.int,.int,.int,.int,.int,.int,.int,.int,.int,.int,.int] true (.int .i64 0) false (.t 20) (.t 22))) (.one (oP 26 .add 23 25) (.one (oE 28 1 27) (.one ⟨none,none,.op (.Bj (.t 20) (.t 28) (.t 26))⟩ (.nil))))) (.none))))))))
def qfc : AC := .region [oK 29 .add 16 1,oM 16 29]
def Ki : AC := .seq (.region [oP 17 .lss 16 15]) (.seq (.cond 17 .skip (.exit 0)) (.seq (.block 1 (.seq (.region [oX 18 18 14 16,oN 19 18 18,o0 9 (.alloc [.int .i64 0,.int .u8 0,.int .u8 0,.int .u8 0,.int .u8 0,.int .u8 0,.int .u8 0,.int .u8 0,.int .u8 0,.int .u8 0,.int .u8 0,.int .u8 0,.int .u8 0,.int .u8 0,.int .u8 0,.int .u8 0,.int .u8 0,.int .i64 0]),oS 18 9 19]) (.tree false Gz))) qfc))
def Gp : AT := (.one (oM 37 7) (.one (oF 38 0 11) (.one (oN 39 17 38) (.one (oM 41 2) (.one (oF 42 17 11) (.one (oL 43 42) (.one (oP 44 .mul 41 43) (.alt (o0 40 (.lookup [.int,.int,.int,.int,.int,.int,.int,.int,.int,.int,.int,.int,.int,.int,.int,.int,.int] true (.int .i64 0) false (.t 37) (.t 39))) (.one (oP 45 .add 40 44) (.one (o0 46 (.Jh [.int,.int,.int,.int,.int,.int,.int,.int,.int,.int,.int,.int,.int,.int,.int,.int,.int] true (.int .i64 0) (.t 37) (.t 39))) (.one (oE 47 1 46) (.one ⟨none,none,.op (.Bj (.t 37) (.t 47) (.t 45))⟩ (.nil))))) (.alt (o0 46 (.Jh [.int,.int,.int,.int,.int,.int,.int,.int,.int,.int,.int,.int,.int,.int,.int,.int,.int] true (.int .i64 0) (.t 37) (.t 39))) (.one (o0 40 (.lookup [.int,.int,.int,.int,.int,.int,.int,.int,.int,.int,.int,.int,.int,.int,.int,.int,.int] true (.int .i64 0) false (.t 37) (.t 39))) (.one (oP 45 .add 40 44) (.one (oE 47 1 46) (.one ⟨none,none,.op (.Bj (.t 37) (.t 47) (.t 45))⟩ (.nil))))) (.none))))))))))
def qex : AC := .region [oK 48 .add 33 1,oM 33 48]
def Gf : AC := .seq (.region [oP 34 .lss 33 32]) (.seq (.cond 34 .skip (.exit 2)) (.seq (.block 3 (.seq (.region [oX 35 18 31 33,oN 36 18 35,o0 11 (.alloc [.int .i64 0,.int .u8 0,.int .u8 0,.int .u8 0,.int .u8 0,.int .u8 0,.int .u8 0,.int .u8 0,.int .u8 0,.int .u8 0,.int .u8 0,.int .u8 0,.int .u8 0,.int .u8 0,.int .u8 0,.int .u8 0,.int .u8 0,.int .i64 0]),oS 18 11 36]) (.tree false Gp))) qex))
def qfh : AC := .seq (.region [oM 49 7,oC 50 105 [.t 3,.t 49],oS 4 6 50]) .ret
def qe7 : AC := .seq (.seq (.region [oF 30 3 4,oL 31 30,o0 32 (.len .slc (.t 31)),oI 33 0]) (.block 2 (.loop Gf))) qfh
def qoz : AC := .seq (.region [o0 3 (.box (.t 0)),o0 4 (.box (.t 1)),oZ 6]) (.seq (.region [o0 12 (.Ku),oM 7 12]) (.seq (.seq (.region [oF 13 3 3,oL 14 13,o0 15 (.len .slc (.t 14)),oI 16 0]) (.block 0 (.loop Ki))) qe7))
theorem qy3 : zh Try.prog 124 = some ⟨51, qoz, [.bg 6 4]⟩ := by kernel_rfl
theorem qxn (p c n p' c' k : Int) (a b : List (Int × List Nat × Int)) (hp : 2 ≤ p ∧ p ≤ 97) (hn : 0 ≤ n ∧ n ≤ 8) (ha : z8 p n a) (hb : z8 p n b) (hl : a.length ≤ 100000 ∧ b.length ≤ 100000) (hk : -1000001 ≤ k ∧ k ≤ 1000001) :
    Am.Fn Try.prog 124 [elemV p c n 0 a.length, elemV p' c' n 1 b.length, .int .i64 k] [.ro (xb a), .ro (xb b)] (fun v H' => v = elemV p c n 2 (zr p (xk k (xk 1 [] a) b)).length ∧ H' = [.ro (xb a), .ro (xb b), .vec 18 (xb (Qs (zr p (xk k (xk 1 [] a) b))))]) := by
  refine Am.Fn.ofB qed mixed qy3 (by simp [elemV, AV.qt, AV.under]) (K1 (qc _) (qc _)) ?_
  have hal := xe ha.ok
  have hbl := xe hb.ok
  simp (maxSteps := 3000000) only [qf, zH, qoz, zi, j3, elemV, hal, Nat.le_refl, iE, iN, iB, iC, iL, iD, iA, iS, iM, qa, zZ, ↓qp, ↓reduceIte, reduceCtorEq, nA, nM, nS, nE, nL, nD]; try simp only [qa, zY]
  have hsum1 : ∀ i : Nat, i ≤ a.length → qak n (100 * i) (xk 1 [] (a.take i)) ∧ (xk 1 [] (a.take i)).length ≤ i := fun i hi => by
    have h1 := Yv (n := n) (F := 100) (k := 1) (by omega) (b := a.take i) (acc := []) (M := 0) (by omega) sum_nil fun t ht => by
      have hm := List.mem_of_mem_take ht
      have h2 := ha.fac t hm
      exact ⟨ha.ok t hm, (ha.dia t hm).1, (ha.dia t hm).2, by omega, by omega⟩
    have h2 := qdt (k := 1) (acc := []) (b := a.take i)
    rw [List.length_take, Nat.min_eq_left hi] at h1 h2
    exact ⟨by simpa using h1, by simpa using h2⟩
  refine WA.xo qed (fun s => ∃ (i : Nat), i ≤ a.length ∧
      s = ⟨[(16, .int .i64 i), (15, .int .i64 a.length), (14, .slc 0 0 a.length false 0), (7, .map 5), (6, .ptr 4 0), (4, .ptr 3 0), (3, .ptr 2 0), (2, .int .i64 k)], [.ro (xb a), .ro (xb b), .cells [.int .i64 p, .int .i64 c, .int .i64 n, .slc 0 0 a.length false 0],
        .cells [.int .i64 p', .int .i64 c', .int .i64 n, .slc 1 0 b.length false 0], .cells [.int .i64 0, .int .i64 0, .int .i64 0, .v (.slice none 0 0)], j5 (xk 1 [] (a.take i))]⟩)
    (fun s => match get s.env 16 with | .int _ x => a.length - x.toNat | _ => 0) ⟨_, qu.qv [16, 15, 14, 7, 6, 4, 3, 2], 0, by omega, rfl⟩ ?_
  rintro s ⟨i, hi, rfl⟩
  obtain ⟨hS, hSl⟩ := hsum1 i hi
  by_cases hlt : i < a.length
  · have hli : (i : Int) < a.length := by omega
    have hli' : (0 : Int) ≤ i := by omega
    have hw : qn .i64 ((i : Int) + 1) = ((i + 1 : Nat) : Int) := by rw [wrap64 (by omega) (by omega)]; rfl
    have hd := qip ha.ok hlt
    have hf := qox ha.ok hlt
    have hg := Zw ha.ok hlt
    have hok := ha.ok _ (List.getElem_mem hlt)
    have hsz := ha.dia _ (List.getElem_mem hlt)
    have hfc := ha.fac _ (List.getElem_mem hlt)
    have hb1 : i * 18 < a.length * 18 := by omega
    have hb2 : i * 18 + 18 ≤ a.length * 18 := by omega
    have hb3 : i * 18 + 17 < a.length * 18 := by omega
    have hn1 := qgp (k := 1) (a := []) hlt
    obtain ⟨t, ht⟩ : ∃ t, t = a[i] := ⟨_, rfl⟩
    rw [← ht] at hd hf hg hok hsz hfc hn1
    clear ht
    obtain ⟨tn, m, f⟩ := t
    simp only at hd hf hg hok hsz hfc hn1
    obtain ⟨hsz1, hs⟩ := hsz
    have hsz1 := hsz1.symm
    subst hsz1
    have hov := X9 (t := (0, List.replicate 16 0, 0)) (u := (n, m, f)) (by simp) hok.1
    have htl := xv (t := (n, m, f)) hok
    have htd := Y1 (t := (n, m, f)) hok
    have htf := Qr (t := (n, m, f)) hok
    simp (maxSteps := 3000000) only [qf, zH, Ki, zi, j3, hli, hli', hal, hb1, hb2, hb3, hw, hg, Zb, htl, Z2, vo, hov, iE, iN, iB, iC, iL, iD, iA, iS, iM, qa, zZ, ↓qp, ↓reduceIte, reduceCtorEq, nA, nM, nS, nE, nL, nD]; try simp only [qa, zY]
    refine WA.qfi qed (fun s => s = ⟨[(16, .int .i64 i), (15, .int .i64 a.length), (14, .slc 0 0 a.length false 0), (7, .map 5), (6, .ptr 4 0), (4, .ptr 3 0), (3, .ptr 2 0), (2, .int .i64 k)], [.ro (xb a), .ro (xb b), .cells [.int .i64 p, .int .i64 c, .int .i64 n, .slc 0 0 a.length false 0],
        .cells [.int .i64 p', .int .i64 c', .int .i64 n, .slc 1 0 b.length false 0], .cells [.int .i64 0, .int .i64 0, .int .i64 0, .v (.slice none 0 0)], j5 (xk 1 [] (a.take (i + 1)))]⟩) ?_ ?_
    · rw [hn1, Int.one_mul]
      generalize xk 1 [] (a.take i) = S at hS hSl
      have hmT : j5 S = .map (esT 0 S) S.length := rfl
      have hkok : kok KD true (.agg (dia n m)) = true := qcj hok.1
      cases hix : Za n m S with
      | none =>
        obtain ⟨f1, f2, f3, f4, f5⟩ := qdl hok hS.ok hix
        have hw0 : qn .i64 (0 + f) = f := by rw [wrap64 (by omega) (by omega)]; omega
        unfold Gz
        simp (maxSteps := 3000000) only [qf, zH, zi, j3, b8, Q3, hmT, hkok, f1, f2, f3, f4, htl, htd, htf, hw0, jb, iE, iN, iB, iC, iL, iD, iA, iS, iM, qa, zZ, ↓qp, ↓reduceIte, reduceCtorEq, nA, nM, nS, nE, nL, nD]; try simp only [qa, zY]
        refine ⟨⟨_, qu.xy [0, 1, 2, 3, 4, 5] [16, 15, 14, 7, 6, 4, 3, 2] ⟨by decide, ?_⟩ ?_, ?_⟩, _, qu.xy [0, 1, 2, 3, 4, 5] [16, 15, 14, 7, 6, 4, 3, 2] ⟨by decide, ?_⟩ ?_, ?_⟩
        · simp only [qh _ _ (qc _), ↓q9, zK, ↓reduceIte, reduceCtorEq, nE, nB, nA]
        · simp only [qh _ _ (qc _), ↓q9, zK, ↓reduceIte, reduceCtorEq, nE, nB, nA]
        · simp only [qb _ _ (qc _), ↓vf, zL, ↓reduceIte, reduceCtorEq, nE, nA]
          rw [j5, f5]
        · simp only [qh _ _ (qc _), ↓q9, zK, ↓reduceIte, reduceCtorEq, nE, nB, nA]
        · simp only [qh _ _ (qc _), ↓q9, zK, ↓reduceIte, reduceCtorEq, nE, nB, nA]
        · simp only [qb _ _ (qc _), ↓vf, zL, ↓reduceIte, reduceCtorEq, nE, nA]
          rw [j5, f5]
      | some j =>
        obtain ⟨f1, f2, f3, f4, f5⟩ := qee hok.1 hS.ok hix
        have hj := U8 hix
        have hfj := hS.fac _ (show S.getD j zT ∈ S by rw [qab hj.1]; exact List.getElem_mem _)
        have hw0 : qn .i64 ((S.getD j zT).2.2 + f) = (S.getD j zT).2.2 + f := wrap64 (by omega) (by omega)
        unfold Gz
        simp (maxSteps := 3000000) only [qf, zH, zi, j3, b8, Q3, hmT, hkok, f1, f2, f3, f4, htl, htd, htf, hw0, jb, iE, iN, iB, iC, iL, iD, iA, iS, iM, qa, zZ, ↓qp, ↓reduceIte, reduceCtorEq, nA, nM, nS, nE, nL, nD]; try simp only [qa, zY]
        refine ⟨⟨_, qu.xy [0, 1, 2, 3, 4, 5] [16, 15, 14, 7, 6, 4, 3, 2] ⟨by decide, ?_⟩ ?_, ?_⟩, _, qu.xy [0, 1, 2, 3, 4, 5] [16, 15, 14, 7, 6, 4, 3, 2] ⟨by decide, ?_⟩ ?_, ?_⟩
        · simp only [qh _ _ (qc _), ↓q9, zK, ↓reduceIte, reduceCtorEq, nE, nB, nA]
        · simp only [qh _ _ (qc _), ↓q9, zK, ↓reduceIte, reduceCtorEq, nE, nB, nA]
        · simp only [qb _ _ (qc _), ↓vf, zL, ↓reduceIte, reduceCtorEq, nE, nA]
          rw [j5, f5]
        · simp only [qh _ _ (qc _), ↓q9, zK, ↓reduceIte, reduceCtorEq, nE, nB, nA]
        · simp only [qh _ _ (qc _), ↓q9, zK, ↓reduceIte, reduceCtorEq, nE, nB, nA]
        · simp only [qb _ _ (qc _), ↓vf, zL, ↓reduceIte, reduceCtorEq, nE, nA]
          rw [j5, f5]
    · rintro s rfl
      simp (maxSteps := 3000000) only [qf, zH, qfc, zi, j3, hw, iE, iN, iB, iC, iL, iD, iA, iS, iM, qa, zZ, ↓qp, ↓reduceIte, reduceCtorEq, nA, nM, nS, nE, nL, nD]; try simp only [qa, zY]
      refine ⟨_, qu.qv [16, 15, 14, 7, 6, 4, 3, 2], ⟨i + 1, by omega, rfl⟩, ?_⟩
      simp only [zL, ↓reduceIte, reduceCtorEq, nE, nA]; omega
  have hli : ¬ ((i : Int) < a.length) := by omega
  obtain rfl : i = a.length := by omega
  have htk : a.take a.length = a := List.take_length
  rw [htk] at hS hSl
  have hmT : j5 (xk 1 [] (a.take a.length)) = j5 (xk 1 [] a) := by rw [htk]
  simp (maxSteps := 3000000) only [qf, zH, Ki, qe7, zi, j3, hli, hmT, Int.lt_irrefl, hbl, iE, iN, iB, iC, iL, iD, iA, iS, iM, qa, zZ, ↓qp, ↓reduceIte, reduceCtorEq, nA, nM, nS, nE, nL, nD]; try simp only [qa, zY]
  have hsum2 : ∀ i : Nat, i ≤ b.length → qak n (10000000 + 100000000 * i) (xk k (xk 1 [] a) (b.take i)) ∧ (xk k (xk 1 [] a) (b.take i)).length ≤ a.length + i := fun i hi => by
    have h1 := Yv (n := n) (F := 100000000) (k := k) (by omega) (b := b.take i) (acc := xk 1 [] a) (M := 100 * a.length) (by omega) hS fun t ht => by
      have hm := List.mem_of_mem_take ht
      have h2 := hb.fac t hm
      have h3 : -1000001 * t.2.2 ≤ k * t.2.2 := Int.mul_le_mul_of_nonneg_right (by omega) (by omega)
      have h4 : k * t.2.2 ≤ 1000001 * t.2.2 := Int.mul_le_mul_of_nonneg_right (by omega) (by omega)
      generalize k * t.2.2 = q at h3 h4 ⊢
      exact ⟨hb.ok t hm, (hb.dia t hm).1, (hb.dia t hm).2, by omega, by omega⟩
    have h2 := qdt (k := k) (acc := xk 1 [] a) (b := b.take i)
    rw [List.length_take, Nat.min_eq_left hi] at h1 h2
    exact ⟨⟨h1.ok, h1.dia, fun t ht => by have := h1.fac t ht; omega, h1.one⟩, by omega⟩
  refine WA.xo qed (fun s => ∃ (i : Nat), i ≤ b.length ∧
      s = ⟨[(33, .int .i64 i), (32, .int .i64 b.length), (31, .slc 1 0 b.length false 0), (7, .map 5), (6, .ptr 4 0), (3, .ptr 2 0), (2, .int .i64 k)], [.ro (xb a), .ro (xb b), .cells [.int .i64 p, .int .i64 c, .int .i64 n, .slc 0 0 a.length false 0],
        .cells [.int .i64 p', .int .i64 c', .int .i64 n, .slc 1 0 b.length false 0], .cells [.int .i64 0, .int .i64 0, .int .i64 0, .v (.slice none 0 0)], j5 (xk k (xk 1 [] a) (b.take i))]⟩)
    (fun s => match get s.env 33 with | .int _ x => b.length - x.toNat | _ => 0) ⟨_, qu.qv [33, 32, 31, 7, 6, 3, 2], 0, by omega, rfl⟩ ?_
  clear hS hSl hmT htk hi hlt hli
  rintro s ⟨i, hi, rfl⟩
  obtain ⟨hS, hSl⟩ := hsum2 i hi
  by_cases hlt : i < b.length
  · have hli : (i : Int) < b.length := by omega
    have hli' : (0 : Int) ≤ i := by omega
    have hw : qn .i64 ((i : Int) + 1) = ((i + 1 : Nat) : Int) := by rw [wrap64 (by omega) (by omega)]; rfl
    have hd := qip hb.ok hlt
    have hf := qox hb.ok hlt
    have hg := Zw hb.ok hlt
    have hok := hb.ok _ (List.getElem_mem hlt)
    have hsz := hb.dia _ (List.getElem_mem hlt)
    have hfc := hb.fac _ (List.getElem_mem hlt)
    have hb1 : i * 18 < b.length * 18 := by omega
    have hb2 : i * 18 + 18 ≤ b.length * 18 := by omega
    have hn1 := qgp (k := k) (a := xk 1 [] a) hlt
    obtain ⟨t, ht⟩ : ∃ t, t = b[i] := ⟨_, rfl⟩
    rw [← ht] at hd hf hg hok hsz hfc hn1
    clear ht
    obtain ⟨tn, m, f⟩ := t
    simp only at hd hf hg hok hsz hfc hn1
    obtain ⟨hsz1, hs⟩ := hsz
    have hsz1 := hsz1.symm
    subst hsz1
    have hov := X9 (t := (0, List.replicate 16 0, 0)) (u := (n, m, f)) (by simp) hok.1
    have htl := xv (t := (n, m, f)) hok
    have htd := Y1 (t := (n, m, f)) hok
    have htf := Qr (t := (n, m, f)) hok
    have hkf : -100000000 ≤ k * f ∧ k * f ≤ 100000000 := by
      have h1 : -1000001 * f ≤ k * f := Int.mul_le_mul_of_nonneg_right (by omega) (by omega)
      have h2 : k * f ≤ 1000001 * f := Int.mul_le_mul_of_nonneg_right (by omega) (by omega)
      generalize k * f = q at h1 h2 ⊢
      omega
    obtain ⟨kf, hkfe⟩ : ∃ kf, kf = k * f := ⟨_, rfl⟩
    have hwk : qn .i64 (k * f) = kf := by rw [hkfe]; exact wrap64 (by omega) (by omega)
    rw [← hkfe] at hkf hn1
    simp (maxSteps := 3000000) only [qf, zH, Gf, zi, j3, hli, hli', hbl, hb1, hb2, hw, hg, Zb, htl, Z2, vo, hov, iE, iN, iB, iC, iL, iD, iA, iS, iM, qa, zZ, ↓qp, ↓reduceIte, reduceCtorEq, nA, nM, nS, nE, nL, nD]; try simp only [qa, zY]
    refine WA.qfi qed (fun s => s = ⟨[(33, .int .i64 i), (32, .int .i64 b.length), (31, .slc 1 0 b.length false 0), (7, .map 5), (6, .ptr 4 0), (3, .ptr 2 0), (2, .int .i64 k)], [.ro (xb a), .ro (xb b), .cells [.int .i64 p, .int .i64 c, .int .i64 n, .slc 0 0 a.length false 0],
        .cells [.int .i64 p', .int .i64 c', .int .i64 n, .slc 1 0 b.length false 0], .cells [.int .i64 0, .int .i64 0, .int .i64 0, .v (.slice none 0 0)], j5 (xk k (xk 1 [] a) (b.take (i + 1)))]⟩) ?_ ?_
    · rw [hn1]
      generalize xk k (xk 1 [] a) (b.take i) = S at hS hSl
      have hmT : j5 S = .map (esT 0 S) S.length := rfl
      have hkok : kok KD true (.agg (dia n m)) = true := qcj hok.1
      cases hix : Za n m S with
      | none =>
        obtain ⟨f1, f2, f3, f4, f5⟩ := qdl hok hS.ok hix
        have hw0 : qn .i64 (0 + kf) = kf := by rw [wrap64 (by omega) (by omega)]; omega
        unfold Gp
        simp (maxSteps := 3000000) only [qf, zH, zi, j3, b8, Q3, hmT, hkok, f1, f2, f3, f4, htl, htd, htf, hw0, hwk, jb, iE, iN, iB, iC, iL, iD, iA, iS, iM, qa, zZ, ↓qp, ↓reduceIte, reduceCtorEq, nA, nM, nS, nE, nL, nD]; try simp only [qa, zY]
        refine ⟨⟨_, qu.xy [0, 1, 2, 3, 4, 5] [33, 32, 31, 7, 6, 3, 2] ⟨by decide, ?_⟩ ?_, ?_⟩, _, qu.xy [0, 1, 2, 3, 4, 5] [33, 32, 31, 7, 6, 3, 2] ⟨by decide, ?_⟩ ?_, ?_⟩
        · simp only [qh _ _ (qc _), ↓q9, zK, ↓reduceIte, reduceCtorEq, nE, nB, nA]
        · simp only [qh _ _ (qc _), ↓q9, zK, ↓reduceIte, reduceCtorEq, nE, nB, nA]
        · simp only [qb _ _ (qc _), ↓vf, zL, ↓reduceIte, reduceCtorEq, nE, nA]
          rw [j5, f5]
        · simp only [qh _ _ (qc _), ↓q9, zK, ↓reduceIte, reduceCtorEq, nE, nB, nA]
        · simp only [qh _ _ (qc _), ↓q9, zK, ↓reduceIte, reduceCtorEq, nE, nB, nA]
        · simp only [qb _ _ (qc _), ↓vf, zL, ↓reduceIte, reduceCtorEq, nE, nA]
          rw [j5, f5]
      | some j =>
        obtain ⟨f1, f2, f3, f4, f5⟩ := qee hok.1 hS.ok hix
        have hj := U8 hix
        have hfj := hS.fac _ (show S.getD j zT ∈ S by rw [qab hj.1]; exact List.getElem_mem _)
        have hw0 : qn .i64 ((S.getD j zT).2.2 + kf) = (S.getD j zT).2.2 + kf := wrap64 (by omega) (by omega)
        unfold Gp
        simp (maxSteps := 3000000) only [qf, zH, zi, j3, b8, Q3, hmT, hkok, f1, f2, f3, f4, htl, htd, htf, hw0, hwk, jb, iE, iN, iB, iC, iL, iD, iA, iS, iM, qa, zZ, ↓qp, ↓reduceIte, reduceCtorEq, nA, nM, nS, nE, nL, nD]; try simp only [qa, zY]
        refine ⟨⟨_, qu.xy [0, 1, 2, 3, 4, 5] [33, 32, 31, 7, 6, 3, 2] ⟨by decide, ?_⟩ ?_, ?_⟩, _, qu.xy [0, 1, 2, 3, 4, 5] [33, 32, 31, 7, 6, 3, 2] ⟨by decide, ?_⟩ ?_, ?_⟩
        · simp only [qh _ _ (qc _), ↓q9, zK, ↓reduceIte, reduceCtorEq, nE, nB, nA]
        · simp only [qh _ _ (qc _), ↓q9, zK, ↓reduceIte, reduceCtorEq, nE, nB, nA]
        · simp only [qb _ _ (qc _), ↓vf, zL, ↓reduceIte, reduceCtorEq, nE, nA]
          rw [j5, f5]
        · simp only [qh _ _ (qc _), ↓q9, zK, ↓reduceIte, reduceCtorEq, nE, nB, nA]
        · simp only [qh _ _ (qc _), ↓q9, zK, ↓reduceIte, reduceCtorEq, nE, nB, nA]
        · simp only [qb _ _ (qc _), ↓vf, zL, ↓reduceIte, reduceCtorEq, nE, nA]
          rw [j5, f5]
    · rintro s rfl
      simp (maxSteps := 3000000) only [qf, zH, qex, zi, j3, hw, iE, iN, iB, iC, iL, iD, iA, iS, iM, qa, zZ, ↓qp, ↓reduceIte, reduceCtorEq, nA, nM, nS, nE, nL, nD]; try simp only [qa, zY]
      refine ⟨_, qu.qv [33, 32, 31, 7, 6, 3, 2], ⟨i + 1, by omega, rfl⟩, ?_⟩
      simp only [zL, ↓reduceIte, reduceCtorEq, nE, nA]; omega
  have hli : ¬ ((i : Int) < b.length) := by omega
  obtain rfl : i = b.length := by omega
  have htk : b.take b.length = b := List.take_length
  rw [htk] at hS hSl ⊢
  have hap := qds hS
  obtain ⟨hz1, hz2, hz3⟩ := qsn (p := p) hn hS
  have hSo := hS.ok
  generalize xk k (xk 1 [] a) b = S at *
  have hmT : j5 S = .map (esT 0 S) S.length := rfl
  have hts := qgj (ts := S) (k := 0) hSo
  have hSl' : S.length ≤ 1000000 := by omega
  have hpp : 0 < p ∧ p ≤ 1000000 := by omega
  simp (maxSteps := 3000000) only [qf, zH, Gf, qfh, zi, j3, hli, hmT, Int.lt_irrefl, hts, hpp, hSl', hz1, hz2, hz3, hap, and_self, elemV, iE, iN, iB, iC, iL, iD, iA, iS, iM, qa, zZ, ↓qp, ↓reduceIte, reduceCtorEq, nA, nM, nS, nE, nL, nD]; try simp only [qa, zY]
  refine ⟨hz2, rfl, ?_⟩
  refine Ret.xy [0, 1, 6] ⟨⟨by simp, rfl, by decide⟩, ?_⟩ (rs := [.agg [.int .i64 p, .int .i64 c, .int .i64 n, .slc 6 0 (zr p S).length false 0]]) rfl rfl (by simp [xt]) ?_ ⟨?_, ?_⟩
  · simp only [qh _ _ (qc _), ↓q9, zK, ↓reduceIte, reduceCtorEq, nE, nB, nA]
  · intro j l; match j with
    | 0 => simp [zj, AO.ren]
    | 1 => simp [zj, AO.ren]
    | 2 => simp [zj, AO.ren]
    | j + 3 => simp [zj]
  · simp only [xt]
    simp only [zL, ↓reduceIte, reduceCtorEq, nE, nA]
  · simp only [qb _ _ (qc _), zL, ↓reduceIte, reduceCtorEq, nE, nA]
theorem qid {n k : Int} {m : List Nat} : ∀ {b acc : List (Int × List Nat × Int)}, (∀ t ∈ acc, t.1 = n) → (∀ t ∈ b, t.1 = n) → cf m (xk k acc b) = cf m acc + k * cf m b ∧ ∀ t ∈ xk k acc b, t.1 = n
  | [], acc, h, _ => ⟨by simp [xk, cf], h⟩
  | t :: b, acc, h, hb => by
    have h0 := hb t (List.mem_cons_self ..)
    have h1 : ∀ u ∈ gu t.1 t.2.1 (k * t.2.2) acc, u.1 = n := fun u hu => by
      rcases Wa hu with ⟨v, hv, e, _⟩ | ⟨rfl, _⟩
      · rw [e]; exact h v hv
      · exact h0
    have ih := qid (k := k) (m := m) (b := b) h1 fun u hu => hb u (List.mem_cons_of_mem _ hu)
    have e : xk k acc (t :: b) = xk k (gu t.1 t.2.1 (k * t.2.2) acc) b := rfl
    rw [e]
    refine ⟨?_, ih.2⟩
    have h2 := qgi (f := k * t.2.2) (m := m) (m' := t.2.1) h
    rw [← h0] at h2
    rw [ih.1, h2, cf, Int.mul_add]
    split
    · omega
    · rw [Int.mul_zero]; omega
theorem qs7 {p n k : Int} {m : List Nat} {ts : List (Int × List Nat × Int)} (h : ∀ t ∈ ts, t.1 = n) : ∀ t ∈ qgo p ts n m k, t.1 = n := fun t ht => by
  rw [qfz] at ht
  split at ht
  · exact h t ht
  · rcases Yn ht with h1 | ⟨h1, _⟩
    · exact h t h1
    · exact h1
theorem qk7 {p n k : Int} {m : List Nat} : ∀ {b acc : List (Int × List Nat × Int)}, (∀ t ∈ acc, t.1 = n) → p ∣ cf m (qbd p n k acc b) - (cf m acc + k * cf m b)
  | [], acc, h => by simp [qbd, cf]
  | t :: b, acc, h => by
    have ih := qk7 (p := p) (k := k) (m := m) (b := b) (qs7 (p := p) (m := t.2.1) (k := k * t.2.2) h)
    have h1 := qti (p := p) (k := k * t.2.2) (m := m) (m' := t.2.1) h
    have e : qbd p n k acc (t :: b) = qbd p n k (qgo p acc n t.2.1 (k * t.2.2)) b := rfl
    rw [e]
    refine u5 ih h1 ?_
    rw [cf, Int.mul_add]
    split
    · omega
    · rw [Int.mul_zero]; omega
theorem qxv {p n k M : Int} {a b : List (Int × List Nat × Int)} (hp : 0 < p) (ha : z8 p n a) (hb : z8 p n b) (h : qak n M (xk k (xk 1 [] a) b)) : Qs (zr p (xk k (xk 1 [] a) b)) = qbd p n k a b := by
  have ha' : ∀ t ∈ a, t.1 = n := fun t ht => (ha.dia t ht).1
  have hb' : ∀ t ∈ b, t.1 = n := fun t ht => (hb.dia t ht).1
  refine G6 hp (qiu hp h) (qdp hp ha hb).1 fun m => ?_
  have h1 := qid (n := n) (k := 1) (m := m) (acc := []) (b := a) (by simp) ha'
  have h2 := qid (k := k) (m := m) h1.2 hb'
  have h3 := qmw (p := p) (m := m) (S := xk k (xk 1 [] a) b)
  have h4 := qk7 (p := p) (k := k) (m := m) (b := b) ha'
  refine Yg h3 h4 ?_
  rw [h2.1, h1.1]
  simp only [cf]; omega
theorem q0w {p n k : Int} {a b : List (Int × List Nat × Int)} (hp : 2 ≤ p ∧ p ≤ 97) (ha : z8 p n a) (hb : z8 p n b) (hk : -1000001 ≤ k ∧ k ≤ 1000001) : ∃ M, qak n M (xk k (xk 1 [] a) b) := by
  have h1 := Yv (n := n) (F := 100) (k := 1) (by omega) (b := a) (acc := []) (M := 0) (by omega) sum_nil fun t hm => by
    have h2 := ha.fac t hm
    exact ⟨ha.ok t hm, (ha.dia t hm).1, (ha.dia t hm).2, by omega, by omega⟩
  exact ⟨_, Yv (n := n) (F := 100000000) (k := k) (by omega) (b := b) (by omega) h1 fun t hm => by
    have h2 := hb.fac t hm
    have h3 : -1000001 * t.2.2 ≤ k * t.2.2 := Int.mul_le_mul_of_nonneg_right (by omega) (by omega)
    have h4 : k * t.2.2 ≤ 1000001 * t.2.2 := Int.mul_le_mul_of_nonneg_right (by omega) (by omega)
    generalize k * t.2.2 = q at h3 h4 ⊢
    exact ⟨hb.ok t hm, (hb.dia t hm).1, (hb.dia t hm).2, by omega, by omega⟩⟩
def qa8 : BE := fun hp xs => match xs with
  | [.agg [.int .i64 p, .int .i64 c, .int .i64 n, .slc b 0 la false 0], .agg [.int .i64 p', .int .i64 c', .int .i64 n', .slc b' 0 lb false 0], .int .i64 k] => match rd hp b, rd hp b' with
    | some L, some L' => match qah la L, qah lb L' with
      | some ta, some tb => chk ((((2 ≤ p ∧ p ≤ 97) ∧ (0 ≤ n ∧ n ≤ 8) ∧ n' = n) ∧ Ug p n ta ∧ Ug p n tb) ∧ (ta.length ≤ 100000 ∧ tb.length ≤ 100000) ∧ (-1000001 ≤ k ∧ k ≤ 1000001)) (some (elemV p c n hp.length (qbd p n k ta tb).length, hp ++ [.vec 18 (xb (qbd p n k ta tb))]))
      | _, _ => none
    | _, _ => none
  | _ => none
theorem q5o : Am.Callee Try.prog 124 qa8 := Callee.fp fun hp xs v hp' he => by
  unfold qa8 at he
  split at he
  · rename_i p c n b la p' c' n' b' lb k
    split at he
    · rename_i L L' hL hL'
      split at he
      · rename_i ta tb h1 h1'
        obtain ⟨⟨⟨⟨a1, a2, a3⟩, a4, a5⟩, a6, a7⟩, he2⟩ := qm he
        simp only [Option.some.injEq, Prod.mk.injEq] at he2
        obtain ⟨rfl, rfl⟩ := he2
        obtain ⟨e1, e2, e3, e4⟩ := gv h1
        obtain ⟨f1, f2, f3, f4⟩ := gv h1'
        have g1 := xe e2
        have g2 := xe f2
        subst a3
        have hfn := qxn p c n' p' c' k ta tb a1 a2 (a4.qfv e2) (a5.qfv f2) a6 a7
        obtain ⟨M, hM⟩ := q0w a1 (a4.qfv e2) (a5.qfv f2) a7
        have hlaw := qxv (by omega) (a4.qfv e2) (a5.qfv f2) hM
        have hlen : (zr p (xk k (xk 1 [] ta) tb)).length = (qbd p n' k ta tb).length := by rw [← hlaw]; exact (ua _).length_eq.symm
        rw [hlaw, hlen] at hfn
        refine ⟨[(b, 0), (b', 0)], [elemV p c n' 0 ta.length, elemV p' c' n' 1 tb.length, .int .i64 k], _, _, _, hfn, by simp [elemV, AV.ren, AV.zg, ofL, e1, f1], rfl,
          ⟨⟨L, hL, by omega, by rw [List.drop_zero, qb _ _ (qc _), g1, e1]; exact e3⟩, ⟨L', hL', by omega, by rw [List.drop_zero, qb _ _ (qc _), g2, f1]; exact f3⟩, trivial⟩, rfl,
          ⟨qj _ _ (qc _), qj _ _ (qc _), trivial⟩, ⟨⟨trivial, trivial, trivial, by simp [AV.under], trivial⟩, ⟨trivial, trivial, trivial, by simp [AV.under], trivial⟩, trivial, trivial⟩, by simp [elemV, AV.ren, AV.zg, Ren.ext], ?_⟩
        simp [after, upd, AO.wr, AO.ren, qb _ _ (qc _)]
      · cases he
    · cases he
  · cases he
def B38 : zb := (B37.put 124 (qa8))
theorem q5r : qo Try.prog B38 := (qed.put (q5o))
abbrev q6c : AO := .cells [.int .i64 0, .int .i64 0, .int .i64 0, .v (.slice none 0 0)]
theorem quy {p n : Int} : Ug p n [] := ⟨(fun t h => by cases h), (fun t h => by cases h), .nil⟩
abbrev ER := Int × Int × Int × List (Int × List Nat × Int) × Int
def q80 (r : ER) : Prop := okT r.2.2.2.1 ∧ r.2.2.2.1.length ≤ 300
def B39 : zb := B38
theorem qr7 : qo Try.prog B39 := q5r
structure NC (L : Nat) (F : Nat → Nat) : Prop where
  lt : ∀ k, k < L → F k < L
  inv : ∀ k, k < L → F (F k) = k
  fix : ∀ k, k < L → F k ≠ k
  jo : ∀ j l, j < L → l < L → ¬(j < l ∧ l < F j ∧ F j < F l)
def mf (n : Nat) (m : List Nat) (k : Nat) : Nat := place n (m.getD (place n k) 0)
theorem zz {n : Nat} {m : List Nat} (h : isS n m = true) : (1 ≤ n ∧ n ≤ 8) ∧ (∀ i, i < 2 * n → m.getD i 0 < 2 * n ∧ m.getD i 0 ≠ i ∧ m.getD (m.getD i 0) 0 = i) ∧ ∀ i, 2 * n ≤ i → i < 16 → m.getD i 0 = 0 := by
  unfold isS at h
  simp only [Bool.and_eq_true, decide_eq_true_eq] at h
  obtain ⟨hn, hp, hc⟩ := h
  refine ⟨hn, fun i hi => ?_, fun i hi hi' => ?_⟩
  · have := List.all_eq_true.1 hp i (List.mem_range.2 (by omega))
    rw [if_neg (by omega)] at this
    simpa using this
  · have := List.all_eq_true.1 hp i (List.mem_range.2 hi')
    rw [if_pos hi] at this
    simpa using this
theorem qhn {n : Nat} {m : List Nat} (h : isS n m = true) : NC (2 * n) (mf n m) := by
  obtain ⟨hn, hp', hz⟩ := zz h
  unfold isS at h
  simp only [Bool.and_eq_true, decide_eq_true_eq] at h
  obtain ⟨_, _, hc⟩ := h
  refine ⟨fun k hk => q7 (hp' _ (q7 hk)).1, fun k hk => ?_, fun k hk e => ?_, ?_⟩
  · show place n (m.getD (place n (place n (m.getD (place n k) 0))) 0) = k
    rw [zc (hp' _ (q7 hk)).1, (hp' _ (q7 hk)).2.2, zc hk]
  · apply (hp' _ (q7 hk)).2.1
    rw [← zc (hp' _ (q7 hk)).1]
    show place n (mf n m k) = place n k
    rw [e]
  · rintro j l hj hl ⟨b1, b2, b3⟩
    have h1 := List.all_eq_true.1 (List.all_eq_true.1 hc (place n j) (List.mem_range.2 (q7 hj))) (place n l) (List.mem_range.2 (q7 hl))
    simp only [Wv, Ww, zc hj, zc hl, Bool.not_eq_true', decide_eq_false_iff_not] at h1
    apply h1
    show min j (mf n m j) < min l (mf n m l) ∧ min l (mf n m l) < max j (mf n m j) ∧ max j (mf n m j) < max l (mf n m l)
    omega
theorem qzs {n : Nat} {m : List Nat} (hn : 1 ≤ n ∧ n ≤ 8) (hz : ∀ i, 2 * n ≤ i → i < 16 → m.getD i 0 = 0) (hl : ∀ i, i < 2 * n → m.getD i 0 < 2 * n) (h : NC (2 * n) (mf n m)) : isS n m = true := by
  have hm : ∀ i, i < 2 * n → mf n m (place n i) = place n (m.getD i 0) := fun i hi => by unfold mf; rw [zc hi]
  unfold isS
  simp only [Bool.and_eq_true, decide_eq_true_eq]
  refine ⟨hn, List.all_eq_true.2 fun i hi => ?_, List.all_eq_true.2 fun i hi => List.all_eq_true.2 fun k hk => ?_⟩
  · have hi' := List.mem_range.1 hi
    split
    · rename_i g1; simpa using hz i g1 hi'
    · rename_i g1
      have hi2 : i < 2 * n := by omega
      have h1 := hl i hi2
      simp only [decide_eq_true_eq]
      refine ⟨h1, fun e => ?_, ?_⟩
      · apply h.fix (place n i) (q7 hi2)
        rw [hm i hi2, e]
      · have h2 := h.inv (place n i) (q7 hi2)
        rw [hm i hi2, hm _ h1] at h2
        have h3 := congrArg (place n) h2
        rwa [zc (hl _ h1), zc hi2] at h3
  · have hi' := List.mem_range.1 hi
    have hk' := List.mem_range.1 hk
    simp only [Wv, Ww, ← hm i hi', ← hm k hk', Bool.not_eq_true', decide_eq_false_iff_not]
    rintro ⟨b1, b2, b3⟩
    have hx := q7 hi'
    have hy := q7 hk'
    generalize place n i = x at *
    generalize place n k = y at *
    have a := h.lt x hx
    have a' := h.lt y hy
    have c := h.inv x hx
    have c' := h.inv y hy
    have k1 := h.jo x y hx hy
    have k2 := h.jo x (mf n m y) hx a'
    have k3 := h.jo (mf n m x) y a hy
    have k4 := h.jo (mf n m x) (mf n m y) a a'
    rw [c'] at k2
    rw [c] at k3
    rw [c, c'] at k4
    omega
def up (j k : Nat) : Nat := if k < j then k else k + 2
def dn (j k : Nat) : Nat := if k < j then k else k - 2
theorem qto {j k : Nat} (h1 : k ≠ j) (h2 : k ≠ j + 1) : up j (dn j k) = k := by
  unfold up dn
  by_cases h : k < j
  · rw [if_pos h, if_pos h]
  · rw [if_neg h, if_neg (by omega)]; omega
theorem qtc {j k : Nat} : dn j (up j k) = k := by
  unfold up dn
  by_cases h : k < j
  · rw [if_pos h, if_pos h]
  · rw [if_neg h, if_neg (by omega)]; omega
theorem qkh {j k : Nat} : up j k ≠ j ∧ up j k ≠ j + 1 := by unfold up; split <;> omega
theorem qj8 {j k k' : Nat} : up j k < up j k' ↔ k < k' := by unfold up; split <;> split <;> omega
theorem qnf {j k L : Nat} (hj : j ≤ L) : up j k < L + 2 ↔ k < L := by unfold up; split <;> omega
theorem NC.insert {L j : Nat} {F F' : Nat → Nat} (h : NC L F) (hj : j ≤ L) (e1 : F' j = j + 1) (e2 : F' (j + 1) = j) (e : ∀ k, k < L → F' (up j k) = up j (F k)) : NC (L + 2) F' := by
  have hc : ∀ k, k < L + 2 → k = j ∨ k = j + 1 ∨ ∃ i, i < L ∧ k = up j i := fun k hk => by
    by_cases h1 : k = j
    · exact .inl h1
    by_cases h2 : k = j + 1
    · exact .inr (.inl h2)
    exact .inr (.inr ⟨dn j k, (qnf hj).1 (by rw [qto h1 h2]; exact hk), (qto h1 h2).symm⟩)
  refine ⟨fun k hk => ?_, fun k hk => ?_, fun k hk => ?_, fun a b ha hb => ?_⟩
  · rcases hc k hk with rfl | rfl | ⟨i, hi, rfl⟩
    · omega
    · omega
    · rw [e i hi]; exact (qnf hj).2 (h.lt i hi)
  · rcases hc k hk with rfl | rfl | ⟨i, hi, rfl⟩
    · rw [e1, e2]
    · rw [e2, e1]
    · rw [e i hi, e _ (h.lt i hi), h.inv i hi]
  · rcases hc k hk with rfl | rfl | ⟨i, hi, rfl⟩
    · omega
    · omega
    · rw [e i hi]
      intro h2
      have := congrArg (dn j) h2
      rw [qtc, qtc] at this
      exact h.fix i hi this
  · rcases hc a ha with rfl | rfl | ⟨i, hi, rfl⟩
    · rw [e1]; omega
    · rw [e2]; omega
    · rcases hc b hb with rfl | rfl | ⟨l, hl, rfl⟩
      · rw [e1, e i hi]; have := @qkh b (F i); omega
      · rw [e2, e i hi]; have := @qkh j (F i); have := @qkh j i; omega
      · rw [e i hi, e l hl, qj8, qj8, qj8]; exact h.jo i l hi hl
theorem NC.remove {L j : Nat} {F F' : Nat → Nat} (h : NC (L + 2) F) (hj : j ≤ L) (e : ∀ k, k < L → F' k = dn j (if F (up j k) = j then F (j + 1) else if F (up j k) = j + 1 then F j else F (up j k))) : NC L F' := by
  let G : Nat → Nat := fun x => if F x = j then F (j + 1) else if F x = j + 1 then F j else F x
  have hG : ∀ x, x < L + 2 → x ≠ j → x ≠ j + 1 → G x < L + 2 ∧ G x ≠ j ∧ G x ≠ j + 1 ∧ G (G x) = x ∧ G x ≠ x := fun x hx n1 n2 => by
    have a := h.lt x hx
    have c := h.inv x hx
    have f := h.fix x hx
    have a0 := h.lt j (by omega)
    have c0 := h.inv j (by omega)
    have f0 := h.fix j (by omega)
    have a1 := h.lt (j + 1) (by omega)
    have c1 := h.inv (j + 1) (by omega)
    have f1 := h.fix (j + 1) (by omega)
    show (if F x = j then F (j + 1) else if F x = j + 1 then F j else F x) < L + 2 ∧ _
    by_cases g1 : F x = j
    · have e0 : F j = x := by rw [← g1]; exact c
      have e3 : G x = F (j + 1) := if_pos g1
      have n3 : F (j + 1) ≠ j := fun g => by rw [g] at c1; omega
      refine ⟨by rw [if_pos g1]; exact a1, by rw [e3]; exact n3, by rw [e3]; exact f1, ?_, ?_⟩
      · rw [e3]
        show (if F (F (j + 1)) = j then F (j + 1) else if F (F (j + 1)) = j + 1 then F j else F (F (j + 1))) = x
        rw [c1, if_neg (by omega), if_pos rfl, e0]
      · rw [e3]; intro g; rw [g] at c1; omega
    · by_cases g2 : F x = j + 1
      · have e0 : F (j + 1) = x := by rw [← g2]; exact c
        have e3 : G x = F j := by show (if F x = j then F (j + 1) else if F x = j + 1 then F j else F x) = _; rw [if_neg g1, if_pos g2]
        have n3 : F j ≠ j + 1 := fun g => by rw [g] at c0; omega
        refine ⟨by rw [if_neg g1, if_pos g2]; exact a0, by rw [e3]; exact f0, by rw [e3]; exact n3, ?_, ?_⟩
        · rw [e3]
          show (if F (F j) = j then F (j + 1) else if F (F j) = j + 1 then F j else F (F j)) = x
          rw [c0, if_pos rfl, e0]
        · rw [e3]; intro g; rw [g] at c0; omega
      · have e3 : G x = F x := by show (if F x = j then F (j + 1) else if F x = j + 1 then F j else F x) = _; rw [if_neg g1, if_neg g2]
        refine ⟨by rw [if_neg g1, if_neg g2]; exact a, by rw [e3]; exact g1, by rw [e3]; exact g2, ?_, by rw [e3]; exact f⟩
        rw [e3]
        show (if F (F x) = j then F (j + 1) else if F (F x) = j + 1 then F j else F (F x)) = x
        rw [c, if_neg n1, if_neg n2]
  have hX : ∀ x y, x < L + 2 → y < L + 2 → x ≠ j → x ≠ j + 1 → y ≠ j → y ≠ j + 1 → ¬(x < y ∧ y < G x ∧ G x < G y) := fun x y hx hy n1 n2 n3 n4 => by
    have a := h.lt x hx
    have c := h.inv x hx
    have b := h.lt y hy
    have d := h.inv y hy
    have a0 := h.lt j (by omega)
    have c0 := h.inv j (by omega)
    have f0 := h.fix j (by omega)
    have a1 := h.lt (j + 1) (by omega)
    have c1 := h.inv (j + 1) (by omega)
    have f1 := h.fix (j + 1) (by omega)
    have gx : G x = if F x = j then F (j + 1) else if F x = j + 1 then F j else F x := rfl
    have gy : G y = if F y = j then F (j + 1) else if F y = j + 1 then F j else F y := rfl
    have k1 := h.jo x y hx hy
    by_cases g1 : F x = j
    · have e0 : F j = x := by rw [← g1]; exact c
      rw [gx, if_pos g1]
      by_cases g3 : F y = j
      · have : F j = y := by rw [← g3]; exact d
        omega
      by_cases g4 : F y = j + 1
      · have e4 : F (j + 1) = y := by rw [← g4]; exact d
        omega
      rw [gy, if_neg g3, if_neg g4]
      have k2 := h.jo (j + 1) y (by omega) hy
      have k3 := h.jo (F (j + 1)) (F y) a1 b
      have k4 := h.jo y (j + 1) hy (by omega)
      have k5 := h.jo x y hx hy
      have k6 := h.jo y (F (j + 1)) hy a1
      rw [c1, d] at k3
      rw [c1] at k6
      omega
    · by_cases g2 : F x = j + 1
      · have e0 : F (j + 1) = x := by rw [← g2]; exact c
        rw [gx, if_neg g1, if_pos g2]
        by_cases g3 : F y = j
        · have e3 : F j = y := by rw [← g3]; exact d
          omega
        by_cases g4 : F y = j + 1
        · have : F (j + 1) = y := by rw [← g4]; exact d
          omega
        rw [gy, if_neg g3, if_neg g4]
        have k2 := h.jo j y (by omega) hy
        have k3 := h.jo (F j) (F y) a0 b
        have k4 := h.jo y j hy (by omega)
        have k6 := h.jo y (F j) hy a0
        rw [c0, d] at k3
        rw [c0] at k6
        omega
      · rw [gx, if_neg g1, if_neg g2]
        by_cases g3 : F y = j
        · have e3 : F j = y := by rw [← g3]; exact d
          rw [gy, if_pos g3]
          have k2 := h.jo x (j + 1) hx (by omega)
          have k3 := h.jo (F (j + 1)) x a1 hx
          have k4 := h.jo x (F (j + 1)) hx a1
          have k5 := h.jo (j + 1) (F x) (by omega) a
          have k6 := h.jo j x (by omega) hx
          have k7 := h.jo (j + 1) x (by omega) hx
          rw [c1] at k3 k4
          rw [c] at k5
          omega
        by_cases g4 : F y = j + 1
        · have e4 : F (j + 1) = y := by rw [← g4]; exact d
          rw [gy, if_neg g3, if_pos g4]
          have k2 := h.jo x j hx (by omega)
          have k3 := h.jo (F j) x a0 hx
          have k4 := h.jo x (F j) hx a0
          have k5 := h.jo j (F x) (by omega) a
          have k6 := h.jo j x (by omega) hx
          have k7 := h.jo (j + 1) x (by omega) hx
          rw [c0] at k3 k4
          rw [c] at k5
          omega
        rw [gy, if_neg g3, if_neg g4]
        exact k1
  have hu : ∀ k, k < L → up j k < L + 2 ∧ up j k ≠ j ∧ up j k ≠ j + 1 := fun k hk => ⟨(qnf hj).2 hk, qkh.1, qkh.2⟩
  have he : ∀ k, k < L → F' k = dn j (G (up j k)) := e
  have hue : ∀ k, k < L → up j (F' k) = G (up j k) := fun k hk => by
    obtain ⟨b1, b2, b3⟩ := hu k hk
    obtain ⟨_, b4, b5, _⟩ := hG _ b1 b2 b3
    rw [he k hk, qto b4 b5]
  have hlt : ∀ k, k < L → F' k < L := fun k hk => by
    obtain ⟨b1, b2, b3⟩ := hu k hk
    obtain ⟨b0, b4, b5, _⟩ := hG _ b1 b2 b3
    rw [← qnf hj, hue k hk]; exact b0
  have upi : ∀ {a b : Nat}, up j a = up j b → a = b := fun {a b} hab => by have := congrArg (dn j) hab; rwa [qtc, qtc] at this
  refine ⟨hlt, fun k hk => ?_, fun k hk => ?_, fun a b ha hb => ?_⟩
  · obtain ⟨b1, b2, b3⟩ := hu k hk
    apply upi
    rw [hue _ (hlt k hk), hue k hk]
    exact (hG _ b1 b2 b3).2.2.2.1
  · obtain ⟨b1, b2, b3⟩ := hu k hk
    intro g
    have := hue k hk
    rw [g] at this
    exact (hG _ b1 b2 b3).2.2.2.2 this.symm
  · obtain ⟨b1, b2, b3⟩ := hu a ha
    obtain ⟨d1, d2, d3⟩ := hu b hb
    have := hX _ _ b1 d1 b2 b3 d2 d3
    rw [← hue a ha, ← hue b hb, qj8, qj8, qj8] at this
    exact this
def Z6 (at' : Nat → Nat) (to : Nat → Nat) (ok : Nat → Bool) : Nat → List Nat
  | 0 => List.replicate 16 0
  | k + 1 => if ok k then (Z6 at' to ok k).set (at' k) (to k) else Z6 at' to ok k
theorem uy (a t : Nat → Nat) (ok : Nat → Bool) : ∀ k, (Z6 a t ok k).length = 16
  | 0 => by simp [Z6]
  | k + 1 => by unfold Z6; split <;> simp [uy a t ok k]
theorem qhp {a t : Nat → Nat} {ok : Nat → Bool} {L : Nat} (hinj : ∀ i j, i < L → j < L → ok i = true → ok j = true → a i = a j → i = j) (ha : ∀ i, i < L → ok i = true → a i < 16) : ∀ k, k ≤ L → ∀ i, i < L → ok i = true → (Z6 a t ok k).getD (a i) 0 = if i < k then t i else 0
  | 0, _, i, hi, _ => by
    simp only [Z6, List.getD_eq_getElem?_getD, List.getElem?_replicate]
    split <;> simp
  | k + 1, hk, i, hi, ho => by
    have ih := qhp (t := t) hinj ha k (by omega) i hi ho
    unfold Z6
    split
    · rename_i hok
      rw [jw, uy]
      by_cases e : k = i
      · subst e; rw [if_pos ⟨rfl, ha k hi ho⟩, if_pos (by omega)]
      · rw [if_neg (fun h => e (hinj k i (by omega) hi hok ho h.1)), ih]
        by_cases h : i < k
        · rw [if_pos h, if_pos (by omega)]
        · rw [if_neg h, if_neg (by omega)]
    · rename_i hok
      rw [ih]
      by_cases e : k = i
      · subst e; exact absurd ho hok
      by_cases h : i < k
      · rw [if_pos h, if_pos (by omega)]
      · rw [if_neg h, if_neg (by omega)]
theorem qc8 {a t : Nat → Nat} {ok : Nat → Bool} {x : Nat} : ∀ k, (∀ i, i < k → ok i = true → a i ≠ x) → (Z6 a t ok k).getD x 0 = 0
  | 0, _ => by
    simp only [Z6, List.getD_eq_getElem?_getD, List.getElem?_replicate]
    split <;> simp
  | k + 1, h => by
    have ih := qc8 (t := t) k fun i hi => h i (by omega)
    unfold Z6
    split
    · rename_i hok
      rw [jw, if_neg (fun h2 => h k (by omega) hok h2.1), ih]
    · exact ih
theorem qj3 {a t : Nat → Nat} {ok : Nat → Bool} {B : Nat} (hB : 0 < B) : ∀ k, (∀ i, i < k → ok i = true → t i < B) → ∀ x ∈ Z6 a t ok k, x < B
  | 0, _, x, hx => by rw [(List.mem_replicate.1 hx).2]; exact hB
  | k + 1, h, x, hx => by
    have ih := qj3 (a := a) hB k fun i hi => h i (by omega)
    unfold Z6 at hx
    split at hx
    · rename_i hok
      rcases List.mem_or_eq_of_mem_set hx with h1 | h1
      · exact ih x h1
      · rw [h1]; exact h k (by omega) hok
    · exact ih x hx
def fl (n i : Nat) : Nat := (i + n) % (2 * n)
def wd (n i : Nat) : Nat := if i < n then i else i + 1
def qap (n : Nat) (m : List Nat) (k : Nat) : List Nat := Z6 (wd n) (fun i => wd n (m.getD i 0)) (fun _ => true) k
def xg (n : Nat) (m : List Nat) : List Nat := ((qap n m (2 * n)).set n (2 * n + 1)).set (2 * n + 1) n
theorem qh5 {n : Nat} {m : List Nat} (hn8 : n < 8) (h : isS n m = true) : isS (n + 1) (xg n m) = true ∧ okD (xg n m) := by
  obtain ⟨hn, hp, hz⟩ := zz h
  have hwl : ∀ i, i < 2 * n → wd n i < 2 * n + 1 := fun i hi => by unfold wd; split <;> omega
  have hwn : ∀ i, wd n i ≠ n := fun i => by unfold wd; split <;> omega
  have hinj : ∀ i j, wd n i = wd n j → i = j := fun i j e => by unfold wd at e; split at e <;> split at e <;> omega
  have hg : ∀ i, i < 2 * n → (xg n m).getD (wd n i) 0 = wd n (m.getD i 0) := fun i hi => by
    have := qhp (a := wd n) (t := fun i => wd n (m.getD i 0)) (ok := fun _ => true) (L := 2 * n) (fun i j hi hj _ _ e => hinj i j e) (fun i hi _ => by have := hwl i hi; omega) (2 * n) (Nat.le_refl _) i hi rfl
    rw [if_pos hi] at this
    have h1 := hwl i hi
    have h2 := hwn i
    unfold xg
    rw [jw, if_neg (by omega), jw, if_neg (by omega)]
    exact this
  have hgn : (xg n m).getD n 0 = 2 * n + 1 := by
    unfold xg
    rw [jw, if_neg (by omega), jw, if_pos ⟨rfl, by unfold qap; rw [uy]; omega⟩]
  have hgl : (xg n m).getD (2 * n + 1) 0 = n := by
    unfold xg
    rw [jw, if_pos ⟨rfl, by unfold qap; rw [List.length_set, uy]; omega⟩]
  have hcase : ∀ i, i < 2 * (n + 1) → i = n ∨ i = 2 * n + 1 ∨ ∃ k, k < 2 * n ∧ i = wd n k := fun i hi => by
    by_cases h1 : i = n
    · exact .inl h1
    by_cases h2 : i = 2 * n + 1
    · exact .inr (.inl h2)
    by_cases h3 : i < n
    · exact .inr (.inr ⟨i, by omega, by unfold wd; rw [if_pos h3]⟩)
    · exact .inr (.inr ⟨i - 1, by omega, by unfold wd; rw [if_neg (by omega)]; omega⟩)
  have hpw : ∀ k, k < 2 * n → place (n + 1) (wd n k) = up n (place n k) := fun k hk => by
    unfold wd place up
    by_cases h1 : k < n
    · rw [if_pos h1, if_pos h1, if_pos (by omega), if_pos h1]
    · rw [if_neg h1, if_neg h1, if_neg (by omega), if_neg (by omega)]; omega
  refine ⟨qzs (by omega) (fun i h1 h2 => ?_) (fun i hi => ?_) ?_, ?_, ?_⟩
  · unfold xg
    rw [jw, if_neg (by omega), jw, if_neg (by omega)]
    exact qc8 _ fun j hj _ e => by have := hwl j hj; omega
  · rcases hcase i hi with rfl | rfl | ⟨k, hk, rfl⟩
    · rw [hgn]; omega
    · rw [hgl]; omega
    · rw [hg k hk]; have := hwl _ (hp k hk).1; omega
  · have hp1 : place (n + 1) n = n := by unfold place; rw [if_pos (by omega)]
    have hp2 : place (n + 1) (2 * n + 1) = n + 1 := by unfold place; rw [if_neg (by omega)]; omega
    have hp3 : place (n + 1) (n + 1) = 2 * n + 1 := by unfold place; rw [if_neg (by omega)]; omega
    rw [show 2 * (n + 1) = 2 * n + 2 by omega]
    refine (qhn h).insert (j := n) (by omega) ?_ ?_ fun k hk => ?_
    · unfold mf; rw [hp1, hgn, hp2]
    · unfold mf; rw [hp3, hgl, hp1]
    · have h1 := hpw (place n k) (q7 hk)
      rw [zc hk] at h1
      have h2 : place (n + 1) (up n k) = wd n (place n k) := by
        rw [← h1, zc (by have := hwl _ (q7 hk); omega)]
      unfold mf
      rw [h2, hg _ (q7 hk), hpw _ (hp _ (q7 hk)).1]
  · unfold xg qap; rw [List.length_set, List.length_set, uy]
  · intro x hx
    unfold xg at hx
    rcases List.mem_or_eq_of_mem_set hx with hx | rfl
    · rcases List.mem_or_eq_of_mem_set hx with hx | rfl
      · refine Nat.lt_trans (qj3 (B := 20) (by omega) _ (fun i hi _ => ?_) x hx) (by omega)
        have := hwl _ (hp i hi).1
        show wd n (m.getD i 0) < 20
        omega
      · omega
    · omega
def cl (n i : Nat) : Nat := if i < n then i else i - 1
end Go.Proofs.Ytfhckbbgmblhbaa

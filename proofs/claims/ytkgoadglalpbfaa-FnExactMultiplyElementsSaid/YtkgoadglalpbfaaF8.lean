/- Contracts: the element of a diagram. -/
import Derived.Test.YtkgoadglalpbfaaF7
namespace Go.Proofs.Ytkgoadglalpbfaa
open Go.Am Go.Dia
set_option linter.unusedSimpArgs false
set_option linter.unusedVariables false
set_option maxRecDepth 4000
set_option maxHeartbeats 1000000

def tsE : Nat → List AE → Option (List (Int × List Nat × Int))
  | _, [] => some []
  | k, ⟨.agg l, .int .i64 v, b⟩ :: es => match diaOf l, tsE (k + 1) es with
    | some (n, m), some ts => if b = k then some ((n, m, v) :: ts) else none
    | _, _ => none
  | _, _ => none
theorem tsE_esT : ∀ {ts : List (Int × List Nat × Int)} {k : Nat}, okT ts → tsE k (esT k ts) = some ts
  | [], _, _ => rfl
  | t :: l, k, h => by
    simp only [esT, tsE, diaOf_dia (h t (List.mem_cons_self ..)), tsE_esT (ts := l) (k := k + 1) fun u hu => h u (List.mem_cons_of_mem _ hu), if_true]
theorem tsE_some : ∀ {es : List AE} {k : Nat} {ts : List (Int × List Nat × Int)}, tsE k es = some ts → es = esT k ts ∧ okT ts
  | [], k, ts, h => by simp only [tsE, Option.some.injEq] at h; subst h; exact ⟨rfl, fun t ht => by cases ht⟩
  | ⟨key, val, b⟩ :: es, k, ts, h => by
    unfold tsE at h
    split at h
    · rename_i e; cases e
    · rename_i e; cases e
      split at h
      · rename_i n m ts' hd hts
        split at h
        · rename_i hb
          cases h; subst hb
          obtain ⟨rfl, hm⟩ := diaOf_some hd
          obtain ⟨e1, e2⟩ := tsE_some hts
          refine ⟨by rw [e1]; rfl, fun t ht => ?_⟩
          rcases List.mem_cons.1 ht with rfl | ht
          · exact hm
          · exact e2 t ht
        · cases h
      · cases h
    · cases h
theorem set_same {α : Type} : ∀ {l : List α} {i : Nat} {a : α}, l[i]? = some a → l.set i a = l
  | [], i, a, h => by simp at h
  | x :: l, 0, a, h => by simp only [List.getElem?_cons_zero, Option.some.injEq] at h; simp [h]
  | x :: l, i + 1, a, h => by simp only [List.getElem?_cons_succ] at h; simp [set_same h]

def szOf (ts : List (Int × List Nat × Int)) : Int := match ts with | t :: _ => t.1 | [] => 0
def g_with : BE := fun hp xs => match xs with
  | [.ptr b 0, .map m] => match rd hp b, hp[m]? with
    | some (.int .i64 p :: .int .i64 c :: .int .i64 n :: _), some (.map es ck) => match tsE 0 es with
      | some ts => chk (ck = ts.length ∧ (0 < p ∧ p ≤ 1000000) ∧ ts.length ≤ 1000000 ∧ (0 ≤ szOf ts ∧ szOf ts ≤ 8) ∧ (∀ t ∈ ts, t.1 = szOf ts) ∧ (ts.map txt).Nodup)
          (some (elemV p c (if restT p ts = [] then n else szOf ts) hp.length (restT p ts).length, hp ++ [.vec 18 (trms (sortT (restT p ts)))]))
      | none => none
    | _, _ => none
  | _ => none
theorem k_with : Am.Callee Try.prog 113 g_with := Callee.fp fun hp xs v hp' he => by
  unfold g_with at he
  split at he
  · rename_i b m
    split at he
    · rename_i p c n L es ck hrd hm
      split at he
      · rename_i ts hts
        obtain ⟨⟨h1, h2, h3, h4, h5, h6⟩, he⟩ := chk_some he
        simp only [Option.some.injEq, Prod.mk.injEq] at he
        obtain ⟨rfl, rfl⟩ := he
        obtain ⟨rfl, hok⟩ := tsE_some hts
        subst h1
        have hne : m ≠ b := by
          rintro rfl
          simp [rd, hm] at hrd
        refine ⟨[(b, 0), (m, 0)], [.ptr 0 0, .map 1], _, _, _, c_with p c n (szOf ts) ts h2 h4 hok h5 h6 h3, ?_, rfl, ⟨⟨_, hrd, by simp, by simp [AV.rens, AV.ren]⟩, ⟨rfl, ?_⟩, trivial⟩, ?_, ?_, ?_, ?_, ?_⟩
        · simp [ofL, AV.rens, AV.ren]
        · rw [mapT_ren]; exact hm
        · simp [apartB, AO.wr, hne]
        · exact ⟨⟨trivial, trivial, trivial, trivial⟩, esT_under _ _ _, trivial⟩
        · exact ⟨by simp [AV.under], by simp [AV.under], trivial⟩
        · simp [elemV, AV.ren, AV.rens, Ren.ext]
        · simp only [after, upd, wr_ro, show (mapT ts).wr = true from rfl, mapT_ren, rn_ro, rn_vec, if_true, Bool.false_eq_true, if_false, set_same (show hp[m]? = some (mapT ts) from hm), rens_scal _ _ (scals_trms _), List.length_cons, List.length_nil, List.drop_succ_cons, List.drop_zero, List.map_cons, List.map_nil]
      · cases he
    · cases he
  · cases he
def B28 : Book := (B27.put 113 (g_with))

theorem B28_ok : BookOk Try.prog B28 := (B27_ok.put (k_with))

abbrev KD : List LT := [LT.int, LT.int, LT.int, LT.int, LT.int, LT.int, LT.int, LT.int, LT.int, LT.int, LT.int, LT.int, LT.int, LT.int, LT.int, LT.int, LT.int]
theorem leqs_u8s : ∀ (m m' : List Nat), m.length = m'.length → leqs (List.replicate m.length .int) (u8s m) (u8s m') = some (decide (m = m'))
  | [], [], _ => rfl
  | [], _ :: _, h => by simp at h
  | _ :: _, [], h => by simp at h
  | a :: m, b :: m', h => by
    have ih := leqs_u8s m m' (by simpa using h)
    simp only [u8s] at ih
    simp only [List.length_cons, List.replicate_succ, u8s, List.map_cons, leqs, leq, if_true, ih]
    by_cases e : a = b
    · subst e; simp
    · have : ¬ ((a : Int) = (b : Int)) := by omega
      simp [e, this]
theorem leqs_dia {n n' : Int} {m m' : List Nat} (h : m.length = 16) (h' : m'.length = 16) : leqs KD (dia n m) (dia n' m') = some (decide (n = n' ∧ m = m')) := by
  have h1 := leqs_u8s m m' (by rw [h, h'])
  rw [h] at h1
  have h2 : KD = .int :: List.replicate 16 .int := rfl
  rw [h2]
  simp only [dia, leqs, leq, if_true, h1]
  by_cases e : n = n'
  · subst e; simp
  · simp [e]
theorem kok_dia {n : Int} {m : List Nat} (h : m.length = 16) : kok KD true (.agg (dia n m)) = true := by
  simp only [kok, keq, leqs_dia h h]


def B29 : Book := B28

theorem B29_ok : BookOk Try.prog B29 := B28_ok

theorem ren_el (p c n : Int) (b k m : Nat) : AV.ren (shiftR m) (.agg [.int .i64 p, .int .i64 c, .int .i64 n, .slc b 0 k false 0]) = .agg [.int .i64 p, .int .i64 c, .int .i64 n, .slc (m + b) 0 k false 0] := rfl

def B30 : Book := B29

theorem B30_ok : BookOk Try.prog B30 := B29_ok

end Go.Proofs.Ytkgoadglalpbfaa

/- Plain laws of elements: sums kept below the modulus. Contracts: products of elements, the implementation. Contracts: products of elements. Contracts: units and generators on both sides. Contracts: powers of elements. Contracts: the statement FnExactPowerElement. Elements that a law is handed, off their readings. The types of the elements that the laws are handed, and the top of a law of one element. -/
import Derived.Test.YtkgoadglalpbfaaP5
import Derived.Test.YtkgoadglalpbfaaP4
import Derived.Test.YtkgoadglalpbfaaP3
import Derived.Test.YtkgoadglalpbfaaAmC
import Derived.OpenShut
import Derived.KernelRfl
namespace Go.Proofs.Ytkgoadglalpbfaa
open Go.Am Go.Dia
open Nat renaming reduceAdd → nA, reduceMul → nM, reduceSub → nS, reduceEqDiff → nE, reduceLT → nL, reduceLeDiff → nD, reduceBEq → nB
open Int renaming reduceEq → iE, reduceNe → iN, reduceBEq → iB, reduceBNe → iC, reduceLT → iL, reduceLE → iD, reduceAdd → iA, reduceSub → iS, reduceMul → iM
set_option linter.unusedSimpArgs false
set_option linter.unusedVariables false
set_option maxRecDepth 4000
set_option maxHeartbeats 1000000
def Wx (n : Int) (m : List Nat) (S : List (Int × List Nat × Int)) : Int := match Uy n m S with
  | none => 0
  | some j => (S.getD j zT).2.2
def Bv (n : Int) (m : List Nat) (v : Int) (S : List (Int × List Nat × Int)) : List (Int × List Nat × Int) := match Uy n m S with
  | none => S ++ [(n, m, v)]
  | some j => S.set j (n, m, v)
theorem ql6 {n v : Int} {m : List Nat} {S : List (Int × List Nat × Int)} : Bv n m v S = G6 n m (v - Wx n m S) S := by
  unfold Bv Wx
  cases h : Uy n m S with
  | none => simp only [(qh5 h).1, Int.sub_zero]
  | some j =>
    simp only [(qi8 h).2.2.2]
    rw [show (S.getD j zT).2.2 + (v - (S.getD j zT).2.2) = v by omega]
theorem Ut {n v : Int} {m : List Nat} {S : List (Int × List Nat × Int)} {u : Int × List Nat × Int} (h : u ∈ Bv n m v S) : u ∈ S ∨ u = (n, m, v) := by
  unfold Bv at h
  split at h
  · rcases List.mem_append.1 h with h | h
    · exact .inl h
    · exact .inr (List.mem_singleton.1 h)
  · exact List.mem_or_eq_of_mem_set h
theorem qv6 {n v : Int} {m : List Nat} {S : List (Int × List Nat × Int)} : (Bv n m v S).length ≤ S.length + 1 := by
  unfold Bv
  split <;> simp
def qi0 (p n : Int) (S : List (Int × List Nat × Int)) : Prop := qxy n 10000 S ∧ ∀ t ∈ S, 0 ≤ t.2.2 ∧ t.2.2 ≤ p - 1
theorem qxl {p n : Int} (hp : 0 < p) {m : List Nat} {S : List (Int × List Nat × Int)} (h : qi0 p n S) : 0 ≤ Wx n m S ∧ Wx n m S ≤ p - 1 := by
  unfold Wx
  cases e : Uy n m S with
  | none => exact ⟨Int.le_refl 0, by show (0 : Int) ≤ p - 1; omega⟩
  | some j => exact h.2 _ (by rw [uy (qi8 e).1]; exact List.getElem_mem _)
theorem qu0 {p n v : Int} {m : List Nat} {S : List (Int × List Nat × Int)} (hp : p ≤ 97) (h : qi0 p n S) (hm : okD m) (hs : isS n.toNat m = true) (hv : 0 ≤ v ∧ v ≤ p - 1) : qi0 p n (Bv n m v S) := by
  have hone := qko (n := n) (f := v - Wx n m S) (m := m) (ts := S) (fun t ht => (h.1.dia t ht).1) h.1.one
  rw [← ql6] at hone
  refine ⟨⟨fun t ht => ?_, fun t ht => ?_, fun t ht => ?_, hone⟩, fun t ht => ?_⟩
  · rcases Ut ht with h1 | rfl
    · exact h.1.ok t h1
    · exact hm
  · rcases Ut ht with h1 | rfl
    · exact h.1.dia t h1
    · exact ⟨rfl, hs⟩
  · rcases Ut ht with h1 | rfl
    · exact h.1.fac t h1
    · exact ⟨by show -10000 ≤ v; omega, by show v ≤ 10000; omega⟩
  · rcases Ut ht with h1 | rfl
    · exact h.2 t h1
    · exact hv
def qa5 (p n : Int) (m : List Nat) (f : Int) (S : List (Int × List Nat × Int)) : List (Int × List Nat × Int) := Bv n m ((Wx n m S + f).emod p) S
def ML (p n : Int) (l : List (Int × List Nat × Int)) : List (Int × List Nat × Int) := l.foldl (fun S t => qa5 p n t.2.1 t.2.2 S) []
theorem qxq {p n : Int} {l : List (Int × List Nat × Int)} {t : Int × List Nat × Int} : ML p n (l ++ [t]) = qa5 p n t.2.1 t.2.2 (ML p n l) := by
  unfold ML; rw [List.foldl_append]; rfl
theorem qwj {p n f : Int} {m : List Nat} {S : List (Int × List Nat × Int)} (hp : 0 < p ∧ p ≤ 97) (h : qi0 p n S) (hm : okD m) (hs : isS n.toNat m = true) : qi0 p n (qa5 p n m f S) :=
  qu0 hp.2 h hm hs ⟨Int.emod_nonneg _ (by omega), Int.le_sub_one_of_lt (Int.emod_lt_of_pos _ hp.1)⟩
theorem qet {p n : Int} (hp : 0 < p ∧ p ≤ 97) : ∀ {l acc : List (Int × List Nat × Int)}, qi0 p n acc → (∀ t ∈ l, okD t.2.1 ∧ isS n.toNat t.2.1 = true) → qi0 p n (l.foldl (fun S t => qa5 p n t.2.1 t.2.2 S) acc) ∧ (l.foldl (fun S t => qa5 p n t.2.1 t.2.2 S) acc).length ≤ acc.length + l.length
  | [], acc, h, _ => ⟨h, by simp⟩
  | t :: l, acc, h, hl => by
    have h1 := hl t (List.mem_cons_self ..)
    have := qet hp (l := l) (qwj (f := t.2.2) hp h h1.1 h1.2) fun u hu => hl u (List.mem_cons_of_mem _ hu)
    have h2 : (qa5 p n t.2.1 t.2.2 acc).length ≤ acc.length + 1 := qv6
    refine ⟨this.1, ?_⟩
    have h3 := this.2
    rw [List.foldl_cons, List.length_cons]; omega
theorem qxk {p n f : Int} {m m' : List Nat} {S : List (Int × List Nat × Int)} (h : ∀ t ∈ S, t.1 = n) : p ∣ cf m (qa5 p n m' f S) - (cf m S + if m' = m then f else 0) := by
  unfold qa5
  rw [ql6, qp2 h]
  by_cases e : m' = m
  · rw [if_pos e, if_pos e]
    have := qd0 p (Wx n m' S + f)
    refine Qb this (Int.dvd_zero p) ?_
    omega
  · rw [if_neg e, if_neg e]
    refine Qb (Int.dvd_zero p) (Int.dvd_zero p) ?_
    omega
theorem qx1 {p n f : Int} {m : List Nat} {S : List (Int × List Nat × Int)} (h : ∀ t ∈ S, t.1 = n) : ∀ t ∈ qa5 p n m f S, t.1 = n := fun t ht => by
  rcases Ut ht with h1 | rfl
  · exact h t h1
  · rfl
theorem qpq {p n : Int} {m : List Nat} : ∀ {l acc : List (Int × List Nat × Int)}, (∀ t ∈ acc, t.1 = n) → p ∣ cf m (l.foldl (fun S t => qa5 p n t.2.1 t.2.2 S) acc) - (cf m acc + qm4 id (fun _ => 1) m l)
  | [], acc, h => by simp [qm4]
  | t :: l, acc, h => by
    have ih := qpq (p := p) (m := m) (l := l) (qx1 (p := p) (m := t.2.1) (f := t.2.2) h)
    have h1 := qxk (p := p) (f := t.2.2) (m := m) (m' := t.2.1) h
    rw [List.foldl_cons]
    refine Qb ih h1 ?_
    simp only [qm4, id, Int.mul_one]
    omega
theorem qyd {p n : Int} {l : List (Int × List Nat × Int)} (hp : 0 < p ∧ p ≤ 97) (h : qrk n 10000 id (fun _ => 1) l) : Xs (xg p (ML p n l)) = MP p n l := by
  have h0 : vc p n [] := ⟨(fun t h => by cases h), (fun t h => by cases h), (fun t h => by cases h), .nil⟩
  have hs := (qet (p := p) (n := n) hp (l := l) (acc := []) ⟨⟨(fun t h => by cases h), (fun t h => by cases h), (fun t h => by cases h), .nil⟩, fun t h => by cases h⟩ fun t ht => ⟨(h t ht).1, (h t ht).2.1⟩).1
  refine qk7 hp.1 (qvj hp.1 hs.1) (qaq hp.1 h0 h).1 fun m => ?_
  have h1 := qpq (p := p) (n := n) (m := m) (acc := []) (l := l) (by simp)
  have h2 := qvy (p := p) (n := n) (φ := id) (κ := fun _ => 1) (m := m) (acc := []) (a := l) (by simp)
  have h3 := qw1 (p := p) (m := m) (S := ML p n l)
  have h4 := Qb h3 h1 (z := cf m (Xs (xg p (ML p n l))) - (cf m [] + qm4 id (fun _ => 1) m l)) (by unfold ML; omega)
  exact qjh h4 h2 (by unfold MP; omega)
theorem qna {n : Int} {m : List Nat} {S : List (Int × List Nat × Int)} (hm : m.length = 16) (ho : okT S) (h : Uy n m S = none) (v : Int) :
    ua KD true (.agg (dia n m)) (esT 0 S) 0 = some none ∧ Wx n m S = 0 ∧ (AO.map (esT 0 S ++ [(⟨.agg (dia n m), .int .i64 v, S.length⟩ : AE)]) (S.length + 1)) = Qp (Bv n m v S) := by
  refine ⟨by rw [qfy hm ho, h]; rfl, by unfold Wx; rw [h], ?_⟩
  have e : Bv n m v S = S ++ [(n, m, v)] := by unfold Bv; rw [h]
  rw [e]
  show _ = AO.map (esT 0 (S ++ [(n, m, v)])) (S ++ [(n, m, v)]).length
  rw [qpx]; simp [esT]
theorem qn3 {n : Int} {m : List Nat} {S : List (Int × List Nat × Int)} {j : Nat} (hm : m.length = 16) (ho : okT S) (h : Uy n m S = some j) (v : Int) :
    ua KD true (.agg (dia n m)) (esT 0 S) 0 = some (some (j, ⟨.agg (dia n m), .int .i64 (Wx n m S), j⟩)) ∧ (AO.map ((esT 0 S).set j ⟨.agg (dia n m), .int .i64 v, j⟩) S.length) = Qp (Bv n m v S) := by
  have e1 : Wx n m S = (S.getD j zT).2.2 := by unfold Wx; rw [h]
  refine ⟨by rw [qfy hm ho, h, e1]; simp, ?_⟩
  have e : Bv n m v S = S.set j (n, m, v) := by unfold Bv; rw [h]
  rw [e]
  show _ = AO.map (esT 0 (S.set j (n, m, v))) (S.set j (n, m, v)).length
  have := qpd (n := n) (v := v) (m := m) (ts := S) (k := 0) (j := j)
  rw [Nat.zero_add] at this
  rw [this]; simp
theorem qup {p c n : Int} (hp : 2 ≤ p ∧ p ≤ 97) (hc : 0 ≤ c ∧ c ≤ p - 1) {a b : List (Int × List Nat × Int)} (ha : vc p n a) (hb : vc p n b) (hl : a.length ≤ 300 ∧ b.length ≤ 300) {l : List (Int × List Nat × Int)} (h : ∀ t ∈ l, t ∈ wb p c n a b) (hl : l.length ≤ 100000) :
    qi0 p n (ML p n l) ∧ (ML p n l).length ≤ 100000 := by
  have hm := qio (c := c) hp hc ha hb
  have h1 := qet (p := p) (n := n) (by omega) (l := l) (acc := []) ⟨⟨(fun t h => by cases h), (fun t h => by cases h), (fun t h => by cases h), .nil⟩, fun t h => by cases h⟩ fun t ht => ⟨(hm t (h t ht)).1, (hm t (h t ht)).2.1⟩
  exact ⟨h1.1, Nat.le_trans h1.2 (by simpa using hl)⟩
theorem jf : B87 113 = some (Xf) := rfl
theorem ud : B87 128 = some (qk Vp) := rfl
theorem uh : B87 127 = some (qk vp) := rfl
def bl : AC := .seq (.region [oP 24 .lss 23 22]) (.seq (.cond 24 .skip (.exit 2)) (.seq (.block 3 (.seq (.region [oX 25 18 21 23,oN 26 18 25,o0 9 (.alloc [.int .i64 0,.int .u8 0,.int .u8 0,.int .u8 0,.int .u8 0,.int .u8 0,.int .u8 0,.int .u8 0,.int .u8 0,.int .u8 0,.int .u8 0,.int .u8 0,.int .u8 0,.int .u8 0,.int .u8 0,.int .u8 0,.int .u8 0,.int .i64 0]),oS 18 9 26]) (.seq (.region [oF 28 0 7,oN 29 17 28,oF 30 0 9,oN 31 17 30,oC 32 127 [.t 29,.t 31],oM 27 32,oE 33 0 27,oE 34 1 27,o0 10 (.alloc [.int .i64 0,.int .u8 0,.int .u8 0,.int .u8 0,.int .u8 0,.int .u8 0,.int .u8 0,.int .u8 0,.int .u8 0,.int .u8 0,.int .u8 0,.int .u8 0,.int .u8 0,.int .u8 0,.int .u8 0,.int .u8 0,.int .u8 0]),oS 17 10 33,oM 11 34]) (.draw true [oM 35 5,oN 36 17 10,oM 37 5,oN 38 17 10,o0 39 (.lookup [.int,.int,.int,.int,.int,.int,.int,.int,.int,.int,.int,.int,.int,.int,.int,.int,.int] true (.int .i64 0) false (.t 37) (.t 38)),oF 40 17 7,oL 41 40,oF 42 17 9,oL 43 42,oP 44 .mul 41 43,oF 45 0 2,oL 46 45,oP 47 .rem 44 46,oF 48 1 2,oL 49 48,oM 50 11,oF 51 0 2,oL 52 51,oF 56 0 2,oL 57 56,oC 53 128 [.t 49,.t 50,.t 52],oP 54 .mul 47 53,oP 55 .add 39 54,oP 58 .rem 55 57,⟨none,none,.op (.Up [.int,.int,.int,.int,.int,.int,.int,.int,.int,.int,.int,.int,.int,.int,.int,.int,.int] true (.t 35) (.t 36) (.t 58))⟩])))) (.region [oK 59 .add 23 1,oM 23 59])))
def J7 : AC := .region [oK 60 .add 16 1,oM 16 60]
def Qs : AC := .seq (.region [oP 17 .lss 16 15]) (.seq (.cond 17 .skip (.exit 0)) (.seq (.block 1 (.seq (.region [oX 18 18 14 16,oN 19 18 18,o0 7 (.alloc [.int .i64 0,.int .u8 0,.int .u8 0,.int .u8 0,.int .u8 0,.int .u8 0,.int .u8 0,.int .u8 0,.int .u8 0,.int .u8 0,.int .u8 0,.int .u8 0,.int .u8 0,.int .u8 0,.int .u8 0,.int .u8 0,.int .u8 0,.int .i64 0]),oS 18 7 19]) (.seq (.region [oF 20 3 3,oL 21 20,o0 22 (.len .slc (.t 21)),oI 23 0]) (.block 2 (.loop bl))))) J7))
def Vd : AC := .seq (.region [oM 61 5,oC 62 113 [.t 2,.t 61],oS 4 4 62]) .ret
def Us : AC := .seq (.region [o0 2 (.box (.t 0)),o0 3 (.box (.t 1)),o0 4 (.alloc [.int .i64 0,.int .i64 0,.int .i64 0,(.v (.slice none 0 0))])]) (.seq (.region [o0 12 (.qal),oM 5 12]) (.seq (.seq (.region [oF 13 3 2,oL 14 13,o0 15 (.len .slc (.t 14)),oI 16 0]) (.block 0 (.loop Qs))) Vd))
theorem qej : zh Try.prog 90 = some ⟨63, Us, [.ba 4 4]⟩ := by kernel_rfl
theorem qeu (p c n p' c' : Int) (a b : List (Int × List Nat × Int)) (hp : 2 ≤ p ∧ p ≤ 97) (hc : 0 ≤ c ∧ c ≤ p - 1) (hn : 0 ≤ n ∧ n ≤ 8) (ha : vc p n a) (hb : vc p n b) (hl : a.length ≤ 300 ∧ b.length ≤ 300) :
    Am.Fn Try.prog 90 [elemV p c n 0 a.length, elemV p' c' n 1 b.length] [.ro (qn a), .ro (qn b)] (fun v H' => v = elemV p c n 2 (MP p n (wb p c n a b)).length ∧ H' = [.ro (qn a), .ro (qn b), .vec 18 (qn (MP p n (wb p c n a b)))]) := by
  refine Am.Fn.ofB qil mixed qej (by simp [elemV, AV.qx, AV.under]) (Bk (qb _) (qb _)) ?_
  have hal := qt ha.ok
  have hbl := qt hb.ok
  simp (maxSteps := 3000000) only [qj, zH, Us, jf, ud, uh, Vp, vp, Xf, elemV, hal, hbl, Nat.le_refl, iE, iN, iB, iC, iL, iD, iA, iS, iM, qa, zZ, ↓qm, ↓reduceIte, reduceCtorEq, nA, nM, nS, nE, nL, nD]; try simp only [qa, zY]
  have hlen2 : ∀ l : List (Int × List Nat × Int), (∀ t ∈ l, t ∈ wb p c n a b) → l.length ≤ 100000 → qi0 p n (ML p n l) ∧ (ML p n l).length ≤ 100000 := fun l h1 h2 => qup (c := c) hp hc ha hb hl h1 h2
  refine WA.jj qil (fun s => ∃ (i : Nat) (S : List (Int × List Nat × Int)), i ≤ a.length ∧ S = ML p n (wb p c n (a.take i) b) ∧ s = ⟨[(16, .int .i64 i), (15, .int .i64 a.length), (14, .slc 0 0 a.length false 0), (5, .map 5), (4, .ptr 4 0), (3, .ptr 3 0), (2, .ptr 2 0)], [.ro (qn a), .ro (qn b), .cells [.int .i64 p, .int .i64 c, .int .i64 n, .slc 0 0 a.length false 0], .cells [.int .i64 p', .int .i64 c', .int .i64 n, .slc 1 0 b.length false 0], qf2, Qp S]⟩)
    (fun s => match get s.env 16 with | .int _ x => a.length - x.toNat | _ => 0) ⟨_, q6.qz [16, 15, 14, 5, 4, 3, 2], 0, [], by omega, rfl, rfl⟩ ?_
  rintro s ⟨i, S, hi, hS, rfl⟩
  have hwi : qv .i64 ((i : Int) + 1) = ((i + 1 : Nat) : Int) := by rw [wrap64 (by omega) (by omega)]; rfl
  by_cases hlt : i < a.length
  · have hli : (i : Int) < a.length := by omega
    have hli' : (0 : Int) ≤ i := by omega
    have hg0 := ki ha.ok hlt
    have ok1 := ha.ok _ (List.getElem_mem hlt)
    have z1 := ha.dia _ (List.getElem_mem hlt)
    have c1 := ha.fac _ (List.getElem_mem hlt)
    have hb1 : i * 18 < a.length * 18 := by omega
    have hb2 : i * 18 + 18 ≤ a.length * 18 := by omega
    have hov := Qw (t := (0, List.replicate 16 0, 0)) (u := a[i]) (by simp) ok1.1
    have htl := zp (t := a[i]) ok1
    have htd := qfi (t := a[i]) ok1
    have htf := bz (t := a[i]) ok1
    rw [z1.1] at htd
    have hmem : ∀ j, ∀ t ∈ wb p c n (a.take i) b ++ (b.take j).map (prT p c n a[i]), t ∈ wb p c n a b := fun j t ht => qjt hlt ht
    have hmln : ∀ j, (wb p c n (a.take i) b ++ (b.take j).map (prT p c n a[i])).length ≤ 100000 := fun j => by
      rw [List.length_append, qaj, List.length_map, List.length_take, List.length_take]
      have h1 : (min i a.length) * b.length ≤ 300 * 300 := Nat.mul_le_mul (by omega) hl.2
      omega
    have hms : wb p c n (a.take (i + 1)) b = wb p c n (a.take i) b ++ b.map (prT p c n a[i]) := qhd hlt
    have hnx : ∀ j (h : j < b.length), (b.take (j + 1)).map (prT p c n a[i]) = (b.take j).map (prT p c n a[i]) ++ [prT p c n a[i] b[j]] := fun j h => qlp h
    obtain ⟨t, ht⟩ : ∃ t, t = a[i] := ⟨_, rfl⟩
    rw [← ht] at hg0 ok1 z1 c1 hov htl htd htf hms
    simp only [← ht] at hmem hmln hnx
    clear ht
    simp (maxSteps := 3000000) only [qj, zH, Qs, jf, ud, uh, Vp, vp, Xf, hli, hli', hal, hbl, hb1, hb2, hg0, x6, htl, xz, xj, hov, List.length_replicate, Nat.le_refl, iE, iN, iB, iC, iL, iD, iA, iS, iM, qa, zZ, ↓qm, ↓reduceIte, reduceCtorEq, nA, nM, nS, nE, nL, nD]; try simp only [qa, zY]
    have ea : wb p c n (a.take i) b = wb p c n (a.take i) b ++ (b.take 0).map (prT p c n t) := by simp
    rw [ea] at hS
    refine WA.jj qil (fun s => ∃ (j : Nat) (S : List (Int × List Nat × Int)), j ≤ b.length ∧ S = ML p n (wb p c n (a.take i) b ++ (b.take j).map (prT p c n t)) ∧ s = ⟨[(23, .int .i64 j), (22, .int .i64 b.length), (21, .slc 1 0 b.length false 0), (7, .ptr 6 0), (16, .int .i64 i), (15, .int .i64 a.length), (14, .slc 0 0 a.length false 0), (5, .map 5), (4, .ptr 4 0), (3, .ptr 3 0), (2, .ptr 2 0)], [.ro (qn a), .ro (qn b), .cells [.int .i64 p, .int .i64 c, .int .i64 n, .slc 0 0 a.length false 0], .cells [.int .i64 p', .int .i64 c', .int .i64 n, .slc 1 0 b.length false 0], qf2, Qp S, .cells (trm t)]⟩)
      (fun s => match get s.env 23 with | .int _ x => b.length - x.toNat | _ => 0) ⟨_, q6.qz [23, 22, 21, 7, 16, 15, 14, 5, 4, 3, 2], 0, S, by omega, hS, rfl⟩ ?_
    clear hS
    rintro s ⟨j, S, hj, hS, rfl⟩
    by_cases hltj : j < b.length
    · obtain ⟨hs, hsl⟩ := hlen2 _ (hmem j) (hmln j)
      rw [← hS] at hs hsl
      have hlj : (j : Int) < b.length := by omega
      have hlj' : (0 : Int) ≤ j := by omega
      have hw : qv .i64 ((j : Int) + 1) = ((j + 1 : Nat) : Int) := by rw [wrap64 (by omega) (by omega)]; rfl
      have hq0 := ki hb.ok hltj
      have ok2 := hb.ok _ (List.getElem_mem hltj)
      have z2 := hb.dia _ (List.getElem_mem hltj)
      have c2 := hb.fac _ (List.getElem_mem hltj)
      have hb4 : j * 18 < b.length * 18 := by omega
      have hb5 : j * 18 + 18 ≤ b.length * 18 := by omega
      have hov2 := Qw (t := (0, List.replicate 16 0, 0)) (u := b[j]) (by simp) ok2.1
      have htl2 := zp (t := b[j]) ok2
      have htd2 := qfi (t := b[j]) ok2
      have htf2 := bz (t := b[j]) ok2
      rw [z2.1] at htd2
      obtain ⟨t1, t2, t3, t4⟩ := qoa (c := c) hp hc z1.2 z2.2 c1 c2
      have hnext : ML p n (wb p c n (a.take i) b ++ (b.take (j + 1)).map (prT p c n t)) = qa5 p n (prT p c n t b[j]).2.1 (prT p c n t b[j]).2.2 S := by
        rw [hnx j hltj, ← List.append_assoc, qxq, ← hS]
      obtain ⟨u, hu⟩ : ∃ u, u = b[j] := ⟨_, rfl⟩
      rw [← hu] at hq0 ok2 z2 c2 hov2 htl2 htd2 htf2 t1 t2 t3 t4 hnext
      clear hu
      have s1 := z1.2
      have s2 := z2.2
      have hprd : (prT p c n t u).2.1 = jt n.toNat t.2.1 u.2.1 := rfl
      have hprf : (prT p c n t u).2.2 = (t.2.2 * u.2.2).emod p * uv p c (lpN n.toNat t.2.1 u.2.1 n.toNat) := rfl
      rw [hprd, hprf] at hnext
      rw [hprd] at t1 t2
      rw [hprf] at t3 t4
      have hlpb : (0 : Int) ≤ ((lpN n.toNat t.2.1 u.2.1 n.toNat : Nat) : Int) ∧ ((lpN n.toNat t.2.1 u.2.1 n.toNat : Nat) : Int) ≤ 1000000 := by
        have := qez n.toNat t.2.1 u.2.1 n.toNat; omega
      obtain ⟨w1, w2, w3, w4⟩ := pow_mul (p := p) (c := u.2.2) (x := t.2.2) hp (by omega) (by omega)
      have w5 : qv .i64 ((t.2.2 * u.2.2).emod p * uv p c (lpN n.toNat t.2.1 u.2.1 n.toNat)) = (t.2.2 * u.2.2).emod p * uv p c (lpN n.toNat t.2.1 u.2.1 n.toNat) := wrap64 (by omega) (by omega)
      have hne : p ≠ 0 := by omega
      have hn0 : 0 ≤ n := hn.1
      have t0 := t1.1
      have hvb := qxl (by omega) hs (m := jt n.toNat t.2.1 u.2.1)
      have hkok : kok KD true (.agg (dia n (jt n.toNat t.2.1 u.2.1))) = true := qps t0
      have hmT : Qp S = .map (esT 0 S) S.length := rfl
      have do1 := qu (n := n) ok1
      have do2 := qu (n := n) ok2
      clear hprd hprf
      cases hix : Uy n (jt n.toNat t.2.1 u.2.1) S with
      | none =>
        obtain ⟨f1, f2, f3⟩ := qna t0 hs.1.ok hix ((0 + (t.2.2 * u.2.2).emod p * uv p c (lpN n.toNat t.2.1 u.2.1 n.toNat)).emod p)
        have w6 : qv .i64 (0 + (t.2.2 * u.2.2).emod p * uv p c (lpN n.toNat t.2.1 u.2.1 n.toNat)) = 0 + (t.2.2 * u.2.2).emod p * uv p c (lpN n.toNat t.2.1 u.2.1 n.toNat) := wrap64 (by omega) (by omega)
        have w7 : Int.tmod (0 + (t.2.2 * u.2.2).emod p * uv p c (lpN n.toNat t.2.1 u.2.1 n.toNat)) p = (0 + (t.2.2 * u.2.2).emod p * uv p c (lpN n.toNat t.2.1 u.2.1 n.toNat)).emod p := Int.tmod_eq_emod_of_nonneg (by omega)
        simp (maxSteps := 3000000) only [qj, zH, bl, jf, ud, uh, Vp, vp, Xf, hlj, hlj', hal, hbl, hb4, hb5, hq0, x6, htl, htl2, htd, htd2, htf, htf2, xz, xj, hov2, zw, jx, uk t0, qp t0, qd, t0, zl, List.length_replicate, Nat.le_refl, do1, do2, s1, s2, hn0, w1, w2, w5, w6, w7, hne, hp, hc, hlpb, Int.toNat_natCast, hmT, hkok, f1, vj, hw, and_self, iE, iN, iB, iC, iL, iD, iA, iS, iM, qa, zZ, ↓qm, ↓reduceIte, reduceCtorEq, nA, nM, nS, nE, nL, nD]; try simp only [qa, zY]
        rw [f3]
        refine ⟨⟨_, rfl⟩, _, q6.jb [0, 1, 2, 3, 4, 5, 6] [23, 22, 21, 7, 16, 15, 14, 5, 4, 3, 2] ⟨by decide, ?_⟩ ?_, ⟨j + 1, Bv n (jt n.toNat t.2.1 u.2.1) ((0 + (t.2.2 * u.2.2).emod p * uv p c (lpN n.toNat t.2.1 u.2.1 n.toNat)).emod p) S, by omega, by rw [hnext, qa5, f2], ?_⟩, ?_⟩
        · simp only [qe _ _ (qb _), qe _ _ (vo _), Qp, ↓yl, zK, ↓reduceIte, reduceCtorEq, nE, nB, nA]
        · simp only [qe _ _ (qb _), qe _ _ (vo _), Qp, ↓yl, zK, ↓reduceIte, reduceCtorEq, nE, nB, nA]
        · simp only [qc _ _ (qb _), qc _ _ (vo _), Qp, ↓Ve, zL, ↓reduceIte, reduceCtorEq, nE, nA]
        · simp only [zL, ↓reduceIte, reduceCtorEq, nE, nA]; omega
      | some q =>
        obtain ⟨f1, f3⟩ := qn3 t0 hs.1.ok hix ((Wx n (jt n.toNat t.2.1 u.2.1) S + (t.2.2 * u.2.2).emod p * uv p c (lpN n.toNat t.2.1 u.2.1 n.toNat)).emod p)
        have w6 : qv .i64 (Wx n (jt n.toNat t.2.1 u.2.1) S + (t.2.2 * u.2.2).emod p * uv p c (lpN n.toNat t.2.1 u.2.1 n.toNat)) = Wx n (jt n.toNat t.2.1 u.2.1) S + (t.2.2 * u.2.2).emod p * uv p c (lpN n.toNat t.2.1 u.2.1 n.toNat) := wrap64 (by omega) (by omega)
        have w7 : Int.tmod (Wx n (jt n.toNat t.2.1 u.2.1) S + (t.2.2 * u.2.2).emod p * uv p c (lpN n.toNat t.2.1 u.2.1 n.toNat)) p = (Wx n (jt n.toNat t.2.1 u.2.1) S + (t.2.2 * u.2.2).emod p * uv p c (lpN n.toNat t.2.1 u.2.1 n.toNat)).emod p := Int.tmod_eq_emod_of_nonneg (by omega)
        simp (maxSteps := 3000000) only [qj, zH, bl, jf, ud, uh, Vp, vp, Xf, hlj, hlj', hal, hbl, hb4, hb5, hq0, x6, htl, htl2, htd, htd2, htf, htf2, xz, xj, hov2, zw, jx, uk t0, qp t0, qd, t0, zl, List.length_replicate, Nat.le_refl, do1, do2, s1, s2, hn0, w1, w2, w5, w6, w7, hne, hp, hc, hlpb, Int.toNat_natCast, hmT, hkok, f1, vj, hw, and_self, iE, iN, iB, iC, iL, iD, iA, iS, iM, qa, zZ, ↓qm, ↓reduceIte, reduceCtorEq, nA, nM, nS, nE, nL, nD]; try simp only [qa, zY]
        rw [f3]
        refine ⟨⟨_, rfl⟩, _, q6.jb [0, 1, 2, 3, 4, 5, 6] [23, 22, 21, 7, 16, 15, 14, 5, 4, 3, 2] ⟨by decide, ?_⟩ ?_, ⟨j + 1, Bv n (jt n.toNat t.2.1 u.2.1) ((Wx n (jt n.toNat t.2.1 u.2.1) S + (t.2.2 * u.2.2).emod p * uv p c (lpN n.toNat t.2.1 u.2.1 n.toNat)).emod p) S, by omega, by rw [hnext, qa5], ?_⟩, ?_⟩
        · simp only [qe _ _ (qb _), qe _ _ (vo _), Qp, ↓yl, zK, ↓reduceIte, reduceCtorEq, nE, nB, nA]
        · simp only [qe _ _ (qb _), qe _ _ (vo _), Qp, ↓yl, zK, ↓reduceIte, reduceCtorEq, nE, nB, nA]
        · simp only [qc _ _ (qb _), qc _ _ (vo _), Qp, ↓Ve, zL, ↓reduceIte, reduceCtorEq, nE, nA]
        · simp only [zL, ↓reduceIte, reduceCtorEq, nE, nA]; omega
    · have hlj : ¬ ((j : Int) < b.length) := by omega
      obtain rfl : j = b.length := by omega
      simp (maxSteps := 3000000) only [qj, zH, bl, J7, jf, ud, uh, Vp, vp, Xf, hlj, hwi, hbl, Int.lt_irrefl, iE, iN, iB, iC, iL, iD, iA, iS, iM, qa, zZ, ↓qm, ↓reduceIte, reduceCtorEq, nA, nM, nS, nE, nL, nD]; try simp only [qa, zY]
      refine ⟨_, q6.jb [0, 1, 2, 3, 4, 5] [16, 15, 14, 5, 4, 3, 2] ⟨by decide, ?_⟩ ?_, ⟨i + 1, S, by omega, by rw [hS, List.take_length, hms], ?_⟩, ?_⟩
      · simp only [qe _ _ (qb _), Qp, ↓yl, zK, ↓reduceIte, reduceCtorEq, nE, nB, nA]
      · simp only [qe _ _ (qb _), Qp, ↓yl, zK, ↓reduceIte, reduceCtorEq, nE, nB, nA]
      · simp only [qc _ _ (qb _), Qp, ↓Ve, zL, ↓reduceIte, reduceCtorEq, nE, nA]
      · simp only [zL, ↓reduceIte, reduceCtorEq, nE, nA]; omega
  · have hli : ¬ ((i : Int) < a.length) := by omega
    obtain rfl : i = a.length := by omega
    rw [List.take_length] at hS
    obtain ⟨hs, hsl⟩ := hlen2 (wb p c n a b) (fun t h => h) (by
      rw [qaj]
      have : a.length * b.length ≤ 300 * 300 := Nat.mul_le_mul hl.1 hl.2
      omega)
    have hlaw := qyd (p := p) (n := n) (by omega) (qio (c := c) hp hc ha hb)
    have hll : (xg p (ML p n (wb p c n a b))).length = (MP p n (wb p c n a b)).length := by rw [← hlaw]; exact (kq _).length_eq.symm
    rw [← hll, ← hlaw]
    rw [← hS] at hs hsl ⊢
    clear hS hll hlaw
    have hap := qr4 hs.1
    obtain ⟨hz1, hz2, hz3⟩ := qzo (p := p) hn hs.1
    have hSo := hs.1.ok
    have hmT : Qp S = .map (esT 0 S) S.length := rfl
    have hts := qqb (ts := S) (k := 0) hSo
    have hSl' : S.length ≤ 1000000 := by omega
    have hpp : 0 < p ∧ p ≤ 1000000 := by omega
    simp (maxSteps := 3000000) only [qj, zH, Qs, Vd, jf, ud, uh, Vp, vp, Xf, hli, hmT, Int.lt_irrefl, hts, hpp, hSl', hz1, hz2, hap, and_self, elemV, iE, iN, iB, iC, iL, iD, iA, iS, iM, qa, zZ, ↓qm, ↓reduceIte, reduceCtorEq, nA, nM, nS, nE, nL, nD]; try simp only [qa, zY]
    rw [hz3]
    refine ⟨hz2, rfl, ?_⟩
    refine Ret.jb [0, 1, 6] ⟨⟨by simp, rfl, by decide⟩, ?_⟩ (rs := [.agg [.int .i64 p, .int .i64 c, .int .i64 n, .slc 6 0 (xg p S).length false 0]]) rfl rfl (by simp [zy]) ?_ ⟨?_, ?_⟩
    · simp only [qe _ _ (qb _), ↓yl, zK, ↓reduceIte, reduceCtorEq, nE, nB, nA]
    · intro j l; match j with
      | 0 => simp [q9, AO.ren]
      | 1 => simp [q9, AO.ren]
      | 2 => simp [q9, AO.ren]
      | j + 3 => simp [q9]
    · simp only [zy]
      simp only [zL, ↓reduceIte, reduceCtorEq, nE, nA]
    · simp only [qc _ _ (qb _), zL, ↓reduceIte, reduceCtorEq, nE, nA]
noncomputable def B88 : zq := (B87.put 90 (Q9))
theorem qy0 : qy Try.prog B88 := (qil.put (qmo qeu))
theorem qx9 {p c n : Int} (hp : 2 ≤ p ∧ p ≤ 97) (hc : 0 ≤ c ∧ c ≤ p - 1) {a b : List (Int × List Nat × Int)} (ha : vc p n a) (hb : vc p n b) (hl : a.length ≤ 300 ∧ b.length ≤ 300) : vc p n (MP p n (wb p c n a b)) ∧ (MP p n (wb p c n a b)).length ≤ 100000 := by
  have h0 : vc p n [] := ⟨(fun t h => by cases h), (fun t h => by cases h), (fun t h => by cases h), .nil⟩
  have h := qaq (p := p) (F := 10000) (φ := id) (κ := fun _ => 1) (by omega) h0 (qio (c := c) hp hc ha hb)
  refine ⟨h.1, Nat.le_trans h.2 ?_⟩
  rw [List.length_nil, qaj]
  have h1 : a.length * b.length ≤ 300 * 300 := Nat.mul_le_mul hl.1 hl.2
  omega
noncomputable def B89 : zq := B88
theorem qyw : qy Try.prog B89 := qy0
theorem qik (l : List (Int × List Nat × Int)) : AV.kg (qn l) = [] := yk _ (qb l)
noncomputable def B91 : zq := ((B89.put 142 (kz)).put 121 (qk Xl))
theorem qva : qy Try.prog B91 := ((qyw.put (qua)).put (qg7 qzy))
theorem qvm {m : List Nat} {i k : Nat} (hm : okD m) (hi : i < 16) (hk : k < 16) : okD ((m.set i k).set k i) := by
  refine ⟨by simp [hm.1], fun x hx => ?_⟩
  rcases List.mem_or_eq_of_mem_set hx with hx | rfl
  · rcases List.mem_or_eq_of_mem_set hx with hx | rfl
    · exact hm.2 x hx
    · omega
  · omega
def qct : AC := .seq (.region [o0 3 (.box (.t 0)),o0 6 (.alloc [.int .i64 0,.int .u8 0,.int .u8 0,.int .u8 0,.int .u8 0,.int .u8 0,.int .u8 0,.int .u8 0,.int .u8 0,.int .u8 0,.int .u8 0,.int .u8 0,.int .u8 0,.int .u8 0,.int .u8 0,.int .u8 0,.int .u8 0])]) (.seq (.region [oM 7 1,oM 8 2,o0 9 (.conv .u8 (.t 8)),oF 10 1 3,o0 11 (.xf 16 1 (.t 10) (.t 7)),oT 11 9]) (.seq (.region [oM 12 2,oM 13 1,o0 14 (.conv .u8 (.t 13)),oF 15 1 3,o0 16 (.xf 16 1 (.t 15) (.t 12)),oT 16 14]) (.seq (.region [oN 17 17 3,oS 17 6 17]) .ret)))
theorem qjw : zh Try.prog 123 = some ⟨18, qct, [.ba 6 17]⟩ := by kernel_rfl
theorem qlf (n : Int) (m : List Nat) (i k : Nat) (hm : okD m) (hi : i < 16) (hk : k < 16) :
    Am.Fn Try.prog 123 [.agg (dia n m), .int .i64 i, .int .i64 k] [] (fun v H' => v = .agg (dia n ((m.set i k).set k i)) ∧ H' = []) := by
  refine Am.Fn.xt (R := fun v => v = _) qva mixed qjw (by simp) (by simp) ?_
  obtain ⟨a1, a2⟩ := gh hi
  obtain ⟨b1, b2⟩ := gh hk
  have hu1 : qv .u8 (i : Int) = i := Ul (by omega)
  have hu2 : qv .u8 (k : Int) = k := Ul (by omega)
  have hml := hm.1
  have hs := (qvm hm hi hk).1
  simp (maxSteps := 3000000) only [qj, zH, qct, zw, jx, qd, hml, List.length_set, a1, a2, b1, b2, hu1, hu2, Bh, AV.one, qp hs, xq qw hs, zl, List.length_replicate, iE, iN, iB, iC, iL, iD, iA, iS, iM, qa, zZ, ↓qm, ↓reduceIte, reduceCtorEq, nA, nM, nS, nE, nL, nD]; try simp only [qa, zY]
  exact qf _ _
def Zx : List AV → Option AV
  | [.agg l, .int .i64 i, .int .i64 k] => match ye l with
    | some (n, m) => chk ((0 ≤ i ∧ i < 16) ∧ (0 ≤ k ∧ k < 16)) (some (.agg (dia n ((m.set i.toNat k.toNat).set k.toNat i.toNat))))
    | none => none
  | _ => none
theorem qxj : Am.Callee Try.prog 123 (qk Zx) := Am.Callee.plain fun xs v he => by
  unfold Zx at he
  split at he
  · rename_i l i k
    split at he
    · rename_i n m hd
      obtain ⟨⟨h1, h2⟩, he⟩ := qi he
      cases he
      obtain ⟨rfl, hm⟩ := zi hd
      obtain ⟨i, rfl⟩ : ∃ j : Nat, i = j := ⟨i.toNat, by omega⟩
      obtain ⟨k, rfl⟩ : ∃ j : Nat, k = j := ⟨k.toNat, by omega⟩
      simp only [Int.toNat_natCast]
      exact ⟨by simp only [AV.zb, AV.zm, qf, Bool.and_self], by simp only [AV.zm, qf], qlf n m i k hm (by omega) (by omega)⟩
    · cases he
  · cases he
noncomputable def B92 : zq := (B91.put 123 (qk Zx))
theorem qnt : qy Try.prog B92 := (qva.put (qxj))
theorem Xq : B92 66 = some (qdm km) := rfl
theorem Qx : B92 70 = some (vw) := rfl
theorem bh : B92 142 = some (kz) := rfl
theorem Vr : B92 121 = some (qk Xl) := rfl
theorem Zr : B92 123 = some (qk Zx) := rfl
def Vq : AC := .seq (.seq (.region [oM 7 4,oM 8 0,oP 9 .lss 7 8]) (.cond 9 .skip (.exit 0))) (.seq (.block 1 (.region [oN 12 17 3,oM 13 4,oM 14 0,oM 15 4,oP 16 .add 14 15,oC 17 123 [.t 12,.t 13,.t 16],oS 17 3 17])) (.region [oM 10 4,oK 11 .add 10 1,oM 4 11]))
def Gj : AC := .seq (.region [oN 18 17 3,oS 17 2 18]) .ret
def qel : AC := .seq (.region [o0 2 (.alloc [.int .i64 0,.int .u8 0,.int .u8 0,.int .u8 0,.int .u8 0,.int .u8 0,.int .u8 0,.int .u8 0,.int .u8 0,.int .u8 0,.int .u8 0,.int .u8 0,.int .u8 0,.int .u8 0,.int .u8 0,.int .u8 0,.int .u8 0])]) (.seq (.region [oM 5 0,o0 6 (.build [.int .i64 0,.int .u8 0,.int .u8 0,.int .u8 0,.int .u8 0,.int .u8 0,.int .u8 0,.int .u8 0,.int .u8 0,.int .u8 0,.int .u8 0,.int .u8 0,.int .u8 0,.int .u8 0,.int .u8 0,.int .u8 0,.int .u8 0] [(0,1,.t 5)]),o0 3 (.alloc [.int .i64 0,.int .u8 0,.int .u8 0,.int .u8 0,.int .u8 0,.int .u8 0,.int .u8 0,.int .u8 0,.int .u8 0,.int .u8 0,.int .u8 0,.int .u8 0,.int .u8 0,.int .u8 0,.int .u8 0,.int .u8 0,.int .u8 0]),oS 17 3 6]) (.seq (.seq (.region [oI 4 0]) (.block 0 (.loop Vq))) Gj))
theorem qnu : zh Try.prog 124 = some ⟨19, qel, [.ba 2 17]⟩ := by kernel_rfl
theorem qm8 (n : Nat) (hn : n ≤ 8) : Am.Fn Try.prog 124 [.int .i64 n] [] (fun v H' => v = .agg (dia n (kn n)) ∧ H' = []) := by
  refine Am.Fn.xt (R := fun v => v = _) qnt mixed qnu (by simp) (by simp) ?_
  simp (maxSteps := 3000000) only [qj, zH, qel, Xq, Qx, bh, Vr, Zr, vw, kz, km, Zx, Xl, zw, jx, Jh, qd, zl, xq qw qw, List.length_replicate, iE, iN, iB, iC, iL, iD, iA, iS, iM, qa, zZ, ↓qm, ↓reduceIte, reduceCtorEq, nA, nM, nS, nE, nL, nD]; try simp only [qa, zY]
  refine WA.jj qnt (fun s => ∃ i : Nat, i ≤ n ∧ s = ⟨[(4, .int .i64 i), (3, .ptr 1 0), (2, .ptr 0 0), (0, .int .i64 n)], [.cells (dia 0 (List.replicate 16 0)), .cells (dia n (Vf n i))]⟩)
    (fun s => match get s.env 4 with | .int _ x => n - x.toNat | _ => 0) ⟨_, q6.qz [4, 3, 2, 0], 0, by omega, rfl⟩ ?_
  rintro s ⟨i, hi, rfl⟩
  have hw : qv .i64 ((i : Int) + 1) = ((i + 1 : Nat) : Int) := by rw [wrap64 (by omega) (by omega)]; rfl
  have hok := Kx hn hi
  have hok1 := hok.1
  by_cases hlt : i < n
  · have hli : (i : Int) < (n : Int) := by omega
    have h2 : qv .i64 ((n : Int) + i) = ((n + i : Nat) : Int) := by rw [wrap64 (by omega) (by omega)]; rfl
    have c1 : (0 : Int) ≤ i ∧ (i : Int) < 16 := by omega
    have c2 : (0 : Int) ≤ (n + i : Nat) ∧ ((n + i : Nat) : Int) < 16 := by omega
    have hnext : Vf n (i + 1) = ((Vf n i).set i (n + i)).set (n + i) i := rfl
    have hok2 := (Kx hn hlt).1
    rw [hnext] at hok2
    simp (maxSteps := 3000000) only [qj, zH, Vq, Xq, Qx, bh, Vr, Zr, vw, kz, km, Zx, Xl, hli, hw, h2, qu hok, c1, c2, qd, hok1, hok2, qp hok1, xq hok1 hok2, zl, List.length_set, and_self, iE, iN, iB, iC, iL, iD, iA, iS, iM, qa, zZ, ↓qm, ↓reduceIte, reduceCtorEq, nA, nM, nS, nE, nL, nD]; try simp only [qa, zY]
    refine ⟨_, q6.qz [4, 3, 2, 0], ⟨i + 1, by omega, ?_⟩, ?_⟩
    · simp only [zL, ↓reduceIte, reduceCtorEq, nE, nA]; rw [hnext]
    · simp only [zL, ↓reduceIte, reduceCtorEq, nE, nA]; omega
  · have hli : ¬ ((i : Int) < (n : Int)) := by omega
    obtain rfl : i = n := by omega
    simp (maxSteps := 3000000) only [qj, zH, Vq, Gj, Xq, Qx, bh, Vr, Zr, vw, kz, km, Zx, Xl, hli, qd, hok1, qp hok1, xq qw hok1, zl, List.length_replicate, Int.lt_irrefl, iE, iN, iB, iC, iL, iD, iA, iS, iM, qa, zZ, ↓qm, ↓reduceIte, reduceCtorEq, nA, nM, nS, nE, nL, nD]; try simp only [qa, zY]
    exact ⟨qf _ _, rfl⟩
noncomputable def B93 : zq := (B92.put 124 (qk Xl))
theorem qzg : qy Try.prog B93 := (qnt.put (qg7 qm8))
theorem qts {n : Nat} (h : 1 ≤ n ∧ n ≤ 8) : isS n (kn n) = true := by
  have h0 : ((List.range 9).all fun n => n == 0 || isS n (kn n)) = true := by decide
  have h1 := List.all_eq_true.1 h0 n (List.mem_range.2 (by omega))
  simpa [show n ≠ 0 by omega] using h1
theorem qfl {n : Nat} (hn : n ≤ 8) : okD (kn n) := Kx hn (Nat.le_refl n)
noncomputable def B94 : zq := B93
theorem qoo : qy Try.prog B94 := qzg
theorem Yu : B94 66 = some (qdm km) := rfl
theorem Vg : B94 70 = some (vw) := rfl
theorem Za : B94 142 = some (kz) := rfl
theorem Gb : B94 121 = some (qk Xl) := rfl
theorem Wp : B94 123 = some (qk Zx) := rfl
theorem Yl : B94 124 = some (qk Xl) := rfl
theorem qs2 {l L : List AV} (hl : AV.zb l = true) (hL : AV.zb L = true) {env : Env} {hp : List AO} {s j b k : Nat} {p c n : Int} (h0 : hp[0]? = some (.ro l)) (hs : get env s = .ptr j 0)
    (hj : hp[j]? = some (.cells [.int .i64 p, .int .i64 c, .int .i64 n, .slc b 0 k false 0])) (hb : hp[b]? = some (.vec 18 L)) :
    Ret [.ba s 4] [.ro l] (fun v H' => v = elemV p c n 1 k ∧ H' = [.ro l, .vec 18 L]) ⟨env, hp⟩ := by
  have hb0 : 0 ≠ b := fun e => by subst e; rw [h0] at hb; cases hb
  refine Ret.jb [0, b] ⟨⟨by simp, rfl, by simp [hb0]⟩, ?_⟩ (rs := [.agg [.int .i64 p, .int .i64 c, .int .i64 n, .slc b 0 k false 0]]) ?_ (by simp [zy, AV.within, AV.xd]) (by simp [zy]) ?_ ⟨?_, ?_⟩
  · intro i hi
    simp only [List.mem_cons, List.not_mem_nil, or_false] at hi
    rcases hi with rfl | rfl
    · rw [h0]; exact qe _ _ hl
    · rw [hb]; exact qe _ _ hL
  · simp [J6, hs, qg, ev, rd, hj, chk]
  · intro i m; match i with
    | 0 => exact fun _ => ⟨_, rfl⟩
    | 1 => simp [q9, hb, AO.ren]
    | i + 2 => simp [q9]
  · simp only [zy, AV.ren, AV.zk, K8, pos, if_neg hb0, if_true]
    rfl
  · simp [q9, h0, hb, AO.ren, qc _ _ hl, qc _ _ hL]
def qe1 : AC := .seq (.region [o0 1 (.box (.t 0)),o0 2 (.alloc [.int .i64 0,.int .i64 0,.int .i64 0,(.v (.slice none 0 0))])]) (.seq (.region [oN 4 4 1,oC 5 70 [.t 4],o0 3 (.alloc [.int .i64 0,.int .i64 0,.int .i64 0,(.v (.slice none 0 0))]),oS 4 3 5]) (.seq (.draw true [oF 6 3 3,oL 7 6,oF 8 2 1,oL 9 8,oC 10 124 [.t 9],o0 11 (.build [.int .i64 0,.int .u8 0,.int .u8 0,.int .u8 0,.int .u8 0,.int .u8 0,.int .u8 0,.int .u8 0,.int .u8 0,.int .u8 0,.int .u8 0,.int .u8 0,.int .u8 0,.int .u8 0,.int .u8 0,.int .u8 0,.int .u8 0,.int .i64 0] [(0,17,.t 10),(17,1,(.c (.int .i64 1)))]),o0 12 (.kh 1 [.int .i64 0,.int .u8 0,.int .u8 0,.int .u8 0,.int .u8 0,.int .u8 0,.int .u8 0,.int .u8 0,.int .u8 0,.int .u8 0,.int .u8 0,.int .u8 0,.int .u8 0,.int .u8 0,.int .u8 0,.int .u8 0,.int .u8 0,.int .i64 0] [(0,18,.t 11)]),o0 13 (.append 18 32 (.t 7) (.t 12)),oF 14 3 3,oT 14 13]) (.seq (.region [oN 15 4 3,oS 4 2 15]) .ret)))
theorem qnp : zh Try.prog 92 = some ⟨16, qe1, [.ba 2 4]⟩ := by kernel_rfl
theorem qo4 (p c n : Int) (k : Nat) (hn : 1 ≤ n ∧ n ≤ 8) :
    Am.Fn Try.prog 92 [elemV p c n 0 k] [.ro []] (fun v H' => v = elemV p c n 1 1 ∧ H' = [.ro [], .vec 18 (qn [(n, kn n.toNat, 1)])]) := by
  refine Am.Fn.ofW qoo mixed qnp (by simp [elemV, AV.qx, AV.under]) (wi rfl) ?_
  have o1 := qfl (n := n.toNat) (by omega)
  have o2 := o1.1
  have c0 : 0 ≤ n ∧ n ≤ 8 := by omega
  have e0 : (trm (0, List.replicate 16 0, 0)).length = 18 := rfl
  have e1 : over (trm (0, List.replicate 16 0, 0)) 0 (dia n (kn n.toNat)) = trm (n, kn n.toNat, 0) := X3 (by simp) o2
  have e2 : over (trm (n, kn n.toNat, 0)) 17 [.int .i64 1] = trm (n, kn n.toNat, 1) := Jg o2
  have e3 : over (trm (0, List.replicate 16 0, 0)) 0 (trm (n, kn n.toNat, 1)) = trm (n, kn n.toNat, 1) := Qw (by simp) o2
  have e4 : (trm (n, kn n.toNat, 1)).length = 18 := by rw [yi, o2]
  have e5 : (trm (n, kn n.toNat, 0)).length = 18 := by rw [yi, o2]
  simp (maxSteps := 3000000) only [qj, zH, qe1, Yu, Vg, Za, Gb, Wp, Yl, vw, kz, km, Zx, Xl, elemV, c0, qd, o2, xz, e0, e1, e2, e3, e4, e5, x6, src, lim, uq, Option.map_some, Option.map_none, List.all_nil, Nat.zero_mul, Int.toNat_zero, List.take_zero, Nat.le_refl, and_self, iE, iN, iB, iC, iL, iD, iA, iS, iM, qa, zZ, ↓qm, ↓reduceIte, reduceCtorEq, nA, nM, nS, nE, nL, nD]; try simp only [qa, zY]
  exact ⟨rfl, ⟨_, rfl⟩, by rw [Qc o2, x6], rfl, rfl, _, q6.refl _, qs2 rfl (qb _) rfl rfl rfl (by rw [Qc o2]; simp [qn])⟩
def gr : BE := fun hp xs => match xs with
  | [.agg [.int .i64 p, .int .i64 c, .int .i64 n, .slc b 0 k false 0]] => match rd hp b with
    | some _ => chk (1 ≤ n ∧ n ≤ 8) (some (elemV p c n hp.length 1, hp ++ [.vec 18 (qn [(n, kn n.toNat, 1)])]))
    | none => none
  | _ => none
theorem qz4 : Am.Callee Try.prog 92 gr := Callee.fp fun hp xs v hp' he => by
  unfold gr at he
  split at he
  · rename_i p c n b k
    split at he
    · rename_i L hL
      obtain ⟨h1, he⟩ := qi he
      simp only [Option.some.injEq, Prod.mk.injEq] at he
      obtain ⟨rfl, rfl⟩ := he
      refine ⟨[(b, 0)], [elemV p c n 0 k], _, _, _, qo4 p c n k h1, by simp [elemV, AV.ren, AV.zk, ofL], rfl, ⟨⟨L, hL, by simp, by simp [AV.zk]⟩, trivial⟩, rfl, ⟨trivial, trivial⟩, ⟨⟨trivial, trivial, trivial, by simp [AV.under], trivial⟩, trivial⟩, by simp [elemV, AV.ren, AV.zk, Ren.ext], ?_⟩
      simp [after, upd, AO.wr, AO.ren, AV.zk, qc _ _ (qb _)]
    · cases he
  · cases he
def Ys : AC := .seq (.region [o0 2 (.alloc [.int .i64 0,.int .i64 0,.int .i64 0,(.v (.slice none 0 0))])]) (.seq (.draw true [oM 3 0,o0 4 (.j4 (.t 3)),oF 5 0 4,oL 6 5,oM 7 0,o0 8 (.j4 (.t 7)),oF 9 1 8,oL 10 9,oM 11 0,o0 12 (.j4 (.t 11)),oF 13 2 12,oL 14 13,oC 15 121 [.t 14],oC 16 66 [.t 6,.t 10,.t 15,(.c (.int .i64 1))],oS 4 2 16]) .ret)
theorem qdd : zh Try.prog 94 = some ⟨17, Ys, [.ba 2 4]⟩ := by kernel_rfl
theorem qwz (p c n : Int) (hp : 2 ≤ p ∧ p ≤ 97) (hn : 1 ≤ n ∧ n ≤ 8) :
    Am.Fn Try.prog 94 [.ptr 0 0] [.ro [.int .i64 p, .int .i64 c, .int .i64 n]] (fun v H' => v = elemV p c n 1 1 ∧ H' = [.ro [.int .i64 p, .int .i64 c, .int .i64 n], .vec 18 (qn [(n, kn n.toNat, 1)])]) := by
  refine Am.Fn.ofW qoo mixed qdd (by simp [AV.qx, AV.under]) (wi rfl) ?_
  have o1 := qfl (n := n.toNat) (by omega)
  have c0 : 0 ≤ n ∧ n ≤ 8 := by omega
  have c1 : 0 < p ∧ p ≤ 1000000 := by omega
  have h1 : (1 : Int).emod p = 1 := Int.emod_eq_of_lt (by omega) (by omega)
  simp (maxSteps := 3000000) only [qj, zH, Ys, Yu, Vg, Za, Gb, Wp, Yl, vw, kz, km, Zx, Xl, c0, c1, qu o1, h1, if_false, Jq, elemV, bf, qc _ _ (qb _), qc _ _ (qf _ _), iE, iN, iB, iC, iL, iD, iA, iS, iM, qa, zZ, ↓qm, ↓reduceIte, reduceCtorEq, nA, nM, nS, nE, nL, nD]; try simp only [qa, zY]
  exact ⟨⟨_, rfl⟩, ⟨_, rfl⟩, rfl, _, q6.refl _, qs2 rfl (qb _) rfl rfl rfl rfl⟩
def gv : BE := fun hp xs => match xs with
  | [.ptr b 0] => match rd hp b with
    | some (.int .i64 p :: .int .i64 c :: .int .i64 n :: _) => chk ((2 ≤ p ∧ p ≤ 97) ∧ (1 ≤ n ∧ n ≤ 8)) (some (elemV p c n hp.length 1, hp ++ [.vec 18 (qn [(n, kn n.toNat, 1)])]))
    | _ => none
  | _ => none
theorem qyy : Am.Callee Try.prog 94 gv := Callee.fp fun hp xs v hp' he => by
  unfold gv at he
  split at he
  · rename_i b
    split at he
    · rename_i p c n L hL
      obtain ⟨⟨h1, h2⟩, he⟩ := qi he
      simp only [Option.some.injEq, Prod.mk.injEq] at he
      obtain ⟨rfl, rfl⟩ := he
      refine ⟨[(b, 0)], [.ptr 0 0], _, _, _, qwz p c n h1 h2, by simp [AV.ren, AV.zk, ofL], rfl, ⟨⟨_, hL, by simp, by simp [AV.zk, AV.ren]⟩, trivial⟩, rfl, ⟨⟨trivial, trivial, trivial, trivial⟩, trivial⟩, ⟨by simp [AV.under], trivial⟩, by simp [elemV, AV.ren, AV.zk, Ren.ext], ?_⟩
      simp [after, upd, AO.wr, AO.ren, AV.zk, qc _ _ (qb _)]
    · cases he
  · cases he
noncomputable def B95 : zq := ((B94.put 92 (gr)).put 94 (gv))
theorem qe6 : qy Try.prog B95 := ((qoo.put (qz4)).put (qyy))
end Go.Proofs.Ytkgoadglalpbfaa
namespace Go.Proofs.Ytkgoadglalpbfaa
open Go.Am Go.Dia
open Nat renaming reduceAdd → nA, reduceMul → nM, reduceSub → nS, reduceEqDiff → nE, reduceLT → nL, reduceLeDiff → nD, reduceBEq → nB
open Int renaming reduceEq → iE, reduceNe → iN, reduceBEq → iB, reduceBNe → iC, reduceLT → iL, reduceLE → iD, reduceAdd → iA, reduceSub → iS, reduceMul → iM
set_option linter.unusedSimpArgs false
set_option linter.unusedVariables false
set_option maxRecDepth 4000
set_option maxHeartbeats 2000000
noncomputable def gq (p c n : Int) (a : List (Int × List Nat × Int)) : Nat → List (Int × List Nat × Int)
  | 0 => [(n, kn n.toNat, 1)]
  | k + 1 => MP p n (wb p c n (gq p c n a k) a)
noncomputable def ke (p c n : Int) (a : List (Int × List Nat × Int)) (k : Int) : ER :=
  if vt p c n a = false then (0, 0, 0, [], 1) else if ¬ (0 ≤ k ∧ k ≤ 20) then (0, 0, 0, [], 2) else
    if ∀ j, j ≤ k.toNat → (gq p c n a j).length ≤ 140 then (p, c, n, gq p c n a k.toNat, 0) else (0, 0, 0, [], 3)
theorem quy {p n : Int} (hp : 2 ≤ p) (hn : 1 ≤ n ∧ n ≤ 8) : vc p n [(n, kn n.toNat, 1)] :=
  ⟨fun t h => by simp at h; subst h; exact qfl (by omega), fun t h => by simp at h; subst h; exact ⟨rfl, qts (by omega)⟩, fun t h => by simp at h; subst h; show (1 : Int) ≤ 1 ∧ (1 : Int) ≤ p - 1; omega, List.pairwise_singleton ..⟩
theorem Qm {p c n : Int} {a : List (Int × List Nat × Int)} (hp : 2 ≤ p ∧ p ≤ 97) (hc : 0 ≤ c ∧ c ≤ p - 1) (hn : 1 ≤ n ∧ n ≤ 8) (ha : vc p n a) (hl : a.length ≤ 300) : ∀ j, (∀ i, i < j → (gq p c n a i).length ≤ 140) → vc p n (gq p c n a j) ∧ (gq p c n a j).length ≤ 100000
  | 0, _ => ⟨quy hp.1 hn, by simp [gq]⟩
  | j + 1, h => by
    have h1 := Qm hp hc hn ha hl j fun i hi => h i (by omega)
    have h2 := h j (by omega)
    exact qx9 hp hc h1.1 ha ⟨by omega, hl⟩
theorem qpi {p c n : Int} {a : List (Int × List Nat × Int)} {K i : Nat} (hE : vt p c n a = true) (hk : K ≤ 20) (hi : i ≤ K) (h : ¬ (gq p c n a i).length ≤ 140) : ke p c n a K = (0, 0, 0, [], 3) := by
  unfold ke
  rw [if_neg (by rw [hE]; simp), if_neg (fun h => h (by omega)), if_neg (fun h2 => h (h2 i (by omega)))]
theorem qj9 {p c n : Int} {a : List (Int × List Nat × Int)} {K : Nat} (hE : vt p c n a = true) (hk : K ≤ 20) (h : ∀ j, j ≤ K → (gq p c n a j).length ≤ 140) : ke p c n a K = (p, c, n, gq p c n a K, 0) := by
  unfold ke
  rw [if_neg (by rw [hE]; simp), if_neg (fun h => h (by omega)), if_pos (by simpa using h)]
  simp
theorem zg : B95 94 = some (gv) := rfl
theorem zo : B95 48 = some (j6) := rfl
theorem j2 : B95 93 = some (qk x8) := rfl
theorem zj : B95 90 = some (Q9) := rfl
theorem xk : B95 60 = some (qk x8) := rfl
theorem xl : B95 68 = some (j6) := rfl
theorem z8 : B95 92 = some (gr) := rfl
theorem zr : B95 88 = some (Q9) := rfl
def yy : AC := .seq (.seq (.region [oM 19 1,oK 20 .gtr 19 0]) (.cond 20 .skip (.exit 1))) (.seq (.block 2 (.seq (.region [oN 23 4 6,oN 24 4 2,oC 25 88 [.t 23,.t 24],oS 4 6 25]) (.seq (.region [oF 26 3 6,oL 27 26,o0 28 (.len .slc (.t 27)),oK 29 .gtr 28 140]) (.cond 29 (.seq (.region [o0 30 (.build [.int .i64 0,.int .i64 0,.int .i64 0,(.v (.slice none 0 0))] []),oS 4 4 30,oI 5 3]) .ret) .skip)))) (.region [oM 21 1,oK 22 .sub 21 1,oM 1 22]))
def Xy : AC := .seq (.region [oN 31 4 6,oS 4 4 31,oI 5 0]) .ret
def gm : AC := .seq (.region [o0 2 (.box (.t 0)),o0 4 (.alloc [.int .i64 0,.int .i64 0,.int .i64 0,(.v (.slice none 0 0))]),oI 5 0]) (.seq (.block 0 (.seq (.region [oN 8 4 2,oC 9 68 [.t 8],o0 10 (.un .not (.t 9)),oM 7 10]) (.cond 7 (.seq (.region [o0 11 (.build [.int .i64 0,.int .i64 0,.int .i64 0,(.v (.slice none 0 0))] []),oS 4 4 11,oI 5 1]) .ret) (.seq (.region [oM 13 1,oC 14 60 [.t 13,(.c (.int .i64 0)),(.c (.int .i64 20))],o0 15 (.un .not (.t 14)),oM 12 15]) (.cond 12 (.seq (.region [o0 16 (.build [.int .i64 0,.int .i64 0,.int .i64 0,(.v (.slice none 0 0))] []),oS 4 4 16,oI 5 2]) .ret) .skip))))) (.seq (.region [oN 17 4 2,oC 18 92 [.t 17],o0 6 (.alloc [.int .i64 0,.int .i64 0,.int .i64 0,(.v (.slice none 0 0))]),oS 4 6 18]) (.seq (.block 1 (.loop yy)) Xy)))
theorem qb0 : zh Try.prog 41 = some ⟨32, gm, [.ba 4 4, .slot 5]⟩ := by kernel_rfl
theorem qbd (p c n k : Int) (a : List (Int × List Nat × Int)) (ha : okT a) (hl : a.length ≤ 1100000) :
    Am.Fn Try.prog 41 [elemV p c n 0 a.length, .int .i64 k] [.ro (qn a)] (qpe (qn a) (ke p c n a k)) := by
  refine Am.Fn.ofW qe6 mixed qb0 (by simp) (wi (qb _)) ?_
  have hal := qt ha
  have hts := jm ha
  have hle : a.length ≤ 1000000000 := by omega
  cases hE : vt p c n a with
  | false =>
    simp (maxSteps := 3000000) only [qj, zH, gm, zg, zo, j2, zj, xk, xl, z8, zr, x8, gv, j6, Q9, gr, elemV, hal, hts, hle, hE, iE, iN, iB, iC, iL, iD, iA, iS, iM, qa, zZ, ↓qm, ↓reduceIte, reduceCtorEq, nA, nM, nS, nE, nL, nD]; try simp only [qa, zY]
    have e : ke p c n a k = (0, 0, 0, [], 1) := by unfold ke; rw [if_pos hE]
    rw [e]
    exact ⟨rfl, Bs (qb a) rfl rfl rfl rfl (by decide)⟩
  | true =>
    by_cases hk : 0 ≤ k ∧ k ≤ 20
    · obtain ⟨h1, h2, h3, h4⟩ := qih hE
      have hg := qeb ha hE
      have hg1 := hg.dec
      have c0 : 0 ≤ n ∧ n ≤ 8 := by omega
      have hl1 : a.length ≤ 300 := by omega
      obtain ⟨K, rfl⟩ : ∃ K : Nat, k = K := ⟨k.toNat, by omega⟩
      simp (maxSteps := 3000000) only [qj, zH, gm, zg, zo, j2, zj, xk, xl, z8, zr, x8, gv, j6, Q9, gr, Jq, elemV, bf, qc _ _ (qb _), qc _ _ (qf _ _), hal, hts, hle, hE, hk, h3, iE, iN, iB, iC, iL, iD, iA, iS, iM, qa, zZ, ↓qm, ↓reduceIte, reduceCtorEq, nA, nM, nS, nE, nL, nD]; try simp only [qa, zY]
      refine ⟨rfl, ?_⟩
      have h00 : ∀ j, j ≤ 0 → (gq p c n a j).length ≤ 140 := fun j hj => by
        obtain rfl : j = 0 := by omega
        simp [gq]
      refine WA.jj qe6 (fun s => ∃ i : Nat, i ≤ K ∧ (∀ j, j ≤ i → (gq p c n a j).length ≤ 140) ∧ s = ⟨[(1, .int .i64 ((K - i : Nat) : Int)), (2, .ptr 1 0), (4, .ptr 2 0), (5, .int .i64 0), (6, .ptr 3 0)], [.ro (qn a), .cells [.int .i64 p, .int .i64 c, .int .i64 n, .slc 0 0 a.length false 0], qf2, .cells [.int .i64 p, .int .i64 c, .int .i64 n, .slc 4 0 (gq p c n a i).length false 0], .vec 18 (qn (gq p c n a i))]⟩)
        (fun s => match get s.env 1 with | .int _ x => x.toNat | _ => 0) ⟨_, q6.can [1, 2, 4, 5, 6] (by simp only [qik, zC, nB, nD, nA, nE, ↓reduceIte, reduceCtorEq]; rfl), 0, by omega, h00, ?_⟩ ?_
      · simp only [qc _ _ (qb _), zL, ↓reduceIte, reduceCtorEq, nE, nA]
        rfl
      rintro s ⟨i, hi, hall, rfl⟩
      by_cases hlt : i < K
      · have hgi := Qm h1 h2 h3 hg hl1 i fun j hj => hall j (by omega)
        have hi140 := hall i (Nat.le_refl i)
        have hgn := Qm h1 h2 h3 hg hl1 (i + 1) fun j hj => hall j (by omega)
        have hnext : MP p n (wb p c n (gq p c n a i) a) = gq p c n a (i + 1) := rfl
        have hg2 := hgi.1.dec
        have htp := jm hgi.1.ok
        have hlp := qt hgi.1.ok
        have hln := qt hgn.1.ok
        have hl2 : (gq p c n a i).length ≤ 300 := by omega
        have hli : (0 : Int) < ((K - i : Nat) : Int) := by omega
        have hw : qv .i64 (((K - i : Nat) : Int) - 1) = ((K - (i + 1) : Nat) : Int) := by rw [wrap64 (by omega) (by omega)]; omega
        by_cases hN : (gq p c n a (i + 1)).length ≤ 140
        · have gN : ¬ (140 : Int) < ((gq p c n a (i + 1)).length : Nat) := by omega
          simp (maxSteps := 3000000) only [qj, zH, yy, zg, zo, j2, zj, xk, xl, z8, zr, x8, gv, j6, Q9, gr, Jq, elemV, bf, qc _ _ (qb _), qc _ _ (qf _ _), hli, hw, hal, hts, hl1, hl2, htp, hlp, hln, hg1, hg2, h1, h2, c0, hnext, gN, and_self, iE, iN, iB, iC, iL, iD, iA, iS, iM, qa, zZ, ↓qm, ↓reduceIte, reduceCtorEq, nA, nM, nS, nE, nL, nD]; try simp only [qa, zY]
          refine ⟨rfl, _, q6.can [1, 2, 4, 5, 6] (by simp only [qik, zC, nB, nD, nA, nE, ↓reduceIte, reduceCtorEq]; rfl), ⟨i + 1, by omega, fun j hj => ?_, ?_⟩, ?_⟩
          · by_cases e : j = i + 1
            · subst e; exact hN
            · exact hall j (by omega)
          · simp only [qc _ _ (qb _), zL, ↓reduceIte, reduceCtorEq, nE, nA]
          · simp only [zL, ↓reduceIte, reduceCtorEq, nE, nA]; omega
        · have gN : (140 : Int) < ((gq p c n a (i + 1)).length : Nat) := by omega
          have e := qpi (c := c) hE (by omega) hlt hN
          simp (maxSteps := 3000000) only [qj, zH, yy, zg, zo, j2, zj, xk, xl, z8, zr, x8, gv, j6, Q9, gr, Jq, elemV, bf, qc _ _ (qb _), qc _ _ (qf _ _), hli, hw, hal, hts, hl1, hl2, htp, hlp, hln, hg1, hg2, h1, h2, c0, hnext, gN, and_self, iE, iN, iB, iC, iL, iD, iA, iS, iM, qa, zZ, ↓qm, ↓reduceIte, reduceCtorEq, nA, nM, nS, nE, nL, nD]; try simp only [qa, zY]
          rw [e]
          exact ⟨rfl, rfl, Bs (qb a) rfl rfl rfl rfl (by decide)⟩
      · have hli : ¬ (0 : Int) < ((K - i : Nat) : Int) := by omega
        obtain rfl : i = K := by omega
        have hgi := Qm h1 h2 h3 hg hl1 i fun j hj => hall j (by omega)
        have e := qj9 hE (by omega) hall
        have e0 : ((i - i : Nat) : Int) = 0 := by omega
        simp (maxSteps := 3000000) only [qj, zH, yy, Xy, zg, zo, j2, zj, xk, xl, z8, zr, x8, gv, j6, Q9, gr, Jq, elemV, bf, qc _ _ (qb _), qc _ _ (qf _ _), e0, Int.lt_irrefl, iE, iN, iB, iC, iL, iD, iA, iS, iM, qa, zZ, ↓qm, ↓reduceIte, reduceCtorEq, nA, nM, nS, nE, nL, nD]; try simp only [qa, zY]
        rw [e]
        exact ⟨rfl, _, q6.refl _, qs8 (qb a) (qb _) rfl rfl rfl rfl rfl⟩
    · simp (maxSteps := 3000000) only [qj, zH, gm, zg, zo, j2, zj, xk, xl, z8, zr, x8, gv, j6, Q9, gr, elemV, hal, hts, hle, hE, hk, iE, iN, iB, iC, iL, iD, iA, iS, iM, qa, zZ, ↓qm, ↓reduceIte, reduceCtorEq, nA, nM, nS, nE, nL, nD]; try simp only [qa, zY]
      have e : ke p c n a k = (0, 0, 0, [], 2) := by unfold ke; rw [if_neg (by rw [hE]; simp), if_pos hk]
      rw [e]
      exact ⟨rfl, Bs (qb a) rfl rfl rfl rfl (by decide)⟩
def yw : AC := .seq (.region [oP 20 .lss 19 18]) (.seq (.cond 20 .skip (.exit 1)) (.seq (.block 2 (.seq (.region [oN 21 4 6,oN 22 4 2,oC 23 90 [.t 21,.t 22],oS 4 6 23]) (.seq (.region [oF 24 3 6,oL 25 24,o0 26 (.len .slc (.t 25)),oK 27 .gtr 26 140]) (.cond 27 (.seq (.region [o0 28 (.build [.int .i64 0,.int .i64 0,.int .i64 0,(.v (.slice none 0 0))] []),oS 4 4 28,oI 5 3]) .ret) .skip)))) (.region [oK 29 .add 19 1,oM 19 29])))
def Xx : AC := .seq (.region [oN 30 4 6,oS 4 4 30,oI 5 0]) .ret
def gn : AC := .seq (.region [o0 2 (.box (.t 0)),o0 4 (.alloc [.int .i64 0,.int .i64 0,.int .i64 0,(.v (.slice none 0 0))]),oI 5 0]) (.seq (.block 0 (.seq (.region [oN 8 4 2,oC 9 48 [.t 8],o0 10 (.un .not (.t 9)),oM 7 10]) (.cond 7 (.seq (.region [o0 11 (.build [.int .i64 0,.int .i64 0,.int .i64 0,(.v (.slice none 0 0))] []),oS 4 4 11,oI 5 1]) .ret) (.seq (.region [oM 13 1,oC 14 93 [.t 13,(.c (.int .i64 0)),(.c (.int .i64 20))],o0 15 (.un .not (.t 14)),oM 12 15]) (.cond 12 (.seq (.region [o0 16 (.build [.int .i64 0,.int .i64 0,.int .i64 0,(.v (.slice none 0 0))] []),oS 4 4 16,oI 5 2]) .ret) .skip))))) (.seq (.region [oC 17 94 [.t 2],o0 6 (.alloc [.int .i64 0,.int .i64 0,.int .i64 0,(.v (.slice none 0 0))]),oS 4 6 17]) (.seq (.seq (.region [oM 18 1,oI 19 0]) (.block 1 (.loop yw))) Xx)))
theorem qa3 : zh Try.prog 42 = some ⟨31, gn, [.ba 4 4, .slot 5]⟩ := by kernel_rfl
theorem qbm (p c n k : Int) (a : List (Int × List Nat × Int)) (ha : okT a) (hl : a.length ≤ 1100000) :
    Am.Fn Try.prog 42 [elemV p c n 0 a.length, .int .i64 k] [.ro (qn a)] (qpe (qn a) (ke p c n a k)) := by
  refine Am.Fn.ofW qe6 mixed qa3 (by simp) (wi (qb _)) ?_
  have hal := qt ha
  have hts := jm ha
  have hle : a.length ≤ 1000000000 := by omega
  cases hE : vt p c n a with
  | false =>
    simp (maxSteps := 3000000) only [qj, zH, gn, zg, zo, j2, zj, xk, xl, z8, zr, x8, gv, j6, Q9, gr, elemV, hal, hts, hle, hE, iE, iN, iB, iC, iL, iD, iA, iS, iM, qa, zZ, ↓qm, ↓reduceIte, reduceCtorEq, nA, nM, nS, nE, nL, nD]; try simp only [qa, zY]
    have e : ke p c n a k = (0, 0, 0, [], 1) := by unfold ke; rw [if_pos hE]
    rw [e]
    exact ⟨rfl, Bs (qb a) rfl rfl rfl rfl (by decide)⟩
  | true =>
    by_cases hk : 0 ≤ k ∧ k ≤ 20
    · obtain ⟨h1, h2, h3, h4⟩ := qih hE
      have hg := qeb ha hE
      have hg1 := hg.dec
      have c0 : 0 ≤ n ∧ n ≤ 8 := by omega
      have hl1 : a.length ≤ 300 := by omega
      obtain ⟨K, rfl⟩ : ∃ K : Nat, k = K := ⟨k.toNat, by omega⟩
      simp (maxSteps := 3000000) only [qj, zH, gn, zg, zo, j2, zj, xk, xl, z8, zr, x8, gv, j6, Q9, gr, Jq, elemV, bf, qc _ _ (qb _), qc _ _ (qf _ _), hal, hts, hle, hE, hk, h1, h3, and_self, iE, iN, iB, iC, iL, iD, iA, iS, iM, qa, zZ, ↓qm, ↓reduceIte, reduceCtorEq, nA, nM, nS, nE, nL, nD]; try simp only [qa, zY]
      refine ⟨rfl, ?_⟩
      have h00 : ∀ j, j ≤ 0 → (gq p c n a j).length ≤ 140 := fun j hj => by
        obtain rfl : j = 0 := by omega
        simp [gq]
      refine WA.jj qe6 (fun s => ∃ i : Nat, i ≤ K ∧ (∀ j, j ≤ i → (gq p c n a j).length ≤ 140) ∧ s = ⟨[(2, .ptr 1 0), (4, .ptr 2 0), (5, .int .i64 0), (6, .ptr 3 0), (18, .int .i64 K), (19, .int .i64 (i : Nat))], [.ro (qn a), .cells [.int .i64 p, .int .i64 c, .int .i64 n, .slc 0 0 a.length false 0], qf2, .cells [.int .i64 p, .int .i64 c, .int .i64 n, .slc 4 0 (gq p c n a i).length false 0], .vec 18 (qn (gq p c n a i))]⟩)
        (fun s => match get s.env 19 with | .int _ x => K - x.toNat | _ => 0) ⟨_, q6.can [2, 4, 5, 6, 18, 19] (by simp only [qik, zC, nB, nD, nA, nE, ↓reduceIte, reduceCtorEq]; rfl), 0, by omega, h00, ?_⟩ ?_
      · simp only [qc _ _ (qb _), zL, ↓reduceIte, reduceCtorEq, nE, nA]
        rfl
      rintro s ⟨i, hi, hall, rfl⟩
      by_cases hlt : i < K
      · have hgi := Qm h1 h2 h3 hg hl1 i fun j hj => hall j (by omega)
        have hi140 := hall i (Nat.le_refl i)
        have hgn := Qm h1 h2 h3 hg hl1 (i + 1) fun j hj => hall j (by omega)
        have hnext : MP p n (wb p c n (gq p c n a i) a) = gq p c n a (i + 1) := rfl
        have hg2 := hgi.1.dec
        have htp := jm hgi.1.ok
        have hlp := qt hgi.1.ok
        have hln := qt hgn.1.ok
        have hl2 : (gq p c n a i).length ≤ 300 := by omega
        have hli : (i : Int) < (K : Int) := by omega
        have hw : qv .i64 ((i : Int) + 1) = ((i + 1 : Nat) : Int) := by rw [wrap64 (by omega) (by omega)]; rfl
        by_cases hN : (gq p c n a (i + 1)).length ≤ 140
        · have gN : ¬ (140 : Int) < ((gq p c n a (i + 1)).length : Nat) := by omega
          simp (maxSteps := 3000000) only [qj, zH, yw, zg, zo, j2, zj, xk, xl, z8, zr, x8, gv, j6, Q9, gr, Jq, elemV, bf, qc _ _ (qb _), qc _ _ (qf _ _), hli, hw, hal, hts, hl1, hl2, htp, hlp, hln, hg1, hg2, h1, h2, c0, hnext, gN, and_self, iE, iN, iB, iC, iL, iD, iA, iS, iM, qa, zZ, ↓qm, ↓reduceIte, reduceCtorEq, nA, nM, nS, nE, nL, nD]; try simp only [qa, zY]
          refine ⟨rfl, _, q6.can [2, 4, 5, 6, 18, 19] (by simp only [qik, zC, nB, nD, nA, nE, ↓reduceIte, reduceCtorEq]; rfl), ⟨i + 1, by omega, fun j hj => ?_, ?_⟩, ?_⟩
          · by_cases e : j = i + 1
            · subst e; exact hN
            · exact hall j (by omega)
          · simp only [qc _ _ (qb _), zL, ↓reduceIte, reduceCtorEq, nE, nA]
          · simp only [zL, ↓reduceIte, reduceCtorEq, nE, nA]; omega
        · have gN : (140 : Int) < ((gq p c n a (i + 1)).length : Nat) := by omega
          have e := qpi (c := c) hE (by omega) hlt hN
          simp (maxSteps := 3000000) only [qj, zH, yw, zg, zo, j2, zj, xk, xl, z8, zr, x8, gv, j6, Q9, gr, Jq, elemV, bf, qc _ _ (qb _), qc _ _ (qf _ _), hli, hw, hal, hts, hl1, hl2, htp, hlp, hln, hg1, hg2, h1, h2, c0, hnext, gN, and_self, iE, iN, iB, iC, iL, iD, iA, iS, iM, qa, zZ, ↓qm, ↓reduceIte, reduceCtorEq, nA, nM, nS, nE, nL, nD]; try simp only [qa, zY]
          rw [e]
          exact ⟨rfl, rfl, Bs (qb a) rfl rfl rfl rfl (by decide)⟩
      · have hli : ¬ (i : Int) < (K : Int) := by omega
        obtain rfl : i = K := by omega
        have hgi := Qm h1 h2 h3 hg hl1 i fun j hj => hall j (by omega)
        have e := qj9 hE (by omega) hall
        simp (maxSteps := 3000000) only [qj, zH, yw, Xx, zg, zo, j2, zj, xk, xl, z8, zr, x8, gv, j6, Q9, gr, Jq, elemV, bf, qc _ _ (qb _), qc _ _ (qf _ _), hli, Int.lt_irrefl, iE, iN, iB, iC, iL, iD, iA, iS, iM, qa, zZ, ↓qm, ↓reduceIte, reduceCtorEq, nA, nM, nS, nE, nL, nD]; try simp only [qa, zY]
        rw [e]
        exact ⟨rfl, _, q6.refl _, qs8 (qb a) (qb _) rfl rfl rfl rfl rfl⟩
    · simp (maxSteps := 3000000) only [qj, zH, gn, zg, zo, j2, zj, xk, xl, z8, zr, x8, gv, j6, Q9, gr, elemV, hal, hts, hle, hE, hk, iE, iN, iB, iC, iL, iD, iA, iS, iM, qa, zZ, ↓qm, ↓reduceIte, reduceCtorEq, nA, nM, nS, nE, nL, nD]; try simp only [qa, zY]
      have e : ke p c n a k = (0, 0, 0, [], 2) := by unfold ke; rw [if_neg (by rw [hE]; simp), if_pos hk]
      rw [e]
      exact ⟨rfl, Bs (qb a) rfl rfl rfl rfl (by decide)⟩
theorem qz3 (p c n k : Int) (ts : List (Int × List Nat × Int)) (ho : okT ts) : q0s (ke p c n ts k) := by
  unfold ke
  split
  · exact ⟨(fun t h => by cases h), by simp⟩
  · rename_i hE
    have hE' : vt p c n ts = true := by cases h : vt p c n ts <;> simp_all
    split
    · exact ⟨(fun t h => by cases h), by simp⟩
    · split
      · rename_i hall
        obtain ⟨h1, h2, h3, h4⟩ := qih hE'
        refine ⟨(Qm h1 h2 h3 (qeb ho hE') (by omega) k.toNat fun i hi => hall i (by omega)).1.ok, ?_⟩
        have := hall k.toNat (Nat.le_refl _)
        show (gq p c n ts k.toNat).length ≤ 300
        omega
      · exact ⟨(fun t h => by cases h), by simp⟩
noncomputable def B96 : zq := ((B95.put 41 (Vv ke)).put 42 (Vv ke))
theorem qzn : qy Try.prog B96 := ((qe6.put (qu6 qbd)).put (qu6 qbm))
end Go.Proofs.Ytkgoadglalpbfaa
namespace Go.Proofs.Ytkgoadglalpbfaa
open Go.Am Go.Dia
open Nat renaming reduceAdd → nA, reduceMul → nM, reduceSub → nS, reduceEqDiff → nE, reduceLT → nL, reduceLeDiff → nD, reduceBEq → nB
open Int renaming reduceEq → iE, reduceNe → iN, reduceBEq → iB, reduceBNe → iC, reduceLT → iL, reduceLE → iD, reduceAdd → iA, reduceSub → iS, reduceMul → iM
set_option linter.unusedSimpArgs false
set_option linter.unusedVariables false
set_option maxRecDepth 4000
set_option maxHeartbeats 1000000
theorem wo : B96 42 = some (Vv ke) := rfl
theorem wm : B96 41 = some (Vv ke) := rfl
theorem uu : B96 19 = some (uo) := rfl
theorem w8 : B96 26 = some (wa) := rfl
theorem yc : B96 20 = some (vy) := rfl
theorem uw : B96 14 = some (um) := rfl
theorem uz : B96 16 = some (ur) := rfl
def jq : AC := .seq (.region [o0 2 (.box (.t 0)),oB 4 false]) (.seq (.region [oI 5 1048576]) (.seq (.region [oN 16 4 2,oM 17 5,oC 18 14 [.t 16,.t 17],oM 5 18]) (.seq (.seq (.region [oM 19 5,oK 20 .lss 19 0]) (.cond 20 (.seq (.region [oB 4 true]) .ret) .skip)) (.seq (.region [oN 22 4 2,oC 23 16 [.t 22],oM 24 1,oC 25 41 [.t 23,.t 24],oM 21 25,oE 26 0 21,oE 27 1 21,o0 6 (.alloc [.int .i64 0,.int .i64 0,.int .i64 0,(.v (.slice none 0 0))]),oS 4 6 26,oM 7 27]) (.seq (.region [oN 28 4 2,oC 29 16 [.t 28],o0 8 (.alloc [.int .i64 0,.int .i64 0,.int .i64 0,(.v (.slice none 0 0))]),oS 4 8 29]) (.seq (.region [oN 31 4 8,oM 32 1,oC 33 42 [.t 31,.t 32],oM 30 33,oE 34 0 30,oE 35 1 30,o0 9 (.alloc [.int .i64 0,.int .i64 0,.int .i64 0,(.v (.slice none 0 0))]),oS 4 9 34,oM 10 35]) (.seq (.seq (.region [oN 36 4 9,oN 37 4 6,oC 38 19 [.t 36,.t 37],o0 39 (.un .not (.t 38)),oM 40 39,oG 41 40 false (.mov (.t 10)),oG 42 40 false (.mov (.t 7)),oG 43 40 false (.bin .neq (.t 41) (.t 42)),o0 44 (.pick (.t 40) (.c (.bool true)) (.t 43))]) (.cond 44 (.seq (.region [oB 4 false]) .ret) .skip)) (.seq (.seq (.draw true [oN 45 4 8,oN 46 4 2,oC 47 16 [.t 46],oC 48 19 [.t 45,.t 47],o0 49 (.un .not (.t 48))]) (.cond 49 (.seq (.region [oB 4 false]) .ret) .skip)) (.seq (.region [oI 11 1]) (.seq (.region [oN 50 4 8,oM 51 11,oC 52 20 [.t 50,.t 51],oM 11 52]) (.seq (.seq (.region [oM 53 11,oK 54 .lss 53 0,oM 55 54,oG 56 55 false (.ka 4 (.t 9)),oG 57 55 false (.ka 4 (.t 6)),⟨some 58,some (55,false),.call (.c (.fn 19 [] [])) [.t 56,.t 57]⟩,oG 59 55 false (.un .not (.t 58)),o0 60 (.pick (.t 55) (.c (.bool true)) (.t 59)),oM 61 60,oG 62 61 false (.mov (.t 10)),oG 63 61 false (.mov (.t 7)),oG 64 61 false (.bin .neq (.t 62) (.t 63)),o0 65 (.pick (.t 61) (.c (.bool true)) (.t 64))]) (.cond 65 (.seq (.region [oB 4 false]) .ret) .skip)) (.seq (.region [oI 12 1]) (.seq (.region [oN 66 4 9,oM 67 12,oC 68 20 [.t 66,.t 67],oM 12 68]) (.seq (.region [oI 13 1]) (.seq (.region [oN 69 4 9,oM 70 13,oC 71 26 [.t 69,.t 70],oM 13 71]) (.seq (.seq (.region [oM 72 13,oK 73 .lss 72 0]) (.cond 73 (.seq (.region [oB 4 false]) .ret) .skip)) (.seq (.seq (.region [oM 74 13,oM 75 12,oP 76 .neq 74 75]) (.cond 76 (.seq (.region [oB 4 false]) .ret) .skip)) (.seq (.region [oN 78 4 2,oC 79 16 [.t 78],oM 80 1,oC 81 42 [.t 79,.t 80],oM 77 81,oE 82 0 77,oE 83 1 77,o0 14 (.alloc [.int .i64 0,.int .i64 0,.int .i64 0,(.v (.slice none 0 0))]),oS 4 14 82,oM 15 83]) (.seq (.seq (.region [oN 84 4 14,oN 85 4 6,oC 86 19 [.t 84,.t 85],o0 87 (.un .not (.t 86)),oM 88 87,oG 89 88 false (.mov (.t 15)),oG 90 88 false (.mov (.t 7)),oG 91 88 false (.bin .neq (.t 89) (.t 90)),o0 92 (.pick (.t 88) (.c (.bool true)) (.t 91))]) (.cond 92 (.seq (.region [oB 4 false]) .ret) .skip)) (.seq (.region [oI 13 1]) (.seq (.region [oN 93 4 9,oM 94 13,oC 95 26 [.t 93,.t 94],oM 13 95]) (.seq (.seq (.region [oM 96 13,oK 97 .lss 96 0]) (.cond 97 (.seq (.region [oB 4 false]) .ret) .skip)) (.seq (.seq (.region [oM 98 13,oM 99 12,oP 100 .neq 98 99]) (.cond 100 (.seq (.region [oB 4 false]) .ret) .skip)) (.seq (.region [oB 4 true]) .ret))))))))))))))))))))))))
theorem Wg : zh Try.prog 12 = some ⟨101, jq, [.slot 4]⟩ := by kernel_rfl
theorem qbk (H : List AO) (X : AV) (p c n k : Int) (ts : List (Int × List Nat × Int)) (h : qdf H X ts) (hl : ts.length ≤ 9223372036854775807) : Am.Fn Try.prog 12 [.agg [.int .i64 p, .int .i64 c, .int .i64 n, X], .int .i64 k] H (fun v H' => v = .bool true ∧ H' = H) := by
  refine Am.Fn.xt (R := fun v => v = _) qzn mixed Wg (by simp) (Ze h) ?_
  have hX := qfv h
  have ho := h.1
  have hH : H = [] ∨ ∃ o, H = [o] := by
    rcases h.2 with ⟨_, rfl, _⟩ | ⟨_, rfl, _⟩ | ⟨_, _, _, _, rfl, _⟩
    · exact .inl rfl
    · exact .inr ⟨_, rfl⟩
    · exact .inr ⟨_, rfl⟩
  by_cases hlt : (1048576 : Int) - ts.length < 0
  · have hif : (if (1048576 : Int) - ts.length < 0 then (-1 : Int) else 1048576 - ts.length) = -1 := if_pos hlt
    rcases hH with rfl | ⟨o, rfl⟩
    · simp only [List.nil_append] at hX
      simp (maxSteps := 3000000) only [qj, zH, jq, wo, wm, uu, w8, yc, uw, uz, Vv, uo, wa, vy, um, ur, iE, iN, iB, iC, iL, iD, iA, iS, iM, hX, hl, hif, qa, zZ, ↓qm, ↓reduceIte, reduceCtorEq, nA, nM, nS, nE, nL, nD]; try simp only [qa, zY]
    · simp only [List.cons_append, List.nil_append] at hX
      simp (maxSteps := 3000000) only [qj, zH, jq, wo, wm, uu, w8, yc, uw, uz, Vv, uo, wa, vy, um, ur, iE, iN, iB, iC, iL, iD, iA, iS, iM, hX, hl, hif, qa, zZ, ↓qm, ↓reduceIte, reduceCtorEq, nA, nM, nS, nE, nL, nD]; try simp only [qa, zY]
      exact ⟨_, rfl⟩
  · have hif : (if (1048576 : Int) - ts.length < 0 then (-1 : Int) else 1048576 - ts.length) = 1048576 - ts.length := if_neg hlt
    have hr := qz3 p c n k ts ho
    generalize he : ke p c n ts k = r at hr
    obtain ⟨P, C, N, L, E⟩ := r
    obtain ⟨hL, hLl⟩ := hr
    simp only at hL hLl
    have b0 := qt ho
    have b1 := jm ho
    have h1 := qt hL
    have h2 := jm hL
    have h3 : Jy L.length (qn (marks L.length 1)) = some (marks L.length 1) := by have := jm (Wf L.length 1); rwa [zz] at this
    have h6 : ((1 + 18 * L.length : Nat) : Int) < 0 ↔ False := iff_false_intro (by omega)
    have h7 : ((1 + 18 * ts.length : Nat) : Int) < 0 ↔ False := iff_false_intro (by omega)
    have h4 : L.length ≤ 2000000 := by omega
    have h8 : ts.length ≤ 1100000 := by omega
    have h9 : ts.length ≤ 2000000 := by omega
    rcases hH with rfl | ⟨o, rfl⟩
    · simp only [List.nil_append] at hX
      simp (maxSteps := 3000000) only [qj, zH, jq, wo, wm, uu, w8, yc, uw, uz, Vv, uo, wa, vy, um, ur, iE, iN, iB, iC, iL, iD, iA, iS, iM, Jq, elemV, bf, qc _ _ (qb _), qc _ _ (qf _ _), hX, hl, hif, hlt, he, b0, b1, h1, h2, h3, h4, h6, h7, h8, h9, Int.toNat_one, qp4, qa, zZ, ↓qm, ↓reduceIte, reduceCtorEq, nA, nM, nS, nE, nL, nD]; try simp only [qa, zY]
      exact ⟨rfl, rfl, rfl, ⟨_, rfl⟩, ⟨_, rfl⟩, rfl⟩
    · simp only [List.cons_append, List.nil_append] at hX
      simp (maxSteps := 3000000) only [qj, zH, jq, wo, wm, uu, w8, yc, uw, uz, Vv, uo, wa, vy, um, ur, iE, iN, iB, iC, iL, iD, iA, iS, iM, Jq, elemV, bf, qc _ _ (qb _), qc _ _ (qf _ _), hX, hl, hif, hlt, he, b0, b1, h1, h2, h3, h4, h6, h7, h8, h9, Int.toNat_one, qp4, qa, zZ, ↓qm, ↓reduceIte, reduceCtorEq, nA, nM, nS, nE, nL, nD]; try simp only [qa, zY]
      exact ⟨rfl, rfl, rfl, ⟨_, rfl⟩, ⟨_, rfl⟩, rfl, ⟨_, rfl⟩⟩
end Go.Proofs.Ytkgoadglalpbfaa
namespace Go.Proofs.Ytkgoadglalpbfaa
open Go.Am Go.Dia Go.ChangeShapes
open Nat renaming reduceAdd → nA, reduceMul → nM, reduceSub → nS, reduceEqDiff → nE, reduceLT → nL, reduceLeDiff → nD, reduceBEq → nB
open Int renaming reduceEq → iE, reduceNe → iN, reduceBEq → iB, reduceBNe → iC, reduceLT → iL, reduceLE → iD, reduceAdd → iA, reduceSub → iS, reduceMul → iM
set_option linter.unusedSimpArgs false
set_option linter.unusedVariables false
set_option maxRecDepth 4000
set_option maxHeartbeats 1000000
section
variable {H : Type} {enc : TypeId × Value → H} {P : Program} {w : World} {base : Nat} {spare : Nat → Bool} {held : Bool}
theorem qvq (ι : Nat → Am.Loc) {l : List AV} (h : AV.zb l = true) : qq (fun _ => Am.Loc.nil) l = qq ι l := by
  rw [j8 (ι' := ι) (n := 0) (fun j hj => by omega) l (ql _ _ h)]
structure qjl (P : Program) (tE tX tT tD t8 tM tI : TypeId) : Prop where
  e : ∃ f0 f1 f2 f3 : Field, P.underlying tE = some (.struct #[f0, f1, f2, f3]) ∧ f0.type = tI ∧ f1.type = tI ∧ f2.type = tI ∧ f3.type = tX ∧ f0.offset = 0 ∧ f1.offset = 1 ∧ f2.offset = 2 ∧ f3.offset = 3
  x : P.underlying tX = some (.slice tT)
  t : ∃ f0 f1 : Field, P.underlying tT = some (.struct #[f0, f1]) ∧ f0.type = tD ∧ f1.type = tI ∧ f0.offset = 0 ∧ f1.offset = 17
  d : ∃ f0 f1 : Field, P.underlying tD = some (.struct #[f0, f1]) ∧ f0.type = tI ∧ f1.type = tM ∧ f0.offset = 0 ∧ f1.offset = 1
  m : P.underlying tM = some (.array 16 t8)
  b : P.underlying t8 = some (.int .u8)
  i : P.underlying tI = some (.int .i64)
  ce : P.cellsOf tE = 4
  cx : P.cellsOf tX = 1
  ct : P.cellsOf tT = 18
  cd : P.cellsOf tD = 17
  cm : P.cellsOf tM = 16
  c8 : P.cellsOf t8 = 1
  ci : P.cellsOf tI = 1
theorem qso {tE tX tT tD t8 tM tI : TypeId} (T : qjl P tE tX tT tD t8 tM tI) {fuel : Nat} {cs : List Value} {x : DataW H × List MemPlace} (h : DataW.trod enc P w base spare held fuel tT cs = some x) :
    ∃ t : Int × List Nat × Int, okD t.2.1 ∧ cs = qq (fun _ => Am.Loc.nil) (trm t) := by
  obtain ⟨f0, f1, ht, e0, e1, o0, o1⟩ := T.t
  obtain ⟨g0, g1, hd, i0, i1, p0, p1⟩ := T.d
  obtain ⟨y0, y1, k, rfl, hl, a0, a1⟩ := trod_struct2 ht h
  rw [o0, e0, T.cd] at a0
  rw [o1, e1, T.ci] at a1
  rw [T.ct] at hl
  obtain ⟨n, m, hm, hb, hcs, _, _⟩ := qsb hd (by rw [i0]; exact T.i) (by rw [i1]; exact T.m) T.b p0 p1 (by rw [i0]; exact T.ci) (by rw [i1]; exact T.cm) T.c8 T.cd a0
  obtain ⟨v, hv, _, _⟩ := DataW.trod_int T.i a1
  refine ⟨(n, m, v), ⟨hm, hb⟩, ?_⟩
  have e2 : (cs.drop 17).take 1 = cs.drop 17 := List.take_of_length_le (by simp; omega)
  rw [e2] at hv
  rw [List.drop_zero] at hcs
  conv => lhs; rw [← List.take_append_drop 17 cs, hcs, hv]
  rw [trm, vz]
  rfl
theorem qhv {ι : Nat → Am.Loc} : ∀ (ts : List (Int × List Nat × Int)) (L : List Value) (off : Nat), okT ts → (∀ i (hi : i < ts.length) j, j < 18 → L[off + i * 18 + j]? = (qq ι (trm ts[i]))[j]?) →
    (L.drop off).take (ts.length * 18) = qq ι (qn ts)
  | [], L, off, _, _ => by simp [qn, qq]
  | t :: ts, L, off, ho, h => by
    have ht := zp (ho t (List.mem_cons_self ..))
    have h0 : (L.drop off).take 18 = qq ι (trm t) := by
      apply List.ext_getElem?
      intro j
      by_cases hj : j < 18
      · have := h 0 (by simp) j hj
        simp only [Nat.zero_mul, Nat.add_zero, List.getElem_cons_zero] at this
        rw [List.getElem?_take_of_lt hj, List.getElem?_drop, this]
      · rw [List.getElem?_eq_none (by simp; omega), List.getElem?_eq_none (by rw [q7]; omega)]
    have hl : 18 ≤ (L.drop off).length := by
      have := congrArg List.length h0
      rw [q7, ht, List.length_take] at this
      omega
    have ih := qhv ts L (off + 18) (fun u hu => ho u (List.mem_cons_of_mem _ hu)) fun i hi j hj => by
      have := h (i + 1) (by simpa using hi) j hj
      rw [show off + 18 + i * 18 + j = off + (i + 1) * 18 + j by omega]
      simpa using this
    rw [List.length_cons, show (ts.length + 1) * 18 = 18 + ts.length * 18 by omega, List.take_add, h0, List.drop_drop, ih]
    simp only [qn, List.flatMap_cons, vz]
theorem qon {tE tX tT tD t8 tM tI : TypeId} (T : qjl P tE tX tT tD t8 tM tI) {fuel : Nat} {cs : List Value} {x : DataW H × List MemPlace} (hs : ∀ b, spare b = true) (h : DataW.trod enc P w base spare held fuel tX cs = some x) :
    ∃ (X : AV) (Hp : List AO) (ts : List (Int × List Nat × Int)) (l : Am.Loc), qdf Hp X ts ∧ cs = [gam (fun _ => l) X] ∧ (∀ o ∈ Hp, Z5 (fun _ => l) w.heap l o ∧ o.wr = false) ∧ ts.length ≤ 9223372036854775807 := by
  have hts := T.x
  rcases DataW.trod_slice hts h with ⟨rfl, _⟩ | ⟨a, len, cap, elems, rest, n, rfl, rfl, rfl, hb, hlc, hcm, hel, hei, hrs, _⟩
  · exact ⟨.v (.slice none 0 0), [], [], Am.Loc.nil, ⟨(fun t h => by cases h), .inl ⟨rfl, rfl, rfl⟩⟩, rfl, (fun o h => by cases h), by simp⟩
  rw [T.ct] at hei hrs
  have hmax : len ≤ 9223372036854775807 := Nat.le_trans (Nat.le_trans hlc hcm) (by decide)
  have hget : ∀ i, i < len → ∃ t : Int × List Nat × Int, okD t.2.1 ∧ w.cells? base (a.add (i * 18)) 18 = some (qq (fun _ => Am.Loc.nil) (trm t)) := fun i hi => by
    have h1 := hei i hi
    rw [List.getElem?_eq_getElem (by omega)] at h1
    simp only [Option.bind_eq_some_iff] at h1
    obtain ⟨cs', h2, h3⟩ := h1
    obtain ⟨t, ht, rfl⟩ := qso T h3
    exact ⟨t, ht, h2⟩
  let f : Nat → Int × List Nat × Int := fun i => if hi : i < len then Classical.choose (hget i hi) else (0, [], 0)
  have hf : ∀ i, i < len → okD (f i).2.1 ∧ w.cells? base (a.add (i * 18)) 18 = some (qq (fun _ => Am.Loc.nil) (trm (f i))) := fun i hi => by
    have := Classical.choose_spec (hget i hi)
    simp only [f, dif_pos hi]; exact this
  have hlen : ((List.range len).map f).length = len := by simp
  have hok : okT ((List.range len).map f) := fun t ht => by
    obtain ⟨i, hi, rfl⟩ := List.mem_map.1 ht
    exact (hf i (List.mem_range.1 hi)).1
  have hcell : ∀ i, i < len → ∀ j, j < 18 → w.cell? ((a.add (i * 18)).add j) = (qq (fun _ => Am.Loc.nil) (trm (f i)))[j]? := fun i hi j hj => (World.cells?_some (hf i hi).2).2.2 j hj
  by_cases hc0 : cap = 0
  · obtain rfl : len = 0 := by omega
    subst hc0
    refine ⟨.slc 0 0 0 true 0, [.dead], [], ⟨a, false, 0⟩, ⟨(fun t h => by cases h), .inr (.inl ⟨rfl, rfl, rfl⟩)⟩, rfl, fun o h => ?_, by simp⟩
    rw [List.mem_singleton] at h; subst h; exact ⟨trivial, rfl⟩
  have h0 : ∃ v, w.cell? (a.add 0) = some v := by
    by_cases hl0 : len = 0
    · subst hl0
      obtain ⟨h1, h2⟩ := hrs (hs _)
      have h3 := h2 0 (by omega)
      rw [List.getElem?_eq_getElem (by omega)] at h3
      simp only [Option.bind_eq_some_iff] at h3
      obtain ⟨cs', h4, _⟩ := h3
      have h5 := World.cells?_some h4
      have h6 := h5.2.2 0 (by omega)
      have h7 : cs'.length = 18 := h5.2.1
      rw [List.getElem?_eq_getElem (by omega)] at h6
      simp only [Nat.zero_add, Nat.zero_mul, Addr.add_add] at h6
      exact ⟨_, h6⟩
    · have h6 := hcell 0 (by omega) 0 (by omega)
      rw [Addr.add_add] at h6
      have h7 : (qq (fun _ => Am.Loc.nil) (trm (f 0))).length = 18 := by rw [q7]; exact zp (hf 0 (by omega)).1
      rw [List.getElem?_eq_getElem (by omega)] at h6
      exact ⟨_, h6⟩
  obtain ⟨v0, h0⟩ := h0
  obtain ⟨blk, off, spot⟩ := a
  have hspot : spot = none := by simpa [Addr.add] using World.cell?_spot h0
  subst hspot
  have hheap : ∃ c ty fz, w.heap[blk]? = some (.cells c ty fz) := by
    simp only [World.cell?, Addr.add_plain] at h0
    split at h0
    · rename_i c ty fz hh; exact ⟨c, ty, fz, hh⟩
    · cases h0
  obtain ⟨c, ty, fz, hh⟩ := hheap
  have hc : ∀ i, w.cell? ⟨blk, i, none⟩ = c.toList[i]? := fun i => by simp [World.cell?, hh]
  have hoff : off ≤ c.toList.length := by
    rw [Addr.add_plain, Nat.add_zero, hc] at h0
    have := (List.getElem?_eq_some_iff.1 h0).1
    omega
  have hscan := qhv (ι := fun _ => Am.Loc.nil) ((List.range len).map f) c.toList off hok fun i hi j hj => by
    rw [hlen] at hi
    have := hcell i hi j hj
    rw [Addr.add_add, Addr.add_plain, hc] at this
    rw [Nat.add_assoc, this]
    simp
  rw [hlen] at hscan
  refine ⟨.slc 0 0 ((List.range len).map f).length true cap, [.ro (qn ((List.range len).map f))], (List.range len).map f, ⟨⟨blk, off, none⟩, false, 0⟩, ⟨hok, .inr (.inr ⟨(List.range len).map f, cap, rfl, by rw [hlen]; exact hlc, rfl, hok, List.take_length, Nat.le_refl _⟩)⟩, ?_, fun o h => ?_, by rw [hlen]; exact hmax⟩
  · rw [hlen]; simp [gam, Addr.add_plain]
  · rw [List.mem_singleton] at h; subst h
    refine ⟨.inr ⟨rfl, blk, off, c, ty, fz, c.toList.take off, (c.toList.drop off).drop (len * 18), rfl, hh, by rw [List.length_take]; omega, ?_⟩, rfl⟩
    rw [← qvq _ (qb _), ← hscan, List.append_assoc, List.take_append_drop, List.take_append_drop]
theorem qjo {tE tX tT tD t8 tM tI : TypeId} (T : qjl P tE tX tT tD t8 tM tI) {v : Value} {d : DataW H} {ps : List MemPlace} (hs : ∀ b, spare b = true) (h : DataW.Trod enc P w base spare held tE v d ps) :
    ∃ (p c n : Int) (X : AV) (Hp : List AO) (ts : List (Int × List Nat × Int)) (l : Am.Loc), qdf Hp X ts ∧ v = gam (fun _ => l) (.agg [.int .i64 p, .int .i64 c, .int .i64 n, X]) ∧ (∀ o ∈ Hp, Z5 (fun _ => l) w.heap l o ∧ o.wr = false) ∧ ts.length ≤ 9223372036854775807 ∧
      (-9223372036854775808 ≤ p ∧ p ≤ 9223372036854775807) ∧ (-9223372036854775808 ≤ c ∧ c ≤ 9223372036854775807) ∧ (-9223372036854775808 ≤ n ∧ n ≤ 9223372036854775807) := by
  obtain ⟨fuel, hf⟩ := h
  obtain ⟨f0, f1, f2, f3, he, e0, e1, e2, e3, o0, o1, o2, o3⟩ := T.e
  obtain ⟨xs, k, rfl, _, hl, hxl, hi⟩ := DataW.trod_struct he hf
  rw [T.ce] at hl
  have hxl4 : xs.length = 4 := hxl
  have a0 := hi 0 f0 rfl
  have a1 := hi 1 f1 rfl
  have a2 := hi 2 f2 rfl
  have a3 := hi 3 f3 rfl
  rw [List.getElem?_eq_getElem (by omega)] at a0 a1 a2 a3
  rw [o0, e0, T.ci] at a0
  rw [o1, e1, T.ci] at a1
  rw [o2, e2, T.ci] at a2
  rw [o3, e3, T.cx] at a3
  obtain ⟨p, hp, _, wp⟩ := DataW.trod_int T.i a0
  obtain ⟨c, hc, _, wc⟩ := DataW.trod_int T.i a1
  obtain ⟨n, hn, _, wn⟩ := DataW.trod_int T.i a2
  obtain ⟨X, Hp, ts, l, hX, hx, ho, hlen⟩ := qon T hs a3
  refine ⟨p, c, n, X, Hp, ts, l, hX, ?_, ho, hlen, bounds_i64 wp, bounds_i64 wc, bounds_i64 wn⟩
  generalize hcs : v.cells.toList = cs at *
  match cs, hl with
  | [x0, x1, x2, x3], _ =>
    simp only [List.drop_zero, List.drop_succ_cons, List.take_succ_cons, List.take_zero, List.cons.injEq, and_true] at hp hc hn hx
    subst hp; subst hc; subst hn; subst hx
    exact qql hcs (by show (4 : Nat) ≠ 1; decide)
end
end Go.Proofs.Ytkgoadglalpbfaa
namespace Go.Proofs.Ytkgoadglalpbfaa
open Go.Am Go.Dia Go.ChangeShapes Go.WideShapes Go.ChangeAt Go.RowKit
open Nat renaming reduceAdd → nA, reduceMul → nM, reduceSub → nS, reduceEqDiff → nE, reduceLT → nL, reduceLeDiff → nD, reduceBEq → nB
open Int renaming reduceEq → iE, reduceNe → iN, reduceBEq → iB, reduceBNe → iC, reduceLT → iL, reduceLE → iD, reduceAdd → iA, reduceSub → iS, reduceMul → iM
set_option linter.unusedSimpArgs false
set_option linter.unusedVariables false
set_option maxRecDepth 100000
theorem qyz : qjl Try.prog 24 22 100 40 5 38 2 where
  e := ⟨_, _, _, _, Try.underlying24, rfl, rfl, rfl, rfl, rfl, rfl, rfl, rfl⟩
  x := Try.underlying22
  t := ⟨_, _, Try.underlying100, rfl, rfl, rfl, rfl⟩
  d := ⟨_, _, Try.underlying40, rfl, rfl, rfl, rfl⟩
  m := Try.underlying38
  b := by kernel_rfl
  i := by kernel_rfl
  ce := by kernel_rfl
  cx := by kernel_rfl
  ct := by kernel_rfl
  cd := by kernel_rfl
  cm := by kernel_rfl
  c8 := by kernel_rfl
  ci := by kernel_rfl
theorem qkm {H : List AO} {X : AV} {ts : List (Int × List Nat × Int)} (hX : qdf H X ts) : X.under H.length := by
  rcases hX.2 with ⟨rfl, _⟩ | ⟨rfl, rfl, _⟩ | ⟨_, _, rfl, _, rfl, _⟩
  · trivial
  · simp [AV.under]
  · simp [AV.under]
theorem qxr {l : Am.Loc} {H : List AO} {X : AV} {ts : List (Int × List Nat × Int)} {heap : Array Obj} (hX : qdf H X ts) (h : ∀ o ∈ H, Z5 (fun _ => l) heap l o ∧ o.wr = false) : HOk (fun _ => l) H heap := by
  refine ⟨fun j o hj => ⟨Ze hX j o hj, (h o (List.mem_of_getElem? hj)).1⟩, fun i j b hi hj => ?_⟩
  obtain ⟨o, ho, hw, _⟩ := hi
  have := (h o (List.mem_of_getElem? ho)).2
  rw [this] at hw; cases hw
end Go.Proofs.Ytkgoadglalpbfaa

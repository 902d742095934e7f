/- Plain laws of elements: sums kept below the modulus. Contracts: products of elements, the implementation. Contracts: products of elements. Contracts: units and generators on both sides. Contracts: lists of terms compared; the elements of generators. Contracts: the elements of all generators. Contracts: elements that commute with the generators. Contracts: the statement FnExactIsCentralElement. Elements that a law is handed, off their readings. The types of the elements that the laws are handed, and the top of a law of one element. -/
import Derived.Test.YtkgoadglalpbfaaP5
import Derived.Test.YtkgoadglalpbfaaP4
import Derived.Test.YtkgoadglalpbfaaP3
import Derived.Test.YtkgoadglalpbfaaAmC
import Derived.OpenShut
import Derived.KernelRfl
namespace Go.Proofs.Ytkgoadglalpbfaa
open Go.Am Go.Dia
open Nat renaming reduceAdd → nA, reduceMul → nM, reduceSub → nS, reduceEqDiff → nE, reduceLT → nL, reduceLeDiff → nD, reduceBEq → nB
open Int renaming reduceEq → iE, reduceNe → iN, reduceBEq → iB, reduceBNe → iC, reduceLT → iL, reduceLE → iD, reduceAdd → iA, reduceSub → iS, reduceMul → iM
set_option linter.unusedSimpArgs false
set_option linter.unusedVariables false
set_option maxRecDepth 4000
set_option maxHeartbeats 1000000
def Wz (n : Int) (m : List Nat) (S : List (Int × List Nat × Int)) : Int := match U4 n m S with
  | none => 0
  | some j => (S.getD j zT).2.2
def Gc (n : Int) (m : List Nat) (v : Int) (S : List (Int × List Nat × Int)) : List (Int × List Nat × Int) := match U4 n m S with
  | none => S ++ [(n, m, v)]
  | some j => S.set j (n, m, v)
theorem qma {n v : Int} {m : List Nat} {S : List (Int × List Nat × Int)} : Gc n m v S = Kd n m (v - Wz n m S) S := by
  unfold Gc Wz
  cases h : U4 n m S with
  | none => simp only [(qht h).1, Int.sub_zero]
  | some j =>
    simp only [(qji h).2.2.2]
    rw [show (S.getD j zT).2.2 + (v - (S.getD j zT).2.2) = v by omega]
theorem Uj {n v : Int} {m : List Nat} {S : List (Int × List Nat × Int)} {u : Int × List Nat × Int} (h : u ∈ Gc n m v S) : u ∈ S ∨ u = (n, m, v) := by
  unfold Gc at h
  split at h
  · rcases List.mem_append.1 h with h | h
    · exact .inl h
    · exact .inr (List.mem_singleton.1 h)
  · exact List.mem_or_eq_of_mem_set h
theorem qtx {n v : Int} {m : List Nat} {S : List (Int × List Nat × Int)} : (Gc n m v S).length ≤ S.length + 1 := by
  unfold Gc
  split <;> simp
def qjj (p n : Int) (S : List (Int × List Nat × Int)) : Prop := qw3 n 10000 S ∧ ∀ t ∈ S, 0 ≤ t.2.2 ∧ t.2.2 ≤ p - 1
theorem qw9 {p n : Int} (hp : 0 < p) {m : List Nat} {S : List (Int × List Nat × Int)} (h : qjj p n S) : 0 ≤ Wz n m S ∧ Wz n m S ≤ p - 1 := by
  unfold Wz
  cases e : U4 n m S with
  | none => exact ⟨Int.le_refl 0, by show (0 : Int) ≤ p - 1; omega⟩
  | some j => exact h.2 _ (by rw [uz (qji e).1]; exact List.getElem_mem _)
theorem qs3 {p n v : Int} {m : List Nat} {S : List (Int × List Nat × Int)} (hp : p ≤ 97) (h : qjj p n S) (hm : okD m) (hs : isS n.toNat m = true) (hv : 0 ≤ v ∧ v ≤ p - 1) : qjj p n (Gc n m v S) := by
  have hone := qmr (n := n) (f := v - Wz n m S) (m := m) (ts := S) (fun t ht => (h.1.dia t ht).1) h.1.one
  rw [← qma] at hone
  refine ⟨⟨fun t ht => ?_, fun t ht => ?_, fun t ht => ?_, hone⟩, fun t ht => ?_⟩
  · rcases Uj ht with h1 | rfl
    · exact h.1.ok t h1
    · exact hm
  · rcases Uj ht with h1 | rfl
    · exact h.1.dia t h1
    · exact ⟨rfl, hs⟩
  · rcases Uj ht with h1 | rfl
    · exact h.1.fac t h1
    · exact ⟨by show -10000 ≤ v; omega, by show v ≤ 10000; omega⟩
  · rcases Uj ht with h1 | rfl
    · exact h.2 t h1
    · exact hv
def qb6 (p n : Int) (m : List Nat) (f : Int) (S : List (Int × List Nat × Int)) : List (Int × List Nat × Int) := Gc n m ((Wz n m S + f).emod p) S
def ML (p n : Int) (l : List (Int × List Nat × Int)) : List (Int × List Nat × Int) := l.foldl (fun S t => qb6 p n t.2.1 t.2.2 S) []
theorem qxa {p n : Int} {l : List (Int × List Nat × Int)} {t : Int × List Nat × Int} : ML p n (l ++ [t]) = qb6 p n t.2.1 t.2.2 (ML p n l) := by
  unfold ML; rw [List.foldl_append]; rfl
theorem qs5 {p n f : Int} {m : List Nat} {S : List (Int × List Nat × Int)} (hp : 0 < p ∧ p ≤ 97) (h : qjj p n S) (hm : okD m) (hs : isS n.toNat m = true) : qjj p n (qb6 p n m f S) :=
  qs3 hp.2 h hm hs ⟨Int.emod_nonneg _ (by omega), Int.le_sub_one_of_lt (Int.emod_lt_of_pos _ hp.1)⟩
theorem qez {p n : Int} (hp : 0 < p ∧ p ≤ 97) : ∀ {l acc : List (Int × List Nat × Int)}, qjj p n acc → (∀ t ∈ l, okD t.2.1 ∧ isS n.toNat t.2.1 = true) → qjj p n (l.foldl (fun S t => qb6 p n t.2.1 t.2.2 S) acc) ∧ (l.foldl (fun S t => qb6 p n t.2.1 t.2.2 S) acc).length ≤ acc.length + l.length
  | [], acc, h, _ => ⟨h, by simp⟩
  | t :: l, acc, h, hl => by
    have h1 := hl t (List.mem_cons_self ..)
    have := qez hp (l := l) (qs5 (f := t.2.2) hp h h1.1 h1.2) fun u hu => hl u (List.mem_cons_of_mem _ hu)
    have h2 : (qb6 p n t.2.1 t.2.2 acc).length ≤ acc.length + 1 := qtx
    refine ⟨this.1, ?_⟩
    have h3 := this.2
    rw [List.foldl_cons, List.length_cons]; omega
theorem qx0 {p n f : Int} {m m' : List Nat} {S : List (Int × List Nat × Int)} (h : ∀ t ∈ S, t.1 = n) : p ∣ cf m (qb6 p n m' f S) - (cf m S + if m' = m then f else 0) := by
  unfold qb6
  rw [qma, qp6 h]
  by_cases e : m' = m
  · rw [if_pos e, if_pos e]
    have := qd3 p (Wz n m' S + f)
    refine kq this (Int.dvd_zero p) ?_
    omega
  · rw [if_neg e, if_neg e]
    refine kq (Int.dvd_zero p) (Int.dvd_zero p) ?_
    omega
theorem qyh {p n f : Int} {m : List Nat} {S : List (Int × List Nat × Int)} (h : ∀ t ∈ S, t.1 = n) : ∀ t ∈ qb6 p n m f S, t.1 = n := fun t ht => by
  rcases Uj ht with h1 | rfl
  · exact h t h1
  · rfl
theorem qpw {p n : Int} {m : List Nat} : ∀ {l acc : List (Int × List Nat × Int)}, (∀ t ∈ acc, t.1 = n) → p ∣ cf m (l.foldl (fun S t => qb6 p n t.2.1 t.2.2 S) acc) - (cf m acc + qk4 id (fun _ => 1) m l)
  | [], acc, h => by simp [qk4]
  | t :: l, acc, h => by
    have ih := qpw (p := p) (m := m) (l := l) (qyh (p := p) (m := t.2.1) (f := t.2.2) h)
    have h1 := qx0 (p := p) (f := t.2.2) (m := m) (m' := t.2.1) h
    rw [List.foldl_cons]
    refine kq ih h1 ?_
    simp only [qk4, id, Int.mul_one]
    omega
theorem qyi {p n : Int} {l : List (Int × List Nat × Int)} (hp : 0 < p ∧ p ≤ 97) (h : qsg n 10000 id (fun _ => 1) l) : Xt (xf p (ML p n l)) = MP p n l := by
  have h0 : j9 p n [] := ⟨(fun t h => by cases h), (fun t h => by cases h), (fun t h => by cases h), .nil⟩
  have hs := (qez (p := p) (n := n) hp (l := l) (acc := []) ⟨⟨(fun t h => by cases h), (fun t h => by cases h), (fun t h => by cases h), .nil⟩, fun t h => by cases h⟩ fun t ht => ⟨(h t ht).1, (h t ht).2.1⟩).1
  refine ql9 hp.1 (qtd hp.1 hs.1) (Bm hp.1 h0 h).1 fun m => ?_
  have h1 := qpw (p := p) (n := n) (m := m) (acc := []) (l := l) (by simp)
  have h2 := qtv (p := p) (n := n) (φ := id) (κ := fun _ => 1) (m := m) (acc := []) (a := l) (by simp)
  have h3 := qx4 (p := p) (m := m) (S := ML p n l)
  have h4 := kq h3 h1 (z := cf m (Xt (xf p (ML p n l))) - (cf m [] + qk4 id (fun _ => 1) m l)) (by unfold ML; omega)
  exact qis h4 h2 (by unfold MP; omega)
theorem qnz {n : Int} {m : List Nat} {S : List (Int × List Nat × Int)} (hm : m.length = 16) (ho : okT S) (h : U4 n m S = none) (v : Int) :
    uj KD true (.agg (dia n m)) (esT 0 S) 0 = some none ∧ Wz n m S = 0 ∧ (AO.map (esT 0 S ++ [(⟨.agg (dia n m), .int .i64 v, S.length⟩ : AE)]) (S.length + 1)) = Ql (Gc n m v S) := by
  refine ⟨by rw [qeh hm ho, h]; rfl, by unfold Wz; rw [h], ?_⟩
  have e : Gc n m v S = S ++ [(n, m, v)] := by unfold Gc; rw [h]
  rw [e]
  show _ = AO.map (esT 0 (S ++ [(n, m, v)])) (S ++ [(n, m, v)]).length
  rw [qqa]; simp [esT]
theorem qo8 {n : Int} {m : List Nat} {S : List (Int × List Nat × Int)} {j : Nat} (hm : m.length = 16) (ho : okT S) (h : U4 n m S = some j) (v : Int) :
    uj KD true (.agg (dia n m)) (esT 0 S) 0 = some (some (j, ⟨.agg (dia n m), .int .i64 (Wz n m S), j⟩)) ∧ (AO.map ((esT 0 S).set j ⟨.agg (dia n m), .int .i64 v, j⟩) S.length) = Ql (Gc n m v S) := by
  have e1 : Wz n m S = (S.getD j zT).2.2 := by unfold Wz; rw [h]
  refine ⟨by rw [qeh hm ho, h, e1]; simp, ?_⟩
  have e : Gc n m v S = S.set j (n, m, v) := by unfold Gc; rw [h]
  rw [e]
  show _ = AO.map (esT 0 (S.set j (n, m, v))) (S.set j (n, m, v)).length
  have := qps (n := n) (v := v) (m := m) (ts := S) (k := 0) (j := j)
  rw [Nat.zero_add] at this
  rw [this]; simp
theorem qui {p c n : Int} (hp : 2 ≤ p ∧ p ≤ 97) (hc : 0 ≤ c ∧ c ≤ p - 1) {a b : List (Int × List Nat × Int)} (ha : j9 p n a) (hb : j9 p n b) (hl : a.length ≤ 300 ∧ b.length ≤ 300) {l : List (Int × List Nat × Int)} (h : ∀ t ∈ l, t ∈ j4 p c n a b) (hl : l.length ≤ 100000) :
    qjj p n (ML p n l) ∧ (ML p n l).length ≤ 100000 := by
  have hm := qe1 (c := c) hp hc ha hb
  have h1 := qez (p := p) (n := n) (by omega) (l := l) (acc := []) ⟨⟨(fun t h => by cases h), (fun t h => by cases h), (fun t h => by cases h), .nil⟩, fun t h => by cases h⟩ fun t ht => ⟨(hm t (h t ht)).1, (hm t (h t ht)).2.1⟩
  exact ⟨h1.1, Nat.le_trans h1.2 (by simpa using hl)⟩
theorem jg : B87 113 = some (Xh) := rfl
theorem uh : B87 128 = some (qj Vw) := rfl
theorem uq : B87 127 = some (qj vt) := rfl
def bo : AC := .seq (.region [oP 24 .lss 23 22]) (.seq (.cond 24 .skip (.exit 2)) (.seq (.block 3 (.seq (.region [oX 25 18 21 23,oN 26 18 25,o0 9 (.alloc [.int .i64 0,.int .u8 0,.int .u8 0,.int .u8 0,.int .u8 0,.int .u8 0,.int .u8 0,.int .u8 0,.int .u8 0,.int .u8 0,.int .u8 0,.int .u8 0,.int .u8 0,.int .u8 0,.int .u8 0,.int .u8 0,.int .u8 0,.int .i64 0]),oS 18 9 26]) (.seq (.region [oF 28 0 7,oN 29 17 28,oF 30 0 9,oN 31 17 30,oC 32 127 [.t 29,.t 31],oM 27 32,oE 33 0 27,oE 34 1 27,o0 10 (.alloc [.int .i64 0,.int .u8 0,.int .u8 0,.int .u8 0,.int .u8 0,.int .u8 0,.int .u8 0,.int .u8 0,.int .u8 0,.int .u8 0,.int .u8 0,.int .u8 0,.int .u8 0,.int .u8 0,.int .u8 0,.int .u8 0,.int .u8 0]),oS 17 10 33,oM 11 34]) (.draw true [oM 35 5,oN 36 17 10,oM 37 5,oN 38 17 10,o0 39 (.lookup [.int,.int,.int,.int,.int,.int,.int,.int,.int,.int,.int,.int,.int,.int,.int,.int,.int] true (.int .i64 0) false (.t 37) (.t 38)),oF 40 17 7,oL 41 40,oF 42 17 9,oL 43 42,oP 44 .mul 41 43,oF 45 0 2,oL 46 45,oP 47 .rem 44 46,oF 48 1 2,oL 49 48,oM 50 11,oF 51 0 2,oL 52 51,oF 56 0 2,oL 57 56,oC 53 128 [.t 49,.t 50,.t 52],oP 54 .mul 47 53,oP 55 .add 39 54,oP 58 .rem 55 57,⟨none,none,.op (.U1 [.int,.int,.int,.int,.int,.int,.int,.int,.int,.int,.int,.int,.int,.int,.int,.int,.int] true (.t 35) (.t 36) (.t 58))⟩])))) (.region [oK 59 .add 23 1,oM 23 59])))
def Ve : AC := .region [oK 60 .add 16 1,oM 16 60]
def Qq : AC := .seq (.region [oP 17 .lss 16 15]) (.seq (.cond 17 .skip (.exit 0)) (.seq (.block 1 (.seq (.region [oX 18 18 14 16,oN 19 18 18,o0 7 (.alloc [.int .i64 0,.int .u8 0,.int .u8 0,.int .u8 0,.int .u8 0,.int .u8 0,.int .u8 0,.int .u8 0,.int .u8 0,.int .u8 0,.int .u8 0,.int .u8 0,.int .u8 0,.int .u8 0,.int .u8 0,.int .u8 0,.int .u8 0,.int .i64 0]),oS 18 7 19]) (.seq (.region [oF 20 3 3,oL 21 20,o0 22 (.len .slc (.t 21)),oI 23 0]) (.block 2 (.loop bo))))) Ve))
def Vi : AC := .seq (.region [oM 61 5,oC 62 113 [.t 2,.t 61],oS 4 4 62]) .ret
def Ua : AC := .seq (.region [o0 2 (.box (.t 0)),o0 3 (.box (.t 1)),o0 4 (.alloc [.int .i64 0,.int .i64 0,.int .i64 0,(.v (.slice none 0 0))])]) (.seq (.region [o0 12 (.qas),oM 5 12]) (.seq (.seq (.region [oF 13 3 2,oL 14 13,o0 15 (.len .slc (.t 14)),oI 16 0]) (.block 0 (.loop Qq))) Vi))
theorem qee : zk Try.prog 90 = some ⟨63, Ua, [.Qa 4 4]⟩ := by kernel_rfl
theorem qeo (p c n p' c' : Int) (a b : List (Int × List Nat × Int)) (hp : 2 ≤ p ∧ p ≤ 97) (hc : 0 ≤ c ∧ c ≤ p - 1) (hn : 0 ≤ n ∧ n ≤ 8) (ha : j9 p n a) (hb : j9 p n b) (hl : a.length ≤ 300 ∧ b.length ≤ 300) :
    Am.Fn Try.prog 90 [elemV p c n 0 a.length, elemV p' c' n 1 b.length] [.ro (qt a), .ro (qt b)] (fun v H' => v = elemV p c n 2 (MP p n (j4 p c n a b)).length ∧ H' = [.ro (qt a), .ro (qt b), .vec 18 (qt (MP p n (j4 p c n a b)))]) := by
  refine Am.Fn.ofB qik mixed qee (by simp [elemV, AV.qy, AV.under]) (Jb (qb _) (qb _)) ?_
  have hal := qw ha.ok
  have hbl := qw hb.ok
  simp (maxSteps := 3000000) only [qh, zH, Ua, jg, uh, uq, Vw, vt, Xh, elemV, hal, hbl, Nat.le_refl, iE, iN, iB, iC, iL, iD, iA, iS, iM, qa, zZ, ↓qm, ↓reduceIte, reduceCtorEq, nA, nM, nS, nE, nL, nD]; try simp only [qa, zY]
  have hlen2 : ∀ l : List (Int × List Nat × Int), (∀ t ∈ l, t ∈ j4 p c n a b) → l.length ≤ 100000 → qjj p n (ML p n l) ∧ (ML p n l).length ≤ 100000 := fun l h1 h2 => qui (c := c) hp hc ha hb hl h1 h2
  refine WA.jt qik (fun s => ∃ (i : Nat) (S : List (Int × List Nat × Int)), i ≤ a.length ∧ S = ML p n (j4 p c n (a.take i) b) ∧ s = ⟨[(16, .int .i64 i), (15, .int .i64 a.length), (14, .slc 0 0 a.length false 0), (5, .map 5), (4, .ptr 4 0), (3, .ptr 3 0), (2, .ptr 2 0)], [.ro (qt a), .ro (qt b), .cells [.int .i64 p, .int .i64 c, .int .i64 n, .slc 0 0 a.length false 0], .cells [.int .i64 p', .int .i64 c', .int .i64 n, .slc 1 0 b.length false 0], qt3, Ql S]⟩)
    (fun s => match get s.env 16 with | .int _ x => a.length - x.toNat | _ => 0) ⟨_, q6.qz [16, 15, 14, 5, 4, 3, 2], 0, [], by omega, rfl, rfl⟩ ?_
  rintro s ⟨i, S, hi, hS, rfl⟩
  have hwi : qu .i64 ((i : Int) + 1) = ((i + 1 : Nat) : Int) := by rw [wrap64 (by omega) (by omega)]; rfl
  by_cases hlt : i < a.length
  · have hli : (i : Int) < a.length := by omega
    have hli' : (0 : Int) ≤ i := by omega
    have hg0 := ub ha.ok hlt
    have ok1 := ha.ok _ (List.getElem_mem hlt)
    have z1 := ha.dia _ (List.getElem_mem hlt)
    have c1 := ha.fac _ (List.getElem_mem hlt)
    have hb1 : i * 18 < a.length * 18 := by omega
    have hb2 : i * 18 + 18 ≤ a.length * 18 := by omega
    have hov := Qw (t := (0, List.replicate 16 0, 0)) (u := a[i]) (by simp) ok1.1
    have htl := zp (t := a[i]) ok1
    have htd := qfd (t := a[i]) ok1
    have htf := kx (t := a[i]) ok1
    rw [z1.1] at htd
    have hmem : ∀ j, ∀ t ∈ j4 p c n (a.take i) b ++ (b.take j).map (prT p c n a[i]), t ∈ j4 p c n a b := fun j t ht => qmg hlt ht
    have hmln : ∀ j, (j4 p c n (a.take i) b ++ (b.take j).map (prT p c n a[i])).length ≤ 100000 := fun j => by
      rw [List.length_append, Up, List.length_map, List.length_take, List.length_take]
      have h1 : (min i a.length) * b.length ≤ 300 * 300 := Nat.mul_le_mul (by omega) hl.2
      omega
    have hms : j4 p c n (a.take (i + 1)) b = j4 p c n (a.take i) b ++ b.map (prT p c n a[i]) := qh9 hlt
    have hnx : ∀ j (h : j < b.length), (b.take (j + 1)).map (prT p c n a[i]) = (b.take j).map (prT p c n a[i]) ++ [prT p c n a[i] b[j]] := fun j h => qj1 h
    obtain ⟨t, ht⟩ : ∃ t, t = a[i] := ⟨_, rfl⟩
    rw [← ht] at hg0 ok1 z1 c1 hov htl htd htf hms
    simp only [← ht] at hmem hmln hnx
    clear ht
    simp (maxSteps := 3000000) only [qh, zH, Qq, jg, uh, uq, Vw, vt, Xh, hli, hli', hal, hbl, hb1, hb2, hg0, x8, htl, xv, xh, hov, List.length_replicate, Nat.le_refl, iE, iN, iB, iC, iL, iD, iA, iS, iM, qa, zZ, ↓qm, ↓reduceIte, reduceCtorEq, nA, nM, nS, nE, nL, nD]; try simp only [qa, zY]
    have ea : j4 p c n (a.take i) b = j4 p c n (a.take i) b ++ (b.take 0).map (prT p c n t) := by simp
    rw [ea] at hS
    refine WA.jt qik (fun s => ∃ (j : Nat) (S : List (Int × List Nat × Int)), j ≤ b.length ∧ S = ML p n (j4 p c n (a.take i) b ++ (b.take j).map (prT p c n t)) ∧ s = ⟨[(23, .int .i64 j), (22, .int .i64 b.length), (21, .slc 1 0 b.length false 0), (7, .ptr 6 0), (16, .int .i64 i), (15, .int .i64 a.length), (14, .slc 0 0 a.length false 0), (5, .map 5), (4, .ptr 4 0), (3, .ptr 3 0), (2, .ptr 2 0)], [.ro (qt a), .ro (qt b), .cells [.int .i64 p, .int .i64 c, .int .i64 n, .slc 0 0 a.length false 0], .cells [.int .i64 p', .int .i64 c', .int .i64 n, .slc 1 0 b.length false 0], qt3, Ql S, .cells (trm t)]⟩)
      (fun s => match get s.env 23 with | .int _ x => b.length - x.toNat | _ => 0) ⟨_, q6.qz [23, 22, 21, 7, 16, 15, 14, 5, 4, 3, 2], 0, S, by omega, hS, rfl⟩ ?_
    clear hS
    rintro s ⟨j, S, hj, hS, rfl⟩
    by_cases hltj : j < b.length
    · obtain ⟨hs, hsl⟩ := hlen2 _ (hmem j) (hmln j)
      rw [← hS] at hs hsl
      have hlj : (j : Int) < b.length := by omega
      have hlj' : (0 : Int) ≤ j := by omega
      have hw : qu .i64 ((j : Int) + 1) = ((j + 1 : Nat) : Int) := by rw [wrap64 (by omega) (by omega)]; rfl
      have hq0 := ub hb.ok hltj
      have ok2 := hb.ok _ (List.getElem_mem hltj)
      have z2 := hb.dia _ (List.getElem_mem hltj)
      have c2 := hb.fac _ (List.getElem_mem hltj)
      have hb4 : j * 18 < b.length * 18 := by omega
      have hb5 : j * 18 + 18 ≤ b.length * 18 := by omega
      have hov2 := Qw (t := (0, List.replicate 16 0, 0)) (u := b[j]) (by simp) ok2.1
      have htl2 := zp (t := b[j]) ok2
      have htd2 := qfd (t := b[j]) ok2
      have htf2 := kx (t := b[j]) ok2
      rw [z2.1] at htd2
      obtain ⟨t1, t2, t3, t4⟩ := qo9 (c := c) hp hc z1.2 z2.2 c1 c2
      have hnext : ML p n (j4 p c n (a.take i) b ++ (b.take (j + 1)).map (prT p c n t)) = qb6 p n (prT p c n t b[j]).2.1 (prT p c n t b[j]).2.2 S := by
        rw [hnx j hltj, ← List.append_assoc, qxa, ← hS]
      obtain ⟨u, hu⟩ : ∃ u, u = b[j] := ⟨_, rfl⟩
      rw [← hu] at hq0 ok2 z2 c2 hov2 htl2 htd2 htf2 t1 t2 t3 t4 hnext
      clear hu
      have s1 := z1.2
      have s2 := z2.2
      have hprd : (prT p c n t u).2.1 = jv n.toNat t.2.1 u.2.1 := rfl
      have hprf : (prT p c n t u).2.2 = (t.2.2 * u.2.2).emod p * u4 p c (lpN n.toNat t.2.1 u.2.1 n.toNat) := rfl
      rw [hprd, hprf] at hnext
      rw [hprd] at t1 t2
      rw [hprf] at t3 t4
      have hlpb : (0 : Int) ≤ ((lpN n.toNat t.2.1 u.2.1 n.toNat : Nat) : Int) ∧ ((lpN n.toNat t.2.1 u.2.1 n.toNat : Nat) : Int) ≤ 1000000 := by
        have := qf3 n.toNat t.2.1 u.2.1 n.toNat; omega
      obtain ⟨w1, w2, w3, w4⟩ := pow_mul (p := p) (c := u.2.2) (x := t.2.2) hp (by omega) (by omega)
      have w5 : qu .i64 ((t.2.2 * u.2.2).emod p * u4 p c (lpN n.toNat t.2.1 u.2.1 n.toNat)) = (t.2.2 * u.2.2).emod p * u4 p c (lpN n.toNat t.2.1 u.2.1 n.toNat) := wrap64 (by omega) (by omega)
      have hne : p ≠ 0 := by omega
      have hn0 : 0 ≤ n := hn.1
      have t0 := t1.1
      have hvb := qw9 (by omega) hs (m := jv n.toNat t.2.1 u.2.1)
      have hkok : kok KD true (.agg (dia n (jv n.toNat t.2.1 u.2.1))) = true := qpz t0
      have hmT : Ql S = .map (esT 0 S) S.length := rfl
      have do1 := qp (n := n) ok1
      have do2 := qp (n := n) ok2
      clear hprd hprf
      cases hix : U4 n (jv n.toNat t.2.1 u.2.1) S with
      | none =>
        obtain ⟨f1, f2, f3⟩ := qnz t0 hs.1.ok hix ((0 + (t.2.2 * u.2.2).emod p * u4 p c (lpN n.toNat t.2.1 u.2.1 n.toNat)).emod p)
        have w6 : qu .i64 (0 + (t.2.2 * u.2.2).emod p * u4 p c (lpN n.toNat t.2.1 u.2.1 n.toNat)) = 0 + (t.2.2 * u.2.2).emod p * u4 p c (lpN n.toNat t.2.1 u.2.1 n.toNat) := wrap64 (by omega) (by omega)
        have w7 : Int.tmod (0 + (t.2.2 * u.2.2).emod p * u4 p c (lpN n.toNat t.2.1 u.2.1 n.toNat)) p = (0 + (t.2.2 * u.2.2).emod p * u4 p c (lpN n.toNat t.2.1 u.2.1 n.toNat)).emod p := Int.tmod_eq_emod_of_nonneg (by omega)
        simp (maxSteps := 3000000) only [qh, zH, bo, jg, uh, uq, Vw, vt, Xh, hlj, hlj', hal, hbl, hb4, hb5, hq0, x8, htl, htl2, htd, htd2, htf, htf2, xv, xh, hov2, zq, x6, yx t0, qn t0, qc, t0, zi, List.length_replicate, Nat.le_refl, do1, do2, s1, s2, hn0, w1, w2, w5, w6, w7, hne, hp, hc, hlpb, Int.toNat_natCast, hmT, hkok, f1, vq, hw, and_self, iE, iN, iB, iC, iL, iD, iA, iS, iM, qa, zZ, ↓qm, ↓reduceIte, reduceCtorEq, nA, nM, nS, nE, nL, nD]; try simp only [qa, zY]
        rw [f3]
        refine ⟨⟨_, rfl⟩, _, q6.jn [0, 1, 2, 3, 4, 5, 6] [23, 22, 21, 7, 16, 15, 14, 5, 4, 3, 2] ⟨by decide, ?_⟩ ?_, ⟨j + 1, Gc n (jv n.toNat t.2.1 u.2.1) ((0 + (t.2.2 * u.2.2).emod p * u4 p c (lpN n.toNat t.2.1 u.2.1 n.toNat)).emod p) S, by omega, by rw [hnext, qb6, f2], ?_⟩, ?_⟩
        · simp only [qg _ _ (qb _), qg _ _ (vu _), Ql, ↓yo, zK, ↓reduceIte, reduceCtorEq, nE, nB, nA]
        · simp only [qg _ _ (qb _), qg _ _ (vu _), Ql, ↓yo, zK, ↓reduceIte, reduceCtorEq, nE, nB, nA]
        · simp only [qd _ _ (qb _), qd _ _ (vu _), Ql, ↓Vo, zL, ↓reduceIte, reduceCtorEq, nE, nA]
        · simp only [zL, ↓reduceIte, reduceCtorEq, nE, nA]; omega
      | some q =>
        obtain ⟨f1, f3⟩ := qo8 t0 hs.1.ok hix ((Wz n (jv n.toNat t.2.1 u.2.1) S + (t.2.2 * u.2.2).emod p * u4 p c (lpN n.toNat t.2.1 u.2.1 n.toNat)).emod p)
        have w6 : qu .i64 (Wz n (jv n.toNat t.2.1 u.2.1) S + (t.2.2 * u.2.2).emod p * u4 p c (lpN n.toNat t.2.1 u.2.1 n.toNat)) = Wz n (jv n.toNat t.2.1 u.2.1) S + (t.2.2 * u.2.2).emod p * u4 p c (lpN n.toNat t.2.1 u.2.1 n.toNat) := wrap64 (by omega) (by omega)
        have w7 : Int.tmod (Wz n (jv n.toNat t.2.1 u.2.1) S + (t.2.2 * u.2.2).emod p * u4 p c (lpN n.toNat t.2.1 u.2.1 n.toNat)) p = (Wz n (jv n.toNat t.2.1 u.2.1) S + (t.2.2 * u.2.2).emod p * u4 p c (lpN n.toNat t.2.1 u.2.1 n.toNat)).emod p := Int.tmod_eq_emod_of_nonneg (by omega)
        simp (maxSteps := 3000000) only [qh, zH, bo, jg, uh, uq, Vw, vt, Xh, hlj, hlj', hal, hbl, hb4, hb5, hq0, x8, htl, htl2, htd, htd2, htf, htf2, xv, xh, hov2, zq, x6, yx t0, qn t0, qc, t0, zi, List.length_replicate, Nat.le_refl, do1, do2, s1, s2, hn0, w1, w2, w5, w6, w7, hne, hp, hc, hlpb, Int.toNat_natCast, hmT, hkok, f1, vq, hw, and_self, iE, iN, iB, iC, iL, iD, iA, iS, iM, qa, zZ, ↓qm, ↓reduceIte, reduceCtorEq, nA, nM, nS, nE, nL, nD]; try simp only [qa, zY]
        rw [f3]
        refine ⟨⟨_, rfl⟩, _, q6.jn [0, 1, 2, 3, 4, 5, 6] [23, 22, 21, 7, 16, 15, 14, 5, 4, 3, 2] ⟨by decide, ?_⟩ ?_, ⟨j + 1, Gc n (jv n.toNat t.2.1 u.2.1) ((Wz n (jv n.toNat t.2.1 u.2.1) S + (t.2.2 * u.2.2).emod p * u4 p c (lpN n.toNat t.2.1 u.2.1 n.toNat)).emod p) S, by omega, by rw [hnext, qb6], ?_⟩, ?_⟩
        · simp only [qg _ _ (qb _), qg _ _ (vu _), Ql, ↓yo, zK, ↓reduceIte, reduceCtorEq, nE, nB, nA]
        · simp only [qg _ _ (qb _), qg _ _ (vu _), Ql, ↓yo, zK, ↓reduceIte, reduceCtorEq, nE, nB, nA]
        · simp only [qd _ _ (qb _), qd _ _ (vu _), Ql, ↓Vo, zL, ↓reduceIte, reduceCtorEq, nE, nA]
        · simp only [zL, ↓reduceIte, reduceCtorEq, nE, nA]; omega
    · have hlj : ¬ ((j : Int) < b.length) := by omega
      obtain rfl : j = b.length := by omega
      simp (maxSteps := 3000000) only [qh, zH, bo, Ve, jg, uh, uq, Vw, vt, Xh, hlj, hwi, hbl, Int.lt_irrefl, iE, iN, iB, iC, iL, iD, iA, iS, iM, qa, zZ, ↓qm, ↓reduceIte, reduceCtorEq, nA, nM, nS, nE, nL, nD]; try simp only [qa, zY]
      refine ⟨_, q6.jn [0, 1, 2, 3, 4, 5] [16, 15, 14, 5, 4, 3, 2] ⟨by decide, ?_⟩ ?_, ⟨i + 1, S, by omega, by rw [hS, List.take_length, hms], ?_⟩, ?_⟩
      · simp only [qg _ _ (qb _), Ql, ↓yo, zK, ↓reduceIte, reduceCtorEq, nE, nB, nA]
      · simp only [qg _ _ (qb _), Ql, ↓yo, zK, ↓reduceIte, reduceCtorEq, nE, nB, nA]
      · simp only [qd _ _ (qb _), Ql, ↓Vo, zL, ↓reduceIte, reduceCtorEq, nE, nA]
      · simp only [zL, ↓reduceIte, reduceCtorEq, nE, nA]; omega
  · have hli : ¬ ((i : Int) < a.length) := by omega
    obtain rfl : i = a.length := by omega
    rw [List.take_length] at hS
    obtain ⟨hs, hsl⟩ := hlen2 (j4 p c n a b) (fun t h => h) (by
      rw [Up]
      have : a.length * b.length ≤ 300 * 300 := Nat.mul_le_mul hl.1 hl.2
      omega)
    have hlaw := qyi (p := p) (n := n) (by omega) (qe1 (c := c) hp hc ha hb)
    have hll : (xf p (ML p n (j4 p c n a b))).length = (MP p n (j4 p c n a b)).length := by rw [← hlaw]; exact (kv _).length_eq.symm
    rw [← hll, ← hlaw]
    rw [← hS] at hs hsl ⊢
    clear hS hll hlaw
    have hap := qsu hs.1
    obtain ⟨hz1, hz2, hz3⟩ := qzr (p := p) hn hs.1
    have hSo := hs.1.ok
    have hmT : Ql S = .map (esT 0 S) S.length := rfl
    have hts := qqe (ts := S) (k := 0) hSo
    have hSl' : S.length ≤ 1000000 := by omega
    have hpp : 0 < p ∧ p ≤ 1000000 := by omega
    simp (maxSteps := 3000000) only [qh, zH, Qq, Vi, jg, uh, uq, Vw, vt, Xh, hli, hmT, Int.lt_irrefl, hts, hpp, hSl', hz1, hz2, hap, and_self, elemV, iE, iN, iB, iC, iL, iD, iA, iS, iM, qa, zZ, ↓qm, ↓reduceIte, reduceCtorEq, nA, nM, nS, nE, nL, nD]; try simp only [qa, zY]
    rw [hz3]
    refine ⟨hz2, rfl, ?_⟩
    refine Ret.jn [0, 1, 6] ⟨⟨by simp, rfl, by decide⟩, ?_⟩ (rs := [.agg [.int .i64 p, .int .i64 c, .int .i64 n, .slc 6 0 (xf p S).length false 0]]) rfl rfl (by simp [z6]) ?_ ⟨?_, ?_⟩
    · simp only [qg _ _ (qb _), ↓yo, zK, ↓reduceIte, reduceCtorEq, nE, nB, nA]
    · intro j l; match j with
      | 0 => simp [zb, AO.ren]
      | 1 => simp [zb, AO.ren]
      | 2 => simp [zb, AO.ren]
      | j + 3 => simp [zb]
    · simp only [z6]
      simp only [zL, ↓reduceIte, reduceCtorEq, nE, nA]
    · simp only [qd _ _ (qb _), zL, ↓reduceIte, reduceCtorEq, nE, nA]
noncomputable def B88 : zo := (B87.put 90 (Xz))
theorem qy9 : qx Try.prog B88 := (qik.put (qkd qeo))
theorem qdv {p c n : Int} (hp : 2 ≤ p ∧ p ≤ 97) (hc : 0 ≤ c ∧ c ≤ p - 1) {a b : List (Int × List Nat × Int)} (ha : j9 p n a) (hb : j9 p n b) (hl : a.length ≤ 300 ∧ b.length ≤ 300) : j9 p n (MP p n (j4 p c n a b)) ∧ (MP p n (j4 p c n a b)).length ≤ 100000 := by
  have h0 : j9 p n [] := ⟨(fun t h => by cases h), (fun t h => by cases h), (fun t h => by cases h), .nil⟩
  have h := Bm (p := p) (F := 10000) (φ := id) (κ := fun _ => 1) (by omega) h0 (qe1 (c := c) hp hc ha hb)
  refine ⟨h.1, Nat.le_trans h.2 ?_⟩
  rw [List.length_nil, Up]
  have h1 : a.length * b.length ≤ 300 * 300 := Nat.mul_le_mul hl.1 hl.2
  omega
noncomputable def B89 : zo := B88
theorem qz0 : qx Try.prog B89 := qy9
theorem Bb (l : List (Int × List Nat × Int)) : AV.wu (qt l) = [] := vc _ (qb l)
noncomputable def B91 : zo := ((B89.put 142 (kr)).put 121 (qj Xd))
theorem qu4 : qx Try.prog B91 := ((qz0.put (quk)).put (qhh q0j))
theorem U2 {m : List Nat} {i k : Nat} (hm : okD m) (hi : i < 16) (hk : k < 16) : okD ((m.set i k).set k i) := by
  refine ⟨by simp [hm.1], fun x hx => ?_⟩
  rcases List.mem_or_eq_of_mem_set hx with hx | rfl
  · rcases List.mem_or_eq_of_mem_set hx with hx | rfl
    · exact hm.2 x hx
    · omega
  · omega
def qcr : AC := .seq (.region [o0 3 (.box (.t 0)),o0 6 (.alloc [.int .i64 0,.int .u8 0,.int .u8 0,.int .u8 0,.int .u8 0,.int .u8 0,.int .u8 0,.int .u8 0,.int .u8 0,.int .u8 0,.int .u8 0,.int .u8 0,.int .u8 0,.int .u8 0,.int .u8 0,.int .u8 0,.int .u8 0])]) (.seq (.region [oM 7 1,oM 8 2,o0 9 (.conv .u8 (.t 8)),oF 10 1 3,o0 11 (.xk 16 1 (.t 10) (.t 7)),oT 11 9]) (.seq (.region [oM 12 2,oM 13 1,o0 14 (.conv .u8 (.t 13)),oF 15 1 3,o0 16 (.xk 16 1 (.t 15) (.t 12)),oT 16 14]) (.seq (.region [oN 17 17 3,oS 17 6 17]) .ret)))
theorem qki : zk Try.prog 123 = some ⟨18, qcr, [.Qa 6 17]⟩ := by kernel_rfl
theorem qjw (n : Int) (m : List Nat) (i k : Nat) (hm : okD m) (hi : i < 16) (hk : k < 16) :
    Am.Fn Try.prog 123 [.agg (dia n m), .int .i64 i, .int .i64 k] [] (fun v H' => v = .agg (dia n ((m.set i k).set k i)) ∧ H' = []) := by
  refine Am.Fn.xj (R := fun v => v = _) qu4 mixed qki (by simp) (by simp) ?_
  obtain ⟨a1, a2⟩ := gr hi
  obtain ⟨b1, b2⟩ := gr hk
  have hu1 : qu .u8 (i : Int) = i := Uf (by omega)
  have hu2 : qu .u8 (k : Int) = k := Uf (by omega)
  have hml := hm.1
  have hs := (U2 hm hi hk).1
  simp (maxSteps := 3000000) only [qh, zH, qcr, zq, x6, qc, hml, List.length_set, a1, a2, b1, b2, hu1, hu2, K7, AV.one, qn hs, z7 qv hs, zi, List.length_replicate, iE, iN, iB, iC, iL, iD, iA, iS, iM, qa, zZ, ↓qm, ↓reduceIte, reduceCtorEq, nA, nM, nS, nE, nL, nD]; try simp only [qa, zY]
  exact qe _ _
def Z1 : List AV → Option AV
  | [.agg l, .int .i64 i, .int .i64 k] => match yk l with
    | some (n, m) => chk ((0 ≤ i ∧ i < 16) ∧ (0 ≤ k ∧ k < 16)) (some (.agg (dia n ((m.set i.toNat k.toNat).set k.toNat i.toNat))))
    | none => none
  | _ => none
theorem qw4 : Am.Callee Try.prog 123 (qj Z1) := Am.Callee.plain fun xs v he => by
  unfold Z1 at he
  split at he
  · rename_i l i k
    split at he
    · rename_i n m hd
      obtain ⟨⟨h1, h2⟩, he⟩ := qk he
      cases he
      obtain ⟨rfl, hm⟩ := zj hd
      obtain ⟨i, rfl⟩ : ∃ j : Nat, i = j := ⟨i.toNat, by omega⟩
      obtain ⟨k, rfl⟩ : ∃ j : Nat, k = j := ⟨k.toNat, by omega⟩
      simp only [Int.toNat_natCast]
      exact ⟨by simp only [AV.zg, AV.zm, qe, Bool.and_self], by simp only [AV.zm, qe], qjw n m i k hm (by omega) (by omega)⟩
    · cases he
  · cases he
noncomputable def B92 : zo := (B91.put 123 (qj Z1))
theorem qnb : qx Try.prog B92 := (qu4.put (qw4))
theorem Xe : B92 66 = some (qbj ug) := rfl
theorem Qp : B92 70 = some (xl) := rfl
theorem bn : B92 142 = some (kr) := rfl
theorem Vt : B92 121 = some (qj Xd) := rfl
theorem Zm : B92 123 = some (qj Z1) := rfl
def Vx : AC := .seq (.seq (.region [oM 7 4,oM 8 0,oP 9 .lss 7 8]) (.cond 9 .skip (.exit 0))) (.seq (.block 1 (.region [oN 12 17 3,oM 13 4,oM 14 0,oM 15 4,oP 16 .add 14 15,oC 17 123 [.t 12,.t 13,.t 16],oS 17 3 17])) (.region [oM 10 4,oK 11 .add 10 1,oM 4 11]))
def Gx : AC := .seq (.region [oN 18 17 3,oS 17 2 18]) .ret
def qd9 : AC := .seq (.region [o0 2 (.alloc [.int .i64 0,.int .u8 0,.int .u8 0,.int .u8 0,.int .u8 0,.int .u8 0,.int .u8 0,.int .u8 0,.int .u8 0,.int .u8 0,.int .u8 0,.int .u8 0,.int .u8 0,.int .u8 0,.int .u8 0,.int .u8 0,.int .u8 0])]) (.seq (.region [oM 5 0,o0 6 (.build [.int .i64 0,.int .u8 0,.int .u8 0,.int .u8 0,.int .u8 0,.int .u8 0,.int .u8 0,.int .u8 0,.int .u8 0,.int .u8 0,.int .u8 0,.int .u8 0,.int .u8 0,.int .u8 0,.int .u8 0,.int .u8 0,.int .u8 0] [(0,1,.t 5)]),o0 3 (.alloc [.int .i64 0,.int .u8 0,.int .u8 0,.int .u8 0,.int .u8 0,.int .u8 0,.int .u8 0,.int .u8 0,.int .u8 0,.int .u8 0,.int .u8 0,.int .u8 0,.int .u8 0,.int .u8 0,.int .u8 0,.int .u8 0,.int .u8 0]),oS 17 3 6]) (.seq (.seq (.region [oI 4 0]) (.block 0 (.loop Vx))) Gx))
theorem qoa : zk Try.prog 124 = some ⟨19, qd9, [.Qa 2 17]⟩ := by kernel_rfl
theorem qnt (n : Nat) (hn : n ≤ 8) : Am.Fn Try.prog 124 [.int .i64 n] [] (fun v H' => v = .agg (dia n (qck n)) ∧ H' = []) := by
  refine Am.Fn.xj (R := fun v => v = _) qnb mixed qoa (by simp) (by simp) ?_
  simp (maxSteps := 3000000) only [qh, zH, qd9, Xe, Qp, bn, Vt, Zm, xl, kr, ug, Z1, Xd, zq, x6, Jz, qc, zi, z7 qv qv, List.length_replicate, iE, iN, iB, iC, iL, iD, iA, iS, iM, qa, zZ, ↓qm, ↓reduceIte, reduceCtorEq, nA, nM, nS, nE, nL, nD]; try simp only [qa, zY]
  refine WA.jt qnb (fun s => ∃ i : Nat, i ≤ n ∧ s = ⟨[(4, .int .i64 i), (3, .ptr 1 0), (2, .ptr 0 0), (0, .int .i64 n)], [.cells (dia 0 (List.replicate 16 0)), .cells (dia n (Vh n i))]⟩)
    (fun s => match get s.env 4 with | .int _ x => n - x.toNat | _ => 0) ⟨_, q6.qz [4, 3, 2, 0], 0, by omega, rfl⟩ ?_
  rintro s ⟨i, hi, rfl⟩
  have hw : qu .i64 ((i : Int) + 1) = ((i + 1 : Nat) : Int) := by rw [wrap64 (by omega) (by omega)]; rfl
  have hok := qab hn hi
  have hok1 := hok.1
  by_cases hlt : i < n
  · have hli : (i : Int) < (n : Int) := by omega
    have h2 : qu .i64 ((n : Int) + i) = ((n + i : Nat) : Int) := by rw [wrap64 (by omega) (by omega)]; rfl
    have c1 : (0 : Int) ≤ i ∧ (i : Int) < 16 := by omega
    have c2 : (0 : Int) ≤ (n + i : Nat) ∧ ((n + i : Nat) : Int) < 16 := by omega
    have hnext : Vh n (i + 1) = ((Vh n i).set i (n + i)).set (n + i) i := rfl
    have hok2 := (qab hn hlt).1
    rw [hnext] at hok2
    simp (maxSteps := 3000000) only [qh, zH, Vx, Xe, Qp, bn, Vt, Zm, xl, kr, ug, Z1, Xd, hli, hw, h2, qp hok, c1, c2, qc, hok1, hok2, qn hok1, z7 hok1 hok2, zi, List.length_set, and_self, iE, iN, iB, iC, iL, iD, iA, iS, iM, qa, zZ, ↓qm, ↓reduceIte, reduceCtorEq, nA, nM, nS, nE, nL, nD]; try simp only [qa, zY]
    refine ⟨_, q6.qz [4, 3, 2, 0], ⟨i + 1, by omega, ?_⟩, ?_⟩
    · simp only [zL, ↓reduceIte, reduceCtorEq, nE, nA]; rw [hnext]
    · simp only [zL, ↓reduceIte, reduceCtorEq, nE, nA]; omega
  · have hli : ¬ ((i : Int) < (n : Int)) := by omega
    obtain rfl : i = n := by omega
    simp (maxSteps := 3000000) only [qh, zH, Vx, Gx, Xe, Qp, bn, Vt, Zm, xl, kr, ug, Z1, Xd, hli, qc, hok1, qn hok1, z7 qv hok1, zi, List.length_replicate, Int.lt_irrefl, iE, iN, iB, iC, iL, iD, iA, iS, iM, qa, zZ, ↓qm, ↓reduceIte, reduceCtorEq, nA, nM, nS, nE, nL, nD]; try simp only [qa, zY]
    exact ⟨qe _ _, rfl⟩
noncomputable def B93 : zo := (B92.put 124 (qj Xd))
theorem qo6 : qx Try.prog B93 := (qnb.put (qhh qnt))
theorem Yz : B93 66 = some (qbj ug) := rfl
theorem Vm : B93 70 = some (xl) := rfl
theorem Zd : B93 142 = some (kr) := rfl
theorem Gp : B93 121 = some (qj Xd) := rfl
theorem Wn : B93 123 = some (qj Z1) := rfl
theorem Y2 : B93 124 = some (qj Xd) := rfl
def Js (n i : Nat) : List Nat := ((((qck n).set i (i + 1)).set (i + 1) i).set (n + i) (n + i + 1)).set (n + i + 1) (n + i)
theorem qxq {n i : Nat} (h : n ≤ 8) (hi : i + 1 < n) : isS n (Js n i) = true := by
  have h0 : ((List.range 9).all fun n => (List.range n).all fun i => i + 1 == n || isS n (Js n i)) = true := by decide
  have h1 := List.all_eq_true.1 (List.all_eq_true.1 h0 n (List.mem_range.2 (by omega))) i (List.mem_range.2 (by omega))
  simpa [show i + 1 ≠ n by omega] using h1
theorem qfh {n : Nat} (hn : n ≤ 8) : okD (qck n) := qab hn (Nat.le_refl n)
theorem qag {n i : Nat} (hn : n ≤ 8) (hi : i + 1 < n) : okD (Js n i) := U2 (U2 (qfh hn) (by omega) (by omega)) (by omega) (by omega)
def qfb : AC := .seq (.region [o0 4 (.alloc [.int .i64 0,.int .u8 0,.int .u8 0,.int .u8 0,.int .u8 0,.int .u8 0,.int .u8 0,.int .u8 0,.int .u8 0,.int .u8 0,.int .u8 0,.int .u8 0,.int .u8 0,.int .u8 0,.int .u8 0,.int .u8 0,.int .u8 0])]) (.seq (.region [oM 5 0,oC 6 124 [.t 5],oM 7 1,oM 8 1,oK 9 .add 8 1,oC 10 123 [.t 6,.t 7,.t 9],oM 11 0,oM 12 1,oP 13 .add 11 12,oM 14 0,oM 15 1,oP 16 .add 14 15,oK 17 .add 16 1,oC 18 123 [.t 10,.t 13,.t 17],oS 17 4 18]) .ret)
theorem qoy : zk Try.prog 86 = some ⟨19, qfb, [.Qa 4 17]⟩ := by kernel_rfl
theorem qof (n i : Nat) (hn : n ≤ 8) (hi : i + 1 < n) : Am.Fn Try.prog 86 [.int .i64 n, .int .i64 i] [] (fun v H' => v = .agg (dia n (Js n i)) ∧ H' = []) := by
  refine Am.Fn.xj (R := fun v => v = _) qo6 mixed qoy (by simp) (by simp) ?_
  have w1 : qu .i64 ((i : Int) + 1) = ((i + 1 : Nat) : Int) := by rw [wrap64 (by omega) (by omega)]; rfl
  have w2 : qu .i64 ((n : Int) + i) = ((n + i : Nat) : Int) := by rw [wrap64 (by omega) (by omega)]; rfl
  have w3 : qu .i64 (((n + i : Nat) : Int) + 1) = ((n + i + 1 : Nat) : Int) := by rw [wrap64 (by omega) (by omega)]; rfl
  have c0 : (0 : Int) ≤ n ∧ (n : Int) ≤ 8 := by omega
  have c1 : (0 : Int) ≤ i ∧ (i : Int) < 16 := by omega
  have c2 : (0 : Int) ≤ (i + 1 : Nat) ∧ ((i + 1 : Nat) : Int) < 16 := by omega
  have c3 : (0 : Int) ≤ (n + i : Nat) ∧ ((n + i : Nat) : Int) < 16 := by omega
  have c4 : (0 : Int) ≤ (n + i + 1 : Nat) ∧ ((n + i + 1 : Nat) : Int) < 16 := by omega
  have o1 := qfh hn
  have o2 := U2 (i := i) (k := i + 1) o1 (by omega) (by omega)
  have o3 : ((((qck n).set i (i + 1)).set (i + 1) i).set (n + i) (n + i + 1)).set (n + i + 1) (n + i) = Js n i := rfl
  have o4 := (qag hn hi).1
  simp (maxSteps := 3000000) only [qh, zH, qfb, Yz, Vm, Zd, Gp, Wn, Y2, xl, kr, ug, Z1, Xd, w1, w2, w3, c0, c1, c2, c3, c4, qp o1, qp o2, o3, zq, x6, qc, o4, qn o4, z7 qv o4, zi, List.length_replicate, and_self, iE, iN, iB, iC, iL, iD, iA, iS, iM, qa, zZ, ↓qm, ↓reduceIte, reduceCtorEq, nA, nM, nS, nE, nL, nD]; try simp only [qa, zY]
  exact qe _ _
def Zf : List AV → Option AV
  | [.int .i64 n, .int .i64 i] => chk (n ≤ 8 ∧ 0 ≤ i ∧ i + 1 < n) (some (.agg (dia n (Js n.toNat i.toNat))))
  | _ => none
theorem qj6 {f : FuncId} (h : ∀ n i : Nat, n ≤ 8 → i + 1 < n → Am.Fn Try.prog f [.int .i64 n, .int .i64 i] [] (fun v H' => v = .agg (dia n (Js n i)) ∧ H' = [])) : Am.Callee Try.prog f (qj Zf) := Am.Callee.plain fun xs v he => by
  unfold Zf at he
  split at he
  · rename_i n i
    obtain ⟨h1, he⟩ := qk he
    cases he
    obtain ⟨n, rfl⟩ : ∃ j : Nat, n = j := ⟨n.toNat, by omega⟩
    obtain ⟨i, rfl⟩ : ∃ j : Nat, i = j := ⟨i.toNat, by omega⟩
    simp only [Int.toNat_natCast]
    exact ⟨rfl, by simp only [AV.zm, qe], h n i (by omega) (by omega)⟩
  · cases he
def Gz : AC := .seq (.region [o0 4 (.alloc [.int .i64 0,.int .u8 0,.int .u8 0,.int .u8 0,.int .u8 0,.int .u8 0,.int .u8 0,.int .u8 0,.int .u8 0,.int .u8 0,.int .u8 0,.int .u8 0,.int .u8 0,.int .u8 0,.int .u8 0,.int .u8 0,.int .u8 0])]) (.seq (.region [oM 6 0,oC 7 121 [.t 6],o0 5 (.alloc [.int .i64 0,.int .u8 0,.int .u8 0,.int .u8 0,.int .u8 0,.int .u8 0,.int .u8 0,.int .u8 0,.int .u8 0,.int .u8 0,.int .u8 0,.int .u8 0,.int .u8 0,.int .u8 0,.int .u8 0,.int .u8 0,.int .u8 0]),oS 17 5 7]) (.seq (.region [oM 8 1,oM 9 1,oK 10 .add 9 1,oC 11 142 [.t 5,.t 8,.t 10]]) (.seq (.region [oM 12 0,oM 13 1,oP 14 .add 12 13,oM 15 0,oM 16 1,oP 17 .add 15 16,oK 18 .add 17 1,oC 19 142 [.t 5,.t 14,.t 18]]) (.seq (.region [oN 20 17 5,oS 17 4 20]) .ret))))
theorem qg3 : zk Try.prog 126 = some ⟨21, Gz, [.Qa 4 17]⟩ := by kernel_rfl
theorem qgv (n i : Nat) (hn : n ≤ 8) (hi : i + 1 < n) : Am.Fn Try.prog 126 [.int .i64 n, .int .i64 i] [] (fun v H' => v = .agg (dia n (Js n i)) ∧ H' = []) := by
  refine Am.Fn.xj (R := fun v => v = _) qo6 mixed qg3 (by simp) (by simp) ?_
  have w1 : qu .i64 ((i : Int) + 1) = ((i + 1 : Nat) : Int) := by rw [wrap64 (by omega) (by omega)]; rfl
  have w2 : qu .i64 ((n : Int) + i) = ((n + i : Nat) : Int) := by rw [wrap64 (by omega) (by omega)]; rfl
  have w3 : qu .i64 (((n + i : Nat) : Int) + 1) = ((n + i + 1 : Nat) : Int) := by rw [wrap64 (by omega) (by omega)]; rfl
  have c0 : (0 : Int) ≤ n ∧ (n : Int) ≤ 8 := by omega
  have c1 : (0 : Int) ≤ i ∧ (i : Int) < 16 := by omega
  have c2 : (0 : Int) ≤ (i + 1 : Nat) ∧ ((i + 1 : Nat) : Int) < 16 := by omega
  have c3 : (0 : Int) ≤ (n + i : Nat) ∧ ((n + i : Nat) : Int) < 16 := by omega
  have c4 : (0 : Int) ≤ (n + i + 1 : Nat) ∧ ((n + i + 1 : Nat) : Int) < 16 := by omega
  have o1 := qfh hn
  have o2 := U2 (i := i) (k := i + 1) o1 (by omega) (by omega)
  have o3 : ((((qck n).set i (i + 1)).set (i + 1) i).set (n + i) (n + i + 1)).set (n + i + 1) (n + i) = Js n i := rfl
  have o4 := (qag hn hi).1
  have o5 := o1.1
  simp (maxSteps := 3000000) only [qh, zH, Gz, Yz, Vm, Zd, Gp, Wn, Y2, xl, kr, ug, Z1, Xd, w1, w2, w3, c0, c1, c2, c3, c4, qp o1, qp o2, o3, zq, x6, qc, o4, o5, qn o4, qn o5, z7 qv o4, z7 qv o5, zi, List.length_replicate, and_self, iE, iN, iB, iC, iL, iD, iA, iS, iM, qa, zZ, ↓qm, ↓reduceIte, reduceCtorEq, nA, nM, nS, nE, nL, nD]; try simp only [qa, zY]
  exact qe _ _
noncomputable def B94 : zo := ((B93.put 86 (qj Zf)).put 126 (qj Zf))
theorem qzs : qx Try.prog B94 := ((qo6.put (qj6 qof)).put (qj6 qgv))
noncomputable def B95 : zo := B94
theorem qfw : qx Try.prog B95 := qzs
theorem qcl : ∀ {ks ks' : List LT} {a b a' b' : List AV} {r r' : Bool}, jl ks a b = some r → jl ks' a' b' = some r' → jl (ks ++ ks') (a ++ a') (b ++ b') = some (r && r')
  | [], ks', [], [], a', b', r, r', h, h' => by cases h; simpa using h'
  | k :: ks, ks', x :: a, y :: b, a', b', r, r', h, h' => by
    simp only [jl] at h
    split at h
    · rename_i u v hu hv
      cases h
      simp only [List.cons_append, jl, hu, qcl hv h', Bool.and_assoc]
    · cases h
  | [], _, [], _ :: _, _, _, _, _, h, _ => by cases h
  | [], _, _ :: _, _, _, _, _, _, h, _ => by cases h
  | _ :: _, _, [], _, _, _, _, _, h, _ => by cases h
  | _ :: _, _, _ :: _, [], _, _, _, _, h, _ => by cases h
theorem qar {t u : Int × List Nat × Int} (h : t.2.1.length = 16) (h' : u.2.1.length = 16) : jl [.int, .int, .int, .int, .int, .int, .int, .int, .int, .int, .int, .int, .int, .int, .int, .int, .int, .int] (trm t) (trm u) = some (decide (t = u)) := by
  have h1 := qcl (V6 (n := t.1) (n' := u.1) h h') (ks' := [.int]) (a' := [.int .i64 t.2.2]) (b' := [.int .i64 u.2.2]) (r' := decide (t.2.2 = u.2.2)) (by simp only [jl, leq, if_true, Bool.and_true, Option.some.injEq]; by_cases h : t.2.2 = u.2.2 <;> simp [h])
  refine Eq.trans h1 ?_
  obtain ⟨a, b, c⟩ := t
  obtain ⟨a', b', c'⟩ := u
  simp only [Option.some.injEq, Prod.mk.injEq]
  by_cases h1 : a = a' <;> by_cases h2 : b = b' <;> by_cases h3 : c = c' <;> simp [h1, h2, h3]
theorem qhm {a b : List (Int × List Nat × Int)} (hlen : a.length = b.length) {k : Nat} (hk : k < a.length) (hc : ∀ i, i < k → a[i]? = b[i]?) (he : a[k] = b[k]) : ∀ i, i < k + 1 → a[i]? = b[i]? := fun i hi => by
  by_cases e : i = k
  · subst e; rw [List.getElem?_eq_getElem hk, List.getElem?_eq_getElem (by omega), he]
  · exact hc i (by omega)
theorem qk9 {a b : List (Int × List Nat × Int)} (hlen : a.length = b.length) (hc : ∀ i, i < a.length → a[i]? = b[i]?) : a = b := by
  refine List.ext_getElem? fun i => ?_
  by_cases e : i < a.length
  · exact hc i e
  · rw [List.getElem?_eq_none (by omega), List.getElem?_eq_none (by omega)]
def vx : AC := .seq (.region [oP 14 .lss 13 12]) (.seq (.cond 14 .skip (.exit 0)) (.seq (.block 1 (.seq (.region [oM 15 13,oM 5 15]) (.seq (.draw false [oM 16 0,oM 17 5,oX 18 18 16 17,oN 19 18 18,oM 20 1,oM 21 5,oX 22 18 20 21,oN 23 18 22,o0 24 (.eqs true [.int,.int,.int,.int,.int,.int,.int,.int,.int,.int,.int,.int,.int,.int,.int,.int,.int,.int] (.t 19) (.t 23))]) (.cond 24 (.seq (.region [oB 4 false]) .ret) .skip)))) (.region [oK 25 .add 13 1,oM 13 25])))
def Qe : AC := .seq (.region [oB 4 true]) .ret
def gi : AC := .seq (.region [oB 4 false]) (.seq (.seq (.region [oM 6 0,o0 7 (.len .slc (.t 6)),oM 8 1,o0 9 (.len .slc (.t 8)),oP 10 .neq 7 9]) (.cond 10 (.seq (.region [oB 4 false]) .ret) .skip)) (.seq (.seq (.region [oM 11 0,o0 12 (.len .slc (.t 11)),oI 13 0]) (.block 0 (.loop vx))) Qe))
theorem Uq : zk Try.prog 91 = some ⟨26, gi, [.slot 4]⟩ := by kernel_rfl
theorem qxy (a b : List (Int × List Nat × Int)) (ha : okT a) (hb : okT b) (hl : a.length ≤ 1000000 ∧ b.length ≤ 1000000) :
    Am.Fn Try.prog 91 [.slc 0 0 a.length false 0, .slc 1 0 b.length false 0] [.ro (qt a), .ro (qt b)] (fun v H' => v = .bool (decide (a = b)) ∧ H' = [.ro (qt a), .ro (qt b)]) := by
  refine Am.Fn.xj (R := fun v => v = _) qfw mixed Uq (by simp) (Jb (qb _) (qb _)) ?_
  have hla := qw ha
  have hlb := qw hb
  by_cases hlen : a.length = b.length
  · have hq : ((a.length : Int) != (b.length : Int)) = false := by rw [hlen]; simp
    simp (maxSteps := 3000000) only [qh, zH, gi, hq, iE, iN, iB, iC, iL, iD, iA, iS, iM, qa, zZ, ↓qm, ↓reduceIte, reduceCtorEq, nA, nM, nS, nE, nL, nD]; try simp only [qa, zY]
    refine WA.jt qfw (fun s => ∃ k : Nat, k ≤ a.length ∧ (∀ i, i < k → a[i]? = b[i]?) ∧ s = ⟨[(0, .slc 0 0 a.length false 0), (1, .slc 1 0 b.length false 0), (12, .int .i64 a.length), (13, .int .i64 k)], [.ro (qt a), .ro (qt b)]⟩)
      (fun s => match get s.env 13 with | .int _ x => a.length - x.toNat | _ => 0) ⟨_, q6.qz [0, 1, 12, 13], 0, by omega, fun i h => absurd h (by omega), rfl⟩ ?_
    rintro s ⟨k, hk, hc, rfl⟩
    by_cases hlt : k < a.length
    · have hltb : k < b.length := by omega
      have hli : (k : Int) < (a.length : Int) := by omega
      have hli' : (k : Int) < (b.length : Int) := by omega
      have hk0 : (0 : Int) ≤ k := by omega
      have hw : qu .i64 ((k : Int) + 1) = ((k + 1 : Nat) : Int) := by rw [wrap64 (by omega) (by omega)]; rfl
      have hga := ub ha hlt
      have hgb := ub hb hltb
      have hoa := (ha a[k] (List.getElem_mem hlt)).1
      have hob := (hb b[k] (List.getElem_mem hltb)).1
      have z1 : k * 18 < a.length * 18 := by omega
      have z2 : k * 18 < b.length * 18 := by omega
      have z3 : k * 18 + 18 ≤ a.length * 18 := by omega
      have z4 : k * 18 + 18 ≤ b.length * 18 := by omega
      by_cases he : a[k] = b[k]
      · have hd : decide (a[k] = b[k]) = true := decide_eq_true he
        simp (maxSteps := 3000000) only [qh, zH, vx, hli, hli', hk0, hw, hla, hlb, hga, hgb, z1, z2, z3, z4, qar hoa hob, hd, and_self, iE, iN, iB, iC, iL, iD, iA, iS, iM, qa, zZ, ↓qm, ↓reduceIte, reduceCtorEq, nA, nM, nS, nE, nL, nD]; try simp only [qa, zY]
        refine ⟨_, q6.qz [0, 1, 12, 13], ⟨k + 1, by omega, qhm hlen hlt hc he, rfl⟩, ?_⟩
        simp only [zL, ↓reduceIte, reduceCtorEq, nE, nA]; omega
      · have hd : decide (a[k] = b[k]) = false := decide_eq_false he
        simp (maxSteps := 3000000) only [qh, zH, vx, hli, hli', hk0, hw, hla, hlb, hga, hgb, z1, z2, z3, z4, qar hoa hob, hd, and_self, iE, iN, iB, iC, iL, iD, iA, iS, iM, qa, zZ, ↓qm, ↓reduceIte, reduceCtorEq, nA, nM, nS, nE, nL, nD]; try simp only [qa, zY]
        exact ⟨⟨_, rfl⟩, (decide_eq_false fun h => by subst h; exact he rfl).symm⟩
    · have hli : ¬ (k : Int) < (a.length : Int) := by omega
      obtain rfl : k = a.length := by omega
      simp (maxSteps := 3000000) only [qh, zH, vx, Qe, hli, Int.lt_irrefl, iE, iN, iB, iC, iL, iD, iA, iS, iM, qa, zZ, ↓qm, ↓reduceIte, reduceCtorEq, nA, nM, nS, nE, nL, nD]; try simp only [qa, zY]
      exact ⟨⟨_, rfl⟩, (decide_eq_true (qk9 hlen hc)).symm⟩
  · have hq : ((a.length : Int) != (b.length : Int)) = true := by simp; omega
    simp (maxSteps := 3000000) only [qh, zH, gi, hq, iE, iN, iB, iC, iL, iD, iA, iS, iM, qa, zZ, ↓qm, ↓reduceIte, reduceCtorEq, nA, nM, nS, nE, nL, nD]; try simp only [qa, zY]
    exact ⟨⟨_, rfl⟩, (decide_eq_false fun h => by subst h; exact hlen rfl).symm⟩
def Qz : AC := .seq (.seq (.region [oM 13 5,oF 14 3 2,oL 15 14,o0 16 (.len .slc (.t 15)),oP 17 .lss 13 16]) (.cond 17 .skip (.exit 0))) (.seq (.block 1 (.seq (.draw false [oF 20 3 2,oL 21 20,oM 22 5,oX 23 18 21 22,oN 24 18 23,oF 25 3 3,oL 26 25,oM 27 5,oX 28 18 26 27,oN 29 18 28,o0 30 (.eqs true [.int,.int,.int,.int,.int,.int,.int,.int,.int,.int,.int,.int,.int,.int,.int,.int,.int,.int] (.t 24) (.t 29))]) (.cond 30 (.seq (.region [oB 4 false]) .ret) .skip))) (.region [oM 18 5,oK 19 .add 18 1,oM 5 19]))
def Un : AC := .seq (.region [oB 4 true]) .ret
def Ur : AC := .seq (.region [o0 2 (.box (.t 0)),o0 3 (.box (.t 1)),oB 4 false]) (.seq (.seq (.region [oF 6 3 2,oL 7 6,o0 8 (.len .slc (.t 7)),oF 9 3 3,oL 10 9,o0 11 (.len .slc (.t 10)),oP 12 .neq 8 11]) (.cond 12 (.seq (.region [oB 4 false]) .ret) .skip)) (.seq (.seq (.region [oI 5 0]) (.block 0 (.loop Qz))) Un))
theorem qkl : zk Try.prog 87 = some ⟨31, Ur, [.slot 4]⟩ := by kernel_rfl
theorem qj7 (p c n p' c' n' : Int) (a b : List (Int × List Nat × Int)) (ha : okT a) (hb : okT b) (hl : a.length ≤ 1000000 ∧ b.length ≤ 1000000) :
    Am.Fn Try.prog 87 [elemV p c n 0 a.length, elemV p' c' n' 1 b.length] [.ro (qt a), .ro (qt b)] (fun v H' => v = .bool (decide (a = b)) ∧ H' = [.ro (qt a), .ro (qt b)]) := by
  refine Am.Fn.xj (R := fun v => v = _) qfw mixed qkl (by simp [elemV, AV.qy, AV.under]) (Jb (qb _) (qb _)) ?_
  have hla := qw ha
  have hlb := qw hb
  by_cases hlen : a.length = b.length
  · have hq : ((a.length : Int) != (b.length : Int)) = false := by rw [hlen]; simp
    simp (maxSteps := 3000000) only [qh, zH, Ur, elemV, hq, iE, iN, iB, iC, iL, iD, iA, iS, iM, qa, zZ, ↓qm, ↓reduceIte, reduceCtorEq, nA, nM, nS, nE, nL, nD]; try simp only [qa, zY]
    refine WA.jt qfw (fun s => ∃ k : Nat, k ≤ a.length ∧ (∀ i, i < k → a[i]? = b[i]?) ∧ s = ⟨[(2, .ptr 2 0), (3, .ptr 3 0), (5, .int .i64 k)], [.ro (qt a), .ro (qt b), .cells [.int .i64 p, .int .i64 c, .int .i64 n, .slc 0 0 a.length false 0], .cells [.int .i64 p', .int .i64 c', .int .i64 n', .slc 1 0 b.length false 0]]⟩)
      (fun s => match get s.env 5 with | .int _ x => a.length - x.toNat | _ => 0) ⟨_, q6.qz [2, 3, 5], 0, by omega, fun i h => absurd h (by omega), rfl⟩ ?_
    rintro s ⟨k, hk, hc, rfl⟩
    by_cases hlt : k < a.length
    · have hltb : k < b.length := by omega
      have hli : (k : Int) < (a.length : Int) := by omega
      have hli' : (k : Int) < (b.length : Int) := by omega
      have hk0 : (0 : Int) ≤ k := by omega
      have hw : qu .i64 ((k : Int) + 1) = ((k + 1 : Nat) : Int) := by rw [wrap64 (by omega) (by omega)]; rfl
      have hga := ub ha hlt
      have hgb := ub hb hltb
      have hoa := (ha a[k] (List.getElem_mem hlt)).1
      have hob := (hb b[k] (List.getElem_mem hltb)).1
      have z1 : k * 18 < a.length * 18 := by omega
      have z2 : k * 18 < b.length * 18 := by omega
      have z3 : k * 18 + 18 ≤ a.length * 18 := by omega
      have z4 : k * 18 + 18 ≤ b.length * 18 := by omega
      by_cases he : a[k] = b[k]
      · have hd : decide (a[k] = b[k]) = true := decide_eq_true he
        simp (maxSteps := 3000000) only [qh, zH, Qz, hli, hli', hk0, hw, hla, hlb, hga, hgb, z1, z2, z3, z4, qar hoa hob, hd, and_self, iE, iN, iB, iC, iL, iD, iA, iS, iM, qa, zZ, ↓qm, ↓reduceIte, reduceCtorEq, nA, nM, nS, nE, nL, nD]; try simp only [qa, zY]
        refine ⟨_, q6.qz [2, 3, 5], ⟨k + 1, by omega, qhm hlen hlt hc he, rfl⟩, ?_⟩
        simp only [zL, ↓reduceIte, reduceCtorEq, nE, nA]; omega
      · have hd : decide (a[k] = b[k]) = false := decide_eq_false he
        simp (maxSteps := 3000000) only [qh, zH, Qz, hli, hli', hk0, hw, hla, hlb, hga, hgb, z1, z2, z3, z4, qar hoa hob, hd, and_self, iE, iN, iB, iC, iL, iD, iA, iS, iM, qa, zZ, ↓qm, ↓reduceIte, reduceCtorEq, nA, nM, nS, nE, nL, nD]; try simp only [qa, zY]
        exact ⟨⟨_, rfl⟩, (decide_eq_false fun h => by subst h; exact he rfl).symm⟩
    · have hli : ¬ (k : Int) < (a.length : Int) := by omega
      obtain rfl : k = a.length := by omega
      simp (maxSteps := 3000000) only [qh, zH, Qz, Un, hli, Int.lt_irrefl, iE, iN, iB, iC, iL, iD, iA, iS, iM, qa, zZ, ↓qm, ↓reduceIte, reduceCtorEq, nA, nM, nS, nE, nL, nD]; try simp only [qa, zY]
      exact ⟨⟨_, rfl⟩, (decide_eq_true (qk9 hlen hc)).symm⟩
  · have hq : ((a.length : Int) != (b.length : Int)) = true := by simp; omega
    simp (maxSteps := 3000000) only [qh, zH, Ur, elemV, hq, iE, iN, iB, iC, iL, iD, iA, iS, iM, qa, zZ, ↓qm, ↓reduceIte, reduceCtorEq, nA, nM, nS, nE, nL, nD]; try simp only [qa, zY]
    exact ⟨⟨_, rfl⟩, (decide_eq_false fun h => by subst h; exact hlen rfl).symm⟩
def K6 : BE := fun hp xs => match xs with
  | [.slc b 0 k false 0, .slc b' 0 k' false 0] => match rd hp b, rd hp b' with
    | some L, some L' => match Jt k L, Jt k' L' with
      | some ts, some ts' => chk (k ≤ 1000000 ∧ k' ≤ 1000000) (some (.bool (decide (ts = ts')), hp))
      | _, _ => none
    | _, _ => none
  | _ => none
theorem q1q : Am.Callee Try.prog 91 K6 := Callee.ro2 fun hp xs v hp' he => by
  unfold K6 at he
  split at he
  · rename_i b k b' k'
    split at he
    · rename_i L L' hL hL'
      split at he
      · rename_i ts ts' h1 h1'
        obtain ⟨h0, he⟩ := qk he
        simp only [Option.some.injEq, Prod.mk.injEq] at he
        obtain ⟨rfl, rfl⟩ := he
        obtain ⟨e1, e2, e3, e4⟩ := j2 h1
        obtain ⟨f1, f2, f3, f4⟩ := j2 h1'
        have g1 := qw e2
        have g2 := qw f2
        refine ⟨qt ts, qt ts', b, b', [.slc 0 0 ts.length false 0, .slc 1 0 ts'.length false 0], rfl, ⟨L, hL, by omega, by rw [g1, e1]; exact e3⟩, ⟨L', hL', by omega, by rw [g2, f1]; exact f3⟩, qb _, qb _, ?_, rfl, ?_, rfl, qxy ts ts' e2 f2 (by omega)⟩
        · simp only [AV.zl, AV.ren, two, if_true, e1, f1, Nat.zero_add]
          rfl
        · exact ⟨by simp [AV.under], by simp [AV.under], trivial⟩
      · cases he
    · cases he
  · cases he
def Qt : BE := fun hp xs => match xs with
  | [.agg [.int .i64 p, .int .i64 c, .int .i64 n, .slc b 0 k false 0], .agg [.int .i64 p', .int .i64 c', .int .i64 n', .slc b' 0 k' false 0]] => match rd hp b, rd hp b' with
    | some L, some L' => match Jt k L, Jt k' L' with
      | some ts, some ts' => chk (k ≤ 1000000 ∧ k' ≤ 1000000) (some (.bool (decide (ts = ts')), hp))
      | _, _ => none
    | _, _ => none
  | _ => none
theorem q0p : Am.Callee Try.prog 87 Qt := Callee.ro2 fun hp xs v hp' he => by
  unfold Qt at he
  split at he
  · rename_i p c n b k p' c' n' b' k'
    split at he
    · rename_i L L' hL hL'
      split at he
      · rename_i ts ts' h1 h1'
        obtain ⟨h0, he⟩ := qk he
        simp only [Option.some.injEq, Prod.mk.injEq] at he
        obtain ⟨rfl, rfl⟩ := he
        obtain ⟨e1, e2, e3, e4⟩ := j2 h1
        obtain ⟨f1, f2, f3, f4⟩ := j2 h1'
        have g1 := qw e2
        have g2 := qw f2
        refine ⟨qt ts, qt ts', b, b', [elemV p c n 0 ts.length, elemV p' c' n' 1 ts'.length], rfl, ⟨L, hL, by omega, by rw [g1, e1]; exact e3⟩, ⟨L', hL', by omega, by rw [g2, f1]; exact f3⟩, qb _, qb _, ?_, rfl, ?_, rfl, qj7 p c n p' c' n' ts ts' e2 f2 (by omega)⟩
        · simp only [elemV, AV.zl, AV.ren, two, if_true, e1, f1, Nat.zero_add]
          rfl
        · simp [elemV, AV.qy, AV.under]
      · cases he
    · cases he
  · cases he
noncomputable def B97 : zo := ((B95.put 91 (K6)).put 87 (Qt))
theorem qox : qx Try.prog B97 := ((qfw.put (q1q)).put (q0p))
def gBl (n k : Nat) : List AO := (List.range k).map fun i => .vec 18 (qt [((n : Int), Js n i, 1)])
def gCl (p c n : Int) (base : Nat) : Nat → List AV
  | 0 => []
  | k + 1 => gCl p c n base k ++ [.int .i64 p, .int .i64 c, .int .i64 n, .slc (base + k) 0 1 false 0]
theorem Zu {p c n : Int} {base : Nat} : ∀ k, (gCl p c n base k).length = k * 4
  | 0 => rfl
  | k + 1 => by rw [gCl, List.length_append, Zu k, Nat.succ_mul]; rfl
theorem Um {p c n : Int} {base : Nat} : ∀ k, ∀ b ∈ AV.wu (gCl p c n base k), base ≤ b ∧ b < base + k
  | 0, b, h => by cases h
  | k + 1, b, h => by
    rw [gCl, Ww, List.mem_append] at h
    rcases h with h | h
    · have := Um k b h; omega
    · simp [AV.wu, AV.refs] at h; omega
theorem qw5 {p c n : Int} {base k m : Nat} (h : base + k ≤ m) (ids : List Nat) : (AV.wu (gCl p c n base k)).all (inL m ids) = true :=
  List.all_eq_true.2 fun b hb => by have := Um k b hb; simp only [inL, decide_eq_true (show b < m by omega), Bool.true_or]
theorem qxh {p c n : Int} {base k m : Nat} (h : base + k ≤ m) (ids : List Nat) : AV.zl (Wr m ids) (gCl p c n base k) = gCl p c n base k :=
  gu _ fun b hb => by have := Um k b hb; exact bf (by omega)
def gH (p c : Int) (n k : Nat) : List AO := .ro [.int .i64 p, .int .i64 c, .int .i64 n] :: gBl n k
theorem qhc {p c : Int} {n k : Nat} : (gH p c n k).length = k + 1 := by simp [gH, gBl]
theorem qx6 {p c : Int} {n k : Nat} : gH p c n (k + 1) = gH p c n k ++ [.vec 18 (qt [((n : Int), Js n k, 1)])] := by
  simp only [gH, gBl, List.range_succ, List.map_append, List.map_cons, List.map_nil, List.cons_append]
theorem q04 {p c : Int} {n k : Nat} : Lok (gH p c n k) := fun o ho b hb => by
  rcases List.mem_cons.1 ho with rfl | ho
  · simp [AO.refs, AV.wu, AV.refs] at hb
  · obtain ⟨i, _, rfl⟩ := List.mem_map.1 ho
    rw [AO.refs, vc _ (qb _)] at hb; cases hb
theorem Jr : B97 126 = some (qj Zf) := rfl
theorem Yo : B97 66 = some (qbj ug) := rfl
def wy : AC := .seq (.region [oP 12 .lss 11 10]) (.seq (.cond 12 .skip (.exit 0)) (.seq (.block 1 (.seq (.region [oM 13 11,oM 4 13]) (.draw true [oM 14 3,oM 15 0,o0 16 (.j0 (.t 15)),oF 17 0 16,oL 18 17,oM 19 0,o0 20 (.j0 (.t 19)),oF 21 1 20,oL 22 21,oM 23 0,o0 24 (.j0 (.t 23)),oF 25 2 24,oL 26 25,oM 27 4,oC 28 126 [.t 26,.t 27],oC 29 66 [.t 18,.t 22,.t 28,(.c (.int .i64 1))],o0 30 (.gb 1 [.int .i64 0,.int .i64 0,.int .i64 0,(.v (.slice none 0 0))] [(0,4,.t 29)]),o0 31 (.append 4 48 (.t 14) (.t 30)),oM 3 31]))) (.region [oK 32 .add 11 1,oM 11 32])))
def ka : AC := .seq (.region [oM 33 3,oM 2 33]) .ret
def Qo : AC := .seq (.region [o0 2 (.mov (.c (.v (.slice none 0 0))))]) (.seq (.region [o0 5 (.gb 0 [] []),oM 3 5]) (.seq (.seq (.region [oM 6 0,o0 7 (.j0 (.t 6)),oF 8 2 7,oL 9 8,oK 10 .sub 9 1,oI 11 0]) (.block 0 (.loop wy))) ka))
theorem Wy : zk Try.prog 89 = some ⟨34, Qo, [.slot 2]⟩ := by kernel_rfl
theorem qew (p c : Int) (n : Nat) (hp : 2 ≤ p ∧ p ≤ 97) (hn : 1 ≤ n ∧ n ≤ 8) :
    Am.Fn Try.prog 89 [.ptr 0 0] [.ro [.int .i64 p, .int .i64 c, .int .i64 n]] (fun v H' => v = .slc n 0 (n - 1) false 0 ∧ H' = gH p c n (n - 1) ++ [.vec 4 (gCl p c n 1 (n - 1))]) := by
  refine Am.Fn.ofW qox mixed Wy (by simp [AV.qy, AV.under]) (bb rfl) ?_
  have hw1 : qu .i64 ((n : Int) - 1) = ((n - 1 : Nat) : Int) := by rw [wrap64 (by omega) (by omega)]; omega
  simp (maxSteps := 3000000) only [qh, zH, Qo, Jr, Yo, Zf, ug, hw1, iE, iN, iB, iC, iL, iD, iA, iS, iM, qa, zZ, ↓qm, ↓reduceIte, reduceCtorEq, nA, nM, nS, nE, nL, nD]; try simp only [qa, zY]
  refine WA.jt qox (fun s => ∃ i : Nat, i ≤ n - 1 ∧ s = ⟨[(0, .ptr 0 0), (3, .slc (gH p c n i).length 0 i false 0), (10, .int .i64 (n - 1 : Nat)), (11, .int .i64 i)], gH p c n i ++ [.vec 4 (gCl p c n 1 i)]⟩)
    (fun s => match get s.env 11 with | .int _ x => n - x.toNat | _ => 0) ⟨_, q6.trans (q6.qz [0, 3, 10, 11]) (q6.vec 1 0 4 (by decide) rfl rfl rfl rfl), 0, by omega, ?_⟩ ?_
  · simp only [qz, zs, zV, ↓reduceIte, nE, reduceCtorEq, nB]
    rfl
  rintro s ⟨i, hi, rfl⟩
  have hw : qu .i64 ((i : Int) + 1) = ((i + 1 : Nat) : Int) := by rw [wrap64 (by omega) (by omega)]; rfl
  have hLok := q04 (p := p) (c := c) (n := n) (k := i)
  have hlen := qhc (p := p) (c := c) (n := n) (k := i)
  have hLn : 1 ≤ (gH p c n i).length := by omega
  have h00 : 0 < (gH p c n i).length := by omega
  have hL0 : ∀ r, (gH p c n i ++ r)[0]? = some (.ro [.int .i64 p, .int .i64 c, .int .i64 n]) := fun r => rfl
  have hcl := Zu (p := p) (c := c) (n := n) (base := 1) i
  have htk : List.take (i * 4) (gCl p c n 1 i) = gCl p c n 1 i := List.take_of_length_le (by omega)
  have hin := qw5 (p := p) (c := c) (n := n) (base := 1) (k := i) (m := (gH p c n i).length) (by omega)
  have hrn := qxh (p := p) (c := c) (n := n) (base := 1) (k := i) (m := (gH p c n i).length) (by omega)
  have hnx := qx6 (p := p) (c := c) (n := n) (k := i)
  have hcx : gCl p c n 1 (i + 1) = gCl p c n 1 i ++ [.int .i64 p, .int .i64 c, .int .i64 n, .slc (gH p c n i).length 0 1 false 0] := by rw [gCl, hlen, Nat.add_comm]
  by_cases hlt : i < n - 1
  · have hli : (i : Int) < ((n - 1 : Nat) : Int) := by omega
    have c1 : (n : Int) ≤ 8 ∧ (0 : Int) ≤ i ∧ (i : Int) + 1 < n := by omega
    have c2 : 0 < p ∧ p ≤ 1000000 := by omega
    have c3 : (0 : Int) ≤ n ∧ (n : Int) ≤ 8 := by omega
    have h1 : (1 : Int).emod p = 1 := Int.emod_eq_of_lt (by omega) (by omega)
    have o1 := qag (n := n) (i := i) (by omega) (by omega)
    have hll1 : ((i : Nat) + 1) * 48 ≤ 1099511627776 := by omega
    generalize gH p c n i = L at *
    simp (maxSteps := 3000000) only [qh, zH, zA, wy, Jr, Yo, Zf, ug, hli, hw, hL0, c1, c2, c3, qp o1, h1, if_false, qo3, elemV, Vr, qd _ _ (qb _), qd _ _ (qe _ _), hcl, htk, hll1, src, lim, yu, Option.map_some, Option.map_none, Nat.sub_zero, Nat.mul_one, Nat.one_mul, and_self, Nat.le_refl, Int.toNat_natCast, iE, iN, iB, iC, iL, iD, iA, iS, iM, qa, zZ, ↓qm, ↓reduceIte, reduceCtorEq, nA, nM, nS, nE, nL, nD]; try simp only [qa, zY]
    refine ⟨⟨_, rfl⟩, ⟨_, rfl⟩, rfl, _, q6.qp4 hLok hLn [1, 3] [0, 3, 10, 11] (by simp only [hin, h00, Bb, zC, zN, nB, nD, nA, nE, ↓reduceIte, reduceCtorEq]), ⟨i + 1, by omega, ?_⟩, ?_⟩
    · simp only [hrn, bf h00, qd _ _ (qb _), zM, zL, ↓reduceIte, reduceCtorEq, nE, nA]
      rw [hnx, hcx]
      simp only [List.append_assoc, List.length_append, List.length_cons, List.length_nil, List.cons_append, List.nil_append, Nat.zero_add]
    · simp only [zM, zL, ↓reduceIte, reduceCtorEq, nE, nA]; omega
  · have hli : ¬ (i : Int) < ((n - 1 : Nat) : Int) := by omega
    obtain rfl : i = n - 1 := by omega
    simp (maxSteps := 3000000) only [qh, zH, zA, wy, ka, hli, Int.lt_irrefl, iE, iN, iB, iC, iL, iD, iA, iS, iM, qa, zZ, ↓qm, ↓reduceIte, reduceCtorEq, nA, nM, nS, nE, nL, nD]; try simp only [qa, zY]
    refine ⟨_, q6.refl _, Ret.all (rs := [.slc (gH p c n (n - 1)).length 0 (n - 1) false 0]) ?_ (by simp) rfl (fun b hb => by simp [z6, AV.refs] at hb; simp [hb]) (by simp [z6]) ?_ ⟨by simp only [z6]; rw [qhc]; congr 1; omega, rfl⟩⟩
    · intro o ho b hb
      simp only [List.length_append, List.length_cons, List.length_nil]
      rcases List.mem_append.1 ho with ho | ho
      · have := hLok o ho b hb; omega
      · simp only [List.mem_singleton] at ho
        subst ho
        have := Um (n - 1) b hb
        omega
    · intro j l hj
      match j, hj with
      | 0, _ => exact ⟨_, rfl⟩
      | j + 1, hj =>
        exfalso
        have := List.mem_of_getElem? hj
        simp only [gH, List.cons_append, List.getElem?_cons_succ] at hj
        have := List.mem_of_getElem? hj
        rcases List.mem_append.1 this with h | h
        · obtain ⟨i, _, h⟩ := List.mem_map.1 h; cases h
        · simp at h
theorem qhb {p c n : Int} {base base' : Nat} {ρ : Ren} : ∀ k, (∀ j, j < k → ρ (base + j) = some (base' + j, 0)) → AV.zl ρ (gCl p c n base k) = gCl p c n base' k
  | 0, _ => rfl
  | k + 1, h => by
    rw [gCl, U6, qhb k fun j hj => h j (by omega), gCl]
    simp [AV.zl, AV.ren, h k (by omega)]
theorem qxt {n k : Nat} {ρ : Ren} : (gBl n k).map (AO.ren ρ) = gBl n k := by
  unfold gBl
  rw [List.map_map]
  refine List.map_congr_left fun i _ => ?_
  simp only [Function.comp, AO.ren, qd _ _ (qb _)]
def Q8 : BE := fun hp xs => match xs with
  | [.ptr b 0] => match rd hp b with
    | some (.int .i64 p :: .int .i64 c :: .int .i64 n :: _) => chk ((2 ≤ p ∧ p ≤ 97) ∧ (1 ≤ n ∧ n ≤ 8)) (some (.slc (hp.length + (n.toNat - 1)) 0 (n.toNat - 1) false 0, hp ++ (gBl n.toNat (n.toNat - 1) ++ [.vec 4 (gCl p c n hp.length (n.toNat - 1))])))
    | _ => none
  | _ => none
theorem q0l : Am.Callee Try.prog 89 Q8 := Callee.fp fun hp xs v hp' he => by
  unfold Q8 at he
  split at he
  · rename_i b
    split at he
    · rename_i p c n L hL
      obtain ⟨⟨h1, h2⟩, he⟩ := qk he
      simp only [Option.some.injEq, Prod.mk.injEq] at he
      obtain ⟨rfl, rfl⟩ := he
      obtain ⟨N, rfl⟩ : ∃ N : Nat, n = N := ⟨n.toNat, by omega⟩
      simp only [Int.toNat_natCast]
      have hext : ∀ ρ : Ren, AV.zl (ρ.ext 1 hp.length) (gCl p c N 1 (N - 1)) = gCl p c N hp.length (N - 1) := fun ρ => qhb _ fun j _ => by simp [Ren.ext]
      refine ⟨[(b, 0)], [.ptr 0 0], _, _, _, qew p c N h1 (by omega), by simp [AV.ren, AV.zl, ofL], rfl, ⟨⟨_, hL, by simp, by simp [AV.zl, AV.ren]⟩, trivial⟩, rfl, ⟨⟨trivial, trivial, trivial, trivial⟩, trivial⟩, ⟨by simp [AV.under], trivial⟩, ?_, ?_⟩
      · simp only [AV.ren, Ren.ext]
        rw [if_neg (by simp; omega)]
        try simp only [Nat.zero_add, List.length_cons, List.length_nil]
        try congr 1
        all_goals omega
      · simp only [after, upd, AO.wr, gH, List.length_cons, List.length_nil, List.cons_append, List.drop_succ_cons, List.drop_zero, List.map_append, qxt, List.map_cons, List.map_nil, AO.ren, hext, Bool.false_eq_true, if_false, Nat.zero_add]
    · cases he
  · cases he
noncomputable def B98 : zo := (B97.put 89 (Q8))
theorem qbc : qx Try.prog B98 := (qox.put (q0l))
end Go.Proofs.Ytkgoadglalpbfaa
namespace Go.Proofs.Ytkgoadglalpbfaa
open Go.Am Go.Dia
open Nat renaming reduceAdd → nA, reduceMul → nM, reduceSub → nS, reduceEqDiff → nE, reduceLT → nL, reduceLeDiff → nD, reduceBEq → nB
open Int renaming reduceEq → iE, reduceNe → iN, reduceBEq → iB, reduceBNe → iC, reduceLT → iL, reduceLE → iD, reduceAdd → iA, reduceSub → iS, reduceMul → iM
set_option linter.unusedSimpArgs false
set_option linter.unusedVariables false
set_option maxRecDepth 4000
set_option maxHeartbeats 2000000
def kg (n : Int) (i : Nat) : List (Int × List Nat × Int) := [(n, Js n.toNat i, 1)]
noncomputable def qsi (p c n : Int) (a : List (Int × List Nat × Int)) (i : Nat) : Bool := decide (MP p n (j4 p c n a (kg n i)) = MP p n (j4 p c n (kg n i) a))
noncomputable def qce (p c n : Int) (a : List (Int × List Nat × Int)) : Nat → Bool
  | 0 => true
  | k + 1 => qce p c n a k && qsi p c n a k
noncomputable def Jm (p c n : Int) (a : List (Int × List Nat × Int)) : Bool × Int := if yi p c n a = false then (false, 1) else (qce p c n a (n.toNat - 1), 0)
theorem qhl {p n : Int} {i : Nat} (hp : 2 ≤ p) (hn : 1 ≤ n ∧ n ≤ 8) (hi : i + 1 < n.toNat) : j9 p n (kg n i) :=
  ⟨fun t h => by simp [kg] at h; subst h; exact qag (by omega) hi, fun t h => by simp [kg] at h; subst h; exact ⟨rfl, qxq (by omega) hi⟩, fun t h => by simp [kg] at h; subst h; show (1 : Int) ≤ 1 ∧ (1 : Int) ≤ p - 1; omega, List.pairwise_singleton ..⟩
theorem qpf {p c n : Int} {a : List (Int × List Nat × Int)} {i : Nat} (h : qsi p c n a i = false) : ∀ {k : Nat}, i < k → qce p c n a k = false
  | k + 1, hi => by
    unfold qce
    by_cases e : i = k
    · subst e; rw [h, Bool.and_false]
    · rw [qpf h (show i < k by omega), Bool.false_and]
theorem qwf {p c n : Int} (hp : 2 ≤ p ∧ p ≤ 97) (hc : 0 ≤ c ∧ c ≤ p - 1) {a b : List (Int × List Nat × Int)} (ha : j9 p n a) (hb : j9 p n b) : (MP p n (j4 p c n a b)).length ≤ a.length * b.length := by
  have h0 : j9 p n [] := ⟨(fun t h => by cases h), (fun t h => by cases h), (fun t h => by cases h), .nil⟩
  have h := (Bm (p := p) (F := 10000) (φ := id) (κ := fun _ => 1) (by omega) h0 (qe1 (c := c) hp hc ha hb)).2
  rwa [List.length_nil, Nat.zero_add, Up] at h
theorem zf : B98 91 = some (K6) := rfl
theorem za : B98 89 = some (Q8) := rfl
theorem zx : B98 48 = some (v8) := rfl
theorem zu : B98 90 = some (Xz) := rfl
theorem xz : B98 86 = some (qj Zf) := rfl
theorem xc : B98 70 = some (xl) := rfl
theorem ji : B98 68 = some (v8) := rfl
theorem xn : B98 87 = some (Qt) := rfl
theorem xe : B98 88 = some (Xz) := rfl
def vv : AC := .seq (.seq (.region [oM 9 4,oF 10 2 1,oL 11 10,oK 12 .sub 11 1,oP 13 .lss 9 12]) (.cond 13 .skip (.exit 0))) (.seq (.block 1 (.seq (.region [oN 16 4 1,oC 17 70 [.t 16],oZ 5,oS 4 5 17]) (.seq (.draw true [oF 18 3 5,oL 19 18,oF 20 2 1,oL 21 20,oM 22 4,oC 23 86 [.t 21,.t 22],o0 24 (.build [.int .i64 0,.int .u8 0,.int .u8 0,.int .u8 0,.int .u8 0,.int .u8 0,.int .u8 0,.int .u8 0,.int .u8 0,.int .u8 0,.int .u8 0,.int .u8 0,.int .u8 0,.int .u8 0,.int .u8 0,.int .u8 0,.int .u8 0,.int .i64 0] [(0,17,.t 23),(17,1,(.c (.int .i64 1)))]),o0 25 (.gb 1 [.int .i64 0,.int .u8 0,.int .u8 0,.int .u8 0,.int .u8 0,.int .u8 0,.int .u8 0,.int .u8 0,.int .u8 0,.int .u8 0,.int .u8 0,.int .u8 0,.int .u8 0,.int .u8 0,.int .u8 0,.int .u8 0,.int .u8 0,.int .i64 0] [(0,18,.t 24)]),o0 26 (.append 18 32 (.t 19) (.t 25)),oF 27 3 5,oT 27 26]) (.seq (.draw true [oN 28 4 1,oN 29 4 5,oN 31 4 5,oN 32 4 1,oC 30 88 [.t 28,.t 29],oC 33 88 [.t 31,.t 32],oC 34 87 [.t 30,.t 33],o0 35 (.un .not (.t 34))]) (.cond 35 (.seq (.region [oB 2 false,oI 3 0]) .ret) .skip))))) (.region [oM 14 4,oK 15 .add 14 1,oM 4 15]))
def Qg : AC := .seq (.region [oB 2 true,oI 3 0]) .ret
def bx : AC := .seq (.region [o0 1 (.box (.t 0)),oB 2 false,oI 3 0]) (.seq (.seq (.region [oN 6 4 1,oC 7 68 [.t 6],o0 8 (.un .not (.t 7))]) (.cond 8 (.seq (.region [oB 2 false,oI 3 1]) .ret) .skip)) (.seq (.seq (.region [oI 4 0]) (.block 0 (.loop vv))) Qg))
theorem Uw : zk Try.prog 37 = some ⟨36, bx, [.slot 2, .slot 3]⟩ := by kernel_rfl
theorem Ul (p c n : Int) (a : List (Int × List Nat × Int)) (ha : okT a) (hl : a.length ≤ 1100000) :
    Am.Fn Try.prog 37 [elemV p c n 0 a.length] [.ro (qt a)] (fun v H' => v = .tup [.bool (Jm p c n a).1, .int .i64 (Jm p c n a).2] ∧ H' = [.ro (qt a)]) := by
  refine Am.Fn.xj (R := fun v => v = _) qbc mixed Uw (by simp) (bb (qb _)) ?_
  have hal := qw ha
  have hts := jq ha
  have hle : a.length ≤ 1000000000 := by omega
  cases hE : yi p c n a with
  | false =>
    have e : Jm p c n a = (false, 1) := by unfold Jm; rw [if_pos hE]
    rw [e]
    simp (maxSteps := 3000000) only [qh, zH, bx, zf, za, zx, zu, xz, xc, ji, xn, xe, K6, Qt, xl, Zf, Q8, v8, Xz, elemV, hal, hts, hle, hE, iE, iN, iB, iC, iL, iD, iA, iS, iM, qa, zZ, ↓qm, ↓reduceIte, reduceCtorEq, nA, nM, nS, nE, nL, nD]; try simp only [qa, zY]
    exact ⟨_, rfl⟩
  | true =>
    have e : Jm p c n a = (qce p c n a (n.toNat - 1), 0) := by unfold Jm; rw [if_neg (by rw [hE]; simp)]
    rw [e]
    obtain ⟨h1, h2, h3, h4⟩ := qph hE
    have hg := qmq ha hE
    have hg1 := hg.dec
    have c0 : 0 ≤ n ∧ n ≤ 8 := by omega
    have hl1 : a.length ≤ 300 := by omega
    have hw1 : qu .i64 (n - 1) = n - 1 := wrap64 (by omega) (by omega)
    simp (maxSteps := 3000000) only [qh, zH, bx, zf, za, zx, zu, xz, xc, ji, xn, xe, K6, Qt, xl, Zf, Q8, v8, Xz, elemV, hal, hts, hle, hE, iE, iN, iB, iC, iL, iD, iA, iS, iM, qa, zZ, ↓qm, ↓reduceIte, reduceCtorEq, nA, nM, nS, nE, nL, nD]; try simp only [qa, zY]
    refine WA.jt qbc (fun s => ∃ i : Nat, i ≤ n.toNat - 1 ∧ qce p c n a i = true ∧ s = ⟨[(1, .ptr 1 0), (4, .int .i64 i)], [.ro (qt a), .cells [.int .i64 p, .int .i64 c, .int .i64 n, .slc 0 0 a.length false 0]]⟩)
      (fun s => match get s.env 4 with | .int _ x => 8 - x.toNat | _ => 0) ⟨_, q6.qz [1, 4], 0, by omega, rfl, rfl⟩ ?_
    rintro s ⟨i, hi, hc, rfl⟩
    have hw : qu .i64 ((i : Int) + 1) = ((i + 1 : Nat) : Int) := by rw [wrap64 (by omega) (by omega)]; rfl
    by_cases hlt : i < n.toNat - 1
    · have hli : (i : Int) < n - 1 := by omega
      have c1 : n ≤ 8 ∧ (0 : Int) ≤ i ∧ (i : Int) + 1 < n := by omega
      have hgt := qhl (p := p) h1.1 h3 (show i + 1 < n.toNat by omega)
      have hg2 := hgt.dec
      have o2 := (qag (n := n.toNat) (i := i) (by omega) (by omega)).1
      have e0 : (trm (0, List.replicate 16 0, 0)).length = 18 := rfl
      have e1 : over (trm (0, List.replicate 16 0, 0)) 0 (dia n (Js n.toNat i)) = trm (n, Js n.toNat i, 0) := X2 (by simp) o2
      have e2 : over (trm (n, Js n.toNat i, 0)) 17 [.int .i64 1] = trm (n, Js n.toNat i, 1) := Jp o2
      have e3 : over (trm (0, List.replicate 16 0, 0)) 0 (trm (n, Js n.toNat i, 1)) = trm (n, Js n.toNat i, 1) := Qw (by simp) o2
      have e4 : (trm (n, Js n.toNat i, 1)).length = 18 := by rw [w9, o2]
      have e5 : (trm (n, Js n.toNat i, 0)).length = 18 := by rw [w9, o2]
      have e6 : List.take 18 (trm (n, Js n.toNat i, 1)) = trm (n, Js n.toNat i, 1) := Zl o2
      have e7 : Jt 1 (trm (n, Js n.toNat i, 1)) = some (kg n i) := by have := jq hgt.ok; simpa [kg, qt] using this
      have hXg := qdv (c := c) h1 h2 hg hgt ⟨hl1, by simp [kg]⟩
      have hYg := qdv (c := c) h1 h2 hgt hg ⟨by simp [kg], hl1⟩
      have hdx : decide (MP p n (j4 p c n a (kg n i)) = MP p n (j4 p c n (kg n i) a)) = qsi p c n a i := rfl
      have hgl : (kg n i).length ≤ 300 := by simp [kg]
      generalize hXe : MP p n (j4 p c n a (kg n i)) = X at *
      generalize hYe : MP p n (j4 p c n (kg n i) a) = Y at *
      have tx := jq hXg.1.ok
      have ty := jq hYg.1.ok
      have lx : X.length ≤ 1000000 := by omega
      have ly : Y.length ≤ 1000000 := by omega
      cases hb : qsi p c n a i with
      | true =>
        simp (maxSteps := 3000000) only [qh, zH, vv, zf, za, zx, zu, xz, xc, ji, xn, xe, K6, Qt, xl, Zf, Q8, v8, Xz, elemV, hli, hw1, hw, hal, hts, hl1, hg1, hg2, hgl, h1, h2, c0, c1, qc, o2, xv, e0, e1, e2, e3, e4, e5, e6, e7, x8, src, lim, yu, Option.map_some, Option.map_none, List.all_nil, Nat.zero_mul, Int.toNat_zero, List.take_zero, Nat.le_refl, tx, ty, lx, ly, hXe, hYe, hdx, hb, and_self, iE, iN, iB, iC, iL, iD, iA, iS, iM, qa, zZ, ↓qm, ↓reduceIte, reduceCtorEq, nA, nM, nS, nE, nL, nD]; try simp only [qa, zY]
        repeat' first | (with_reducible exact ⟨_, rfl⟩) | (exact rfl) | (with_reducible refine And.intro ?_ ?_)
        refine ⟨_, q6.can [1, 4] (by simp only [Bb, zC, nB, nD, nA, nE, ↓reduceIte, reduceCtorEq]; rfl), ⟨i + 1, by omega, by unfold qce; rw [hc, hb]; rfl, ?_⟩, ?_⟩
        · simp only [qd _ _ (qb _), zL, ↓reduceIte, reduceCtorEq, nE, nA]
        · simp only [zL, ↓reduceIte, reduceCtorEq, nE, nA]; omega
      | false =>
        simp (maxSteps := 3000000) only [qh, zH, vv, zf, za, zx, zu, xz, xc, ji, xn, xe, K6, Qt, xl, Zf, Q8, v8, Xz, elemV, hli, hw1, hw, hal, hts, hl1, hg1, hg2, hgl, h1, h2, c0, c1, qc, o2, xv, e0, e1, e2, e3, e4, e5, e6, e7, x8, src, lim, yu, Option.map_some, Option.map_none, List.all_nil, Nat.zero_mul, Int.toNat_zero, List.take_zero, Nat.le_refl, tx, ty, lx, ly, hXe, hYe, hdx, hb, and_self, iE, iN, iB, iC, iL, iD, iA, iS, iM, qa, zZ, ↓qm, ↓reduceIte, reduceCtorEq, nA, nM, nS, nE, nL, nD]; try simp only [qa, zY]
        rw [qpf hb hlt]
        repeat' first | (with_reducible exact ⟨_, rfl⟩) | (exact rfl) | (with_reducible refine And.intro ?_ ?_)
    · have hli : ¬ (i : Int) < n - 1 := by omega
      obtain rfl : i = n.toNat - 1 := by omega
      rw [hc]
      simp (maxSteps := 3000000) only [qh, zH, vv, Qg, hli, hw1, iE, iN, iB, iC, iL, iD, iA, iS, iM, qa, zZ, ↓qm, ↓reduceIte, reduceCtorEq, nA, nM, nS, nE, nL, nD]; try simp only [qa, zY]
      exact ⟨_, rfl⟩
def Ga (p c n : Int) (a : List (Int × List Nat × Int)) : List AO := .ro (qt a) :: .cells [.int .i64 p, .int .i64 c, .int .i64 n, .slc 0 0 a.length false 0] :: (gBl n.toNat (n.toNat - 1) ++ [.vec 4 (gCl p c n 2 (n.toNat - 1))])
theorem qdd {p c n : Int} {a : List (Int × List Nat × Int)} : (Ga p c n a).length = 2 + (n.toNat - 1) + 1 := by simp [Ga, gBl]; omega
theorem qxk {p c n : Int} {a : List (Int × List Nat × Int)} : Lok (Ga p c n a) := fun o ho b hb => by
  rw [qdd]
  rcases List.mem_cons.1 ho with rfl | ho
  · rw [AO.refs, vc _ (qb _)] at hb; cases hb
  · rcases List.mem_cons.1 ho with rfl | ho
    · simp [AO.refs, AV.wu, AV.refs] at hb; omega
    · rcases List.mem_append.1 ho with ho | ho
      · obtain ⟨i, _, rfl⟩ := List.mem_map.1 ho
        rw [AO.refs, vc _ (qb _)] at hb; cases hb
      · simp only [List.mem_singleton] at ho
        subst ho
        have := Um (n.toNat - 1) b hb
        omega
theorem qwb {p c n : Int} {a : List (Int × List Nat × Int)} {i : Nat} (hn : 0 ≤ n) (hi : i < n.toNat - 1) (r : List AO) : (Ga p c n a ++ r)[2 + i]? = some (.vec 18 (qt (kg n i))) := by
  rw [Nat.add_comm 2 i]
  simp only [Ga, List.cons_append, List.append_assoc, List.getElem?_cons_succ]
  rw [List.getElem?_append_left (by simp [gBl]; omega)]
  simp [gBl, hi, kg, Int.toNat_of_nonneg hn]
theorem qs9 {p c n : Int} {a : List (Int × List Nat × Int)} (r : List AO) : (Ga p c n a ++ r)[2 + (n.toNat - 1)]? = some (.vec 4 (gCl p c n 2 (n.toNat - 1))) := by
  rw [Nat.add_comm 2 _]
  simp only [Ga, List.cons_append, List.append_assoc, List.getElem?_cons_succ]
  rw [List.getElem?_append_right (by simp [gBl])]
  simp [gBl]
theorem qtm {p c n : Int} {base : Nat} : ∀ {k i : Nat}, i < k → List.take 4 (List.drop (i * 4) (gCl p c n base k)) = [.int .i64 p, .int .i64 c, .int .i64 n, .slc (base + i) 0 1 false 0]
  | k + 1, i, h => by
    rw [gCl]
    by_cases e : i = k
    · subst e
      rw [List.drop_append_of_le_length (by rw [Zu]; omega), List.drop_of_length_le (by rw [Zu]; omega)]
      rfl
    · have hl := Zu (p := p) (c := c) (n := n) (base := base) k
      rw [List.drop_append_of_le_length (by omega), List.take_append_of_le_length (by rw [List.length_drop]; omega)]
      exact qtm (by omega)
def Qi : AT := (.one (oN 18 4 1) (.one (oN 19 4 6) (.one (oN 21 4 6) (.one (oN 22 4 1) (.alt (oC 20 90 [.t 18,.t 19]) (.alt (oC 23 90 [.t 21,.t 22]) (.alt (oZ 7) (.one (oZ 8) (.one (oS 4 7 20) (.one (oS 4 8 23) (.nil)))) (.alt (oZ 8) (.one (oZ 7) (.one (oS 4 7 20) (.one (oS 4 8 23) (.nil)))) (.none))) (.alt (oZ 7) (.alt (oC 23 90 [.t 21,.t 22]) (.one (oZ 8) (.one (oS 4 7 20) (.one (oS 4 8 23) (.nil)))) (.alt (oZ 8) (.one (oC 23 90 [.t 21,.t 22]) (.one (oS 4 7 20) (.one (oS 4 8 23) (.nil)))) (.none))) (.alt (oZ 8) (.alt (oC 23 90 [.t 21,.t 22]) (.one (oZ 7) (.one (oS 4 7 20) (.one (oS 4 8 23) (.nil)))) (.alt (oZ 7) (.one (oC 23 90 [.t 21,.t 22]) (.one (oS 4 7 20) (.one (oS 4 8 23) (.nil)))) (.none))) (.none)))) (.alt (oZ 7) (.alt (oC 20 90 [.t 18,.t 19]) (.alt (oC 23 90 [.t 21,.t 22]) (.one (oZ 8) (.one (oS 4 7 20) (.one (oS 4 8 23) (.nil)))) (.alt (oZ 8) (.one (oC 23 90 [.t 21,.t 22]) (.one (oS 4 7 20) (.one (oS 4 8 23) (.nil)))) (.none))) (.alt (oZ 8) (.one (oC 20 90 [.t 18,.t 19]) (.one (oC 23 90 [.t 21,.t 22]) (.one (oS 4 7 20) (.one (oS 4 8 23) (.nil))))) (.none))) (.alt (oZ 8) (.alt (oC 20 90 [.t 18,.t 19]) (.alt (oC 23 90 [.t 21,.t 22]) (.one (oZ 7) (.one (oS 4 7 20) (.one (oS 4 8 23) (.nil)))) (.alt (oZ 7) (.one (oC 23 90 [.t 21,.t 22]) (.one (oS 4 7 20) (.one (oS 4 8 23) (.nil)))) (.none))) (.alt (oZ 7) (.one (oC 20 90 [.t 18,.t 19]) (.one (oC 23 90 [.t 21,.t 22]) (.one (oS 4 7 20) (.one (oS 4 8 23) (.nil))))) (.none))) (.none))))))))
def uf : AC := .seq (.seq (.region [oF 24 3 7,oL 25 24,o0 26 (.len .slc (.t 25)),oK 27 .gtr 26 140,oM 28 27,oG 29 28 false (.v7 3 (.t 8)),oG 30 28 false (.wo (.t 29)),oG 31 28 false (.len .slc (.t 30)),oG 32 28 false (.bin .gtr (.t 31) (.c (.int .i64 140))),o0 33 (.pick (.t 28) (.c (.bool true)) (.t 32))]) (.cond 33 (.seq (.region [oB 2 false,oI 3 3]) .ret) .skip)) (.region [oM 34 4,oM 35 34,oG 36 35 true (.v7 3 (.t 7)),oG 37 35 true (.wo (.t 36)),oG 38 35 true (.v7 3 (.t 8)),oG 39 35 true (.wo (.t 38)),⟨some 40,some (35,true),.call (.c (.fn 91 [] [])) [.t 37,.t 39]⟩,o0 41 (.pick (.t 35) (.t 40) (.c (.bool false))),oM 4 41])
def y5 : AC := .region [oK 42 .add 14 1,oM 14 42]
def uo : AC := .seq (.region [oP 15 .lss 14 13]) (.seq (.cond 15 .skip (.exit 0)) (.seq (.block 1 (.seq (.region [oX 16 4 12 14,oN 17 4 16,oZ 6,oS 4 6 17]) (.seq (.tree true Qi) uf))) y5))
def Qd : AC := .seq (.region [oM 43 4,oM 2 43,oI 3 0]) .ret
def gm : AC := .seq (.region [o0 1 (.box (.t 0)),oB 2 false,oI 3 0]) (.seq (.seq (.region [oN 9 4 1,oC 10 48 [.t 9],o0 11 (.un .not (.t 10))]) (.cond 11 (.seq (.region [oB 2 false,oI 3 1]) .ret) .skip)) (.seq (.region [oB 4 true]) (.seq (.seq (.region [oC 12 89 [.t 1],o0 13 (.len .slc (.t 12)),oI 14 0]) (.block 0 (.loop uo))) Qd)))
theorem Bl : zk Try.prog 38 = some ⟨44, gm, [.slot 2, .slot 3]⟩ := by kernel_rfl
theorem Uk (p c n : Int) (a : List (Int × List Nat × Int)) (ha : okT a) (hl : a.length ≤ 1100000) :
    Am.Fn Try.prog 38 [elemV p c n 0 a.length] [.ro (qt a)] (fun v H' => v = .tup [.bool (Jm p c n a).1, .int .i64 (Jm p c n a).2] ∧ H' = [.ro (qt a)]) := by
  refine Am.Fn.xj (R := fun v => v = _) qbc mixed Bl (by simp) (bb (qb _)) ?_
  have hal := qw ha
  have hts := jq ha
  have hle : a.length ≤ 1000000000 := by omega
  cases hE : yi p c n a with
  | false =>
    have e : Jm p c n a = (false, 1) := by unfold Jm; rw [if_pos hE]
    rw [e]
    simp (maxSteps := 3000000) only [qh, zH, gm, zf, za, zx, zu, xz, xc, ji, xn, xe, K6, Qt, xl, Zf, Q8, v8, Xz, elemV, hal, hts, hle, hE, iE, iN, iB, iC, iL, iD, iA, iS, iM, qa, zZ, ↓qm, ↓reduceIte, reduceCtorEq, nA, nM, nS, nE, nL, nD]; try simp only [qa, zY]
    exact ⟨_, rfl⟩
  | true =>
    have e : Jm p c n a = (qce p c n a (n.toNat - 1), 0) := by unfold Jm; rw [if_neg (by rw [hE]; simp)]
    rw [e]
    obtain ⟨h1, h2, h3, h4⟩ := qph hE
    have hg := qmq ha hE
    have hg1 := hg.dec
    have c0 : 0 ≤ n ∧ n ≤ 8 := by omega
    have hl1 : a.length ≤ 300 := by omega
    simp (maxSteps := 3000000) only [qh, zH, gm, zf, za, zx, zu, xz, xc, ji, xn, xe, K6, Qt, xl, Zf, Q8, v8, Xz, elemV, hal, hts, hle, hE, h1, h3, and_self, iE, iN, iB, iC, iL, iD, iA, iS, iM, qa, zZ, ↓qm, ↓reduceIte, reduceCtorEq, nA, nM, nS, nE, nL, nD]; try simp only [qa, zY]
    refine WA.jt qbc (fun s => ∃ i : Nat, i ≤ n.toNat - 1 ∧ s = ⟨[(1, .ptr 1 0), (4, .bool (qce p c n a i)), (12, .slc (2 + (n.toNat - 1)) 0 (n.toNat - 1) false 0), (13, .int .i64 (n.toNat - 1 : Nat)), (14, .int .i64 i)], Ga p c n a⟩)
      (fun s => match get s.env 14 with | .int _ x => 8 - x.toNat | _ => 0) ⟨_, q6.qz [1, 4, 12, 13, 14], 0, by omega, rfl⟩ ?_
    rintro s ⟨i, hi, rfl⟩
    have hw : qu .i64 ((i : Int) + 1) = ((i + 1 : Nat) : Int) := by rw [wrap64 (by omega) (by omega)]; rfl
    have hLok := qxk (p := p) (c := c) (n := n) (a := a)
    have hlen := qdd (p := p) (c := c) (n := n) (a := a)
    have hLn : 1 ≤ (Ga p c n a).length := by omega
    have hL0 : ∀ r, (Ga p c n a ++ r)[0]? = some (.ro (qt a)) := fun r => rfl
    have hL1 : ∀ r, (Ga p c n a ++ r)[1]? = some (.cells [.int .i64 p, .int .i64 c, .int .i64 n, .slc 0 0 a.length false 0]) := fun r => rfl
    have hLv := qs9 (p := p) (c := c) (n := n) (a := a)
    have hv : 2 + (n.toNat - 1) < (Ga p c n a).length := by omega
    have h01 : 1 < (Ga p c n a).length := by omega
    have h00 : 0 < (Ga p c n a).length := by omega
    have hL0n := hL0 []
    have hL1n := hL1 []
    have hLvn := hLv []
    have hcl := Zu (p := p) (c := c) (n := n) (base := 2) (n.toNat - 1)
    by_cases hlt : i < n.toNat - 1
    · have hli : (i : Int) < ((n.toNat - 1 : Nat) : Int) := by omega
      have hi0 : (0 : Int) ≤ i := by omega
      have hi8 : i < 8 := by omega
      have hLg := qwb (p := p) (c := c) (a := a) c0.1 hlt
      have hLgn := hLg []
      have hgt := qhl (p := p) h1.1 h3 (show i + 1 < n.toNat by omega)
      have hg2 := hgt.dec
      have hgl := qtm (p := p) (c := c) (n := n) (base := 2) hlt
      have hb1 : i * 4 < (n.toNat - 1) * 4 := by omega
      have hb2 : i * 4 + 4 ≤ (n.toNat - 1) * 4 := by omega
      have hgv : 2 + i < (Ga p c n a).length := by omega
      have e7 : Jt 1 (qt (kg n i)) = some (kg n i) := jq hgt.ok
      have hXg := qdv (c := c) h1 h2 hg hgt ⟨hl1, by simp [kg]⟩
      have hYg := qdv (c := c) h1 h2 hgt hg ⟨by simp [kg], hl1⟩
      have hXl : (MP p n (j4 p c n a (kg n i))).length ≤ 140 := by
        have := qwf (c := c) h1 h2 hg hgt
        have e1 : (kg n i).length = 1 := rfl
        rw [e1] at this; omega
      have hYl : (MP p n (j4 p c n (kg n i) a)).length ≤ 140 := by
        have := qwf (c := c) h1 h2 hgt hg
        have e1 : (kg n i).length = 1 := rfl
        rw [e1] at this; omega
      have hdx : decide (MP p n (j4 p c n a (kg n i)) = MP p n (j4 p c n (kg n i) a)) = qsi p c n a i := rfl
      have hcs : qce p c n a (i + 1) = (qce p c n a i && qsi p c n a i) := rfl
      have hgl3 : (kg n i).length ≤ 300 := by simp [kg]
      generalize hXe : MP p n (j4 p c n a (kg n i)) = X at *
      generalize hYe : MP p n (j4 p c n (kg n i) a) = Y at *
      have tx := jq hXg.1.ok
      have ty := jq hYg.1.ok
      have lX := qw hXg.1.ok
      have lY := qw hYg.1.ok
      have lx : X.length ≤ 1000000 := by omega
      have ly : Y.length ≤ 1000000 := by omega
      have gx : ¬ (140 : Int) < X.length := by omega
      have gy : ¬ (140 : Int) < Y.length := by omega
      rw [List.append_nil] at hL0n hL1n hLvn hLgn
      generalize Ga p c n a = L at *
      generalize 2 + (n.toNat - 1) = v at *
      generalize 2 + i = g at *
      generalize n.toNat - 1 = K at *
      simp (maxSteps := 3000000) only [qh, zH, zA, uo, zf, za, zx, zu, xz, xc, ji, xn, xe, K6, Qt, xl, Zf, Q8, v8, Xz, hL0, hL1, hLv, hLg, hL0n, hL1n, hLvn, hLgn, hcl, hb1, hb2, hgl, hli, hi0, hw, Int.toNat_natCast, Nat.zero_add, and_self, iE, iN, iB, iC, iL, iD, iA, iS, iM, qa, zZ, ↓qm, ↓reduceIte, reduceCtorEq, nA, nM, nS, nE, nL, nD]; try simp only [qa, zY]
      repeat' first | (with_reducible exact ⟨_, rfl⟩) | (exact rfl) | (with_reducible refine And.intro ?_ ?_)
      refine WA.qp5 qbc (fun s => s = ⟨[(1, .ptr 1 0), (4, .bool (qce p c n a i)), (12, .slc v 0 K false 0), (13, .int .i64 K), (14, .int .i64 i), (7, .ptr L.length 0), (8, .ptr (L.length + 2) 0)], L ++ [.cells [.int .i64 p, .int .i64 c, .int .i64 n, .slc (L.length + 1) 0 X.length false 0], .vec 18 (qt X), .cells [.int .i64 p, .int .i64 c, .int .i64 n, .slc (L.length + 3) 0 Y.length false 0], .vec 18 (qt Y)]⟩) ?_ ?_
      · unfold Qi
        simp (maxSteps := 3000000) only [qh, zH, zA, K9, qdz, zf, za, zx, zu, xz, xc, ji, xn, xe, K6, Qt, xl, Zf, Q8, v8, Xz, elemV, hL0, hL1, hLv, hLg, hL0n, hL1n, hLvn, hLgn, hal, hts, hl1, hg1, hg2, hgl3, e7, h1, h2, c0, hXe, hYe, and_self, iE, iN, iB, iC, iL, iD, iA, iS, iM, qa, zZ, ↓qm, ↓reduceIte, reduceCtorEq, nA, nM, nS, nE, nL, nD]; try simp only [qa, zY]
        repeat' first | (with_reducible exact ⟨_, rfl⟩) | (exact rfl) | (with_reducible refine And.intro ?_ ?_)
        all_goals refine ⟨_, q6.qz2 hLok hLn [1, 4, 12, 13, 14, 7, 8] (by simp only [h00, h01, hv, hgv, Bb, zC, zN, nB, nD, nA, nE, ↓reduceIte, reduceCtorEq]; rfl) (by simp only [h00, h01, hv, hgv, Bb, zC, zN, nB, nD, nA, nE, ↓reduceIte, reduceCtorEq]), ?_⟩
        all_goals simp only [bf h01, bf hv, qd _ _ (qb _), zM, zL, ↓reduceIte, reduceCtorEq, nE, nA]
      rintro s rfl
      cases hcb : qce p c n a i with
      | true =>
        simp (maxSteps := 3000000) only [qh, zH, zA, uf, y5, zf, za, zx, zu, xz, xc, ji, xn, xe, K6, Qt, xl, Zf, Q8, v8, Xz, hL0, hL1, hLv, hL0n, hL1n, hLvn, gx, gy, hw, tx, ty, lX, lY, lx, ly, hdx, hcb, and_self, iE, iN, iB, iC, iL, iD, iA, iS, iM, qa, zZ, ↓qm, ↓reduceIte, reduceCtorEq, nA, nM, nS, nE, nL, nD]; try simp only [qa, zY]
        refine ⟨_, q6.qz2 hLok hLn [1, 4, 12, 13, 14] (by simp only [h00, h01, hv, hgv, Bb, zC, zN, nB, nD, nA, nE, ↓reduceIte, reduceCtorEq]; rfl) (by simp only [h00, h01, hv, hgv, Bb, zC, zN, nB, nD, nA, nE, ↓reduceIte, reduceCtorEq]), ⟨i + 1, by omega, ?_⟩, ?_⟩
        · simp only [bf h01, bf hv, qd _ _ (qb _), hcs, hcb, Bool.true_and, Bool.false_and, List.map_nil, List.append_nil, zM, zL, ↓reduceIte, reduceCtorEq, nE, nA]
        · simp only [zM, zL, ↓reduceIte, reduceCtorEq, nE, nA]; omega
      | false =>
        simp (maxSteps := 3000000) only [qh, zH, zA, uf, y5, zf, za, zx, zu, xz, xc, ji, xn, xe, K6, Qt, xl, Zf, Q8, v8, Xz, hL0, hL1, hLv, hL0n, hL1n, hLvn, gx, gy, hw, tx, ty, lX, lY, lx, ly, hdx, hcb, and_self, iE, iN, iB, iC, iL, iD, iA, iS, iM, qa, zZ, ↓qm, ↓reduceIte, reduceCtorEq, nA, nM, nS, nE, nL, nD]; try simp only [qa, zY]
        refine ⟨_, q6.qz2 hLok hLn [1, 4, 12, 13, 14] (by simp only [h00, h01, hv, hgv, Bb, zC, zN, nB, nD, nA, nE, ↓reduceIte, reduceCtorEq]; rfl) (by simp only [h00, h01, hv, hgv, Bb, zC, zN, nB, nD, nA, nE, ↓reduceIte, reduceCtorEq]), ⟨i + 1, by omega, ?_⟩, ?_⟩
        · simp only [bf h01, bf hv, qd _ _ (qb _), hcs, hcb, Bool.true_and, Bool.false_and, List.map_nil, List.append_nil, zM, zL, ↓reduceIte, reduceCtorEq, nE, nA]
        · simp only [zM, zL, ↓reduceIte, reduceCtorEq, nE, nA]; omega
    · have hli : ¬ (i : Int) < ((n.toNat - 1 : Nat) : Int) := by omega
      obtain rfl : i = n.toNat - 1 := by omega
      simp (maxSteps := 3000000) only [qh, zH, zA, uo, Qd, hli, Int.lt_irrefl, List.append_nil, iE, iN, iB, iC, iL, iD, iA, iS, iM, qa, zZ, ↓qm, ↓reduceIte, reduceCtorEq, nA, nM, nS, nE, nL, nD]; try simp only [qa, zY]
      exact ⟨_, rfl⟩
end Go.Proofs.Ytkgoadglalpbfaa
namespace Go.Proofs.Ytkgoadglalpbfaa
open Go.Am Go.Dia
open Nat renaming reduceAdd → nA, reduceMul → nM, reduceSub → nS, reduceEqDiff → nE, reduceLT → nL, reduceLeDiff → nD, reduceBEq → nB
open Int renaming reduceEq → iE, reduceNe → iN, reduceBEq → iB, reduceBNe → iC, reduceLT → iL, reduceLE → iD, reduceAdd → iA, reduceSub → iS, reduceMul → iM
set_option linter.unusedSimpArgs false
set_option linter.unusedVariables false
set_option maxRecDepth 4000
set_option maxHeartbeats 1000000
def G2 (R : Int → Int → Int → List (Int × List Nat × Int) → AV) : BE := fun hp xs => match xs with
  | [.agg [.int .i64 p, .int .i64 c, .int .i64 n, .slc b 0 la false 0]] => match rd hp b with
    | some L => match Jt la L with
      | some a => chk (la ≤ 1100000) (some (R p c n a, hp))
      | none => none
    | none => none
  | _ => none
theorem qy0 {f : FuncId} {R : Int → Int → Int → List (Int × List Nat × Int) → AV} (hs : ∀ p c n a, (R p c n a).zm = true)
    (h : ∀ p c n a, okT a → a.length ≤ 1100000 → Am.Fn Try.prog f [elemV p c n 0 a.length] [.ro (qt a)] (fun v H' => v = R p c n a ∧ H' = [.ro (qt a)])) : Am.Callee Try.prog f (G2 R) := Callee.fp fun hp xs v hp' he => by
  unfold G2 at he
  split at he
  · rename_i p c n b la
    split at he
    · rename_i L hL
      split at he
      · rename_i a h1
        obtain ⟨a1, he2⟩ := qk he
        simp only [Option.some.injEq, Prod.mk.injEq] at he2
        obtain ⟨rfl, rfl⟩ := he2
        obtain ⟨e1, e2, e3, e4⟩ := j2 h1
        have g1 := qw e2
        refine ⟨[(b, 0)], [elemV p c n 0 a.length], _, _, _, h p c n a e2 (by omega), by simp [elemV, AV.ren, AV.zl, ofL, e1], rfl,
          ⟨⟨L, hL, by omega, by rw [List.drop_zero, qd _ _ (qb _), g1, e1]; exact e3⟩, trivial⟩, rfl,
          ⟨ql _ _ (qb _), trivial⟩, ⟨⟨trivial, trivial, trivial, by simp [AV.under], trivial⟩, trivial⟩, (Qy _ _ (hs p c n a)), ?_⟩
        simp [after, upd, AO.wr]
      · cases he
    · cases he
  · cases he
noncomputable def qrd (p c n : Int) (a : List (Int × List Nat × Int)) : AV := .tup [.bool (Jm p c n a).1, .int .i64 (Jm p c n a).2]
noncomputable def B99 : zo := ((B98.put 37 (G2 qrd)).put 38 (G2 qrd))
theorem qzl : qx Try.prog B99 := ((qbc.put (qy0 (fun _ _ _ _ => rfl) Ul)).put (qy0 (fun _ _ _ _ => rfl) Uk))
theorem u6 : B99 19 = some (uu) := rfl
theorem u5 : B99 14 = some (uv) := rfl
theorem u7 : B99 16 = some (ur) := rfl
theorem j7 : B99 37 = some (G2 qrd) := rfl
theorem j8 : B99 38 = some (G2 qrd) := rfl
def xt : AC := .seq (.region [o0 1 (.box (.t 0)),oB 2 false]) (.seq (.region [oI 3 1048576]) (.seq (.region [oN 9 4 1,oM 10 3,oC 11 14 [.t 9,.t 10],oM 3 11]) (.seq (.seq (.region [oM 12 3,oK 13 .lss 12 0]) (.cond 13 (.seq (.region [oB 2 true]) .ret) .skip)) (.seq (.region [oN 15 4 1,oC 16 16 [.t 15],oC 17 37 [.t 16],oM 14 17,oE 18 0 14,oE 19 1 14,oM 4 18,oM 5 19]) (.seq (.region [oN 20 4 1,oC 21 16 [.t 20],oZ 6,oS 4 6 21]) (.seq (.region [oN 23 4 6,oC 24 38 [.t 23],oM 22 24,oE 25 0 22,oE 26 1 22,oM 7 25,oM 8 26]) (.seq (.seq (.region [oM 27 7,oM 28 4,o0 29 (.eqb true (.t 27) (.t 28)),oM 30 29,oG 31 30 false (.mov (.t 8)),oG 32 30 false (.mov (.t 5)),oG 33 30 false (.bin .neq (.t 31) (.t 32)),o0 34 (.pick (.t 30) (.c (.bool true)) (.t 33))]) (.cond 34 (.seq (.region [oB 2 false]) .ret) .skip)) (.seq (.seq (.draw true [oN 35 4 6,oN 36 4 1,oC 37 16 [.t 36],oC 38 19 [.t 35,.t 37],o0 39 (.un .not (.t 38))]) (.cond 39 (.seq (.region [oB 2 false]) .ret) .skip)) (.seq (.region [oB 2 true]) .ret)))))))))
theorem X3 : zk Try.prog 10 = some ⟨40, xt, [.slot 2]⟩ := by kernel_rfl
theorem Bd (H : List AO) (X : AV) (p c n : Int) (ts : List (Int × List Nat × Int)) (h : qdj H X ts) (hl : ts.length ≤ 9223372036854775807) : Am.Fn Try.prog 10 [.agg [.int .i64 p, .int .i64 c, .int .i64 n, X]] H (fun v H' => v = .bool true ∧ H' = H) := by
  refine Am.Fn.xj (R := fun v => v = _) qzl mixed X3 (by simp) (Zh h) ?_
  have hX := qe8 h
  have ho := h.1
  have hH : H = [] ∨ ∃ o, H = [o] := by
    rcases h.2 with ⟨_, rfl, _⟩ | ⟨_, rfl, _⟩ | ⟨_, _, _, _, rfl, _⟩
    · exact .inl rfl
    · exact .inr ⟨_, rfl⟩
    · exact .inr ⟨_, rfl⟩
  by_cases hlt : (1048576 : Int) - ts.length < 0
  · have hif : (if (1048576 : Int) - ts.length < 0 then (-1 : Int) else 1048576 - ts.length) = -1 := if_pos hlt
    rcases hH with rfl | ⟨o, rfl⟩
    · simp only [List.nil_append] at hX
      simp (maxSteps := 3000000) only [qh, zH, xt, u6, u5, u7, j7, j8, G2, uu, uv, ur, iE, iN, iB, iC, iL, iD, iA, iS, iM, hX, hl, hif, qa, zZ, ↓qm, ↓reduceIte, reduceCtorEq, nA, nM, nS, nE, nL, nD]; try simp only [qa, zY]
    · simp only [List.cons_append, List.nil_append] at hX
      simp (maxSteps := 3000000) only [qh, zH, xt, u6, u5, u7, j7, j8, G2, uu, uv, ur, iE, iN, iB, iC, iL, iD, iA, iS, iM, hX, hl, hif, qa, zZ, ↓qm, ↓reduceIte, reduceCtorEq, nA, nM, nS, nE, nL, nD]; try simp only [qa, zY]
      exact ⟨_, rfl⟩
  · have hif : (if (1048576 : Int) - ts.length < 0 then (-1 : Int) else 1048576 - ts.length) = 1048576 - ts.length := if_neg hlt
    generalize he : Jm p c n ts = r
    obtain ⟨B, E⟩ := r
    have b0 := qw ho
    have b1 := jq ho
    have h8 : ts.length ≤ 1100000 := by omega
    have h9 : ts.length ≤ 2000000 := by omega
    rcases hH with rfl | ⟨o, rfl⟩
    · simp only [List.nil_append] at hX
      simp (maxSteps := 3000000) only [qh, zH, xt, u6, u5, u7, j7, j8, G2, uu, uv, ur, iE, iN, iB, iC, iL, iD, iA, iS, iM, qo3, elemV, Vr, qd _ _ (qb _), qd _ _ (qe _ _), hX, hl, hif, hlt, qrd, he, b0, b1, h8, h9, Int.toNat_one, qa, zZ, ↓qm, ↓reduceIte, reduceCtorEq, nA, nM, nS, nE, nL, nD]; try simp only [qa, zY]
      repeat' first | (with_reducible exact ⟨_, rfl⟩) | (exact rfl) | (with_reducible refine And.intro ?_ ?_)
    · simp only [List.cons_append, List.nil_append] at hX
      simp (maxSteps := 3000000) only [qh, zH, xt, u6, u5, u7, j7, j8, G2, uu, uv, ur, iE, iN, iB, iC, iL, iD, iA, iS, iM, qo3, elemV, Vr, qd _ _ (qb _), qd _ _ (qe _ _), hX, hl, hif, hlt, qrd, he, b0, b1, h8, h9, Int.toNat_one, qa, zZ, ↓qm, ↓reduceIte, reduceCtorEq, nA, nM, nS, nE, nL, nD]; try simp only [qa, zY]
      repeat' first | (with_reducible exact ⟨_, rfl⟩) | (exact rfl) | (with_reducible refine And.intro ?_ ?_)
end Go.Proofs.Ytkgoadglalpbfaa
namespace Go.Proofs.Ytkgoadglalpbfaa
open Go.Am Go.Dia Go.ChangeShapes
open Nat renaming reduceAdd → nA, reduceMul → nM, reduceSub → nS, reduceEqDiff → nE, reduceLT → nL, reduceLeDiff → nD, reduceBEq → nB
open Int renaming reduceEq → iE, reduceNe → iN, reduceBEq → iB, reduceBNe → iC, reduceLT → iL, reduceLE → iD, reduceAdd → iA, reduceSub → iS, reduceMul → iM
set_option linter.unusedSimpArgs false
set_option linter.unusedVariables false
set_option maxRecDepth 4000
set_option maxHeartbeats 1000000
section
variable {H : Type} {enc : TypeId × Value → H} {P : Program} {w : World} {base : Nat} {spare : Nat → Bool} {held : Bool}
theorem qs6 (ι : Nat → Am.Loc) {l : List AV} (h : AV.zg l = true) : qq (fun _ => Am.Loc.nil) l = qq ι l := by
  rw [vf (ι' := ι) (n := 0) (fun j hj => by omega) l (ql _ _ h)]
structure qi2 (P : Program) (tE tX tT tD t8 tM tI : TypeId) : Prop where
  e : ∃ f0 f1 f2 f3 : Field, P.underlying tE = some (.struct #[f0, f1, f2, f3]) ∧ f0.type = tI ∧ f1.type = tI ∧ f2.type = tI ∧ f3.type = tX ∧ f0.offset = 0 ∧ f1.offset = 1 ∧ f2.offset = 2 ∧ f3.offset = 3
  x : P.underlying tX = some (.slice tT)
  t : ∃ f0 f1 : Field, P.underlying tT = some (.struct #[f0, f1]) ∧ f0.type = tD ∧ f1.type = tI ∧ f0.offset = 0 ∧ f1.offset = 17
  d : ∃ f0 f1 : Field, P.underlying tD = some (.struct #[f0, f1]) ∧ f0.type = tI ∧ f1.type = tM ∧ f0.offset = 0 ∧ f1.offset = 1
  m : P.underlying tM = some (.array 16 t8)
  b : P.underlying t8 = some (.int .u8)
  i : P.underlying tI = some (.int .i64)
  ce : P.cellsOf tE = 4
  cx : P.cellsOf tX = 1
  ct : P.cellsOf tT = 18
  cd : P.cellsOf tD = 17
  cm : P.cellsOf tM = 16
  c8 : P.cellsOf t8 = 1
  ci : P.cellsOf tI = 1
theorem qqx {tE tX tT tD t8 tM tI : TypeId} (T : qi2 P tE tX tT tD t8 tM tI) {fuel : Nat} {cs : List Value} {x : DataW H × List MemPlace} (h : DataW.trod enc P w base spare held fuel tT cs = some x) :
    ∃ t : Int × List Nat × Int, okD t.2.1 ∧ cs = qq (fun _ => Am.Loc.nil) (trm t) := by
  obtain ⟨f0, f1, ht, e0, e1, o0, o1⟩ := T.t
  obtain ⟨g0, g1, hd, i0, i1, p0, p1⟩ := T.d
  obtain ⟨y0, y1, k, rfl, hl, a0, a1⟩ := trod_struct2 ht h
  rw [o0, e0, T.cd] at a0
  rw [o1, e1, T.ci] at a1
  rw [T.ct] at hl
  obtain ⟨n, m, hm, hb, hcs, _, _⟩ := qr7 hd (by rw [i0]; exact T.i) (by rw [i1]; exact T.m) T.b p0 p1 (by rw [i0]; exact T.ci) (by rw [i1]; exact T.cm) T.c8 T.cd a0
  obtain ⟨v, hv, _, _⟩ := DataW.trod_int T.i a1
  refine ⟨(n, m, v), ⟨hm, hb⟩, ?_⟩
  have e2 : (cs.drop 17).take 1 = cs.drop 17 := List.take_of_length_le (by simp; omega)
  rw [e2] at hv
  rw [List.drop_zero] at hcs
  conv => lhs; rw [← List.take_append_drop 17 cs, hcs, hv]
  rw [trm, wh]
  rfl
theorem qhi {ι : Nat → Am.Loc} : ∀ (ts : List (Int × List Nat × Int)) (L : List Value) (off : Nat), okT ts → (∀ i (hi : i < ts.length) j, j < 18 → L[off + i * 18 + j]? = (qq ι (trm ts[i]))[j]?) →
    (L.drop off).take (ts.length * 18) = qq ι (qt ts)
  | [], L, off, _, _ => by simp [qt, qq]
  | t :: ts, L, off, ho, h => by
    have ht := zp (ho t (List.mem_cons_self ..))
    have h0 : (L.drop off).take 18 = qq ι (trm t) := by
      apply List.ext_getElem?
      intro j
      by_cases hj : j < 18
      · have := h 0 (by simp) j hj
        simp only [Nat.zero_mul, Nat.add_zero, List.getElem_cons_zero] at this
        rw [List.getElem?_take_of_lt hj, List.getElem?_drop, this]
      · rw [List.getElem?_eq_none (by simp; omega), List.getElem?_eq_none (by rw [q7]; omega)]
    have hl : 18 ≤ (L.drop off).length := by
      have := congrArg List.length h0
      rw [q7, ht, List.length_take] at this
      omega
    have ih := qhi ts L (off + 18) (fun u hu => ho u (List.mem_cons_of_mem _ hu)) fun i hi j hj => by
      have := h (i + 1) (by simpa using hi) j hj
      rw [show off + 18 + i * 18 + j = off + (i + 1) * 18 + j by omega]
      simpa using this
    rw [List.length_cons, show (ts.length + 1) * 18 = 18 + ts.length * 18 by omega, List.take_add, h0, List.drop_drop, ih]
    simp only [qt, List.flatMap_cons, wh]
theorem qo1 {tE tX tT tD t8 tM tI : TypeId} (T : qi2 P tE tX tT tD t8 tM tI) {fuel : Nat} {cs : List Value} {x : DataW H × List MemPlace} (hs : ∀ b, spare b = true) (h : DataW.trod enc P w base spare held fuel tX cs = some x) :
    ∃ (X : AV) (Hp : List AO) (ts : List (Int × List Nat × Int)) (l : Am.Loc), qdj Hp X ts ∧ cs = [gam (fun _ => l) X] ∧ (∀ o ∈ Hp, Z9 (fun _ => l) w.heap l o ∧ o.wr = false) ∧ ts.length ≤ 9223372036854775807 := by
  have hts := T.x
  rcases DataW.trod_slice hts h with ⟨rfl, _⟩ | ⟨a, len, cap, elems, rest, n, rfl, rfl, rfl, hb, hlc, hcm, hel, hei, hrs, _⟩
  · exact ⟨.v (.slice none 0 0), [], [], Am.Loc.nil, ⟨(fun t h => by cases h), .inl ⟨rfl, rfl, rfl⟩⟩, rfl, (fun o h => by cases h), by simp⟩
  rw [T.ct] at hei hrs
  have hmax : len ≤ 9223372036854775807 := Nat.le_trans (Nat.le_trans hlc hcm) (by decide)
  have hget : ∀ i, i < len → ∃ t : Int × List Nat × Int, okD t.2.1 ∧ w.cells? base (a.add (i * 18)) 18 = some (qq (fun _ => Am.Loc.nil) (trm t)) := fun i hi => by
    have h1 := hei i hi
    rw [List.getElem?_eq_getElem (by omega)] at h1
    simp only [Option.bind_eq_some_iff] at h1
    obtain ⟨cs', h2, h3⟩ := h1
    obtain ⟨t, ht, rfl⟩ := qqx T h3
    exact ⟨t, ht, h2⟩
  let f : Nat → Int × List Nat × Int := fun i => if hi : i < len then Classical.choose (hget i hi) else (0, [], 0)
  have hf : ∀ i, i < len → okD (f i).2.1 ∧ w.cells? base (a.add (i * 18)) 18 = some (qq (fun _ => Am.Loc.nil) (trm (f i))) := fun i hi => by
    have := Classical.choose_spec (hget i hi)
    simp only [f, dif_pos hi]; exact this
  have hlen : ((List.range len).map f).length = len := by simp
  have hok : okT ((List.range len).map f) := fun t ht => by
    obtain ⟨i, hi, rfl⟩ := List.mem_map.1 ht
    exact (hf i (List.mem_range.1 hi)).1
  have hcell : ∀ i, i < len → ∀ j, j < 18 → w.cell? ((a.add (i * 18)).add j) = (qq (fun _ => Am.Loc.nil) (trm (f i)))[j]? := fun i hi j hj => (World.cells?_some (hf i hi).2).2.2 j hj
  by_cases hc0 : cap = 0
  · obtain rfl : len = 0 := by omega
    subst hc0
    refine ⟨.slc 0 0 0 true 0, [.dead], [], ⟨a, false, 0⟩, ⟨(fun t h => by cases h), .inr (.inl ⟨rfl, rfl, rfl⟩)⟩, rfl, fun o h => ?_, by simp⟩
    rw [List.mem_singleton] at h; subst h; exact ⟨trivial, rfl⟩
  have h0 : ∃ v, w.cell? (a.add 0) = some v := by
    by_cases hl0 : len = 0
    · subst hl0
      obtain ⟨h1, h2⟩ := hrs (hs _)
      have h3 := h2 0 (by omega)
      rw [List.getElem?_eq_getElem (by omega)] at h3
      simp only [Option.bind_eq_some_iff] at h3
      obtain ⟨cs', h4, _⟩ := h3
      have h5 := World.cells?_some h4
      have h6 := h5.2.2 0 (by omega)
      have h7 : cs'.length = 18 := h5.2.1
      rw [List.getElem?_eq_getElem (by omega)] at h6
      simp only [Nat.zero_add, Nat.zero_mul, Addr.add_add] at h6
      exact ⟨_, h6⟩
    · have h6 := hcell 0 (by omega) 0 (by omega)
      rw [Addr.add_add] at h6
      have h7 : (qq (fun _ => Am.Loc.nil) (trm (f 0))).length = 18 := by rw [q7]; exact zp (hf 0 (by omega)).1
      rw [List.getElem?_eq_getElem (by omega)] at h6
      exact ⟨_, h6⟩
  obtain ⟨v0, h0⟩ := h0
  obtain ⟨blk, off, spot⟩ := a
  have hspot : spot = none := by simpa [Addr.add] using World.cell?_spot h0
  subst hspot
  have hheap : ∃ c ty fz, w.heap[blk]? = some (.cells c ty fz) := by
    simp only [World.cell?, Addr.add_plain] at h0
    split at h0
    · rename_i c ty fz hh; exact ⟨c, ty, fz, hh⟩
    · cases h0
  obtain ⟨c, ty, fz, hh⟩ := hheap
  have hc : ∀ i, w.cell? ⟨blk, i, none⟩ = c.toList[i]? := fun i => by simp [World.cell?, hh]
  have hoff : off ≤ c.toList.length := by
    rw [Addr.add_plain, Nat.add_zero, hc] at h0
    have := (List.getElem?_eq_some_iff.1 h0).1
    omega
  have hscan := qhi (ι := fun _ => Am.Loc.nil) ((List.range len).map f) c.toList off hok fun i hi j hj => by
    rw [hlen] at hi
    have := hcell i hi j hj
    rw [Addr.add_add, Addr.add_plain, hc] at this
    rw [Nat.add_assoc, this]
    simp
  rw [hlen] at hscan
  refine ⟨.slc 0 0 ((List.range len).map f).length true cap, [.ro (qt ((List.range len).map f))], (List.range len).map f, ⟨⟨blk, off, none⟩, false, 0⟩, ⟨hok, .inr (.inr ⟨(List.range len).map f, cap, rfl, by rw [hlen]; exact hlc, rfl, hok, List.take_length, Nat.le_refl _⟩)⟩, ?_, fun o h => ?_, by rw [hlen]; exact hmax⟩
  · rw [hlen]; simp [gam, Addr.add_plain]
  · rw [List.mem_singleton] at h; subst h
    refine ⟨.inr ⟨rfl, blk, off, c, ty, fz, c.toList.take off, (c.toList.drop off).drop (len * 18), rfl, hh, by rw [List.length_take]; omega, ?_⟩, rfl⟩
    rw [← qs6 _ (qb _), ← hscan, List.append_assoc, List.take_append_drop, List.take_append_drop]
theorem qim {tE tX tT tD t8 tM tI : TypeId} (T : qi2 P tE tX tT tD t8 tM tI) {v : Value} {d : DataW H} {ps : List MemPlace} (hs : ∀ b, spare b = true) (h : DataW.Trod enc P w base spare held tE v d ps) :
    ∃ (p c n : Int) (X : AV) (Hp : List AO) (ts : List (Int × List Nat × Int)) (l : Am.Loc), qdj Hp X ts ∧ v = gam (fun _ => l) (.agg [.int .i64 p, .int .i64 c, .int .i64 n, X]) ∧ (∀ o ∈ Hp, Z9 (fun _ => l) w.heap l o ∧ o.wr = false) ∧ ts.length ≤ 9223372036854775807 ∧
      (-9223372036854775808 ≤ p ∧ p ≤ 9223372036854775807) ∧ (-9223372036854775808 ≤ c ∧ c ≤ 9223372036854775807) ∧ (-9223372036854775808 ≤ n ∧ n ≤ 9223372036854775807) := by
  obtain ⟨fuel, hf⟩ := h
  obtain ⟨f0, f1, f2, f3, he, e0, e1, e2, e3, o0, o1, o2, o3⟩ := T.e
  obtain ⟨xs, k, rfl, _, hl, hxl, hi⟩ := DataW.trod_struct he hf
  rw [T.ce] at hl
  have hxl4 : xs.length = 4 := hxl
  have a0 := hi 0 f0 rfl
  have a1 := hi 1 f1 rfl
  have a2 := hi 2 f2 rfl
  have a3 := hi 3 f3 rfl
  rw [List.getElem?_eq_getElem (by omega)] at a0 a1 a2 a3
  rw [o0, e0, T.ci] at a0
  rw [o1, e1, T.ci] at a1
  rw [o2, e2, T.ci] at a2
  rw [o3, e3, T.cx] at a3
  obtain ⟨p, hp, _, wp⟩ := DataW.trod_int T.i a0
  obtain ⟨c, hc, _, wc⟩ := DataW.trod_int T.i a1
  obtain ⟨n, hn, _, wn⟩ := DataW.trod_int T.i a2
  obtain ⟨X, Hp, ts, l, hX, hx, ho, hlen⟩ := qo1 T hs a3
  refine ⟨p, c, n, X, Hp, ts, l, hX, ?_, ho, hlen, bounds_i64 wp, bounds_i64 wc, bounds_i64 wn⟩
  generalize hcs : v.cells.toList = cs at *
  match cs, hl with
  | [x0, x1, x2, x3], _ =>
    simp only [List.drop_zero, List.drop_succ_cons, List.take_succ_cons, List.take_zero, List.cons.injEq, and_true] at hp hc hn hx
    subst hp; subst hc; subst hn; subst hx
    exact qqv hcs (by show (4 : Nat) ≠ 1; decide)
end
end Go.Proofs.Ytkgoadglalpbfaa
namespace Go.Proofs.Ytkgoadglalpbfaa
open Go.Am Go.Dia Go.ChangeShapes Go.WideShapes Go.ChangeAt Go.RowKit
open Nat renaming reduceAdd → nA, reduceMul → nM, reduceSub → nS, reduceEqDiff → nE, reduceLT → nL, reduceLeDiff → nD, reduceBEq → nB
open Int renaming reduceEq → iE, reduceNe → iN, reduceBEq → iB, reduceBNe → iC, reduceLT → iL, reduceLE → iD, reduceAdd → iA, reduceSub → iS, reduceMul → iM
set_option linter.unusedSimpArgs false
set_option linter.unusedVariables false
set_option maxRecDepth 100000
theorem qz7 : qi2 Try.prog 24 22 100 40 5 38 2 where
  e := ⟨_, _, _, _, Try.underlying24, rfl, rfl, rfl, rfl, rfl, rfl, rfl, rfl⟩
  x := Try.underlying22
  t := ⟨_, _, Try.underlying100, rfl, rfl, rfl, rfl⟩
  d := ⟨_, _, Try.underlying40, rfl, rfl, rfl, rfl⟩
  m := Try.underlying38
  b := by kernel_rfl
  i := by kernel_rfl
  ce := by kernel_rfl
  cx := by kernel_rfl
  ct := by kernel_rfl
  cd := by kernel_rfl
  cm := by kernel_rfl
  c8 := by kernel_rfl
  ci := by kernel_rfl
theorem qlb {H : List AO} {X : AV} {ts : List (Int × List Nat × Int)} (hX : qdj H X ts) : X.under H.length := by
  rcases hX.2 with ⟨rfl, _⟩ | ⟨rfl, rfl, _⟩ | ⟨_, _, rfl, _, rfl, _⟩
  · trivial
  · simp [AV.under]
  · simp [AV.under]
theorem qxe {l : Am.Loc} {H : List AO} {X : AV} {ts : List (Int × List Nat × Int)} {heap : Array Obj} (hX : qdj H X ts) (h : ∀ o ∈ H, Z9 (fun _ => l) heap l o ∧ o.wr = false) : HOk (fun _ => l) H heap := by
  refine ⟨fun j o hj => ⟨Zh hX j o hj, (h o (List.mem_of_getElem? hj)).1⟩, fun i j b hi hj => ?_⟩
  obtain ⟨o, ho, hw, _⟩ := hi
  have := (h o (List.mem_of_getElem? ho)).2
  rw [this] at hw; cases hw
end Go.Proofs.Ytkgoadglalpbfaa

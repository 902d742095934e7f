/- Contracts of functions of the program, and plain laws, part 6: each text of this part is proved without further condition. -/
import Derived.Test.YtfhckbbgmblhbaaZ5
namespace Go.Proofs.Ytfhckbbgmblhbaa
open Go.Am Go.Dia
open Nat renaming reduceAdd → nA, reduceMul → nM, reduceSub → nS, reduceEqDiff → nE, reduceLT → nL, reduceLeDiff → nD, reduceBEq → nB
open Int renaming reduceEq → iE, reduceNe → iN, reduceBEq → iB, reduceBNe → iC, reduceLT → iL, reduceLE → iD, reduceAdd → iA, reduceSub → iS, reduceMul → iM
set_option linter.unusedSimpArgs false
set_option linter.unusedVariables false
set_option maxRecDepth 4000
set_option maxHeartbeats 1000000
def dOf (s : List UInt8) : List Nat := match vk s with
  | some q => q.2
  | none => List.replicate 16 0
def qi (n : Nat) : List (List Nat) := (brs (2 * n) 0).map dOf
def qj9 (n : Nat) : Bool := Nat.ble (brs (2 * n) 0).length 132 && (Nat.ble 1 (brs (2 * n) 0).length && (brs (2 * n) 0).all fun s => isI n (dOf s) && (xm n (dOf s) == s) && ((dOf s).length == 16) && (dOf s).all fun x => Nat.blt x 256)
theorem q5b : qj9 1 = true := by kernel_rfl
theorem q4x : qj9 2 = true := by kernel_rfl
theorem q4k : qj9 3 = true := by kernel_rfl
theorem q5d : qj9 4 = true := by kernel_rfl
theorem q5e : qj9 5 = true := by kernel_rfl
theorem q4l : qj9 6 = true := by kernel_rfl
theorem qqw {n : Nat} (h : 1 ≤ n ∧ n ≤ 6) : qj9 n = true := by
  rcases (show n = 1 ∨ n = 2 ∨ n = 3 ∨ n = 4 ∨ n = 5 ∨ n = 6 by omega) with rfl | rfl | rfl | rfl | rfl | rfl
  · exact q5b
  · exact q4x
  · exact q4k
  · exact q5d
  · exact q5e
  · exact q4l
theorem Bm {n : Nat} (h : 1 ≤ n ∧ n ≤ 6) : 1 ≤ (qi n).length ∧ (qi n).length ≤ 132 := by
  have h0 := qqw h
  simp only [qj9, Bool.and_eq_true] at h0
  rw [qi, List.length_map]
  exact ⟨Nat.le_of_ble_eq_true h0.2.1, Nat.le_of_ble_eq_true h0.1⟩
theorem qp0 {n : Nat} (h : 1 ≤ n ∧ n ≤ 6) {s : List UInt8} (hs : s ∈ brs (2 * n) 0) : isS n (dOf s) = true ∧ xm n (dOf s) = s ∧ okD (dOf s) ∧ vk s = some (n, dOf s) := by
  have h0 := qqw h
  simp only [qj9, Bool.and_eq_true, List.all_eq_true] at h0
  have h1 := h0.2.2 s hs
  simp only [Bool.and_eq_true, beq_iff_eq] at h1
  obtain ⟨⟨⟨h1, h2⟩, h3⟩, h4⟩ := h1
  refine ⟨by rw [Zr n _ h3]; exact h1, h2, ⟨h3, fun x hx => ?_⟩, ?_⟩
  · have := h4 x hx
    simp only [Nat.blt] at this
    exact Nat.le_of_ble_eq_true this
  · simp only [isI, Bool.and_eq_true, beq_iff_eq] at h1
    have h5 := h1.2.2
    rwa [h2] at h5
theorem Un {n : Nat} (h : 1 ≤ n ∧ n ≤ 6) {m : List Nat} (hm : m ∈ qi n) : isS n m = true ∧ okD m := by
  obtain ⟨s, hs, rfl⟩ := List.mem_map.1 hm
  have := qp0 h hs
  exact ⟨this.1, this.2.2.1⟩
theorem qbc {n : Nat} {m : List Nat} (hs : isS n m = true) (hm : m.length = 16) : m ∈ qi n := by
  refine List.mem_map.2 ⟨_, ql2 hs hm, ?_⟩
  rw [Zr n m hm] at hs
  simp only [isI, Bool.and_eq_true, beq_iff_eq] at hs
  unfold dOf
  rw [hs.2.2]
theorem qos : ∀ (r o : Nat), (brs r o).Pairwise fun a b => Op.bytesLess a b = true
  | 0, o => by simp only [brs]; split <;> simp
  | r + 1, o => by
    have hc : ∀ (x : UInt8) (a b : List UInt8), Op.bytesLess a b = true → Op.bytesLess (x :: a) (x :: b) = true := fun x a b h => by simp [Op.bytesLess, h]
    have hd : ∀ (a b : List UInt8), Op.bytesLess (40 :: a) (41 :: b) = true := fun a b => by simp [Op.bytesLess]
    simp only [brs]
    refine List.pairwise_append.2 ⟨List.pairwise_map.2 ((qos r (o + 1)).imp fun {a b} h => hc _ _ _ h), ?_, ?_⟩
    · split
      · exact List.pairwise_map.2 ((qos r (o - 1)).imp fun {a b} h => hc _ _ _ h)
      · exact .nil
    · intro a ha b hb
      obtain ⟨a, _, rfl⟩ := List.mem_map.1 ha
      split at hb
      · obtain ⟨b, _, rfl⟩ := List.mem_map.1 hb
        exact hd a b
      · cases hb
theorem qjq {n : Nat} (h : 1 ≤ n ∧ n ≤ 6) : (qi n).Pairwise fun a b => Op.bytesLess (xm n a) (xm n b) = true := by
  refine List.pairwise_map.2 (List.Pairwise.imp_of_mem ?_ (qos (2 * n) 0))
  intro a b ha hb hlt
  rwa [(qp0 h ha).2.1, (qp0 h hb).2.1]
theorem Va {n : Nat} (h : 1 ≤ n ∧ n ≤ 6) : (qi n).Nodup := (qjq h).imp fun {a b} hlt e => by
  subst e; rw [u7] at hlt; cases hlt
theorem qpt {n : Nat} (h : 1 ≤ n ∧ n ≤ 6) {m : List Nat} (hm : m ∈ qi n) {j : Nat} (hj : j < (qi n).length) :
    Op.bytesLess (xm n (qi n)[j]) (xm n m) = decide (j < (qi n).idxOf m) := by
  have hi : (qi n).idxOf m < (qi n).length := List.idxOf_lt_length_of_mem hm
  have hg : (qi n)[(qi n).idxOf m] = m := List.getElem_idxOf hi
  have hu := List.pairwise_iff_getElem.1 (qjq h)
  rcases Nat.lt_trichotomy j ((qi n).idxOf m) with hlt | he | hgt
  · rw [decide_eq_true hlt]
    have := hu j _ hj hi hlt
    rwa [hg] at this
  · rw [decide_eq_false (by omega)]
    have e : (qi n)[j] = m := by
      have : (qi n)[j] = (qi n)[(qi n).idxOf m] := by congr 1
      rw [this, hg]
    rw [e, u7]
  · rw [decide_eq_false (by omega)]
    have := hu _ j hi hj hgt
    rw [hg] at this
    exact Bu _ _ this
theorem Bb {L : List (List Nat)} {f : List Nat → Int} {d : List Nat} (hd : d ∈ L) (hn : L.Nodup) (v : Int) : (L.map f).set (L.idxOf d) v = L.map fun m => if m = d then v else f m := by
  induction L with
  | nil => cases hd
  | cons x l ih =>
    have hn' := List.nodup_cons.1 hn
    rw [List.idxOf_cons]
    by_cases e : x = d
    · subst e
      simp only [beq_self_eq_true, cond_true, List.map_cons, List.set_cons_zero, if_true]
      congr 1
      refine List.map_congr_left fun m hm => ?_
      rw [if_neg (by rintro rfl; exact hn'.1 hm)]
    · have hne : (x == d) = false := beq_false_of_ne e
      have hd' : d ∈ l := by
        rcases List.mem_cons.1 hd with h | h
        · exact absurd h.symm e
        · exact h
      simp only [hne, cond_false, List.map_cons, List.set_cons_succ, ih hd' hn'.2, if_neg e]
theorem Ui {L : List (List Nat)} {f : List Nat → Int} {d : List Nat} (hd : d ∈ L) : (L.map f).getD (L.idxOf d) 0 = f d := by
  have hi := List.idxOf_lt_length_of_mem hd
  rw [List.getD_eq_getElem?_getD, List.getElem?_map, List.getElem?_eq_getElem hi, List.getElem_idxOf hi]; rfl
theorem qpi {L : List (List Nat)} {f : List Nat → Int} {i : Nat} (h : i < L.length) : (L.map f).getD i 0 = f L[i] := by
  rw [List.getD_eq_getElem?_getD, List.getElem?_map, List.getElem?_eq_getElem h]; rfl
theorem qi5 {L : List (List Nat)} (hn : L.Nodup) {i : Nat} (h : i < L.length) : L.idxOf L[i] = i := by
  have hm : L[i] ∈ L := List.getElem_mem h
  have h1 := List.idxOf_lt_length_of_mem hm
  have h2 : L[L.idxOf L[i]] = L[i] := List.getElem_idxOf h1
  exact (List.getElem_inj hn).1 h2
def atR (L : List (List Nat)) (v : List Int) (m : List Nat) : Int := v.getD (L.idxOf m) 0
theorem qrh {L : List (List Nat)} (hn : L.Nodup) {v : List Int} (hl : v.length = L.length) : v = L.map (atR L v) := by
  refine List.ext_getElem (by simp [hl]) fun i h1 h2 => ?_
  rw [List.getElem_map]
  unfold atR
  rw [qi5 hn (by omega), List.getD_eq_getElem?_getD, List.getElem?_eq_getElem h1]; rfl
theorem qrr {L : List (List Nat)} {f : List Nat → Int} {d : List Nat} (hd : d ∈ L) : atR L (L.map f) d = f d := Ui hd
def Z8 (f : List Nat → Int) : List (List Nat) → Int
  | [] => 0
  | d :: l => f d + Z8 f l
def J0 (f : List Nat → Int) : List (Int × List Nat × Int) → Int
  | [] => 0
  | t :: l => f t.2.1 * t.2.2 + J0 f l
theorem qm8 {f : List Nat → Int} : ∀ {a b : List (List Nat)}, Z8 f (a ++ b) = Z8 f a + Z8 f b
  | [], b => by simp [Z8]
  | d :: a, b => by simp only [List.cons_append, Z8, qm8 (a := a)]; omega
theorem qbw {f : List Nat → Int} {L : List (List Nat)} {i : Nat} (h : i < L.length) : Z8 f (L.take (i + 1)) = Z8 f (L.take i) + f L[i] := by
  rw [List.take_succ_eq_append_getElem h, qm8]; simp [Z8]
theorem Zx {f g : List Nat → Int} : ∀ {L : List (List Nat)}, (∀ d ∈ L, f d = g d) → Z8 f L = Z8 g L
  | [], _ => rfl
  | d :: l, h => by
    simp only [Z8, h d (List.mem_cons_self ..), Zx (L := l) fun e he => h e (List.mem_cons_of_mem _ he)]
theorem qin {f g : List Nat → Int} : ∀ {L : List (List Nat)}, Z8 (fun d => f d + g d) L = Z8 f L + Z8 g L
  | [] => rfl
  | d :: l => by simp only [Z8, qin (L := l)]; omega
theorem qby {f : List Nat → Int} {L : List (List Nat)} (h : ∀ d ∈ L, f d = 0) : Z8 f L = 0 := by
  induction L with
  | nil => rfl
  | cons d l ih =>
    simp only [Z8, h d (List.mem_cons_self ..), ih fun e he => h e (List.mem_cons_of_mem _ he)]; rfl
theorem qkq {g : List Nat → Int} {e : List Nat} {x : Int} : ∀ {L : List (List Nat)}, L.Nodup → e ∈ L → Z8 (fun d => g d * (if e = d then x else 0)) L = g e * x
  | d :: l, hn, he => by
    have hn' := List.nodup_cons.1 hn
    simp only [Z8]
    by_cases h : e = d
    · subst h
      rw [if_pos rfl, qby fun d hd => by rw [if_neg (by rintro rfl; exact hn'.1 hd), Int.mul_zero]]
      omega
    · have he' : e ∈ l := by
        rcases List.mem_cons.1 he with h' | h'
        · exact absurd h' h
        · exact h'
      rw [if_neg h, Int.mul_zero, qkq hn'.2 he']; omega
theorem qkc {g : List Nat → Int} {L : List (List Nat)} (hn : L.Nodup) : ∀ {a : List (Int × List Nat × Int)}, (∀ t ∈ a, t.2.1 ∈ L) → Z8 (fun d => g d * cf d a) L = J0 g a
  | [], _ => by
    simp only [cf, J0]
    exact qby fun d _ => Int.mul_zero _
  | t :: a, h => by
    have ih := qkc (g := g) hn (a := a) fun u hu => h u (List.mem_cons_of_mem _ hu)
    have h1 := qkq (g := g) (x := t.2.2) hn (h t (List.mem_cons_self ..))
    simp only [cf, J0]
    rw [← ih, ← h1, ← qin]
    exact Zx fun d _ => by rw [Int.mul_add]
theorem qlz {f : List Nat → Int} {x : Int} : ∀ {a : List (Int × List Nat × Int)}, J0 (fun d => f d * x) a = J0 f a * x
  | [] => by simp [J0]
  | t :: l => by
    simp only [J0, qlz (a := l), Int.add_mul]
    rw [Int.mul_right_comm]
theorem qed {p n : Int} {N : Nat} (hN : 1 ≤ N ∧ N ≤ 6) (hn : n = N) {a : List (Int × List Nat × Int)} (h : vt p n a) : ∀ t ∈ a, t.2.1 ∈ qi N := fun t ht => by
  have h1 := h.dia t ht
  subst hn
  rw [Int.toNat_natCast] at h1
  exact qbc h1.2 (h.ok t ht).1
theorem q0w {p x y : Int} (hx : 0 ≤ x ∧ x ≤ p - 1) (hy : 0 ≤ y ∧ y ≤ p - 1) (h : p ∣ x - y) : x = y := by
  obtain ⟨q, hq⟩ := h
  have : q = 0 := by
    rcases Int.lt_trichotomy q 0 with hl | hl | hl
    · exfalso
      have : p * q ≤ p * (-1) := Int.mul_le_mul_of_nonneg_left (by omega) (by omega)
      omega
    · exact hl
    · exfalso
      have : p * 1 ≤ p * q := Int.mul_le_mul_of_nonneg_left (by omega) (by omega)
      omega
  subst this
  omega
theorem qjt {p : Int} (hp : 0 < p) (x : Int) : 0 ≤ x.emod p ∧ x.emod p ≤ p - 1 := ⟨Int.emod_nonneg _ (by omega), Int.le_sub_one_of_lt (Int.emod_lt_of_pos _ hp)⟩
def bm (N : Nat) (a : List (Int × List Nat × Int)) : List Int := (qi N).map fun m => cf m a
def qyl (n : Int) (a : List (Int × List Nat × Int)) (L : List (List Nat)) : List (Int × List Nat × Int) := L.filterMap fun m => if cf m a = 0 then none else some (n, m, cf m a)
theorem qxh {p : Int} {N : Nat} (hp : 0 < p) (hN : 1 ≤ N ∧ N ≤ 6) {a : List (Int × List Nat × Int)} (h : vt p (N : Int) a) : qyl (N : Int) a (qi N) = a := by
  have hmem : ∀ t ∈ qyl (N : Int) a (qi N), t.1 = (N : Int) ∧ t.2.1 ∈ qi N ∧ t.2.2 = cf t.2.1 a ∧ cf t.2.1 a ≠ 0 := fun t ht => by
    obtain ⟨m, hm, e⟩ := List.mem_filterMap.1 ht
    split at e
    · cases e
    · rename_i hne
      cases e
      exact ⟨rfl, hm, rfl, hne⟩
  have hup : upT (qyl (N : Int) a (qi N)) := by
    unfold qyl upT
    refine List.Pairwise.filterMap _ ?_ (qjq hN)
    intro x y hlt t ht u hu
    split at ht
    · cases ht
    · split at hu
      · cases hu
      · cases ht; cases hu
        unfold ltT txt
        rwa [Int.toNat_natCast]
  refine Gf hup h.up ((List.perm_ext_iff_of_nodup (qas hup) (qas h.up)).2 fun t => ?_)
  rw [(Vg h hp t.2.1).2 t rfl]
  constructor
  · intro ht
    obtain ⟨h1, _, h3, h4⟩ := hmem t ht
    exact ⟨h1, h3, h4⟩
  · rintro ⟨h1, h3, h4⟩
    have ht : t ∈ a := ((Vg h hp t.2.1).2 t rfl).2 ⟨h1, h3, h4⟩
    refine List.mem_filterMap.2 ⟨t.2.1, qed hN rfl h t ht, ?_⟩
    rw [if_neg h4, ← h3, ← h1]
theorem Wn {N : Nat} {a : List (Int × List Nat × Int)} : (bm N a).length = (qi N).length := by simp [bm]
theorem qrq {p n : Int} (hp : 0 < p) {N : Nat} {a : List (Int × List Nat × Int)} (h : vt p n a) : ∀ x ∈ bm N a, 0 ≤ x ∧ x ≤ p - 1 := fun x hx => by
  obtain ⟨m, _, rfl⟩ := List.mem_map.1 hx
  exact (Vg h hp m).1
theorem qii {p : Int} {N : Nat} (hp : 0 < p) (hN : 1 ≤ N ∧ N ≤ 6) {a : List (Int × List Nat × Int)} (h : vt p (N : Int) a) : (∀ x ∈ bm N a, x = 0) ↔ a = [] := by
  constructor
  · intro hz
    have h1 := qxh hp hN h
    rw [← h1]
    unfold qyl
    refine List.filterMap_eq_nil_iff.2 fun m hm => ?_
    rw [if_pos (hz _ (List.mem_map.2 ⟨m, hm, rfl⟩))]
  · rintro rfl x hx
    obtain ⟨m, _, rfl⟩ := List.mem_map.1 hx
    rfl
noncomputable def wM (p c : Int) (N : Nat) (m d e : List Nat) : Int := if ja N d e = m then jk p c (lpN N d e N) else 0
theorem qm5 {p c : Int} {N : Nat} {m : List Nat} {t : Int × List Nat × Int} : ∀ {b : List (Int × List Nat × Int)}, p ∣ V3 id (fun _ => 1) m (b.map (prT p c (N : Int) t)) - J0 (wM p c N m t.2.1) b * t.2.2
  | [] => by simp [V3, J0]
  | u :: b => by
    have ih := qm5 (p := p) (c := c) (N := N) (m := m) (t := t) (b := b)
    have hd : p ∣ (if ja N t.2.1 u.2.1 = m then ((t.2.2 * u.2.2).emod p * jk p c (lpN N t.2.1 u.2.1 N)) * 1 else 0) - wM p c N m t.2.1 u.2.1 * u.2.2 * t.2.2 := by
      unfold wM
      split
      · obtain ⟨q, hq⟩ := Q6 p (t.2.2 * u.2.2)
        refine ⟨q * jk p c (lpN N t.2.1 u.2.1 N), ?_⟩
        rw [← Int.mul_assoc, ← hq, Int.sub_mul, Int.mul_one, Int.mul_assoc (jk p c _), Int.mul_comm (jk p c _), Int.mul_comm u.2.2]
      · simp
    have e : V3 id (fun _ => 1) m ((u :: b).map (prT p c (N : Int) t)) = (if ja N t.2.1 u.2.1 = m then ((t.2.2 * u.2.2).emod p * jk p c (lpN N t.2.1 u.2.1 N)) * 1 else 0) + V3 id (fun _ => 1) m (b.map (prT p c (N : Int) t)) := by
      simp only [List.map_cons, V3, prT, id, Int.toNat_natCast]
    rw [e]
    simp only [J0, Int.add_mul]
    exact ka hd ih (by omega)
theorem qmv {φ : List Nat → List Nat} {κ : List Nat → Int} {m : List Nat} : ∀ {a b : List (Int × List Nat × Int)}, V3 φ κ m (a ++ b) = V3 φ κ m a + V3 φ κ m b
  | [], b => by simp [V3]
  | t :: a, b => by simp only [List.cons_append, V3, qmv (a := a)]; omega
theorem qni {p c : Int} {N : Nat} {m : List Nat} {b : List (Int × List Nat × Int)} : ∀ {a : List (Int × List Nat × Int)}, p ∣ V3 id (fun _ => 1) m (vo p c (N : Int) a b) - J0 (fun d => J0 (wM p c N m d) b) a
  | [] => by simp [V3, J0, vo]
  | t :: a => by
    have ih := qni (p := p) (c := c) (N := N) (m := m) (b := b) (a := a)
    have h1 := qm5 (p := p) (c := c) (N := N) (m := m) (t := t) (b := b)
    have e : vo p c (N : Int) (t :: a) b = b.map (prT p c (N : Int) t) ++ vo p c (N : Int) a b := rfl
    rw [e, qmv]
    simp only [J0]
    exact ka h1 ih (by omega)
noncomputable def K8 (p c : Int) (N : Nat) (f g : List Nat → Int) (m : List Nat) (d : List Nat) (L : List (List Nat)) : Int := Z8 (fun e => wM p c N m d e * (f d * g e)) L
noncomputable def allM (p c : Int) (N : Nat) (f g : List Nat → Int) (m : List Nat) (L : List (List Nat)) : Int := Z8 (fun d => K8 p c N f g m d (qi N)) L
theorem qzx {p c : Int} {N : Nat} (hN : 1 ≤ N ∧ N ≤ 6) {m : List Nat} {a b : List (Int × List Nat × Int)} (ha : ∀ t ∈ a, t.2.1 ∈ qi N) (hb : ∀ t ∈ b, t.2.1 ∈ qi N) :
    allM p c N (fun d => cf d a) (fun d => cf d b) m (qi N) = J0 (fun d => J0 (wM p c N m d) b) a := by
  have hn := Va hN
  rw [← qkc hn ha]
  refine Zx fun d _ => ?_
  rw [← qlz, ← qkc hn hb]
  refine Zx fun e _ => ?_
  rw [Int.mul_assoc]
noncomputable def qcc (p c : Int) (N : Nat) (v w : List Int) : List Int := (qi N).map fun m => (allM p c N (atR (qi N) v) (atR (qi N) w) m (qi N)).emod p
theorem allM_congr {p c : Int} {N : Nat} {f g f' g' : List Nat → Int} {m : List Nat} (hf : ∀ d ∈ qi N, f d = f' d) (hg : ∀ d ∈ qi N, g d = g' d) : allM p c N f g m (qi N) = allM p c N f' g' m (qi N) :=
  Zx fun d hd => Zx fun e he => by rw [hf d hd, hg e he]
theorem qh1 {p c : Int} {N : Nat} (hp : 2 ≤ p ∧ p ≤ 97) (hc : 0 ≤ c ∧ c ≤ p - 1) (hN : 1 ≤ N ∧ N ≤ 6) {a b : List (Int × List Nat × Int)} (ha : vt p (N : Int) a) (hb : vt p (N : Int) b) :
    qcc p c N (bm N a) (bm N b) = bm N (MP p (N : Int) (vo p c (N : Int) a b)) := by
  unfold qcc
  refine List.map_congr_left fun m hm => ?_
  have hla : a.length ≤ 132 := ql4 ha (by omega)
  have hlb : b.length ≤ 132 := ql4 hb (by omega)
  have hg := (qi0 (c := c) hp hc ha hb ⟨by omega, by omega⟩).1
  rw [allM_congr (f' := fun d => cf d a) (g' := fun d => cf d b) (fun d hd => qrr hd) (fun d hd => qrr hd), qzx hN (qed hN rfl ha) (qed hN rfl hb)]
  have h1 := qni (p := p) (c := c) (N := N) (m := m) (b := b) (a := a)
  have h2 := qpv (p := p) (n := (N : Int)) (φ := id) (κ := fun _ => 1) (m := m) (acc := []) (a := vo p c (N : Int) a b) (by simp)
  have h3 := Q6 p (J0 (fun d => J0 (wM p c N m d) b) a)
  refine q0w (qjt (by omega) _) (Vg hg (by omega) m).1 ?_
  have h4 := qbl h3 h2 (z := (J0 (fun d => J0 (wM p c N m d) b) a).emod p - J0 (fun d => J0 (wM p c N m d) b) a - (cf m (chP p (N : Int) id (fun _ => 1) [] (vo p c (N : Int) a b)) - (cf m [] + V3 id (fun _ => 1) m (vo p c (N : Int) a b)))) rfl
  refine qbl h4 h1 ?_
  simp only [MP, cf]
  omega
noncomputable def Xc (p c : Int) (N : Nat) (v w : List Int) (i k : Nat) : List Int :=
  (qi N).map fun m => (allM p c N (atR (qi N) v) (atR (qi N) w) m ((qi N).take i) + K8 p c N (atR (qi N) v) (atR (qi N) w) m ((qi N).getD i []) ((qi N).take k)).emod p
theorem qxg {p c : Int} {N : Nat} {v w : List Int} {i k : Nat} : (Xc p c N v w i k).length = (qi N).length := by simp [Xc]
theorem qpl {p c : Int} {N : Nat} {v w : List Int} (hp : 0 < p) : Xc p c N v w 0 0 = List.replicate (qi N).length 0 := by
  unfold Xc allM K8
  refine List.ext_getElem (by simp) fun i h1 h2 => ?_
  simp only [List.getElem_map, List.take_zero, Z8, List.getElem_replicate]
  exact Int.zero_emod _
theorem qur {p c : Int} {N : Nat} {v w : List Int} : Xc p c N v w (qi N).length 0 = qcc p c N v w := by
  unfold Xc qcc
  refine List.map_congr_left fun m hm => ?_
  rw [List.take_length]
  unfold K8
  simp only [List.take_zero, Z8, Int.add_zero]
theorem qey {L : List (List Nat)} {i : Nat} (h : i < L.length) : L.getD i [] = L[i] := by
  rw [List.getD_eq_getElem?_getD, List.getElem?_eq_getElem h]; rfl
theorem qlh {p c : Int} {N : Nat} {v w : List Int} {i : Nat} (h : i < (qi N).length) : Xc p c N v w i (qi N).length = Xc p c N v w (i + 1) 0 := by
  unfold Xc
  refine List.map_congr_left fun m hm => ?_
  unfold allM
  rw [qbw h, List.take_length, qey h]
  simp only [K8, List.take_zero, Z8, Int.add_zero]
theorem q1t {p c : Int} {N : Nat} {v w : List Int} {i k : Nat} (h : i < (qi N).length) (hz : atR (qi N) v (qi N)[i] = 0) : Xc p c N v w i k = Xc p c N v w (i + 1) 0 := by
  rw [← qlh h]
  unfold Xc
  refine List.map_congr_left fun m hm => ?_
  have h1 : ∀ L, K8 p c N (atR (qi N) v) (atR (qi N) w) m (qi N)[i] L = 0 := fun L => qby fun e _ => by rw [hz, Int.zero_mul, Int.mul_zero]
  rw [qey h, h1, h1]
theorem quc {p c : Int} {N : Nat} {v w : List Int} {i k : Nat} (h : k < (qi N).length) (hz : atR (qi N) w (qi N)[k] = 0) : Xc p c N v w i k = Xc p c N v w i (k + 1) := by
  unfold Xc
  refine List.map_congr_left fun m hm => ?_
  unfold K8
  rw [qbw h, hz, Int.mul_zero, Int.mul_zero, Int.add_zero]
theorem qst {p a x y : Int} (h : p ∣ x - y) : (a.emod p + x).emod p = (a + y).emod p := by
  obtain ⟨q, hq⟩ := Q6 p a
  obtain ⟨r, hr⟩ := h
  have : a.emod p + x = (a + y) + p * (q + r) := by rw [Int.mul_add]; omega
  rw [this]
  exact Int.add_mul_emod_self_left _ _ _
theorem qwn {p c : Int} {N : Nat} (hN : 1 ≤ N ∧ N ≤ 6) {v w : List Int} {i k : Nat} (hi : i < (qi N).length) (hk : k < (qi N).length) (hin : ja N (qi N)[i] (qi N)[k] ∈ qi N) {x : Int}
    (hx : p ∣ x - jk p c (lpN N (qi N)[i] (qi N)[k] N) * (atR (qi N) v (qi N)[i] * atR (qi N) w (qi N)[k])) :
    (Xc p c N v w i k).set ((qi N).idxOf (ja N (qi N)[i] (qi N)[k])) (((Xc p c N v w i k).getD ((qi N).idxOf (ja N (qi N)[i] (qi N)[k])) 0 + x).emod p) = Xc p c N v w i (k + 1) := by
  have hn := Va hN
  unfold Xc
  rw [Ui hin, Bb hin hn]
  refine List.map_congr_left fun m hm => ?_
  rw [qey hi]
  have e : K8 p c N (atR (qi N) v) (atR (qi N) w) m (qi N)[i] ((qi N).take (k + 1)) = K8 p c N (atR (qi N) v) (atR (qi N) w) m (qi N)[i] ((qi N).take k) + wM p c N m (qi N)[i] (qi N)[k] * (atR (qi N) v (qi N)[i] * atR (qi N) w (qi N)[k]) := qbw hk
  rw [e]
  split
  · rename_i hm'
    subst hm'
    rw [← Int.add_assoc]
    refine qst ?_
    unfold wM
    rw [if_pos rfl]
    exact hx
  · rename_i hm'
    have : wM p c N m (qi N)[i] (qi N)[k] = 0 := by
      unfold wM
      rw [if_neg fun h => hm' h.symm]
    rw [this, Int.zero_mul, Int.add_zero]
theorem qu6 {p c y : Int} {j : Nat} : ((y * jk p c j).emod p * c).emod p = (y * jk p c (j + 1)).emod p := by
  have e : jk p c (j + 1) = (jk p c j * c).emod p := rfl
  rw [e]
  obtain ⟨q, hq⟩ := Q6 p (y * jk p c j)
  obtain ⟨r, hr⟩ := Q6 p (jk p c j * c)
  have h1 : (y * jk p c j).emod p = y * jk p c j + p * q := by omega
  have h2 : (jk p c j * c).emod p = jk p c j * c + p * r := by omega
  have h3 : (y * jk p c j).emod p * c = y * (jk p c j * c) + p * (q * c) := by rw [h1, Int.add_mul, Int.mul_assoc, Int.mul_assoc]
  have h4 : y * (jk p c j * c).emod p = y * (jk p c j * c) + p * (y * r) := by rw [h2, Int.mul_add, Int.mul_left_comm y p r]
  rw [h3, h4]
  have h5 : ∀ z : Int, (y * (jk p c j * c) + p * z).emod p = (y * (jk p c j * c)).emod p := fun z => Int.add_mul_emod_self_left _ _ _
  rw [h5, h5]
theorem q0a {p c : Int} {N : Nat} {v w : List Int} {i k : Nat} (hp : 0 < p) (j : Nat) : 0 ≤ (Xc p c N v w i k).getD j 0 ∧ (Xc p c N v w i k).getD j 0 ≤ p - 1 := by
  unfold Xc
  rw [List.getD_eq_getElem?_getD, List.getElem?_map]
  cases (qi N)[j]? with
  | none => simp; omega
  | some m => exact qjt hp _
def uK (N : Nat) (m : List Nat) : Nat → List Nat
  | 0 => List.replicate 16 0
  | i + 1 => ((uK N m i).set (wd N i) (wd N (m.getD i 0))).set (wd N (m.getD i 0)) (wd N i)
def u2 (N : Nat) (m : List Nat) : Nat → List Nat
  | 0 => uK N m (2 * N)
  | i + 1 => ((u2 N m i).set (rt N i) (rt N (1 - i))).set (rt N (1 - i)) (rt N i)
theorem qrm {N : Nat} : List.replicate (qi N).length (0 : Int) = (qi N).map fun _ => 0 := by
  refine List.ext_getElem (by simp) fun i h1 h2 => ?_
  simp
theorem row_one {N : Nat} (hN : 1 ≤ N ∧ N ≤ 6) {m : List Nat} (hm : m ∈ qi N) : (List.replicate (qi N).length (0 : Int)).set ((qi N).idxOf m) 1 = bm N [((N : Int), m, 1)] := by
  rw [qrm, Bb hm (Va hN)]
  refine List.map_congr_left fun d hd => ?_
  simp only [cf]
  by_cases e : d = m
  · rw [if_pos e, if_pos e.symm]; rfl
  · rw [if_neg e, if_neg fun h => e h.symm]; rfl
end Go.Proofs.Ytfhckbbgmblhbaa
namespace Go.Proofs.Ytfhckbbgmblhbaa
open Go.Am Go.Dia
open Nat renaming reduceAdd → nA, reduceMul → nM, reduceSub → nS, reduceEqDiff → nE, reduceLT → nL, reduceLeDiff → nD, reduceBEq → nB
open Int renaming reduceEq → iE, reduceNe → iN, reduceBEq → iB, reduceBNe → iC, reduceLT → iL, reduceLE → iD, reduceAdd → iA, reduceSub → iS, reduceMul → iM
set_option linter.unusedSimpArgs false
set_option linter.unusedVariables false
set_option maxRecDepth 4000
set_option maxHeartbeats 2000000
def q19 (n l a i : Int) : Prop := (0 ≤ n ∧ n ≤ 100) ∧ (0 ≤ l ∧ l ≤ 100) ∧ (0 ≤ a ∧ a ≤ 100) ∧ 0 ≤ i ∧ i ≤ 100
instance {n l a i : Int} : Decidable (q19 n l a i) := inferInstanceAs (Decidable (_ ∧ _))
noncomputable def q4q : za := q4w
theorem q0h : qn Try.prog q4q := qy1
theorem que : okD (List.replicate 16 0) := ⟨by simp, by intro x hx; simp at hx; omega⟩
noncomputable def q43 : za := q4q
theorem q08 : qn Try.prog q43 := q0h
def strs (l : List (List UInt8)) : List AV := l.map AV.str
theorem jy : ∀ l : List (List UInt8), AV.zb (strs l) = true
  | [] => rfl
  | x :: l => by
    have ih := jy l
    simp only [strs, List.map_cons, AV.zb, AV.zl, Bool.true_and]
    exact ih
theorem qdh (l : List (List UInt8)) : (strs l).length = l.length := by simp [strs]
def Kv : List AV → Option (List (List UInt8))
  | [] => some []
  | .str s :: r => match Kv r with
    | some l => some (s :: l)
    | none => none
  | _ => none
theorem Vr : ∀ l : List (List UInt8), Kv (strs l) = some l
  | [] => rfl
  | x :: l => by
    have ih := Vr l
    simp only [strs, List.map_cons, Kv] at ih ⊢
    rw [ih]
theorem qc9 : ∀ {l : List AV} {m : List (List UInt8)}, Kv l = some m → l = strs m
  | [], m, h => by cases h; rfl
  | a :: l, m, h => by
    cases a <;> (try (simp only [Kv, reduceCtorEq] at h; done))
    simp only [Kv] at h
    split at h
    · rename_i r hr
      cases h
      rw [qc9 hr]; rfl
    · cases h
def txs (t : List UInt8) (o r : Nat) : List (List UInt8) := (brs (o + 2 * r) o).map (t ++ ·)
theorem qje : ∀ r o, (brs r o).length ≤ 2 ^ r
  | 0, o => by simp only [brs]; split <;> simp
  | r + 1, o => by
    have h1 := qje r (o + 1)
    have h2 := qje r (o - 1)
    simp only [brs, List.length_append, List.length_map]
    rw [Nat.pow_succ]
    split
    · rw [List.length_map]; omega
    · rw [List.length_nil]; omega
theorem qqk {t : List UInt8} {o r : Nat} : (txs t o r).length ≤ 2 ^ (o + 2 * r) := by rw [txs, List.length_map]; exact qje _ _
theorem qnn {t : List UInt8} : txs t 0 0 = [t] := by simp [txs, brs]
theorem Jc {t : List UInt8} {x : UInt8} {l : List (List UInt8)} : (l.map (x :: ·)).map (t ++ ·) = l.map ((t ++ [x]) ++ ·) := by
  rw [List.map_map]
  exact List.map_congr_left fun y _ => by simp
theorem qmh {t : List UInt8} {o r : Nat} (ho : 0 < o) (hr : 0 < r) : txs t o r = txs (t ++ [40]) (o + 1) (r - 1) ++ txs (t ++ [41]) (o - 1) r := by
  obtain ⟨o, rfl⟩ : ∃ j, o = j + 1 := ⟨o - 1, by omega⟩
  obtain ⟨r, rfl⟩ : ∃ j, r = j + 1 := ⟨r - 1, by omega⟩
  unfold txs
  rw [show o + 1 + 2 * (r + 1) = (o + 2 * r + 2) + 1 by omega, show o + 1 + 1 + 2 * (r + 1 - 1) = o + 2 * r + 2 by omega, show o + 1 - 1 + 2 * (r + 1) = o + 2 * r + 2 by omega]
  rw [show brs (o + 2 * r + 2 + 1) (o + 1) = (brs (o + 2 * r + 2) (o + 1 + 1)).map (40 :: ·) ++ (if 0 < o + 1 then (brs (o + 2 * r + 2) (o + 1 - 1)).map (41 :: ·) else []) from rfl, if_pos (by omega), List.map_append, Jc, Jc]
theorem ql6 {t : List UInt8} {r : Nat} (hr : 0 < r) : txs t 0 r = txs (t ++ [40]) 1 (r - 1) := by
  obtain ⟨r, rfl⟩ : ∃ j, r = j + 1 := ⟨r - 1, by omega⟩
  unfold txs
  rw [show 0 + 2 * (r + 1) = (2 * r + 1) + 1 by omega, show 1 + 2 * (r + 1 - 1) = 2 * r + 1 by omega]
  rw [show brs (2 * r + 1 + 1) 0 = (brs (2 * r + 1) 1).map (40 :: ·) ++ (if 0 < 0 then (brs (2 * r + 1) (0 - 1)).map (41 :: ·) else []) from rfl, if_neg (by omega), List.append_nil, Jc]
theorem qhv {t : List UInt8} {o : Nat} (ho : 0 < o) : txs t o 0 = txs (t ++ [41]) (o - 1) 0 := by
  obtain ⟨o, rfl⟩ : ∃ j, o = j + 1 := ⟨o - 1, by omega⟩
  unfold txs
  rw [show o + 1 + 2 * 0 = o + 1 by omega, show o + 1 - 1 + 2 * 0 = o by omega, Nat.add_sub_cancel]
  rw [show brs (o + 1) (o + 1) = (brs o (o + 1 + 1)).map (40 :: ·) ++ (if 0 < o + 1 then (brs o (o + 1 - 1)).map (41 :: ·) else []) from rfl, if_pos (by omega), Nat.add_sub_cancel, qju (show o < o + 1 + 1 by omega), List.map_nil, List.nil_append, Jc]
def Ud (M k j : Nat) (o r : Int) : Prop := 0 ≤ o ∧ 0 ≤ r ∧ o.toNat + 2 * r.toNat < M ∧ (M ≤ 20 ∧ j + (o.toNat + 2 * r.toNat) ≤ 100) ∧ k + 2 ^ (o.toNat + 2 * r.toNat) ≤ 1000000
instance {M k j : Nat} {o r : Int} : Decidable (Ud M k j o r) := inferInstanceAs (Decidable (_ ∧ _))
noncomputable def vr (M : Nat) : BE := fun hp xs => match xs with
  | [.v (.slice none 0 0), .str t, .int .i64 o, .int .i64 r] => chk (Ud M 0 t.length o r) (some (.slc hp.length 0 (txs t o.toNat r.toNat).length false 0, hp ++ [.vec 1 (strs (txs t o.toNat r.toNat))]))
  | [.slc b 0 k false 0, .str t, .int .i64 o, .int .i64 r] => match hp[b]? with
    | some (.vec 1 l) => match Kv l with
      | some ls => chk (ls.length = k ∧ Ud M ls.length t.length o r) (some (.slc hp.length 0 (ls ++ txs t o.toNat r.toNat).length false 0, hp.set b .dead ++ [.vec 1 (strs (ls ++ txs t o.toNat r.toNat))]))
      | none => none
    | _ => none
  | _ => none
theorem qq6 {M : Nat} (h1 : ∀ (t : List UInt8) (o r : Nat), Ud M 0 t.length o r → Am.Fn Try.prog 133 [.v (.slice none 0 0), .str t, .int .i64 o, .int .i64 r] [] (fun v H' => v = .slc 0 0 (txs t o r).length false 0 ∧ H' = [.vec 1 (strs (txs t o r))]))
    (h2 : ∀ (ls : List (List UInt8)) (t : List UInt8) (o r : Nat), Ud M ls.length t.length o r → Am.Fn Try.prog 133 [.slc 0 0 ls.length false 0, .str t, .int .i64 o, .int .i64 r] [.vec 1 (strs ls)] (fun v H' => v = .slc 1 0 (ls ++ txs t o r).length false 0 ∧ H' = [.dead, .vec 1 (strs (ls ++ txs t o r))])) :
    Am.Callee Try.prog 133 (vr M) := Callee.fp fun hp xs v hp' he => by
  unfold vr at he
  split at he
  · rename_i t o r
    obtain ⟨a1, he⟩ := ql he
    simp only [Option.some.injEq, Prod.mk.injEq] at he
    obtain ⟨rfl, rfl⟩ := he
    obtain ⟨o, rfl⟩ : ∃ j : Nat, o = j := ⟨o.toNat, by have := a1.1; omega⟩
    obtain ⟨r, rfl⟩ : ∃ j : Nat, r = j := ⟨r.toNat, by have := a1.2.1; omega⟩
    refine ⟨[], [.v (.slice none 0 0), .str t, .int .i64 o, .int .i64 r], _, _, _, h1 t o r a1, by simp [AV.ren, AV.zh], rfl, trivial, rfl, trivial, ⟨trivial, trivial, trivial, trivial, trivial⟩, by simp [AV.ren, AV.zh, Ren.ext], ?_⟩
    simp [after, upd, AO.wr, AO.ren, qc _ _ (jy _)]
  · rename_i b k t o r
    split at he
    · rename_i l hb
      split at he
      · rename_i ls hls
        have h9 := ql he
        clear he
        obtain ⟨⟨k1, a1⟩, he⟩ := h9
        subst k1
        simp only [Option.some.injEq, Prod.mk.injEq] at he
        obtain ⟨rfl, rfl⟩ := he
        obtain rfl := qc9 hls
        obtain ⟨o, rfl⟩ : ∃ j : Nat, o = j := ⟨o.toNat, by have := a1.1; omega⟩
        obtain ⟨r, rfl⟩ : ∃ j : Nat, r = j := ⟨r.toNat, by have := a1.2.1; omega⟩
        refine ⟨[(b, 0)], [.slc 0 0 ls.length false 0, .str t, .int .i64 o, .int .i64 r], _, _, _, h2 ls t o r a1, by simp [AV.ren, AV.zh, ofL], rfl, ⟨⟨rfl, by simp only [AO.ren, qc _ _ (jy _)]; exact hb⟩, trivial⟩, rfl, ⟨qh _ _ (jy _), trivial⟩, ⟨by simp [AV.under], trivial, trivial, trivial, trivial⟩, by simp [AV.ren, AV.zh, Ren.ext], ?_⟩
        simp [after, upd, AO.wr, AO.ren, qc _ _ (jy _)]
      · cases he
    · cases he
  · cases he
noncomputable def BT (M : Nat) : za := qtv.put 133 (vr M)
theorem qda (M : Nat) : BT M 133 = some (vr M) := rfl
theorem q1w {M : Nat} (h : Am.Callee Try.prog 133 (vr M)) : qn Try.prog (BT M) := Gd.put h
theorem qq2 {M k j o r : Nat} (h : Ud (M + 1) k j o r) : o + 2 * r ≤ M ∧ (M + 1 ≤ 20 ∧ j + (o + 2 * r) ≤ 100) ∧ k + 2 ^ (o + 2 * r) ≤ 1000000 := by
  obtain ⟨_, _, h3, h4, h5⟩ := h
  rw [Int.toNat_natCast, Int.toNat_natCast] at h3 h4 h5
  exact ⟨by omega, h4, h5⟩
theorem X8 {M k j o r : Nat} (h1 : o + 2 * r < M) (h2 : M ≤ 20 ∧ j + (o + 2 * r) ≤ 100) (h3 : k + 2 ^ (o + 2 * r) ≤ 1000000) : Ud M k j (o : Int) (r : Int) := ⟨by omega, by omega, by rw [Int.toNat_natCast, Int.toNat_natCast]; exact h1, by rw [Int.toNat_natCast, Int.toNat_natCast]; exact h2, by rw [Int.toNat_natCast, Int.toNat_natCast]; exact h3⟩
theorem Xf {t : List UInt8} {x : UInt8} : (t ++ [x]).length = t.length + 1 := by simp
theorem qea {o r : Nat} (h : 0 < o + 2 * r) : 2 ^ (o + 2 * r) = 2 ^ (o + 2 * r - 1) + 2 ^ (o + 2 * r - 1) := by
  rw [show o + 2 * r = (o + 2 * r - 1) + 1 by omega, Nat.pow_succ, Nat.add_sub_cancel]; omega
def wa : AC := .seq (.region [o0 8 (.mov (.c (.v (.slice none 0 0))))]) (.seq (.seq (.region [oM 9 2,oK 10 .eql 9 0,oM 11 10,oG 12 11 true (.mov (.t 3)),oG 13 11 true (.bin .eql (.t 12) (.c (.int .i64 0))),o0 14 (.pick (.t 11) (.t 13) (.c (.bool false)))]) (.cond 14 (.seq (.region [oM 15 0,oM 16 1,o0 17 (.ga 1 [(.str [])] [(0,1,.t 16)]),o0 18 (.append 1 16 (.t 15) (.t 17)),oM 8 18]) .ret) .skip)) (.seq (.seq (.region [oM 19 3,oK 20 .gtr 19 0]) (.cond 20 (.region [oM 21 0,oM 22 1,o0 23 (.bin .add (.t 22) (.c (.str [40]))),oM 24 2,oK 25 .add 24 1,oM 26 3,oK 27 .sub 26 1,oC 28 133 [.t 21,.t 23,.t 25,.t 27],oM 0 28]) .skip)) (.seq (.seq (.region [oM 29 2,oK 30 .gtr 29 0]) (.cond 30 (.region [oM 31 0,oM 32 1,o0 33 (.bin .add (.t 32) (.c (.str [41]))),oM 34 2,oK 35 .sub 34 1,oM 36 3,oC 37 133 [.t 31,.t 33,.t 35,.t 36],oM 0 37]) .skip)) (.seq (.region [oM 38 0,oM 8 38]) .ret))))
theorem qbg : zr Try.prog 133 = some ⟨39, wa, [.slot 8]⟩ := by kernel_rfl
theorem qw6 (M : Nat) (ih : Am.Callee Try.prog 133 (vr M)) (t : List UInt8) (o r : Nat) (h : Ud (M + 1) 0 t.length o r) :
    Am.Fn Try.prog 133 [.v (.slice none 0 0), .str t, .int .i64 o, .int .i64 r] [] (fun v H' => v = .slc 0 0 (txs t o r).length false 0 ∧ H' = [.vec 1 (strs (txs t o r))]) := by
  refine Am.Fn.ofW (q1w ih) mixed qbg (by simp [AV.qy, AV.under]) (by simp) ?_
  obtain ⟨a1, ⟨a2, a4⟩, a3⟩ := qq2 h
  have w1 : qu .i64 ((o : Int) + 1) = ((o + 1 : Nat) : Int) := by rw [wrap64 (by omega) (by omega)]; rfl
  have tl : t.length ≤ 9223372036854775806 := by omega
  have fin : ∀ (s : St) (i : Nat) (L : List (List UInt8)), L = txs t o r → get s.env 8 = .slc i 0 L.length false 0 → s.hp[i]? = some (.vec 1 (strs L)) → ∃ s', qz 0 s s' ∧ Ret [.slot 8] [] (fun v H' => v = .slc 0 0 (txs t o r).length false 0 ∧ H' = [.vec 1 (strs (txs t o r))]) s' := fun s i L e h1 h2 => by
    subst e
    have hk : zi [i] s.hp = [.vec 1 (strs (txs t o r))] := by simp [zi, h2, AO.ren, qc _ _ (jy _)]
    have hi : ([i] : List Nat).idxOf i = 0 := by simp
    refine ⟨_, qz.refl _, Ret.ve [i] ⟨⟨by simp, rfl, by simp⟩, fun j hj => ?_⟩ (rs := [.slc i 0 (txs t o r).length false 0]) ?_ ?_ (by simp [xw]) ?_ ⟨?_, hk⟩⟩
    · rw [List.mem_singleton.1 hj, h2]
      exact qk _ _ (jy _)
    · simp only [Vd, h1]
    · simp [xw, AV.within]
    · intro j l
      rw [hk]
      cases j <;> simp
    · simp [xw, AV.ren, uy]
  by_cases ho : 0 < o
  · have e1 : (o : Int) = 0 ↔ False := iff_false_intro (by omega)
    have e2 : (0 : Int) < (o : Int) := by omega
    have w2 : qu .i64 ((o : Int) - 1) = ((o - 1 : Nat) : Int) := by rw [wrap64 (by omega) (by omega)]; omega
    have p1 := qea (show 0 < o + 2 * r by omega)
    have q2 : o - 1 + 2 * r = o + 2 * r - 1 := by omega
    by_cases hr : 0 < r
    · have e3 : (0 : Int) < (r : Int) := by omega
      have w3 : qu .i64 ((r : Int) - 1) = ((r - 1 : Nat) : Int) := by rw [wrap64 (by omega) (by omega)]; omega
      have q1 : o + 1 + 2 * (r - 1) = o + 2 * r - 1 := by omega
      have k1 : Ud M 0 (t ++ [40]).length ((o + 1 : Nat) : Int) ((r - 1 : Nat) : Int) := X8 (by omega) ⟨by omega, by rw [Xf]; omega⟩ (by rw [q1]; omega)
      have hl := qqk (t := t ++ [40]) (o := o + 1) (r := r - 1)
      rw [q1] at hl
      have k2 : Ud M (txs (t ++ [40]) (o + 1) (r - 1)).length (t ++ [41]).length ((o - 1 : Nat) : Int) (r : Int) := X8 (by omega) ⟨by omega, by rw [Xf]; omega⟩ (by rw [q2]; omega)
      have b1 := Vr (txs (t ++ [40]) (o + 1) (r - 1))
      have hb := qmh (t := t) ho hr
      simp (maxSteps := 3000000) only [qg, zH, wa, qda, vr, e1, e2, e3, w1, w2, w3, k1, k2, b1, tl, Int.toNat_natCast, and_self, iE, iN, iB, iC, iL, iD, iA, iS, iM, qa, zZ, ↓qo, ↓reduceIte, reduceCtorEq, nA, nM, nS, nE, nL, nD]; try simp only [qa, zY]
      exact fin _ 1 _ hb.symm rfl rfl
    · have r0 : r = 0 := by omega
      have e3 : (0 : Int) < (r : Int) ↔ False := iff_false_intro (by omega)
      have k2 : Ud M 0 (t ++ [41]).length ((o - 1 : Nat) : Int) (r : Int) := X8 (by omega) ⟨by omega, by rw [Xf]; omega⟩ (by rw [q2]; omega)
      have hb : txs t o r = txs (t ++ [41]) (o - 1) r := by subst r0; exact qhv ho
      simp (maxSteps := 3000000) only [qg, zH, wa, qda, vr, e1, e2, e3, w1, w2, k2, tl, Int.toNat_natCast, Int.lt_irrefl, and_self, iE, iN, iB, iC, iL, iD, iA, iS, iM, qa, zZ, ↓qo, ↓reduceIte, reduceCtorEq, nA, nM, nS, nE, nL, nD]; try simp only [qa, zY]
      exact fin _ 0 _ hb.symm rfl rfl
  · have o0 : o = 0 := by omega
    have e1 : (o : Int) = 0 ↔ True := iff_true_intro (by omega)
    have e2 : (0 : Int) < (o : Int) ↔ False := iff_false_intro (by omega)
    by_cases hr : 0 < r
    · have e3 : (0 : Int) < (r : Int) := by omega
      have e4 : (r : Int) = 0 ↔ False := iff_false_intro (by omega)
      have p1 := qea (show 0 < o + 2 * r by omega)
      have w3 : qu .i64 ((r : Int) - 1) = ((r - 1 : Nat) : Int) := by rw [wrap64 (by omega) (by omega)]; omega
      have q1 : o + 1 + 2 * (r - 1) = o + 2 * r - 1 := by omega
      have k1 : Ud M 0 (t ++ [40]).length ((o + 1 : Nat) : Int) ((r - 1 : Nat) : Int) := X8 (by omega) ⟨by omega, by rw [Xf]; omega⟩ (by rw [q1]; omega)
      have hb : txs t o r = txs (t ++ [40]) (o + 1) (r - 1) := by subst o0; exact ql6 hr
      simp (maxSteps := 3000000) only [qg, zH, wa, qda, vr, e1, e2, e3, e4, w1, w3, k1, tl, Int.toNat_natCast, Int.lt_irrefl, and_self, iE, iN, iB, iC, iL, iD, iA, iS, iM, qa, zZ, ↓qo, ↓reduceIte, reduceCtorEq, nA, nM, nS, nE, nL, nD]; try simp only [qa, zY]
      exact fin _ 0 _ hb.symm rfl rfl
    · have r0 : r = 0 := by omega
      have e3 : (0 : Int) < (r : Int) ↔ False := iff_false_intro (by omega)
      have e4 : (r : Int) = 0 ↔ True := iff_true_intro (by omega)
      have hb : txs t o r = [t] := by subst o0; subst r0; exact qnn
      have hs : src [AO.cells (over [AV.str []] 0 [AV.str t])] 1 (.slc 0 0 1 true 1) = some (1, [.str t]) := rfl
      simp (maxSteps := 3000000) only [qg, zH, wa, qda, e1, e2, e3, e4, hs, Int.toNat_natCast, and_self, iE, iN, iB, iC, iL, iD, iA, iS, iM, qa, zZ, ↓qo, ↓reduceIte, reduceCtorEq, nA, nM, nS, nE, nL, nD]; try simp only [qa, zY]
      exact ⟨rfl, fin _ 1 _ hb.symm rfl rfl⟩
theorem qvy (M : Nat) (ih : Am.Callee Try.prog 133 (vr M)) (ls : List (List UInt8)) (t : List UInt8) (o r : Nat) (h : Ud (M + 1) ls.length t.length o r) :
    Am.Fn Try.prog 133 [.slc 0 0 ls.length false 0, .str t, .int .i64 o, .int .i64 r] [.vec 1 (strs ls)] (fun v H' => v = .slc 1 0 (ls ++ txs t o r).length false 0 ∧ H' = [.dead, .vec 1 (strs (ls ++ txs t o r))]) := by
  refine Am.Fn.ofW (q1w ih) mixed qbg (by simp [AV.qy, AV.under]) ?_ ?_
  · intro j q hj
    cases j with
    | zero => simp only [List.getElem?_cons_zero, Option.some.injEq] at hj; subst hj; exact qh _ _ (jy _)
    | succ j => simp at hj
  obtain ⟨a1, ⟨a2, a4⟩, a3⟩ := qq2 h
  have w1 : qu .i64 ((o : Int) + 1) = ((o + 1 : Nat) : Int) := by rw [wrap64 (by omega) (by omega)]; rfl
  have tl : t.length ≤ 9223372036854775806 := by omega
  have b0 := Vr ls
  have g1 : 1 ≤ 2 ^ (o + 2 * r - 1) := Nat.one_le_two_pow
  have g2 : 1 ≤ 2 ^ (o + 2 * r) := Nat.one_le_two_pow
  have hlen := qdh ls
  have fin : ∀ (s : St) (i : Nat) (L : List (List UInt8)), L = ls ++ txs t o r → 0 < i → get s.env 8 = .slc i 0 L.length false 0 → s.hp[0]? = some .dead → s.hp[i]? = some (.vec 1 (strs L)) → ∃ s', qz [AO.vec 1 (strs ls)].length s s' ∧ Ret [.slot 8] [.vec 1 (strs ls)] (fun v H' => v = .slc 1 0 (ls ++ txs t o r).length false 0 ∧ H' = [.dead, .vec 1 (strs (ls ++ txs t o r))]) s' := fun s i L e hi h1 h0 h2 => by
    subst e
    have hk : zi [0, i] s.hp = [.dead, .vec 1 (strs (ls ++ txs t o r))] := by simp [zi, h0, h2, AO.ren, qc _ _ (jy _)]
    have hne : (0 : Nat) ≠ i := by omega
    refine ⟨_, qz.refl _, Ret.ve [0, i] ⟨⟨by simp, rfl, by simp; omega⟩, fun j hj => ?_⟩ (rs := [.slc i 0 (ls ++ txs t o r).length false 0]) ?_ ?_ (by simp [xw]) ?_ ⟨?_, hk⟩⟩
    · rcases List.mem_cons.1 hj with rfl | hj
      · rw [h0]; rfl
      · rw [List.mem_singleton.1 hj, h2]
        exact qk _ _ (jy _)
    · simp only [Vd, h1]
    · simp [xw, AV.within]
    · intro j l
      rw [hk]
      match j with
      | 0 => simp
      | 1 => simp
      | j + 2 => simp
    · simp [xw, AV.ren, uy, List.idxOf_cons, beq_false_of_ne hne]
  by_cases ho : 0 < o
  · have e1 : (o : Int) = 0 ↔ False := iff_false_intro (by omega)
    have e2 : (0 : Int) < (o : Int) := by omega
    have w2 : qu .i64 ((o : Int) - 1) = ((o - 1 : Nat) : Int) := by rw [wrap64 (by omega) (by omega)]; omega
    have p1 := qea (show 0 < o + 2 * r by omega)
    have q2 : o - 1 + 2 * r = o + 2 * r - 1 := by omega
    by_cases hr : 0 < r
    · have e3 : (0 : Int) < (r : Int) := by omega
      have w3 : qu .i64 ((r : Int) - 1) = ((r - 1 : Nat) : Int) := by rw [wrap64 (by omega) (by omega)]; omega
      have q1 : o + 1 + 2 * (r - 1) = o + 2 * r - 1 := by omega
      have k1 : Ud M ls.length (t ++ [40]).length ((o + 1 : Nat) : Int) ((r - 1 : Nat) : Int) := X8 (by omega) ⟨by omega, by rw [Xf]; omega⟩ (by rw [q1]; omega)
      have hl := qqk (t := t ++ [40]) (o := o + 1) (r := r - 1)
      rw [q1] at hl
      have k2 : Ud M (ls ++ txs (t ++ [40]) (o + 1) (r - 1)).length (t ++ [41]).length ((o - 1 : Nat) : Int) (r : Int) := X8 (by omega) ⟨by omega, by rw [Xf]; omega⟩ (by rw [q2, List.length_append]; omega)
      have b1 := Vr (ls ++ txs (t ++ [40]) (o + 1) (r - 1))
      have hb : ls ++ txs (t ++ [40]) (o + 1) (r - 1) ++ txs (t ++ [41]) (o - 1) r = ls ++ txs t o r := by rw [List.append_assoc, ← qmh ho hr]
      simp (maxSteps := 3000000) only [qg, zH, wa, qda, vr, e1, e2, e3, w1, w2, w3, k1, k2, b0, b1, tl, Int.toNat_natCast, and_self, iE, iN, iB, iC, iL, iD, iA, iS, iM, qa, zZ, ↓qo, ↓reduceIte, reduceCtorEq, nA, nM, nS, nE, nL, nD]; try simp only [qa, zY]
      exact fin _ 2 _ hb (by omega) rfl rfl rfl
    · have r0 : r = 0 := by omega
      have e3 : (0 : Int) < (r : Int) ↔ False := iff_false_intro (by omega)
      have k2 : Ud M ls.length (t ++ [41]).length ((o - 1 : Nat) : Int) (r : Int) := X8 (by omega) ⟨by omega, by rw [Xf]; omega⟩ (by rw [q2]; omega)
      have hb : ls ++ txs (t ++ [41]) (o - 1) r = ls ++ txs t o r := by subst r0; rw [qhv ho]
      simp (maxSteps := 3000000) only [qg, zH, wa, qda, vr, e1, e2, e3, w1, w2, k2, b0, tl, Int.toNat_natCast, Int.lt_irrefl, and_self, iE, iN, iB, iC, iL, iD, iA, iS, iM, qa, zZ, ↓qo, ↓reduceIte, reduceCtorEq, nA, nM, nS, nE, nL, nD]; try simp only [qa, zY]
      exact fin _ 1 _ hb (by omega) rfl rfl rfl
  · have o0 : o = 0 := by omega
    have e1 : (o : Int) = 0 ↔ True := iff_true_intro (by omega)
    have e2 : (0 : Int) < (o : Int) ↔ False := iff_false_intro (by omega)
    by_cases hr : 0 < r
    · have e3 : (0 : Int) < (r : Int) := by omega
      have e4 : (r : Int) = 0 ↔ False := iff_false_intro (by omega)
      have p1 := qea (show 0 < o + 2 * r by omega)
      have w3 : qu .i64 ((r : Int) - 1) = ((r - 1 : Nat) : Int) := by rw [wrap64 (by omega) (by omega)]; omega
      have q1 : o + 1 + 2 * (r - 1) = o + 2 * r - 1 := by omega
      have k1 : Ud M ls.length (t ++ [40]).length ((o + 1 : Nat) : Int) ((r - 1 : Nat) : Int) := X8 (by omega) ⟨by omega, by rw [Xf]; omega⟩ (by rw [q1]; omega)
      have hb : ls ++ txs (t ++ [40]) (o + 1) (r - 1) = ls ++ txs t o r := by subst o0; rw [ql6 hr]
      simp (maxSteps := 3000000) only [qg, zH, wa, qda, vr, e1, e2, e3, e4, w1, w3, k1, b0, tl, Int.toNat_natCast, Int.lt_irrefl, and_self, iE, iN, iB, iC, iL, iD, iA, iS, iM, qa, zZ, ↓qo, ↓reduceIte, reduceCtorEq, nA, nM, nS, nE, nL, nD]; try simp only [qa, zY]
      exact fin _ 1 _ hb (by omega) rfl rfl rfl
    · have r0 : r = 0 := by omega
      have e3 : (0 : Int) < (r : Int) ↔ False := iff_false_intro (by omega)
      have e4 : (r : Int) = 0 ↔ True := iff_true_intro (by omega)
      have hb : ls ++ [t] = ls ++ txs t o r := by subst o0; subst r0; rw [qnn]
      have hs : src [AO.vec 1 (strs ls), AO.cells (over [AV.str []] 0 [AV.str t])] 1 (.slc 1 0 1 true 1) = some (1, [.str t]) := rfl
      have hbd : (ls.length + 1) * 16 ≤ 1099511627776 := by omega
      have htk : List.take ls.length (strs ls) = strs ls := List.take_of_length_le (by omega)
      have hst : strs ls ++ [.str t] = strs (ls ++ [t]) := by simp [strs]
      have hl1 : (ls ++ [t]).length = ls.length + 1 := by simp
      simp (maxSteps := 3000000) only [qg, zH, wa, qda, e1, e2, e3, e4, hs, hlen, hbd, htk, hst, Nat.mul_one, Nat.le_refl, Int.toNat_natCast, and_self, iE, iN, iB, iC, iL, iD, iA, iS, iM, qa, zZ, ↓qo, ↓reduceIte, reduceCtorEq, nA, nM, nS, nE, nL, nD]; try simp only [qa, zY]
      exact ⟨rfl, fin _ 2 _ hb (by omega) (by rw [hl1]; rfl) rfl rfl⟩
theorem Kg : ∀ M, M ≤ 20 → Am.Callee Try.prog 133 (vr M)
  | 0, _ => qq6 (fun t o r h => absurd h.2.2.1 (by omega)) (fun ls t o r h => absurd h.2.2.1 (by omega))
  | M + 1, h => qq6 (fun t o r h1 => qw6 M (Kg M (by omega)) t o r h1) (fun ls t o r h1 => qvy M (Kg M (by omega)) ls t o r h1)
def rdS (n : Nat) (s : List UInt8) : Nat → Option (List Nat × List Nat)
  | 0 => some (List.replicate 16 0, [])
  | k + 1 => match rdS n s k with
    | none => none
    | some (m, st) => if s.getD k 0 = 40 then some (m, k :: st) else if s.getD k 0 = 41 then (match st with
      | [] => none
      | i :: st' => some ((m.set (place n i) (place n k)).set (place n k) (place n i), st')) else none
theorem qwe {n : Nat} {s : List UInt8} {k : Nat} (h : rdS n s k = none) : ∀ j, rdS n s (k + j) = none
  | 0 => h
  | j + 1 => by
    show rdS n s ((k + j) + 1) = none
    simp only [rdS, qwe h j]
theorem qf4 {n : Nat} {s : List UInt8} (hn : n ≤ 8) : ∀ {k : Nat} {m st : List Nat}, k ≤ 2 * n → rdS n s k = some (m, st) → okD m ∧ st.length ≤ k ∧ ∀ i ∈ st, i < k
  | 0, m, st, _, h => by cases h; exact ⟨que, Nat.le_refl _, by simp⟩
  | k + 1, m, st, hk, h => by
    simp only [rdS] at h
    cases h0 : rdS n s k with
    | none => rw [h0] at h; cases h
    | some q =>
      obtain ⟨m0, st0⟩ := q
      obtain ⟨i1, i2, i3⟩ := qf4 hn (by omega) h0
      rw [h0] at h
      simp only at h
      split at h
      · cases h
        exact ⟨i1, by simp; omega, fun i hi => by
          rcases List.mem_cons.1 hi with rfl | hi
          · omega
          · have := i3 i hi; omega⟩
      · split at h
        · cases st0 with
          | nil => cases h
          | cons i st' =>
            cases h
            have := i3 i (by simp)
            have p1 := q9 (n := n) (i := i) (by omega)
            have p2 := q9 (n := n) (i := k) (by omega)
            exact ⟨Wt i1 (by omega) (by omega), by simp at i2; omega, fun j hj => by have := i3 j (by simp [hj]); omega⟩
        · cases h
def rdC (n : Nat) : Bool := (brs (2 * n) 0).all fun s => (rdS n s (2 * n) == some (dOf s, [])) && s.length == 2 * n
theorem q6b : rdC 1 = true := by kernel_rfl
theorem q56 : rdC 2 = true := by kernel_rfl
theorem q6e : rdC 3 = true := by kernel_rfl
theorem q57 : rdC 4 = true := by kernel_rfl
theorem q58 : rdC 5 = true := by kernel_rfl
theorem q54 : rdC 6 = true := by kernel_rfl
theorem q32 {n : Nat} (h : 1 ≤ n ∧ n ≤ 6) : ∀ s ∈ brs (2 * n) 0, rdS n s (2 * n) = some (dOf s, []) ∧ s.length = 2 * n := fun s hs => by
  have h0 : rdC n = true := by
    rcases (show n = 1 ∨ n = 2 ∨ n = 3 ∨ n = 4 ∨ n = 5 ∨ n = 6 by omega) with rfl | rfl | rfl | rfl | rfl | rfl
    · exact q6b
    · exact q56
    · exact q6e
    · exact q57
    · exact q58
    · exact q54
  have := List.all_eq_true.1 h0 s hs
  simp only [Bool.and_eq_true, beq_iff_eq] at this
  exact this
theorem kz : qtv 66 = some (qm j7) := rfl
theorem bx : qtv 139 = some (qm u4) := rfl
theorem u6 : qtv 165 = some (qm j8) := rfl
def Bq : AC := .seq (.region [oM 42 0,oM 43 7,o0 44 (.qd3 (.t 42) (.t 43)),o0 45 (.bin .eql (.t 44) (.c (.int .u8 41))),oM 46 45,oG 47 46 true (.mov (.t 6)),oG 48 46 true (.len .slc (.t 47)),oG 49 46 true (.bin .gtr (.t 48) (.c (.int .i64 0))),o0 50 (.pick (.t 46) (.t 49) (.c (.bool false))),oM 41 50]) (.cond 41 (.seq (.region [oM 51 6,oM 52 6,o0 53 (.len .slc (.t 52)),oK 54 .sub 53 1,oX 55 1 51 54,oL 56 55,oM 8 56]) (.seq (.region [oM 57 6,oM 58 6,o0 59 (.len .slc (.t 58)),oK 60 .sub 59 1,o0 61 (.qcz 1 (.t 57) none (some (.t 60))),oM 6 61]) (.draw true [oN 62 17 5,oM 63 4,oM 64 8,oM 66 4,oM 67 7,oC 65 165 [.t 63,.t 64],oC 68 165 [.t 66,.t 67],oC 69 139 [.t 62,.t 65,.t 68],oS 17 5 69]))) (.seq (.region [o0 31 (.build [.int .i64 0,.int .u8 0,.int .u8 0,.int .u8 0,.int .u8 0,.int .u8 0,.int .u8 0,.int .u8 0,.int .u8 0,.int .u8 0,.int .u8 0,.int .u8 0,.int .u8 0,.int .u8 0,.int .u8 0,.int .u8 0,.int .u8 0] []),oS 17 2 31,oB 3 false]) .ret))
def Zc : AC := .seq (.seq (.region [oM 25 7,oM 26 4,o0 27 (.bin .mul (.c (.int .i64 2)) (.t 26)),oP 28 .lss 25 27]) (.cond 28 .skip (.exit 0))) (.seq (.block 1 (.block 2 (.seq (.region [oM 33 0,oM 34 7,o0 35 (.qd3 (.t 33) (.t 34)),o0 36 (.bin .eql (.t 35) (.c (.int .u8 40))),oM 32 36]) (.cond 32 (.region [oM 37 6,oM 38 7,o0 39 (.ga 1 [.int .i64 0] [(0,1,.t 38)]),o0 40 (.append 1 8 (.t 37) (.t 39)),oM 6 40]) Bq)))) (.region [oM 29 7,oK 30 .add 29 1,oM 7 30]))
def Uq : AC := .seq (.seq (.region [oM 70 6,o0 71 (.len .slc (.t 70)),oK 72 .gtr 71 0]) (.cond 72 (.seq (.region [o0 73 (.build [.int .i64 0,.int .u8 0,.int .u8 0,.int .u8 0,.int .u8 0,.int .u8 0,.int .u8 0,.int .u8 0,.int .u8 0,.int .u8 0,.int .u8 0,.int .u8 0,.int .u8 0,.int .u8 0,.int .u8 0,.int .u8 0,.int .u8 0] []),oS 17 2 73,oB 3 false]) .ret) .skip)) (.seq (.region [oN 74 17 5,oS 17 2 74,oB 3 true]) .ret)
def qc0 : AC := .seq (.region [oD 2,oB 3 false]) (.seq (.region [oM 9 0,o0 10 (.len .str (.t 9)),oK 11 .quo 10 2,oM 4 11]) (.seq (.seq (.region [oM 12 0,o0 13 (.len .str (.t 12)),oK 14 .rem 13 2,oK 15 .neq 14 0,oM 16 15,oG 17 16 false (.mov (.t 4)),⟨some 18,some (16,false),.call (.c (.fn 66 [] [])) [.t 17,(.c (.int .i64 1)),(.c (.int .i64 8))]⟩,oG 19 16 false (.un .not (.t 18)),o0 20 (.pick (.t 16) (.c (.bool true)) (.t 19))]) (.cond 20 (.seq (.region [o0 21 (.build [.int .i64 0,.int .u8 0,.int .u8 0,.int .u8 0,.int .u8 0,.int .u8 0,.int .u8 0,.int .u8 0,.int .u8 0,.int .u8 0,.int .u8 0,.int .u8 0,.int .u8 0,.int .u8 0,.int .u8 0,.int .u8 0,.int .u8 0] []),oS 17 2 21,oB 3 false]) .ret) .skip)) (.seq (.region [oM 22 4,o0 23 (.build [.int .i64 0,.int .u8 0,.int .u8 0,.int .u8 0,.int .u8 0,.int .u8 0,.int .u8 0,.int .u8 0,.int .u8 0,.int .u8 0,.int .u8 0,.int .u8 0,.int .u8 0,.int .u8 0,.int .u8 0,.int .u8 0,.int .u8 0] [(0,1,.t 22)]),o0 24 (.ga 0 [] []),oD 5,oS 17 5 23,oM 6 24]) (.seq (.seq (.region [oI 7 0]) (.block 0 (.loop Zc))) Uq))))
theorem qmr : zr Try.prog 134 = some ⟨75, qc0, [.Qj 2 17, .slot 3]⟩ := by kernel_rfl
theorem qku (n : Nat) (s : List UInt8) (m0 : List Nat) (hn : 1 ≤ n ∧ n ≤ 8) (hs : s.length = 2 * n) (h : rdS n s (2 * n) = some (m0, [])) :
    Am.Fn Try.prog 134 [.str s] [] (fun v H' => v = .tup [.agg (dia n m0), .bool true] ∧ H' = []) := by
  refine Am.Fn.jd (R := fun v => v = _) Gd mixed qmr (by simp [AV.qy, AV.under]) (by simp) ?_
  have hl : (s.length : Int).tdiv 2 = (n : Int) := by rw [hs]; rw [show (((2 * n : Nat) : Int)).tdiv 2 = ((2 * n / 2 : Nat) : Int) from (Int.ofNat_tdiv (2 * n) 2).symm]; omega
  have hr : (s.length : Int).tmod 2 = 0 := by rw [hs]; rw [show (((2 * n : Nat) : Int)).tmod 2 = ((2 * n % 2 : Nat) : Int) from (Int.ofNat_tmod (2 * n) 2).symm]; omega
  have hw0 : qu .i64 (n : Int) = n := wrap64 (by omega) (by omega)
  have hn1 : (1 : Int) ≤ (n : Int) ∧ (n : Int) ≤ 8 := by omega
  have h2n : qu .i64 (2 * (n : Int)) = ((2 * n : Nat) : Int) := by rw [wrap64 (by omega) (by omega)]; simp
  simp (maxSteps := 3000000) only [qg, zH, qc0, kz, bx, u6, j7, j8, u4, hl, hr, hw0, hn1, zn, xy, Zq, qb, ze, zy qw qw, List.length_replicate, and_self, iE, iN, iB, iC, iL, iD, iA, iS, iM, qa, zZ, ↓qo, ↓reduceIte, reduceCtorEq, nA, nM, nS, nE, nL, nD]; try simp only [qa, zY]
  refine WA.jn Gd (fun t => ∃ (k : Nat) (m st cl : List Nat), k ≤ 2 * n ∧ rdS n s k = some (m, st) ∧ st.length ≤ cl.length ∧ cl.take st.length = st.reverse ∧ t = ⟨[(0, .str s), (2, .ptr 0 0), (3, .bool false), (4, .int .i64 n), (5, .ptr 2 0), (6, .slc 1 0 st.length false 0), (7, .int .i64 k)], [.cells (dia 0 (List.replicate 16 0)), .vec 1 (uq cl), .cells (dia n m)]⟩)
    (fun t => match get t.env 7 with | .int _ x => 2 * n - x.toNat | _ => 0) ⟨_, qz.trans (qz.qx [0, 2, 3, 4, 5, 6, 7]) (qz.vec 1 0 1 (by decide) rfl rfl ?_ ?_), 0, List.replicate 16 0, [], [], by omega, rfl, by simp, by simp, ?_⟩ ?_
  · simp only [qx, zj, zV, ↓reduceIte, nE, reduceCtorEq, nB]
  · simp only [zV, ↓reduceIte, nE, reduceCtorEq, nB]
  · simp only [qx, zj, zV, ↓reduceIte, nE, reduceCtorEq, nB]; rfl
  rintro t ⟨k, m, st, cl, hk, hrd, hcl, htk, rfl⟩
  have hw : qu .i64 ((k : Int) + 1) = ((k + 1 : Nat) : Int) := by rw [wrap64 (by omega) (by omega)]; rfl
  obtain ⟨hmo, hst, hsb⟩ := qf4 hn.2 hk hrd
  by_cases hlt : k < 2 * n
  · have hli : (k : Int) < ((2 * n : Nat) : Int) := by omega
    have hk0 : (0 : Int) ≤ (k : Int) := by omega
    have hks : (k : Int) < (s.length : Int) := by omega
    cases hnx : rdS n s (k + 1) with
    | none =>
      have := qwe hnx (2 * n - (k + 1))
      rw [show k + 1 + (2 * n - (k + 1)) = 2 * n by omega, h] at this
      cases this
    | some q =>
    obtain ⟨m', st'⟩ := q
    have hnx' := hnx
    simp only [rdS, hrd] at hnx
    by_cases h40 : s.getD k 0 = 40
    · rw [if_pos h40] at hnx
      cases hnx
      have hx : (((s.getD k 0).toNat : Nat) : Int) = 40 := by rw [h40]; rfl
      have hap : List.take st.length (uq cl) ++ [AV.int .i64 (k : Int)] = uq (k :: st).reverse := by
        rw [qh9, htk, List.reverse_cons, ← qc1]; rfl
      have hs1 : src [AO.cells (dia 0 (List.replicate 16 0)), .vec 1 (uq cl), .cells (dia n m), .cells (over [AV.int .i64 0] 0 [AV.int .i64 k])] 1 (.slc 3 0 1 true 1) = some (1, [.int .i64 k]) := rfl
      have hnl := uw (m := cl)
      have hbd : (st.length + 1) * 8 ≤ 1099511627776 := by omega
      simp (maxSteps := 3000000) only [qg, zH, Zc, kz, bx, u6, j7, j8, u4, h2n, hli, hk0, hks, hx, hap, hs1, hnl, hcl, hbd, hw, Nat.mul_one, and_self, iE, iN, iB, iC, iL, iD, iA, iS, iM, qa, zZ, ↓qo, ↓reduceIte, reduceCtorEq, nA, nM, nS, nE, nL, nD]; try simp only [qa, zY]
      refine ⟨rfl, _, qz.ve [0, 4, 2] [0, 2, 3, 4, 5, 6, 7] ⟨by decide, ?_⟩ ?_, ⟨k + 1, m, k :: st, (k :: st).reverse, by omega, hnx', by simp, by rw [List.take_of_length_le (by simp)], ?_⟩, ?_⟩
      · simp only [zK, ↓reduceIte, reduceCtorEq, nE, nB, nA]
      · simp only [zK, ↓reduceIte, reduceCtorEq, nE, nB, nA]
      · simp only [zL, ↓reduceIte, reduceCtorEq, nE, nA]; rfl
      · simp only [zL, ↓reduceIte, reduceCtorEq, nE, nA]; omega
    · rw [if_neg h40] at hnx
      by_cases h41 : s.getD k 0 = 41
      · rw [if_pos h41] at hnx
        cases st with
        | nil => cases hnx
        | cons j st1 =>
          simp only [Option.some.injEq, Prod.mk.injEq] at hnx
          obtain ⟨e1, e2⟩ := hnx
          subst e2
          have hx : (((s.getD k 0).toNat : Nat) : Int) = 41 := by rw [h41]; rfl
          have hj := hsb j (by simp)
          have hsl : (j :: st1).length = st1.length + 1 := rfl
          have hpos : (0 : Int) < ((st1.length + 1 : Nat) : Int) := by omega
          have hw1 : qu .i64 (((st1.length + 1 : Nat) : Int) - 1) = ((st1.length : Nat) : Int) := by rw [wrap64 (by omega) (by omega)]; omega
          rw [hsl] at hcl htk hst
          have hcl1 : st1.length < cl.length := by omega
          have hcl2 : st1.length ≤ cl.length := by omega
          have hgj : cl.getD st1.length 0 = j := by
            have : (cl.take (st1.length + 1)).getD st1.length 0 = j := by rw [htk]; simp
            rw [← this, List.getD_eq_getElem?_getD, List.getD_eq_getElem?_getD, List.getElem?_take, if_pos (by omega)]
          have htk1 : cl.take st1.length = st1.reverse := by
            have : (cl.take (st1.length + 1)).take st1.length = st1.reverse := by rw [htk]; simp
            rwa [List.take_take, Nat.min_eq_left (by omega)] at this
          have hnl := uw (m := cl)
          have c1 : (0 : Int) ≤ (st1.length : Int) := by omega
          have c2 : (st1.length : Int) < ((st1.length + 1 : Nat) : Int) := by omega
          have c3 : (st1.length : Int) ≤ ((st1.length + 1 : Nat) : Int) := by omega
          have p1 := q9 (n := n) (i := j) (by omega)
          have p2 := q9 (n := n) (i := k) (by omega)
          have pz1 := gn (n := n) (k := j) (by omega)
          have pz2 := gn (n := n) (k := k) (by omega)
          have z1 : br (n : Int) := jb (by omega)
          have z2 : br (j : Int) := jb (by omega)
          have z3 : br (k : Int) := jb (by omega)
          have j1 : (0 : Int) ≤ ((place n j : Nat) : Int) ∧ ((place n j : Nat) : Int) < 16 := by omega
          have j2 : (0 : Int) ≤ ((place n k : Nat) : Int) ∧ ((place n k : Nat) : Int) < 16 := by omega
          have hmo' := (qf4 hn.2 (by omega) hnx').1
          rw [← e1] at hmo'
          simp (maxSteps := 3000000) only [qg, zH, Zc, Bq, kz, bx, u6, j7, j8, u4, h2n, hli, hk0, hks, hx, hnl, hw, hw1, hsl, hpos, hcl, hcl1, hcl2, hgj, c1, c2, c3, z1, z2, z3, pz1, pz2, j1, j2, qq hmo, qb, hmo.1, hmo'.1, qt hmo.1, qt hmo'.1, zy hmo.1 hmo'.1, ze, lim, Zk, Option.map_some, Option.map_none, Nat.zero_add, Nat.zero_mul, Int.toNat_zero, Nat.mul_one, Nat.sub_zero, Int.toNat_natCast, and_self, iE, iN, iB, iC, iL, iD, iA, iS, iM, qa, zZ, ↓qo, ↓reduceIte, reduceCtorEq, nA, nM, nS, nE, nL, nD]; try simp only [qa, zY]
          repeat' refine And.intro (by first | rfl | exact ⟨_, rfl⟩) ?_
          refine ⟨_, qz.qx [0, 2, 3, 4, 5, 6, 7], ⟨k + 1, m', st1, cl, by omega, hnx', hcl2, htk1, ?_⟩, ?_⟩
          · simp only [zL, ↓reduceIte, reduceCtorEq, nE, nA]; rw [e1]
          · simp only [zL, ↓reduceIte, reduceCtorEq, nE, nA]; omega
      · rw [if_neg h41] at hnx
        cases hnx
  · have hli : ¬ (k : Int) < ((2 * n : Nat) : Int) := by omega
    have ek : k = 2 * n := by omega
    have hem : st = [] ∧ m = m0 := by
      rw [ek, h] at hrd
      cases hrd
      exact ⟨rfl, rfl⟩
    obtain ⟨e1, e2⟩ := hem
    subst e1 e2
    have hz0 : ((0 : Nat) : Int) = 0 := rfl
    simp (maxSteps := 3000000) only [qg, zH, Zc, Uq, kz, bx, u6, j7, j8, u4, h2n, hli, hz0, qb, hmo.1, qt hmo.1, zy qw hmo.1, ze, List.length_replicate, List.length_nil, Int.lt_irrefl, iE, iN, iB, iC, iL, iD, iA, iS, iM, qa, zZ, ↓qo, ↓reduceIte, reduceCtorEq, nA, nM, nS, nE, nL, nD]; try simp only [qa, zY]
    simp only [qe, Bool.and_self]
def u9 (n : Int) (L : List (List Nat)) : List AV := L.flatMap (dia n)
def okL (L : List (List Nat)) : Prop := ∀ m ∈ L, okD m
theorem xj {n : Int} : ∀ L : List (List Nat), AV.zb (u9 n L) = true
  | [] => rfl
  | t :: ts => by simp only [u9, List.flatMap_cons]; exact Bv _ _ (qe _ _) (xj ts)
theorem qce {n : Int} {m : List Nat} (h : okD m) : (dia n m).length = 17 := by rw [qb, h.1]
theorem Z5 {n : Int} : ∀ {L : List (List Nat)}, okL L → (u9 n L).length = L.length * 17
  | [], _ => rfl
  | t :: ts, h => by
    have := Z5 (n := n) (L := ts) fun u hu => h u (List.mem_cons_of_mem _ hu)
    unfold u9 at this ⊢
    simp only [List.flatMap_cons, List.length_append, qce (h t (by simp)), List.length_cons, this]
    omega
theorem qft {n : Int} : ∀ {L : List (List Nat)} {i : Nat}, okL L → (h : i < L.length) → List.take 17 (List.drop (i * 17) (u9 n L)) = dia n L[i]
  | t :: ts, 0, h, hi => by
    have := qce (n := n) (h t (by simp))
    simp only [u9, List.flatMap_cons, Nat.zero_mul, List.drop_zero, List.getElem_cons_zero]
    rw [List.take_append_of_le_length (by omega), List.take_of_length_le (by omega)]
  | t :: ts, i + 1, h, hi => by
    have h0 := qce (n := n) (h t (by simp))
    have h1 := qft (n := n) (L := ts) (i := i) (fun u hu => h u (List.mem_cons_of_mem _ hu)) (by simpa using hi)
    simp only [u9, List.flatMap_cons, List.getElem_cons_succ] at h1 ⊢
    rw [List.drop_append, List.drop_of_length_le (by omega), List.nil_append, h0, ← h1]
    congr 2; omega
theorem qvp {n : Int} {a b : List (List Nat)} : u9 n (a ++ b) = u9 n a ++ u9 n b := by simp [u9]
theorem qd9 {N : Nat} (h : 1 ≤ N ∧ N ≤ 6) : okL (qi N) := fun m hm => (Un h hm).2
theorem qqi {N : Nat} : (brs (2 * N) 0).length = (qi N).length := by simp [qi]
theorem qva {N i : Nat} (h : i < (brs (2 * N) 0).length) : (qi N)[i]'(by rw [← qqi]; exact h) = dOf (brs (2 * N) 0)[i] := by simp [qi]
theorem quu {l : List (List UInt8)} {i : Nat} (h : i < l.length) : (strs l)[i]? = some (.str l[i]) := by simp [strs, h]
noncomputable def Yb : List AV → Option AV
  | [.str s] => match rdS (s.length / 2) s s.length with
    | some (m, []) => chk (s.length % 2 = 0 ∧ 2 ≤ s.length ∧ s.length ≤ 16) (some (.tup [.agg (dia ((s.length / 2 : Nat) : Int) m), .bool true]))
    | _ => none
  | _ => none
theorem q06 : Am.Callee Try.prog 134 (qm Yb) := Am.Callee.plain fun xs v he => by
  unfold Yb at he
  split at he
  · rename_i s
    split at he
    · rename_i m hr
      obtain ⟨⟨h1, h2, h3⟩, he⟩ := ql he
      cases he
      have e : s.length = 2 * (s.length / 2) := by omega
      have hr' : rdS (s.length / 2) s (2 * (s.length / 2)) = some (m, []) := by rw [← e]; exact hr
      exact ⟨rfl, by simp only [AV.zl, AV.zb, qe, Bool.and_self], qku (s.length / 2) s m (by omega) e hr'⟩
    · cases he
  · cases he
theorem qr6 : Am.Callee Try.prog 133 (vr 14) := Kg 14 (by omega)
noncomputable def qzt : za := ((q43.put 134 (qm Yb)).put 133 (vr 14))
theorem qja : qn Try.prog qzt := ((q08.put (q06)).put (qr6))
theorem Qx : qzt 134 = some (qm Yb) := rfl
theorem Qa : qzt 133 = some (vr 14) := rfl
def V1 : AC := .seq (.seq (.region [oM 11 5,oM 12 3,o0 13 (.len .slc (.t 12)),oP 14 .lss 11 13]) (.cond 14 .skip (.exit 0))) (.seq (.block 1 (.seq (.region [oM 18 3,oM 19 5,oX 20 1 18 19,oL 21 20,oC 22 134 [.t 21],oM 17 22,oE 23 0 17,oE 24 1 17,oD 6,oS 17 6 23,oM 7 24]) (.region [oM 25 4,oN 26 17 6,o0 27 (.ga 1 [.int .i64 0,.int .u8 0,.int .u8 0,.int .u8 0,.int .u8 0,.int .u8 0,.int .u8 0,.int .u8 0,.int .u8 0,.int .u8 0,.int .u8 0,.int .u8 0,.int .u8 0,.int .u8 0,.int .u8 0,.int .u8 0,.int .u8 0] [(0,17,.t 26)]),o0 28 (.append 17 24 (.t 25) (.t 27)),oM 4 28]))) (.region [oM 15 5,oK 16 .add 15 1,oM 5 16]))
def Gp : AC := .seq (.region [oM 29 4,oM 2 29]) .ret
def qfu : AC := .seq (.region [o0 2 (.mov (.c (.v (.slice none 0 0))))]) (.seq (.region [oM 8 0,⟨some 9,none,.call (.c (.fn 133 [] [])) [(.c (.v (.slice none 0 0))),(.c (.str [])),(.c (.int .i64 0)),.t 8]⟩,o0 10 (.ga 0 [] []),oM 3 9,oM 4 10]) (.seq (.seq (.region [oI 5 0]) (.block 0 (.loop V1))) Gp))
theorem qpn : zr Try.prog 78 = some ⟨30, qfu, [.slot 2]⟩ := by kernel_rfl
theorem qoj (N : Nat) (hN : 1 ≤ N ∧ N ≤ 6) :
    Am.Fn Try.prog 78 [.int .i64 N] [] (fun v H' => v = .slc 0 0 (qi N).length false 0 ∧ H' = [.vec 17 (u9 N (qi N))]) := by
  refine Am.Fn.ofW qja mixed qpn (by simp [AV.qy, AV.under]) (by simp) ?_
  have hk : Ud 14 0 0 0 (N : Int) := by
    refine X8 (o := 0) (by omega) (by omega) ?_
    have : 2 ^ (0 + 2 * N) ≤ 2 ^ 12 := Nat.pow_le_pow_right (by omega) (by omega)
    omega
  have ht : txs [] 0 N = brs (2 * N) 0 := by simp [txs]
  simp (maxSteps := 3000000) only [qg, zH, qfu, Qx, Qa, Yb, vr, hk, ht, List.length_nil, Int.toNat_zero, Int.toNat_natCast, iE, iN, iB, iC, iL, iD, iA, iS, iM, qa, zZ, ↓qo, ↓reduceIte, reduceCtorEq, nA, nM, nS, nE, nL, nD]; try simp only [qa, zY]
  have hall := qqi (N := N)
  have hlen := Bm hN
  have hT : ∀ i (h : i < (brs (2 * N) 0).length), rdS N (brs (2 * N) 0)[i] (2 * N) = some (dOf (brs (2 * N) 0)[i], []) ∧ (brs (2 * N) 0)[i].length = 2 * N ∧ (qi N)[i]'(by rw [← hall]; exact h) = dOf (brs (2 * N) 0)[i] := fun i h => by
    have := q32 hN _ (List.getElem_mem h)
    exact ⟨this.1, this.2, qva h⟩
  have hL := qd9 hN
  generalize hTe : brs (2 * N) 0 = T at *
  refine WA.jn qja (fun t => ∃ i : Nat, i ≤ T.length ∧ t = ⟨[(0, .int .i64 N), (3, .slc 0 0 T.length false 0), (4, .slc 1 0 i false 0), (5, .int .i64 i)], [.vec 1 (strs T), .vec 17 (u9 N ((qi N).take i))]⟩)
    (fun t => match get t.env 5 with | .int _ x => T.length - x.toNat | _ => 0) ⟨_, qz.trans (qz.qx [0, 3, 4, 5]) (qz.vec 1 0 17 (by decide) rfl rfl ?_ ?_), 0, by omega, ?_⟩ ?_
  · simp only [qx, zj, zV, ↓reduceIte, nE, reduceCtorEq, nB]
  · simp only [vn _ _ (jy _), zV, ↓reduceIte, nE, reduceCtorEq, nB]
  · simp only [qx, zj, j5 _ _ _ (jy _), zV, ↓reduceIte, nE, reduceCtorEq, nB]; rfl
  rintro t ⟨i, hi, rfl⟩
  have hw : qu .i64 ((i : Int) + 1) = ((i + 1 : Nat) : Int) := by rw [wrap64 (by omega) (by omega)]; rfl
  by_cases hlt : i < T.length
  · have hli : (i : Int) < (T.length : Int) := by omega
    have hi0 : (0 : Int) ≤ (i : Int) := by omega
    obtain ⟨t1, t2, t3⟩ := hT i hlt
    have hg := quu hlt
    have hsl := qdh T
    have hia : i < (qi N).length := by omega
    have hmo := hL _ (List.getElem_mem hia)
    have hnx : u9 N ((qi N).take (i + 1)) = u9 N ((qi N).take i) ++ dia N (dOf T[i]) := by
      rw [List.take_succ_eq_append_getElem hia, qvp, t3]; simp [u9]
    rw [t3] at hmo
    have hdl : (u9 N ((qi N).take i)).length = i * 17 := by
      rw [Z5 (fun m hm => hL m (List.mem_of_mem_take hm)), List.length_take, Nat.min_eq_left (by omega)]
    have d2 : 2 * N / 2 = N := by omega
    have d3 : 2 * N % 2 = 0 ∧ 2 ≤ 2 * N ∧ 2 * N ≤ 16 := by omega
    generalize T[i] = s at hg t1 t2 hmo hnx
    generalize dOf s = m at t1 hmo hnx
    have hbd : (i + 1) * 24 ≤ 1099511627776 := by omega
    have hml := hmo.1
    have hs1 : src [.vec 1 (strs T), .vec 17 (u9 N ((qi N).take i)), .cells (dia N m), .cells (dia N m)] 17 (.slc 3 0 1 true 1) = some (1, dia N m) := by
      simp [src, rd, chk, qb, hml, qt hml]
    have htk : List.take (i * 17) (u9 N ((qi N).take i)) = u9 N ((qi N).take i) := List.take_of_length_le (by omega)
    simp (maxSteps := 3000000) only [qg, zH, V1, Qx, Qa, Yb, vr, hlt, hs1, htk, ← hnx, Nat.le_refl, hli, hi0, hg, hsl, t1, t2, d2, d3, hdl, hbd, hw, zn, qb, hml, qt hml, zy qw hml, ze, List.length_replicate, Nat.mul_one, and_self, iE, iN, iB, iC, iL, iD, iA, iS, iM, qa, zZ, ↓qo, ↓reduceIte, reduceCtorEq, nA, nM, nS, nE, nL, nD]; try simp only [qa, zY]
    refine ⟨_, qz.can [0, 3, 4, 5] (by simp only [z6 _ (jy _), z6 _ (xj _), U6, zC, nB, nD, nA, nE, ↓reduceIte, reduceCtorEq]; rfl), ⟨i + 1, by omega, ?_⟩, ?_⟩
    · simp only [qc _ _ (jy _), qc _ _ (xj _), zL, ↓reduceIte, reduceCtorEq, nE, nA]
    · simp only [zL, ↓reduceIte, reduceCtorEq, nE, nA]; omega
  · have hli : ¬ (i : Int) < (T.length : Int) := by omega
    have ei : i = T.length := by omega
    subst ei
    have hall2 : (qi N).take T.length = qi N := List.take_of_length_le (by omega)
    simp (maxSteps := 3000000) only [qg, zH, V1, Gp, Qx, Qa, Yb, vr, hli, hall2, Int.lt_irrefl, iE, iN, iB, iC, iL, iD, iA, iS, iM, qa, zZ, ↓qo, ↓reduceIte, reduceCtorEq, nA, nM, nS, nE, nL, nD]; try simp only [qa, zY]
    refine ⟨_, qz.refl _, Ret.ve [1] ⟨⟨by simp, rfl, by decide⟩, ?_⟩ (rs := [.slc 1 0 T.length false 0]) ?_ ?_ (by simp [xw]) ?_ ⟨?_, ?_⟩⟩
    · simp only [qk _ _ (xj _), zK, ↓reduceIte, reduceCtorEq, nE, nB, nA]
    · rfl
    · rfl
    · intro j l; cases j <;> simp [zi, AO.ren]
    · simp only [xw]
      simp only [hall, zL, ↓reduceIte, reduceCtorEq, nE, nA]
    · simp only [qc _ _ (xj _), zL, ↓reduceIte, reduceCtorEq, nE, nA]
noncomputable def Jp : List AV → Option (AV × List AO)
  | [.int .i64 n] => chk (1 ≤ n ∧ n ≤ 6) (some (.slc 0 0 (qi n.toNat).length false 0, [.vec 17 (u9 (n.toNat : Int) (qi n.toNat))]))
  | _ => none
theorem q5h : Am.Callee Try.prog 78 (Gk Jp) :=
  Am.Callee.new fun xs v H he => by
    unfold Jp at he
    split at he
    · rename_i n
      obtain ⟨h1, he⟩ := ql he
      obtain ⟨n, rfl⟩ : ∃ j : Nat, n = j := ⟨n.toNat, by omega⟩
      rw [Int.toNat_natCast] at he
      cases he
      exact ⟨rfl, qoj n (by omega)⟩
    · cases he
noncomputable def q2w : za := (qzt.put 78 (Gk Jp))
theorem qi7 : qn Try.prog q2w := (qja.put (q5h))
theorem gb : q2w 138 = some (qm y6) := rfl
open Classical in
noncomputable def qsp (l : List AV) : Option Nat := match l with
  | .int .i64 n :: _ => if (1 ≤ n.toNat ∧ n.toNat ≤ 6) ∧ l = u9 (n.toNat : Int) (qi n.toNat) then some n.toNat else none
  | _ => none
theorem qim {l : List AV} {N : Nat} (h : qsp l = some N) : (1 ≤ N ∧ N ≤ 6) ∧ l = u9 (N : Int) (qi N) := by
  unfold qsp at h
  split at h
  · split at h
    · rename_i hc
      cases h
      exact hc
    · cases h
  · cases h
theorem qlw {N : Nat} (hN : 1 ≤ N ∧ N ≤ 6) : qsp (u9 (N : Int) (qi N)) = some N := by
  have hl := (Bm hN).1
  cases e : qi N with
  | nil => rw [e] at hl; simp at hl
  | cons m l =>
    have : u9 (N : Int) (m :: l) = .int .i64 (N : Int) :: (u8s m ++ u9 (N : Int) l) := by simp [u9, dia]
    unfold qsp
    rw [this]
    simp only [Int.toNat_natCast]
    rw [if_pos ⟨hN, by rw [e, this]⟩]
def k9 : AC := .seq (.seq (.region [oM 11 5,oM 12 6,oP 13 .lss 11 12]) (.cond 13 .skip (.exit 0))) (.block 1 (.seq (.region [oM 14 5,oM 15 6,oP 16 .add 14 15,oK 17 .quo 16 2,oM 7 17]) (.seq (.draw false [oM 18 0,oM 19 7,oX 20 17 18 19,oN 21 17 20,oN 22 17 3,oC 23 138 [.t 21,.t 22]]) (.cond 23 (.region [oM 24 7,oK 25 .add 24 1,oM 5 25]) (.region [oM 26 7,oM 6 26])))))
def Yv : AC := .seq (.region [oM 27 5,oM 4 27]) .ret
def qal : AC := .seq (.region [o0 3 (.box (.t 1)),oI 4 0]) (.seq (.region [oM 8 0,o0 9 (.len .slc (.t 8)),oK 10 .sub 9 1,oI 5 0,oM 6 10]) (.seq (.block 0 (.loop k9)) Yv))
theorem qjz : zr Try.prog 82 = some ⟨28, qal, [.slot 4]⟩ := by kernel_rfl
theorem qi6 (N : Nat) (m : List Nat) (hN : 1 ≤ N ∧ N ≤ 6) (hm : m ∈ qi N) :
    Am.Fn Try.prog 82 [.slc 0 0 (qi N).length false 0, .agg (dia N m)] [.ro (u9 N (qi N))] (fun v H' => v = .int .i64 ((qi N).idxOf m : Nat) ∧ H' = [.ro (u9 N (qi N))]) := by
  refine Am.Fn.jd (R := fun v => v = _) qi7 mixed qjz (by simp [AV.qy, AV.under, qh _ _ (qe _ _)]) (ku (xj _)) ?_
  have hlen := Bm hN
  have hmo := (Un hN hm).2
  have hL := qd9 hN
  have hal := Z5 (n := (N : Int)) hL
  have hix : (qi N).idxOf m < (qi N).length := List.idxOf_lt_length_of_mem hm
  have hpl := fun j h => qpt hN hm (j := j) h
  have hgt := fun j h => qft (n := (N : Int)) hL (i := j) h
  have hw0 : qu .i64 (((qi N).length : Int) - 1) = (((qi N).length - 1 : Nat) : Int) := by rw [wrap64 (by omega) (by omega)]; omega
  generalize hI : (qi N).idxOf m = I at hix hpl ⊢
  generalize hA : qi N = A at *
  simp (maxSteps := 3000000) only [qg, zH, qal, gb, y6, hw0, iE, iN, iB, iC, iL, iD, iA, iS, iM, qa, zZ, ↓qo, ↓reduceIte, reduceCtorEq, nA, nM, nS, nE, nL, nD]; try simp only [qa, zY]
  refine WA.jn qi7 (fun s => ∃ lo hi : Nat, lo ≤ I ∧ I ≤ hi ∧ hi < A.length ∧ s = ⟨[(0, .slc 0 0 A.length false 0), (3, .ptr 1 0), (5, .int .i64 lo), (6, .int .i64 hi)], [.ro (u9 N A), .cells (dia N m)]⟩)
    (fun s => match get s.env 5, get s.env 6 with | .int _ x, .int _ y => y.toNat - x.toNat | _, _ => 0) ⟨_, qz.qx [0, 3, 5, 6], 0, A.length - 1, by omega, by omega, by omega, rfl⟩ ?_
  rintro s ⟨lo, hi, h1, h2, h3, rfl⟩
  by_cases hlt : lo < hi
  · have hli : (lo : Int) < (hi : Int) := by omega
    obtain ⟨mid, hmid⟩ : ∃ mid, mid = (lo + hi) / 2 := ⟨_, rfl⟩
    have w1 : qu .i64 ((lo : Int) + (hi : Int)) = ((lo + hi : Nat) : Int) := by rw [wrap64 (by omega) (by omega)]; omega
    have w2 : ((lo + hi : Nat) : Int).tdiv 2 = (mid : Int) := by rw [hmid]; exact (Int.ofNat_tdiv (lo + hi) 2).symm
    have w3 : qu .i64 (mid : Int) = (mid : Int) := wrap64 (by omega) (by omega)
    have w4 : qu .i64 ((mid : Int) + 1) = ((mid + 1 : Nat) : Int) := by rw [wrap64 (by omega) (by omega)]; rfl
    have b1 : (0 : Int) ≤ (mid : Int) := by omega
    have b2 : (mid : Int) < (A.length : Int) := by omega
    have b3 : mid * 17 < A.length * 17 := by omega
    have b4 : mid * 17 + 17 ≤ A.length * 17 := by omega
    have hmA : mid < A.length := by omega
    have g1 := hgt mid hmA
    have g2 := hpl mid hmA
    have o1 : okD A[mid] := hL _ (List.getElem_mem hmA)
    have n8 : (0 : Int) ≤ (N : Int) ∧ (N : Int) ≤ 8 := by omega
    by_cases hc : mid < I
    · rw [decide_eq_true hc] at g2
      simp (maxSteps := 3000000) only [qg, zH, k9, gb, y6, hli, w1, w2, w3, w4, b1, b2, b3, b4, hal, g1, g2, n8, qq o1, qq hmo, qb, hmo.1, qt hmo.1, Int.toNat_natCast, and_self, iE, iN, iB, iC, iL, iD, iA, iS, iM, qa, zZ, ↓qo, ↓reduceIte, reduceCtorEq, nA, nM, nS, nE, nL, nD]; try simp only [qa, zY]
      refine ⟨_, qz.qx [0, 3, 5, 6], ⟨mid + 1, hi, by omega, by omega, by omega, ?_⟩, ?_⟩
      · simp only [zL, ↓reduceIte, reduceCtorEq, nE, nA]
      · simp only [zL, ↓reduceIte, reduceCtorEq, nE, nA]; omega
    · rw [decide_eq_false hc] at g2
      simp (maxSteps := 3000000) only [qg, zH, k9, gb, y6, hli, w1, w2, w3, w4, b1, b2, b3, b4, hal, g1, g2, n8, qq o1, qq hmo, qb, hmo.1, qt hmo.1, Int.toNat_natCast, and_self, iE, iN, iB, iC, iL, iD, iA, iS, iM, qa, zZ, ↓qo, ↓reduceIte, reduceCtorEq, nA, nM, nS, nE, nL, nD]; try simp only [qa, zY]
      refine ⟨_, qz.qx [0, 3, 5, 6], ⟨lo, mid, by omega, by omega, by omega, ?_⟩, ?_⟩
      · simp only [zL, ↓reduceIte, reduceCtorEq, nE, nA]
      · simp only [zL, ↓reduceIte, reduceCtorEq, nE, nA]; omega
  · have hli : ¬ (lo : Int) < (hi : Int) := by omega
    obtain rfl : lo = I := by omega
    simp (maxSteps := 3000000) only [qg, zH, k9, Yv, gb, y6, hli, iE, iN, iB, iC, iL, iD, iA, iS, iM, qa, zZ, ↓qo, ↓reduceIte, reduceCtorEq, nA, nM, nS, nE, nL, nD]; try simp only [qa, zY]
    exact ⟨_, rfl⟩
noncomputable def ud : BE := fun hp xs => match xs with
  | [.slc b 0 k false 0, .agg d] => match rd hp b with
    | some l => match qsp l, ui d with
      | some N, some (n, m) => chk ((k = (qi N).length ∧ n = (N : Int)) ∧ m ∈ qi N) (some (.int .i64 ((qi N).idxOf m : Nat), hp))
      | _, _ => none
    | none => none
  | _ => none
theorem q5p : Am.Callee Try.prog 82 ud := Callee.fp fun hp xs v hp' he => by
  unfold ud at he
  split at he
  · rename_i b k d
    split at he
    · rename_i l hl
      split at he
      · rename_i N n m hN hd
        obtain ⟨⟨⟨k1, k2⟩, k3⟩, he⟩ := ql he
        simp only [Option.some.injEq, Prod.mk.injEq] at he
        obtain ⟨rfl, rfl⟩ := he
        obtain ⟨h1, rfl⟩ := qim hN
        obtain ⟨rfl, hm⟩ := zp hd
        subst k1 k2
        refine ⟨[(b, 0)], [.slc 0 0 (qi N).length false 0, .agg (dia N m)], _, _, _, qi6 N m h1 k3, by simp [AV.ren, AV.zh, ofL, qc _ _ (qe _ _)], rfl, ⟨⟨_, hl, by simp, by simp [qc _ _ (xj _)]⟩, trivial⟩, rfl, ⟨qh _ _ (xj _), trivial⟩, ⟨by simp [AV.under], qh _ _ (qe _ _), trivial⟩, by simp [AV.ren], ?_⟩
        simp [after, upd, AO.wr]
      · cases he
    · cases he
  · cases he
noncomputable def q0j : za := (q2w.put 82 (ud))
theorem Gh : qn Try.prog q0j := (qi7.put (q5p))
theorem zu : q0j 140 = some (qm jv) := rfl
theorem zx : q0j 82 = some (ud) := rfl
theorem qr1 {l l' l2 : List AV} (h : AV.zb l = true) (h' : AV.zb l' = true) (h2 : AV.zb l2 = true) : ∀ (j : Nat) (o : AO), [AO.ro l, AO.ro l', AO.ro l2][j]? = some o → o.under [AO.ro l, AO.ro l', AO.ro l2].length := by
  intro j o e
  match j, e with
  | 0, e => cases e; exact qh _ _ h
  | 1, e => cases e; exact qh _ _ h'
  | 2, e => cases e; exact qh _ _ h2
  | j + 3, e => simp at e
theorem qbf : ∀ (n : Nat), rep n [.int .i64 0] = u0 (List.replicate n 0)
  | 0 => rfl
  | n + 1 => by simp only [rep, qbf n, List.replicate_succ, u0, List.map_cons]; rfl
theorem qyq {p : Int} {L : List (List Nat)} {v : List Int} (hp : 0 < p) (h : ∀ x ∈ v, 0 ≤ x ∧ x ≤ p - 1) (m : List Nat) : 0 ≤ atR L v m ∧ atR L v m ≤ p - 1 := by
  unfold atR
  rw [List.getD_eq_getElem?_getD]
  cases e : v[L.idxOf m]? with
  | none => simp; omega
  | some x => exact h x (List.mem_of_getElem? e)
def Yy : AT := (.one (oM 46 2) (.one (oM 47 12) (.one (oX 48 17 46 47) (.one (oN 49 17 48) (.one (oM 50 2) (.one (oM 51 13) (.one (oX 52 17 50 51) (.one (oN 53 17 52) (.alt (oC 54 140 [.t 49,.t 53]) (.one (oM 45 54) (.one (oE 55 0 45) (.one (oE 56 1 45) (.one (oD 14) (.one (oS 17 14 55) (.one (oM 15 56) (.nil))))))) (.alt (oD 14) (.one (oC 54 140 [.t 49,.t 53]) (.one (oM 45 54) (.one (oE 55 0 45) (.one (oE 56 1 45) (.one (oS 17 14 55) (.one (oM 15 56) (.nil))))))) (.none)))))))))))
def Xr : AC := .seq (.seq (.region [oM 68 15,oK 69 .gtr 68 0]) (.cond 69 .skip (.exit 4))) (.seq (.block 5 (.region [oM 72 16,oM 73 1,oP 74 .mul 72 73,oM 75 0,oP 76 .rem 74 75,oM 16 76])) (.region [oM 70 15,oK 71 .sub 70 1,oM 15 71]))
def Uc : AC := .seq (.region [oM 77 2,oN 78 17 14,oC 79 82 [.t 77,.t 78],oM 17 79]) (.region [oM 80 11,oM 81 17,oM 82 11,oM 83 17,oX 84 1 82 83,oL 85 84,oM 86 16,oP 87 .add 85 86,oM 88 0,oP 89 .rem 87 88,oX 90 1 80 81,oT 90 89])
def Y3 : AC := .seq (.draw false [oM 57 3,oM 58 12,oX 59 1 57 58,oL 60 59,oM 61 4,oM 62 13,oX 63 1 61 62,oL 64 63,oP 65 .mul 60 64,oM 66 0,oP 67 .rem 65 66,oM 16 67]) (.seq (.block 4 (.loop Xr)) Uc)
def Xq : AC := .region [oM 38 13,oK 39 .add 38 1,oM 13 39]
def bh : AC := .seq (.seq (.region [oM 27 13,oM 28 2,o0 29 (.len .slc (.t 28)),oP 30 .lss 27 29,oM 31 30,oG 32 31 true (.mov (.t 3)),oG 33 31 true (.mov (.t 12)),oG 34 31 true (.Q9 1 (.t 32) (.t 33)),oG 35 31 true (.wy (.t 34)),oG 36 31 true (.bin .neq (.t 35) (.c (.int .i64 0))),o0 37 (.pick (.t 31) (.t 36) (.c (.bool false)))]) (.cond 37 .skip (.exit 2))) (.seq (.block 3 (.seq (.seq (.region [oM 40 4,oM 41 13,oX 42 1 40 41,oL 43 42,oK 44 .eql 43 0]) (.cond 44 (.exit 3) .skip)) (.seq (.tree false Yy) Y3))) Xq)
def Xn : AC := .region [oM 25 12,oK 26 .add 25 1,oM 12 26]
def Xi : AC := .seq (.seq (.region [oM 21 12,oM 22 2,o0 23 (.len .slc (.t 22)),oP 24 .lss 21 23]) (.cond 24 .skip (.exit 0))) (.seq (.block 1 (.seq (.region [oI 13 0]) (.block 2 (.loop bh)))) Xn)
def Y2 : AC := .seq (.region [oM 91 11,oM 10 91]) .ret
def qbe : AC := .seq (.region [o0 10 (.mov (.c (.v (.slice none 0 0))))]) (.seq (.region [oM 18 2,o0 19 (.len .slc (.t 18)),o0 20 (.kx 1 8 [.int .i64 0] (.t 19) (.t 19)),oM 11 20]) (.seq (.seq (.region [oI 12 0]) (.block 0 (.loop Xi))) Y2))
theorem qjy : zr Try.prog 85 = some ⟨92, qbe, [.slot 10]⟩ := by kernel_rfl
theorem qjc (p c : Int) (N : Nat) (v w : List Int) (hp : 2 ≤ p ∧ p ≤ 97) (hc : 0 ≤ c ∧ c ≤ p - 1) (hN : 1 ≤ N ∧ N ≤ 6) (hv : v.length = (qi N).length) (hw : w.length = (qi N).length) (bv : ∀ x ∈ v, 0 ≤ x ∧ x ≤ p - 1) (bw : ∀ x ∈ w, 0 ≤ x ∧ x ≤ p - 1) :
    Am.Fn Try.prog 85 [.int .i64 p, .int .i64 c, .slc 0 0 (qi N).length false 0, .slc 1 0 (qi N).length true (qi N).length, .slc 2 0 (qi N).length true (qi N).length] [.ro (u9 N (qi N)), .ro (u0 v), .ro (u0 w)]
      (fun r H' => r = .slc 3 0 (qi N).length true (qi N).length ∧ H' = [.ro (u9 N (qi N)), .ro (u0 v), .ro (u0 w), .cells (u0 (qcc p c N v w))]) := by
  refine Am.Fn.ofB Gh mixed qjy (by simp [AV.qy, AV.under]) (qr1 (xj _) (xc _) (xc _)) ?_
  have hlen := Bm hN
  have hL := qd9 hN
  have hal := Z5 (n := (N : Int)) hL
  have hgt := fun j h => qft (n := (N : Int)) hL (i := j) h
  have hls := qlw hN
  have hnd := Va hN
  have hrow := qrh hnd hv
  have hrow' := qrh hnd hw
  have h0 := qpl (p := p) (c := c) (N := N) (v := v) (w := w) (by omega)
  have hz1 : (0 : Int) ≤ ((qi N).length : Int) ∧ ((qi N).length : Int) ≤ ((qi N).length : Int) ∧ ((qi N).length : Int) * 8 ≤ 281474976710656 := by omega
  simp (maxSteps := 3000000) only [qg, zH, qbe, zu, zx, ud, jv, qbf, ← h0, Int.toNat_natCast, iE, iN, iB, iC, iL, iD, iA, iS, iM, qa, zZ, ↓qo, ↓reduceIte, reduceCtorEq, nA, nM, nS, nE, nL, nD]; try simp only [qa, zY]
  refine ⟨hz1, ?_⟩
  clear h0
  have hix : ∀ m, m ∈ qi N → (qi N).idxOf m < (qi N).length := fun m h => List.idxOf_lt_length_of_mem h
  refine WA.jn Gh (fun s => ∃ i : Nat, i ≤ (qi N).length ∧ s = ⟨[(0, .int .i64 p), (1, .int .i64 c), (2, .slc 0 0 (qi N).length false 0), (3, .slc 1 0 (qi N).length true (qi N).length), (4, .slc 2 0 (qi N).length true (qi N).length), (11, .slc 3 0 (qi N).length true (qi N).length), (12, .int .i64 i)], [.ro (u9 N (qi N)), .ro (u0 v), .ro (u0 w), .cells (u0 (Xc p c N v w i 0))]⟩)
    (fun s => match get s.env 12 with | .int _ x => (qi N).length - x.toNat | _ => 0) ⟨_, qz.qx [0, 1, 2, 3, 4, 11, 12], 0, by omega, rfl⟩ ?_
  rintro s ⟨i, hi, rfl⟩
  have hwi : qu .i64 ((i : Int) + 1) = ((i + 1 : Nat) : Int) := by rw [wrap64 (by omega) (by omega)]; rfl
  by_cases hlt : i < (qi N).length
  · have hli : (i : Int) < ((qi N).length : Int) := by omega
    have hi0 : (0 : Int) ≤ (i : Int) := by omega
    simp (maxSteps := 3000000) only [qg, zH, Xi, zu, zx, ud, jv, hli, iE, iN, iB, iC, iL, iD, iA, iS, iM, qa, zZ, ↓qo, ↓reduceIte, reduceCtorEq, nA, nM, nS, nE, nL, nD]; try simp only [qa, zY]
    refine WA.jn Gh (fun s => ∃ k : Nat, k ≤ (qi N).length ∧ s = ⟨[(0, .int .i64 p), (1, .int .i64 c), (2, .slc 0 0 (qi N).length false 0), (3, .slc 1 0 (qi N).length true (qi N).length), (4, .slc 2 0 (qi N).length true (qi N).length), (11, .slc 3 0 (qi N).length true (qi N).length), (12, .int .i64 i), (13, .int .i64 k)], [.ro (u9 N (qi N)), .ro (u0 v), .ro (u0 w), .cells (u0 (Xc p c N v w i k))]⟩)
      (fun s => match get s.env 13 with | .int _ x => (qi N).length - x.toNat | _ => 0) ⟨_, qz.qx [0, 1, 2, 3, 4, 11, 12, 13], 0, by omega, rfl⟩ ?_
    rintro s ⟨k, hk, rfl⟩
    have hwk : qu .i64 ((k : Int) + 1) = ((k + 1 : Nat) : Int) := by rw [wrap64 (by omega) (by omega)]; rfl
    have hvi : i < v.length := by omega
    have hla := yk v
    have hlb := yk w
    have bvi := qyq (L := qi N) (by omega) bv (qi N)[i]
    have avi : atR (qi N) v (qi N)[i] = v.getD i 0 := by unfold atR; rw [qi5 hnd hlt]
    by_cases hltk : k < (qi N).length
    · have hlk : (k : Int) < ((qi N).length : Int) := by omega
      have hk0 : (0 : Int) ≤ (k : Int) := by omega
      have hwk' : k < w.length := by omega
      by_cases hz : v.getD i 0 = 0
      · have hno := q1t (p := p) (c := c) (w := w) (k := k) hlt (avi.trans hz)
        simp (maxSteps := 3000000) only [qg, zH, bh, Xn, zu, zx, ud, jv, hlk, hli, hi0, hk0, hla, hlb, hvi, hwk', hz, hwi, hno, and_self, iE, iN, iB, iC, iL, iD, iA, iS, iM, qa, zZ, ↓qo, ↓reduceIte, reduceCtorEq, nA, nM, nS, nE, nL, nD]; try simp only [qa, zY]
        refine ⟨_, qz.qx [0, 1, 2, 3, 4, 11, 12], ⟨i + 1, by omega, ?_⟩, ?_⟩
        · simp only [zL, ↓reduceIte, reduceCtorEq, nE, nA]
        · simp only [zL, ↓reduceIte, reduceCtorEq, nE, nA]; omega
      · have hzb : (v.getD i 0 == 0) = false := beq_false_of_ne hz
        by_cases hzw : w.getD k 0 = 0
        · have awk : atR (qi N) w (qi N)[k] = 0 := by unfold atR; rw [qi5 hnd hltk]; exact hzw
          have hsk := quc (p := p) (c := c) (v := v) (i := i) hltk awk
          simp (maxSteps := 3000000) only [qg, zH, bh, Xq, zu, zx, ud, jv, hlk, hli, hi0, hk0, hla, hlb, hvi, hwk', hz, hzb, hzw, hwk, hsk, and_self, iE, iN, iB, iC, iL, iD, iA, iS, iM, qa, zZ, ↓qo, ↓reduceIte, reduceCtorEq, nA, nM, nS, nE, nL, nD]; try simp only [qa, zY]
          refine ⟨_, qz.qx [0, 1, 2, 3, 4, 11, 12, 13], ⟨k + 1, by omega, ?_⟩, ?_⟩
          · simp only [zL, ↓reduceIte, reduceCtorEq, nE, nA]
          · simp only [zL, ↓reduceIte, reduceCtorEq, nE, nA]; omega
        · have hzwb : (w.getD k 0 == 0) = false := beq_false_of_ne hzw
          have awk : atR (qi N) w (qi N)[k] = w.getD k 0 := by unfold atR; rw [qi5 hnd hltk]
          have bwk := qyq (L := qi N) (by omega) bw (qi N)[k]
          have g1 := hgt i hlt
          have g2 := hgt k hltk
          have o1 : okD (qi N)[i] := hL _ (List.getElem_mem hlt)
          have o2 : okD (qi N)[k] := hL _ (List.getElem_mem hltk)
          have s1 := (Un hN (List.getElem_mem hlt)).1
          have s2 := (Un hN (List.getElem_mem hltk)).1
          have hpr := qm9 s1 s2
          have hin : ja N (qi N)[i] (qi N)[k] ∈ qi N := qbc hpr.1 hpr.2.1
          have hput := fun x hx => qwn (p := p) (c := c) (v := v) (w := w) (x := x) hN hlt hltk hin hx
          have hiq := hix _ hin
          have hpo : okD (ja N (qi N)[i] (qi N)[k]) := (Un hN hin).2
          have hlp := qgi N (qi N)[i] (qi N)[k] N
          have b1 : i * 17 < (qi N).length * 17 := by omega
          have b2 : i * 17 + 17 ≤ (qi N).length * 17 := by omega
          have b3 : k * 17 < (qi N).length * 17 := by omega
          have b4 : k * 17 + 17 ≤ (qi N).length * 17 := by omega
          have hn0 : (0 : Int) ≤ (N : Int) := by omega
          have hq := q0a (p := p) (c := c) (N := N) (v := v) (w := w) (i := i) (k := k) (by omega) ((qi N).idxOf (ja N (qi N)[i] (qi N)[k]))
          have hpl := qxg (p := p) (c := c) (N := N) (v := v) (w := w) (i := i) (k := k)
          rw [avi, awk] at hput
          rw [avi] at bvi
          rw [awk] at bwk
          generalize hxe : v.getD i 0 = x at *
          generalize hye : w.getD k 0 = y at *
          generalize hm : ja N (qi N)[i] (qi N)[k] = m at *
          generalize hll : lpN N (qi N)[i] (qi N)[k] N = lp at *
          generalize hRn : Xc p c N v w i (k + 1) = R' at *
          generalize hRe : Xc p c N v w i k = R at *
          generalize hqi : (qi N).idxOf m = q at *
          obtain ⟨m1, m2, m3, m4⟩ := pow_mul (p := p) (c := y) (x := x) hp bwk bvi
          have hp0 : ¬ p = 0 := by omega
          simp (maxSteps := 3000000) only [qg, zH, bh, zu, zx, ud, jv, hlk, hli, hi0, hk0, hla, hlb, hvi, hwk', hxe, hye, hz, hzb, hzw, hzwb, and_self, iE, iN, iB, iC, iL, iD, iA, iS, iM, qa, zZ, ↓qo, ↓reduceIte, reduceCtorEq, nA, nM, nS, nE, nL, nD]; try simp only [qa, zY]
          refine WA.qvi Gh (fun s => s = ⟨[(0, .int .i64 p), (1, .int .i64 c), (2, .slc 0 0 (qi N).length false 0), (3, .slc 1 0 (qi N).length true (qi N).length), (4, .slc 2 0 (qi N).length true (qi N).length), (11, .slc 3 0 (qi N).length true (qi N).length), (12, .int .i64 i), (13, .int .i64 k), (14, .ptr 4 0), (15, .int .i64 lp)], [.ro (u9 N (qi N)), .ro (u0 v), .ro (u0 w), .cells (u0 R), .cells (dia N m)]⟩) ?_ ?_
          · unfold Yy
            simp (maxSteps := 3000000) only [qg, zH, qf0, qiu, zu, zx, ud, jv, hlk, hli, hi0, hk0, hal, b1, b2, b3, b4, g1, g2, qq o1, qq o2, s1, s2, hn0, hm, hll, zn, xy, yx hpr.2.1, qb, hpr.2.1, ze, Int.toNat_natCast, List.length_replicate, Nat.le_refl, and_self, iE, iN, iB, iC, iL, iD, iA, iS, iM, qa, zZ, ↓qo, ↓reduceIte, reduceCtorEq, nA, nM, nS, nE, nL, nD]; try simp only [qa, zY]
            repeat' first | (with_reducible exact ⟨_, rfl⟩) | (exact rfl) | (with_reducible refine And.intro ?_ ?_)
            all_goals exact ⟨_, qz.qx [0, 1, 2, 3, 4, 11, 12, 13, 14, 15], rfl⟩
          rintro s rfl
          simp (maxSteps := 3000000) only [qg, zH, Y3, zu, zx, ud, jv, hlk, hli, hi0, hk0, hla, hlb, hvi, hwk', hxe, hye, m1, m2, hp0, and_self, iE, iN, iB, iC, iL, iD, iA, iS, iM, qa, zZ, ↓qo, ↓reduceIte, reduceCtorEq, nA, nM, nS, nE, nL, nD]; try simp only [qa, zY]
          refine WA.jn Gh (fun s => ∃ j : Nat, j ≤ lp ∧ s = ⟨[(0, .int .i64 p), (1, .int .i64 c), (2, .slc 0 0 (qi N).length false 0), (3, .slc 1 0 (qi N).length true (qi N).length), (4, .slc 2 0 (qi N).length true (qi N).length), (11, .slc 3 0 (qi N).length true (qi N).length), (12, .int .i64 i), (13, .int .i64 k), (14, .ptr 4 0), (15, .int .i64 (lp - j : Nat)), (16, .int .i64 (((x * y).emod p * jk p c j).emod p))], [.ro (u9 N (qi N)), .ro (u0 v), .ro (u0 w), .cells (u0 R), .cells (dia N m)]⟩)
            (fun s => match get s.env 15 with | .int _ x => x.toNat | _ => 0) ⟨_, qz.qx [0, 1, 2, 3, 4, 11, 12, 13, 14, 15, 16], 0, by omega, ?_⟩ ?_
          · have e0 : ((x * y).emod p * jk p c 0).emod p = (x * y).emod p := by
              rw [show jk p c 0 = 1 from rfl, Int.mul_one]; exact Int.emod_emod_of_dvd _ (Int.dvd_refl p)
            rw [e0]; rfl
          rintro s ⟨j, hj, rfl⟩
          have bz := qjt (p := p) (by omega) ((x * y).emod p * jk p c j)
          by_cases hlj : j < lp
          · have hlj' : (0 : Int) < ((lp - j : Nat) : Int) := by omega
            have hwj : qu .i64 (((lp - j : Nat) : Int) - 1) = ((lp - (j + 1) : Nat) : Int) := by rw [wrap64 (by omega) (by omega)]; omega
            obtain ⟨n1, n2, n3, n4⟩ := pow_mul (p := p) (c := c) (x := ((x * y).emod p * jk p c j).emod p) hp hc bz
            have hst := qu6 (p := p) (c := c) (y := (x * y).emod p) (j := j)
            simp (maxSteps := 3000000) only [qg, zH, Xr, zu, zx, ud, jv, hlj', hwj, n1, n2, hst, hp0, and_self, iE, iN, iB, iC, iL, iD, iA, iS, iM, qa, zZ, ↓qo, ↓reduceIte, reduceCtorEq, nA, nM, nS, nE, nL, nD]; try simp only [qa, zY]
            refine ⟨_, qz.qx [0, 1, 2, 3, 4, 11, 12, 13, 14, 15, 16], ⟨j + 1, by omega, ?_⟩, ?_⟩
            · simp only [zL, ↓reduceIte, reduceCtorEq, nE, nA]
            · simp only [zL, ↓reduceIte, reduceCtorEq, nE, nA]; omega
          · have hlj' : ¬ (0 : Int) < ((lp - j : Nat) : Int) := by omega
            have ej : j = lp := by omega
            subst ej
            have hdv : p ∣ ((x * y).emod p * jk p c j).emod p - jk p c j * (x * y) := by
              obtain ⟨q1, hq1⟩ := Q6 p ((x * y).emod p * jk p c j)
              obtain ⟨q2, hq2⟩ := Q6 p (x * y)
              have e1 : (x * y).emod p = x * y + p * q2 := by omega
              refine ⟨q1 + q2 * jk p c j, ?_⟩
              have e2 : ((x * y).emod p * jk p c j).emod p = (x * y).emod p * jk p c j + p * q1 := by omega
              rw [e2, e1, Int.add_mul, Int.mul_add, Int.mul_assoc p, Int.mul_comm (jk p c j)]
              omega
            have hpt := hput _ hdv
            generalize ((x * y).emod p * jk p c j).emod p = z at *
            have hws : qu .i64 (R.getD q 0 + z) = R.getD q 0 + z := wrap64 (by omega) (by omega)
            have hts : (R.getD q 0 + z).tmod p = (R.getD q 0 + z).emod p := Int.tmod_eq_emod_of_nonneg (by omega)
            have hq0 : (0 : Int) ≤ (q : Int) := by omega
            have hqK : (q : Int) < ((qi N).length : Int) := by omega
            have hlr := yk R
            have hqR : q < R.length := by omega
            simp (maxSteps := 3000000) only [qg, zH, Xr, Uc, Xq, zu, zx, ud, jv, hlj', hls, qq hpo, hin, hqi, hq0, hqK, hlr, hpl, hiq, hws, hts, hpt, hwk, hp0, qen, qb, hpr.2.1, qt hpr.2.1, Int.toNat_natCast, Int.lt_irrefl, and_self, iE, iN, iB, iC, iL, iD, iA, iS, iM, qa, zZ, ↓qo, ↓reduceIte, reduceCtorEq, nA, nM, nS, nE, nL, nD]; try simp only [qa, zY]
            refine ⟨rfl, _, qz.can [0, 1, 2, 3, 4, 11, 12, 13] (by simp only [z6 _ (xj _), z6 _ (xc _), U6, zC, nB, nD, nA, nE, ↓reduceIte, reduceCtorEq]; rfl), ⟨k + 1, by omega, ?_⟩, ?_⟩
            · simp only [qc _ _ (xj _), qc _ _ (xc _), zL, ↓reduceIte, reduceCtorEq, nE, nA]
              rw [hRn]
            · simp only [zL, ↓reduceIte, reduceCtorEq, nE, nA]; omega
    · have hlk : ¬ (k : Int) < ((qi N).length : Int) := by omega
      have ek : k = (qi N).length := by omega
      subst ek
      have hrw := qlh (p := p) (c := c) (v := v) (w := w) hlt
      simp (maxSteps := 3000000) only [qg, zH, bh, Xn, zu, zx, ud, jv, hlk, hwi, hrw, Int.lt_irrefl, and_self, iE, iN, iB, iC, iL, iD, iA, iS, iM, qa, zZ, ↓qo, ↓reduceIte, reduceCtorEq, nA, nM, nS, nE, nL, nD]; try simp only [qa, zY]
      refine ⟨_, qz.qx [0, 1, 2, 3, 4, 11, 12], ⟨i + 1, by omega, ?_⟩, ?_⟩
      · simp only [zL, ↓reduceIte, reduceCtorEq, nE, nA]
      · simp only [zL, ↓reduceIte, reduceCtorEq, nE, nA]; omega
  · have hli : ¬ (i : Int) < ((qi N).length : Int) := by omega
    have ei : i = (qi N).length := by omega
    subst ei
    rw [qur]
    simp (maxSteps := 3000000) only [qg, zH, Xi, Y2, zu, zx, ud, jv, hli, Int.lt_irrefl, iE, iN, iB, iC, iL, iD, iA, iS, iM, qa, zZ, ↓qo, ↓reduceIte, reduceCtorEq, nA, nM, nS, nE, nL, nD]; try simp only [qa, zY]
    refine Ret.ve [0, 1, 2, 3] ⟨⟨by simp, rfl, by decide⟩, ?_⟩ (rs := [.slc 3 0 (qi N).length true (qi N).length]) ?_ ?_ (by simp [xw]) ?_ ⟨?_, ?_⟩
    · simp only [qk _ _ (xj _), qk _ _ (xc _), zK, ↓reduceIte, reduceCtorEq, nE, nB, nA]
    · rfl
    · rfl
    · intro j l
      match j with
      | 0 => simp [zi, AO.ren]
      | 1 => simp [zi, AO.ren]
      | 2 => simp [zi, AO.ren]
      | 3 => simp [zi, AO.ren]
      | j + 4 => simp [zi]
    · rfl
    · simp only [qc _ _ (xj _), qc _ _ (xc _), zL, ↓reduceIte, reduceCtorEq, nE, nA]
def qxa (p : Int) (v : List Int) : Prop := ∀ x ∈ v, 0 ≤ x ∧ x ≤ p - 1
instance {p : Int} {v : List Int} : Decidable (qxa p v) := inferInstanceAs (Decidable (∀ x ∈ v, _))
noncomputable def Jv : BE := fun hp xs => match xs with
  | [.int .i64 p, .int .i64 c, .slc bl 0 k false 0, .slc bv 0 k1 true c1, .slc bw 0 k2 true c2] => match rd hp bl, rd hp bv, rd hp bw with
    | some l, some lv, some lw => match qsp l, qnx lv, qnx lw with
      | some N, some v, some w => chk (((k = (qi N).length ∧ k1 = (qi N).length ∧ c1 = (qi N).length) ∧ k2 = (qi N).length ∧ c2 = (qi N).length) ∧ (v.length = (qi N).length ∧ w.length = (qi N).length) ∧ ((2 ≤ p ∧ p ≤ 97) ∧ (0 ≤ c ∧ c ≤ p - 1)) ∧ qxa p v ∧ qxa p w)
          (some (.slc hp.length 0 (qi N).length true (qi N).length, hp ++ [.cells (u0 (qcc p c N v w))]))
      | _, _, _ => none
    | _, _, _ => none
  | _ => none
theorem q39 : Am.Callee Try.prog 85 Jv := Callee.fp fun hp xs v hp' he => by
  unfold Jv at he
  split at he
  · rename_i p c bl k bv k1 c1 bw k2 c2
    split at he
    · rename_i l lv lw hl hlv hlw
      split at he
      · rename_i N v w hN hv hw
        obtain ⟨⟨⟨⟨a1, a2, a3⟩, a4, a5⟩, ⟨a6, a7⟩, ⟨a8, a9⟩, b1, b2⟩, he⟩ := ql he
        simp only [Option.some.injEq, Prod.mk.injEq] at he
        obtain ⟨rfl, rfl⟩ := he
        obtain ⟨h1, rfl⟩ := qim hN
        obtain rfl := qbz hv
        obtain rfl := qbz hw
        subst a1 a2 a3 a4 a5
        refine ⟨[(bl, 0), (bv, 0), (bw, 0)], [.int .i64 p, .int .i64 c, .slc 0 0 (qi N).length false 0, .slc 1 0 (qi N).length true (qi N).length, .slc 2 0 (qi N).length true (qi N).length], _, _, _,
          qjc p c N v w a8 a9 h1 a6 a7 b1 b2, by simp [AV.ren, AV.zh, ofL], rfl,
          ⟨⟨_, hl, by simp, by simp [qc _ _ (xj _)]⟩, ⟨_, hlv, by simp, by simp [qc _ _ (xc _)]⟩, ⟨_, hlw, by simp, by simp [qc _ _ (xc _)]⟩, trivial⟩, rfl,
          ⟨qh _ _ (xj _), qh _ _ (xc _), qh _ _ (xc _), trivial⟩, ⟨trivial, trivial, by simp [AV.under], by simp [AV.under], by simp [AV.under], trivial⟩, by simp [AV.ren, Ren.ext], ?_⟩
        simp [after, upd, AO.wr, AO.ren, qc _ _ (xc _)]
      · cases he
    · cases he
  · cases he
noncomputable def q4b : za := (q0j.put 85 (Jv))
theorem q1l : qn Try.prog q4b := (Gh.put (q39))
noncomputable def q4i : za := (q4b.put 87 (Ze))
theorem qz2 : qn Try.prog q4i := (q1l.put (q0l))
noncomputable def q4r : za := q4i
theorem qy8 : qn Try.prog q4r := qz2
noncomputable def q5l : za := q4r
theorem q1s : qn Try.prog q5l := qy8
noncomputable def q4g : za := q5l
theorem q0k : qn Try.prog q4g := q1s
noncomputable def qnc : za := q4g
theorem qan : qn Try.prog qnc := q0k
end Go.Proofs.Ytfhckbbgmblhbaa

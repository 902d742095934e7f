/- Contracts of functions of the program, and plain laws, part 5: each text of this part is proved without further condition. -/
import Derived.Test.YtfhckbbgmblhbaaZ4
import Derived.Test.YtfhckbbgmblhbaaZ1
namespace Go.Proofs.Ytfhckbbgmblhbaa
open Go.Am Go.Dia
open Nat renaming reduceAdd → nA, reduceMul → nM, reduceSub → nS, reduceEqDiff → nE, reduceLT → nL, reduceLeDiff → nD, reduceBEq → nB
open Int renaming reduceEq → iE, reduceNe → iN, reduceBEq → iB, reduceBNe → iC, reduceLT → iL, reduceLE → iD, reduceAdd → iA, reduceSub → iS, reduceMul → iM
set_option linter.unusedSimpArgs false
set_option linter.unusedVariables false
set_option maxRecDepth 4000
set_option maxHeartbeats 1000000
def qi3 (p x : Nat) : Nat → Nat
  | 0 => 1
  | k + 1 => qi3 p x k * x % p
def qy6 (a b : Bool) : Bool := cond a b (!b)
def qzr : Bool := (List.range 98).all fun p => !yd p || (List.range p).all fun x => Nat.beq x 0 || (List.range p).all fun k => qy6 (Nat.beq (k * x % p) 1) (Nat.beq k (qi3 p x (p - 2)))
theorem qq8 : qzr = true := by kernel_rfl
theorem qhw (p x : Nat) : ∀ k, vu p x k = (qi3 p x k : Nat)
  | 0 => rfl
  | k + 1 => by
    show (vu p x k * x).emod p = ((qi3 p x k * x % p : Nat) : Int)
    rw [qhw p x k, Int.natCast_emod, Int.natCast_mul]; rfl
theorem qwh {a b : Bool} (h : qy6 a b = true) : a = b := by cases a <;> cases b <;> simp_all [qy6]
noncomputable def jx (p x : Int) : Int := vu p x (p - 2).toNat
theorem Wv {p x : Int} (hp : yd p = true) (hx : 1 ≤ x ∧ x ≤ p - 1) : (1 ≤ jx p x ∧ jx p x ≤ p - 1) ∧ ∀ k : Int, 0 ≤ k → k < p → ((k * x).emod p = 1 ↔ k = jx p x) := by
  have hb := vi hp
  obtain ⟨P, rfl⟩ : ∃ P : Nat, p = P := ⟨p.toNat, by omega⟩
  obtain ⟨X, rfl⟩ : ∃ X : Nat, x = X := ⟨x.toNat, by omega⟩
  have h1 := List.all_eq_true.1 qq8 P (List.mem_range.2 (by omega))
  rw [hp, Bool.not_true, Bool.false_or] at h1
  have h2 := List.all_eq_true.1 h1 X (List.mem_range.2 (by omega))
  have hX0 : Nat.beq X 0 = false := by
    cases h : Nat.beq X 0 with
    | false => rfl
    | true => have := Nat.eq_of_beq_eq_true h; omega
  rw [hX0, Bool.false_or] at h2
  have h3 : ∀ k : Nat, k < P → (k * X % P = 1 ↔ k = qi3 P X (P - 2)) := fun k hk => by
    have h4 := qwh (List.all_eq_true.1 h2 k (List.mem_range.2 hk))
    constructor
    · intro h
      rw [h] at h4
      exact Nat.eq_of_beq_eq_true (h4.symm.trans rfl)
    · intro h
      rw [h, Nat.beq_refl] at h4
      rw [h]
      exact Nat.eq_of_beq_eq_true h4
  have e1 : jx P X = (qi3 P X (P - 2) : Nat) := by
    unfold jx
    rw [qhw]
    congr 2
    omega
  have hv : qi3 P X (P - 2) < P := by
    rcases Nat.eq_zero_or_pos (P - 2) with h | h
    · rw [h]; show 1 < P; omega
    · obtain ⟨j, hj⟩ : ∃ j, P - 2 = j + 1 := ⟨P - 3, by omega⟩
      rw [hj]
      exact Nat.mod_lt _ (by omega)
  have hv1 : 1 ≤ qi3 P X (P - 2) := by
    have := (h3 _ hv).2 rfl
    rcases Nat.eq_zero_or_pos (qi3 P X (P - 2)) with h | h
    · rw [h, Nat.zero_mul, Nat.zero_mod] at this; omega
    · exact h
  rw [e1]
  refine ⟨by omega, fun k hk hkp => ?_⟩
  obtain ⟨K, rfl⟩ : ∃ K : Nat, k = K := ⟨k.toNat, by omega⟩
  have h5 := h3 K (by omega)
  have h6 : ((K : Int) * X).emod P = ((K * X % P : Nat) : Int) := by rw [Int.natCast_emod, Int.natCast_mul]; rfl
  rw [h6]
  omega
theorem Jm : B95 75 = some (ql uz) := rfl
theorem Xa : B95 70 = some (ql j0) := rfl
def qco : AC := .seq (.region [oI 4 0]) (.seq (.region [oM 5 0,oM 6 1,oK 7 .sub 6 2,oM 8 1,oC 9 75 [.t 5,.t 7,.t 8],oM 4 9]) .ret)
theorem qme : zl Try.prog 72 = some ⟨10, qco, [.slot 4]⟩ := by kernel_rfl
theorem qk1 (p x : Int) (hp : yd p = true) (hx : 1 ≤ x ∧ x ≤ p - 1) : Am.Fn Try.prog 72 [.int .i64 x, .int .i64 p] [] (fun v H' => v = .int .i64 (jx p x) ∧ H' = []) := by
  refine Am.Fn.xy (R := fun v => v = _) qh8 mixed qme (by simp) (by simp) ?_
  have hb := vi hp
  have hw : qo .i64 (p - 2) = p - 2 := wrap64 (by omega) (by omega)
  have c1 : 0 ≤ x ∧ x ≤ p - 1 := by omega
  have c2 : 0 ≤ p - 2 ∧ p - 2 ≤ 1000000 := by omega
  have e : vu p x (p - 2).toNat = jx p x := rfl
  simp (maxSteps := 3000000) only [qf, zH, qco, Jm, Xa, uz, j0, hb, hw, c1, c2, e, and_self, iE, iN, iB, iC, iL, iD, iA, iS, iM, qa, zZ, ↓qt, ↓reduceIte, reduceCtorEq, nA, nM, nS, nE, nL, nD]; try simp only [qa, zY]
def Q4 : AC := .seq (.seq (.region [oM 6 5,oM 7 0,oP 8 .lss 6 7]) (.cond 8 .skip (.exit 0))) (.seq (.block 1 (.seq (.region [oM 11 5,oM 12 0,oM 13 1,oC 14 70 [.t 12,.t 13],oP 15 .mul 11 14,oM 16 0,oP 17 .rem 15 16,oK 18 .eql 17 1]) (.cond 18 (.seq (.region [oM 19 5,oM 4 19]) .ret) .skip))) (.region [oM 9 5,oK 10 .add 9 1,oM 5 10]))
def Kv : AC := .seq (.region [oI 4 0]) .ret
def Bs : AC := .seq (.region [oI 4 0]) (.seq (.seq (.region [oI 5 1]) (.block 0 (.loop Q4))) Kv)
theorem qen : zl Try.prog 67 = some ⟨20, Bs, [.slot 4]⟩ := by kernel_rfl
theorem qeh (p x : Int) (hp : yd p = true) (hx : 1 ≤ x ∧ x ≤ p - 1) : Am.Fn Try.prog 67 [.int .i64 p, .int .i64 x] [] (fun v H' => v = .int .i64 (jx p x) ∧ H' = []) := by
  refine Am.Fn.xy (R := fun v => v = _) qh8 mixed qen (by simp) (by simp) ?_
  have hb := vi hp
  obtain ⟨⟨hv1, hv2⟩, hch⟩ := Wv hp hx
  have hm : x.emod p = x := Int.emod_eq_of_lt (by omega) (by omega)
  have hp0 : 0 < p ∧ p ≤ 1000000 := by omega
  have hpne : p ≠ 0 := by omega
  simp (maxSteps := 3000000) only [qf, zH, Bs, iE, iN, iB, iC, iL, iD, iA, iS, iM, qa, zZ, ↓qt, ↓reduceIte, reduceCtorEq, nA, nM, nS, nE, nL, nD]; try simp only [qa, zY]
  refine WA.jl qh8 (fun s => ∃ k : Nat, 1 ≤ k ∧ (k : Int) ≤ jx p x ∧ s = ⟨[(0, .int .i64 p), (1, .int .i64 x), (5, .int .i64 k)], []⟩)
    (fun s => match get s.env 5 with | .int _ k => 100 - k.toNat | _ => 0) ⟨_, qv.qy [0, 1, 5], 1, by omega, hv1, rfl⟩ ?_
  rintro s ⟨k, hk1, hk2, rfl⟩
  have hli : (k : Int) < p := by omega
  have h0 : 0 ≤ (k : Int) * x := Int.mul_nonneg (by omega) (by omega)
  have h1 : (k : Int) * x ≤ 96 * 96 := Int.mul_le_mul (by omega) (by omega) (by omega) (by omega)
  have hw1 : qo .i64 ((k : Int) * x) = (k : Int) * x := wrap64 (by omega) (by omega)
  have ht : Int.tmod ((k : Int) * x) p = ((k : Int) * x).emod p := Int.tmod_eq_emod_of_nonneg h0
  have hw : qo .i64 ((k : Int) + 1) = ((k + 1 : Nat) : Int) := by rw [wrap64 (by omega) (by omega)]; rfl
  have hc := hch k (by omega) hli
  by_cases he : (k : Int) = jx p x
  · have h2 := hc.2 he
    simp (maxSteps := 3000000) only [qf, zH, Q4, Jm, Xa, uz, j0, hli, hp0, hm, hw1, ht, hpne, h2, iE, iN, iB, iC, iL, iD, iA, iS, iM, qa, zZ, ↓qt, ↓reduceIte, reduceCtorEq, nA, nM, nS, nE, nL, nD]; try simp only [qa, zY]
    rw [he]
  · have h2 : ¬ ((k : Int) * x).emod p = 1 := fun h => he (hc.1 h)
    simp (maxSteps := 3000000) only [qf, zH, Q4, Jm, Xa, uz, j0, hli, hp0, hm, hw1, ht, hpne, h2, hw, iE, iN, iB, iC, iL, iD, iA, iS, iM, qa, zZ, ↓qt, ↓reduceIte, reduceCtorEq, nA, nM, nS, nE, nL, nD]; try simp only [qa, zY]
    refine ⟨_, qv.qy [0, 1, 5], ⟨k + 1, by omega, by omega, rfl⟩, ?_⟩
    simp only [zL, ↓reduceIte, reduceCtorEq, nE, nA]; omega
def okI (p x : Int) : Prop := yd p = true ∧ 1 ≤ x ∧ x ≤ p - 1
instance (p x : Int) : Decidable (okI p x) := by unfold okI; infer_instance
noncomputable def vk : List AV → Option AV
  | [.int .i64 p, .int .i64 x] => chk (okI p x) (some (.int .i64 (jx p x)))
  | _ => none
noncomputable def vj : List AV → Option AV
  | [.int .i64 x, .int .i64 p] => chk (okI p x) (some (.int .i64 (jx p x)))
  | _ => none
theorem qzw : Am.Callee Try.prog 67 (ql vk) := Am.Callee.plain fun xs v he => by
  unfold vk at he
  split at he
  · rename_i p x
    obtain ⟨⟨h1, h2⟩, he⟩ := qk he
    cases he
    exact ⟨rfl, rfl, qeh p x h1 h2⟩
  · cases he
theorem qyu : Am.Callee Try.prog 72 (ql vj) := Am.Callee.plain fun xs v he => by
  unfold vj at he
  split at he
  · rename_i x p
    obtain ⟨⟨h1, h2⟩, he⟩ := qk he
    cases he
    exact ⟨rfl, rfl, qk1 p x h1 h2⟩
  · cases he
noncomputable def qgl : zh := ((B95.put 67 (ql vk)).put 72 (ql vj))
theorem K9 : qq Try.prog qgl := ((qh8.put (qzw)).put (qyu))
def brs : Nat → Nat → List (List UInt8)
  | 0, o => if o = 0 then [[]] else []
  | r + 1, o => (brs r (o + 1)).map (40 :: ·) ++ (if 0 < o then (brs r (o - 1)).map (41 :: ·) else [])
theorem qj2 {s : List UInt8} {k : Nat} (h : parts s k = none) : ∀ j, parts s (k + j) = none
  | 0 => h
  | j + 1 => by
    show parts s ((k + j) + 1) = none
    simp only [parts, qj2 h j]
theorem qhk {s : List UInt8} {o0 : List Nat} (hL : parts s s.length = some (o0, [])) : ∀ (r k : Nat) (out st : List Nat), k + r = s.length → parts s k = some (out, st) → s.drop k ∈ brs r st.length
  | 0, k, out, st, hk, h => by
    obtain rfl : k = s.length := by omega
    rw [hL] at h
    cases h
    rw [List.drop_length]
    simp [brs]
  | r + 1, k, out, st, hk, h => by
    have hlt : k < s.length := by omega
    have hd : s.drop k = s.getD k 0 :: s.drop (k + 1) := by
      rw [List.drop_eq_getElem_cons hlt, List.getD_eq_getElem?_getD, List.getElem?_eq_getElem hlt]; rfl
    cases h1 : parts s (k + 1) with
    | none =>
      have := qj2 h1 (s.length - (k + 1))
      rw [show k + 1 + (s.length - (k + 1)) = s.length by omega, hL] at this
      cases this
    | some q =>
      obtain ⟨out', st'⟩ := q
      have ih := qhk hL r (k + 1) out' st' (by omega) h1
      rw [hd]
      simp only [parts, h] at h1
      simp only [brs, List.mem_append]
      split at h1
      · rename_i h40
        cases h1
        rw [h40]
        exact .inl (List.mem_map.2 ⟨_, ih, rfl⟩)
      · split at h1
        · rename_i h41
          rw [h41]
          split at h1
          · cases h1
          · cases h1
            rename_i i st'
            right
            rw [if_pos (by simp)]
            exact List.mem_map.2 ⟨_, by simpa using ih, rfl⟩
        · cases h1
theorem qtf {n : Nat} {m : List Nat} (h : isS n m = true) (hm : m.length = 16) : wi n m ∈ brs (2 * n) 0 := by
  rw [Kq n m hm] at h
  simp only [isI, Bool.and_eq_true, beq_iff_eq] at h
  have h1 := h.2.2
  unfold qa3 at h1
  split at h1
  · split at h1
    · rename_i out ho
      have := qhk ho (2 * n) 0 _ _ (by rw [kd]; omega) rfl
      simpa using this
    · cases h1
  · cases h1
theorem qhi {α : Type} [DecidableEq α] : ∀ {l m : List α}, l.Nodup → (∀ x ∈ l, x ∈ m) → l.length ≤ m.length
  | [], m, _, _ => by simp
  | x :: l, m, h, hs => by
    have h1 := List.nodup_cons.1 h
    have hx := hs x (by simp)
    have ih := qhi (m := m.erase x) h1.2 fun y hy => by
      have : y ≠ x := fun e => h1.1 (e ▸ hy)
      exact (List.mem_erase_of_ne this).2 (hs y (by simp [hy]))
    rw [List.length_erase_of_mem hx] at ih
    have := List.length_pos_of_mem hx
    simp only [List.length_cons]; omega
def qy0 : Bool := (List.range 7).all fun n => Nat.ble (brs (2 * n) 0).length 132
theorem qq4 : qy0 = true := by kernel_rfl
theorem qs5 {p n : Int} {L : List (Int × List Nat × Int)} (h : xa p n L) (hn : 0 ≤ n ∧ n ≤ 6) : L.length ≤ 132 := by
  have h1 : (L.map txt).Nodup := List.pairwise_map.2 (h.up.imp fun {a b} hlt e => by
    unfold ltT at hlt
    rw [e] at hlt
    have : Op.bytesLess (txt b) (txt b) = false := by
      generalize txt b = s
      induction s with
      | nil => rfl
      | cons x s ih => simp [Op.bytesLess, ih]
    rw [this] at hlt; cases hlt)
  have h2 := qhi h1 (m := brs (2 * n.toNat) 0) fun x hx => by
    obtain ⟨t, ht, rfl⟩ := List.mem_map.1 hx
    have h3 := h.dia t ht
    have h4 := qtf h3.2 (h.ok t ht).1
    unfold txt
    rwa [h3.1]
  rw [List.length_map] at h2
  have h3 := List.all_eq_true.1 qq4 n.toNat (List.mem_range.2 (by omega))
  have h4 := Nat.le_of_ble_eq_true h3
  omega
def qmy (H : List AO) (X : AV) (w : List Int) : Prop :=
  (X = .v (.slice none 0 0) ∧ H = [] ∧ w = []) ∨ (X = .slc 0 0 0 true 0 ∧ H = [.dead] ∧ w = []) ∨ ∃ cap, X = .slc 0 0 w.length true cap ∧ w.length ≤ cap ∧ H = [.ro (xm w)]
def Gs : List AV → Option (List Int)
  | [] => some []
  | .int .i64 x :: l => match Gs l with
    | some w => some (x :: w)
    | none => none
  | _ => none
theorem ur : ∀ w, Gs (xm w) = some w
  | [] => rfl
  | x :: w => by
    have := ur w
    simp only [xm, List.map_cons] at this ⊢
    simp only [Gs, this]
theorem wj : ∀ {l : List AV} {w : List Int}, Gs l = some w → l = xm w
  | [], w, h => by cases h; rfl
  | x :: l, w, h => by
    unfold Gs at h
    split at h
    · rename_i e; cases e
    · rename_i y l' e
      cases e
      split at h
      · rename_i w' hw
        cases h
        rw [wj hw]; rfl
      · cases h
    · cases h
def qjz (hp : List AO) (X : AV) : Option (List Int) := match X with
  | .v (.slice none 0 0) => some []
  | .slc b 0 n true cap => match hp[b]? with
    | some .dead => if n = 0 ∧ cap = 0 then some [] else none
    | some (.ro l) => match Gs l with
      | some w => if n = w.length ∧ n ≤ cap then some w else none
      | none => none
    | _ => none
  | _ => none
theorem qoj {hp : List AO} {X : AV} {w : List Int} (h : qjz hp X = some w) : ∃ (bs : List (Nat × Nat)) (H : List AO) (X' : AV), qmy H X' w ∧ X'.ren (ofL bs) = X ∧ x8 X = true ∧ Bw hp (ofL bs) bs H ∧
    Xm bs H = true ∧ AO.K5 H.length H ∧ X'.under H.length ∧ (∀ o ∈ H, o.wr = false) ∧ (∀ bs', after ⟨[], hp⟩ (ofL bs) bs H (H ++ bs') = hp ++ bs'.map (AO.ren ((ofL bs).ext H.length hp.length))) := by
  unfold qjz at h
  split at h
  · cases h
    exact ⟨[], [], .v (.slice none 0 0), .inl ⟨rfl, rfl, rfl⟩, rfl, rfl, trivial, rfl, trivial, trivial, by simp, fun bs' => by simp [after, upd]⟩
  · rename_i b n cap
    split at h
    · rename_i hb
      split at h
      · rename_i h0
        cases h
        obtain ⟨rfl, rfl⟩ := h0
        refine ⟨[(b, 0)], [.dead], .slc 0 0 0 true 0, .inr (.inl ⟨rfl, rfl, rfl⟩), by simp [AV.ren, ofL], rfl, ⟨(List.getElem?_eq_some_iff.1 hb).1, trivial⟩, rfl, ⟨trivial, trivial⟩, by simp [AV.under], by simp [AO.wr], fun bs' => ?_⟩
        simp [after, upd, AO.wr]
      · cases h
    · rename_i l hb
      split at h
      · rename_i w' hw
        split at h
        · rename_i h0
          cases h
          have hl := wj hw
          subst hl
          obtain ⟨rfl, h0⟩ := h0
          refine ⟨[(b, 0)], [.ro (xm w)], .slc 0 0 w.length true cap, .inr (.inr ⟨cap, rfl, h0, rfl⟩), by simp [AV.ren, ofL], rfl, ⟨⟨xm w, by simp [rd, hb], by simp, by simp [qb _ _ (qn _)]⟩, trivial⟩, rfl, ⟨qi _ _ (qn _), trivial⟩, by simp [AV.under], by simp [AO.wr], fun bs' => ?_⟩
          simp [after, upd, AO.wr]
        · cases h
      · cases h
    · cases h
  · cases h
theorem Ko {H : List AO} {X : AV} {w : List Int} (h : qmy H X w) : ∀ (j : Nat) (o' : AO), H[j]? = some o' → o'.under H.length := by
  intro j o' hj
  rcases h with ⟨_, rfl, _⟩ | ⟨_, rfl, _⟩ | ⟨cap, _, _, rfl⟩
  · simp at hj
  · cases j with
    | succ j => simp at hj
    | zero => cases hj; trivial
  · cases j with
    | succ j => simp at hj
    | zero => cases hj; exact qi _ _ (qn _)
theorem qtd {H : List AO} {X : AV} {w : List Int} (h : qmy H X w) (rest : List AO) : qjz (H ++ rest) X = some w := by
  rcases h with ⟨rfl, rfl, rfl⟩ | ⟨rfl, rfl, rfl⟩ | ⟨cap, rfl, hc, rfl⟩
  · rfl
  · rfl
  · simp only [qjz, List.cons_append, List.nil_append, List.getElem?_cons_zero, ur, hc, and_self, if_true]
theorem qhq : ∀ n, rep n [AV.int .i64 0] = xm (List.replicate n 0)
  | 0 => rfl
  | n + 1 => by rw [rep, qhq n, List.replicate_succ]; rfl
def um : AC := .seq (.seq (.region [oM 8 4,oM 9 0,o0 10 (.len .slc (.t 9)),oP 11 .lss 8 10]) (.cond 11 .skip (.exit 0))) (.seq (.block 1 (.region [oM 14 3,oM 15 4,oM 16 0,oM 17 4,oX 18 1 16 17,oL 19 18,oX 20 1 14 15,oT 20 19])) (.region [oM 12 4,oK 13 .add 12 1,oM 4 13]))
def kl : AC := .seq (.region [oM 21 3,oM 2 21]) .ret
def X5 : AC := .seq (.region [o0 2 (.mov (.c (.v (.slice none 0 0))))]) (.seq (.region [oM 5 0,o0 6 (.len .slc (.t 5)),o0 7 (.Vn 1 8 [.int .i64 0] (.t 6) (.t 6)),oM 3 7]) (.seq (.seq (.region [oI 4 0]) (.block 0 (.loop um))) kl))
theorem qjd : zl Try.prog 20 = some ⟨22, X5, [.slot 2]⟩ := by kernel_rfl
theorem qov (H : List AO) (X : AV) (w : List Int) (h : qmy H X w) (hl : w.length ≤ 2000000) :
    Am.Fn Try.prog 20 [X] H (fun v H' => v = .slc H.length 0 w.length false 0 ∧ H' = H ++ [.vec 1 (xm w)]) := by
  refine Am.Fn.ofW Ks mixed qjd (by simp) (Ko h) ?_
  rcases h with ⟨rfl, rfl, rfl⟩ | ⟨rfl, rfl, rfl⟩ | ⟨cap, rfl, hc, rfl⟩
  · simp (maxSteps := 3000000) only [qf, zH, X5, iE, iN, iB, iC, iL, iD, iA, iS, iM, bx, qca, List.length_nil, Int.toNat_zero, rep, qa, zZ, ↓qt, ↓reduceIte, reduceCtorEq, nA, nM, nS, nE, nL, nD]; try simp only [qa, zY]
    refine ⟨by decide, WA.jl Ks (fun s => s = ⟨[(4, .int .i64 0), (3, .slc 0 0 0 true 0), (0, .v (.slice none 0 0))], [.cells []]⟩) (fun _ => 0) ⟨_, qv.qy [4, 3, 0], rfl⟩ ?_⟩
    rintro s rfl
    simp (maxSteps := 3000000) only [qf, zH, um, kl, iE, iN, iB, iC, iL, iD, iA, iS, iM, bx, qca, List.length_nil, qa, zZ, ↓qt, ↓reduceIte, reduceCtorEq, nA, nM, nS, nE, nL, nD]; try simp only [qa, zY]
    refine ⟨_, qv.trans (qv.qy [2]) (qv.vec 0 0 1 (by decide) rfl rfl rfl rfl), ?_⟩
    refine Ret.xj [0] ⟨⟨by simp, rfl, by decide⟩, ?_⟩ (rs := [.slc 0 0 0 false 0]) rfl rfl (by simp [zx]) ?_ ⟨?_, ?_⟩
    · simp only [qy, zn, zV, ↓reduceIte, nE, reduceCtorEq, nB]
      simp only [zK, ↓reduceIte, reduceCtorEq, nE, nB, nA]
    · intro j l; match j with
      | 0 => simp [q6, Wn, AO.zu, AO.ren]
      | j + 1 => simp [q6]
    · simp only [zx]
      simp only [zL, ↓reduceIte, reduceCtorEq, nE, nA]
    · rfl
  · simp (maxSteps := 3000000) only [qf, zH, X5, iE, iN, iB, iC, iL, iD, iA, iS, iM, bx, qca, List.length_nil, Int.toNat_zero, rep, qa, zZ, ↓qt, ↓reduceIte, reduceCtorEq, nA, nM, nS, nE, nL, nD]; try simp only [qa, zY]
    refine ⟨by decide, WA.jl Ks (fun s => s = ⟨[(4, .int .i64 0), (3, .slc 1 0 0 true 0), (0, .slc 0 0 0 true 0)], [.dead, .cells []]⟩) (fun _ => 0) ⟨_, qv.qy [4, 3, 0], rfl⟩ ?_⟩
    rintro s rfl
    simp (maxSteps := 3000000) only [qf, zH, um, kl, iE, iN, iB, iC, iL, iD, iA, iS, iM, bx, qca, List.length_nil, qa, zZ, ↓qt, ↓reduceIte, reduceCtorEq, nA, nM, nS, nE, nL, nD]; try simp only [qa, zY]
    refine ⟨_, qv.trans (qv.qy [2]) (qv.vec 1 0 1 (by decide) rfl rfl rfl rfl), ?_⟩
    refine Ret.xj [0, 1] ⟨⟨by simp, rfl, by decide⟩, ?_⟩ (rs := [.slc 1 0 0 false 0]) rfl rfl (by simp [zx]) ?_ ⟨?_, ?_⟩
    · simp only [qy, zn, zV, ↓reduceIte, nE, reduceCtorEq, nB]
      simp only [zK, ↓reduceIte, reduceCtorEq, nE, nB, nA]
    · intro j l; match j with
      | 0 => simp [q6, Wn, AO.zu, AO.ren]
      | 1 => simp [q6, Wn, AO.zu, AO.ren]
      | j + 2 => simp [q6]
    · simp only [zx]
      simp only [zL, ↓reduceIte, reduceCtorEq, nE, nA]
    · rfl
  · simp (maxSteps := 3000000) only [qf, zH, X5, iE, iN, iB, iC, iL, iD, iA, iS, iM, bx, hc, List.length_nil, qhq, qa, zZ, ↓qt, ↓reduceIte, reduceCtorEq, nA, nM, nS, nE, nL, nD]; try simp only [qa, zY]
    refine ⟨⟨by omega, by omega, by omega⟩, WA.jl Ks (fun s => ∃ (i : Nat) (us : List Int), i ≤ w.length ∧ us = w.take i ++ List.replicate (w.length - i) 0 ∧ s = ⟨[(4, .int .i64 i), (3, .slc 1 0 w.length true w.length), (0, .slc 0 0 w.length true cap)], [.ro (xm w), .cells (xm us)]⟩)
      (fun s => match get s.env 4 with | .int _ x => w.length - x.toNat | _ => 0) ⟨_, qv.qy [4, 3, 0], 0, _, by omega, by simp, rfl⟩ ?_⟩
    rintro s ⟨i, us, hi, hus, rfl⟩
    have hul : us.length = w.length := by rw [hus]; simp; omega
    have hal := xg w
    have hbl := xg us
    have hw : qo .i64 ((i : Int) + 1) = ((i + 1 : Nat) : Int) := by rw [wrap64 (by omega) (by omega)]; rfl
    by_cases hlt : i < w.length
    · have hget : w.getD i 0 = w[i] := by simp [hlt]
      have hset : us.set i w[i] = w.take (i + 1) ++ List.replicate (w.length - (i + 1)) 0 := by
        rw [hus, List.set_append_right _ _ (by rw [List.length_take]; omega), List.length_take, Nat.min_eq_left hi, Nat.sub_self, show w.length - i = (w.length - (i + 1)) + 1 by omega, List.replicate_succ, List.set_cons_zero, List.take_succ_eq_append_getElem hlt, List.append_assoc]
        rfl
      have hst : (xm us).set i (.int .i64 w[i]) = xm (us.set i w[i]) := qva
      have hli : ((i : Int) < (w.length : Int)) := by omega
      have hli' : (0 : Int) ≤ i := by omega
      simp (maxSteps := 3000000) only [qf, zH, um, iE, iN, iB, iC, iL, iD, iA, iS, iM, bx, hc, hw, hal, hbl, hul, hget, hst, hlt, hli, hli', AV.one, and_self, qa, zZ, ↓qt, ↓reduceIte, reduceCtorEq, nA, nM, nS, nE, nL, nD]; try simp only [qa, zY]
      refine ⟨_, qv.qy [4, 3, 0], ⟨i + 1, us.set i w[i], by omega, hset, ?_⟩, ?_⟩
      · simp only [zL, ↓reduceIte, reduceCtorEq, nE, nA]
      · simp only [zL, ↓reduceIte, reduceCtorEq, nE, nA]; omega
    · have hi' : i = w.length := by omega
      subst hi'
      have hu : us = w := by rw [hus]; simp
      subst hu
      simp (maxSteps := 3000000) only [qf, zH, um, kl, iE, iN, iB, iC, iL, iD, iA, iS, iM, bx, hc, Int.lt_irrefl, qa, zZ, ↓qt, ↓reduceIte, reduceCtorEq, nA, nM, nS, nE, nL, nD]; try simp only [qa, zY]
      refine ⟨_, qv.trans (qv.qy [2]) (qv.vec 1 us.length 1 (by decide) rfl (by rw [hal]; omega) rfl ?_), ?_⟩
      · simp only [zV, ↓reduceIte, nE, reduceCtorEq, nB]
      refine Ret.xj [0, 1] ⟨⟨by simp, rfl, by decide⟩, ?_⟩ (rs := [.slc 1 0 us.length false 0]) ?_ rfl (by simp [zx]) ?_ ⟨?_, ?_⟩
      · simp only [qy, zn, zV, ↓reduceIte, nE, reduceCtorEq, nB]
        simp only [zK, ↓reduceIte, reduceCtorEq, nE, nB, nA]
      · simp only [qy, zn, zV, ↓reduceIte, nE, reduceCtorEq, nB]
        rfl
      · intro j l; match j with
        | 0 => exact fun _ => ⟨_, rfl⟩
        | 1 => simp [q6, Wn, AO.zu, AO.ren]
        | j + 2 => simp [q6]
      · simp only [zx]
        simp only [zL, ↓reduceIte, reduceCtorEq, nE, nA]
      · simp only [zV, ↓reduceIte, nE, reduceCtorEq, nB]
        simp only [zL, ↓reduceIte, reduceCtorEq, nE, nA]
def qgz : BE := fun hp xs => match xs with
  | [X] => match qjz hp X with
    | some w => chk (w.length ≤ 2000000) (some (.slc hp.length 0 w.length false 0, hp ++ [.vec 1 (xm w)]))
    | none => none
  | _ => none
theorem q0p : Am.Callee Try.prog 20 qgz := Callee.fp fun hp xs v hp' he => by
  unfold qgz at he
  split at he
  · rename_i X
    split at he
    · rename_i w hw
      obtain ⟨h1, he⟩ := qk he
      simp only [Option.some.injEq, Prod.mk.injEq] at he
      obtain ⟨rfl, rfl⟩ := he
      obtain ⟨bs, H, X', hX, e1, e2, e3, e4, e5, e6, e7, e8⟩ := qoj hw
      refine ⟨bs, [X'], H, _, _, qov H X' w hX h1, by simp only [AV.ze, e1], (by simp only [List.all_cons, e2, List.all_nil, Bool.true_and, Bool.and_true]), e3, e4, e5, ⟨e6, trivial⟩, ?_, ?_⟩
      · simp [AV.ren, Ren.ext]
      · rw [e8]; simp only [List.map_cons, List.map_nil, vd, qb _ _ (qn _)]
    · cases he
  · cases he
def km : AC := .seq (.seq (.region [oM 11 5,oM 12 0,o0 13 (.len .slc (.t 12)),oP 14 .lss 11 13]) (.cond 14 .skip (.exit 0))) (.seq (.block 1 (.seq (.draw false [oM 17 0,oM 18 5,oX 19 1 17 18,oL 20 19,oM 21 1,oM 22 5,oX 23 1 21 22,oL 24 23,oP 25 .neq 20 24]) (.cond 25 (.seq (.region [oB 4 false]) .ret) .skip))) (.region [oM 15 5,oK 16 .add 15 1,oM 5 16]))
def Y9 : AC := .seq (.region [oB 4 true]) .ret
def Yp : AC := .seq (.region [oB 4 false]) (.seq (.seq (.region [oM 6 0,o0 7 (.len .slc (.t 6)),oM 8 1,o0 9 (.len .slc (.t 8)),oP 10 .neq 7 9]) (.cond 10 (.seq (.region [oB 4 false]) .ret) .skip)) (.seq (.seq (.region [oI 5 0]) (.block 0 (.loop km))) Y9))
theorem qjr : zl Try.prog 22 = some ⟨26, Yp, [.slot 4]⟩ := by kernel_rfl
theorem qob (a b : List Int) (hl : a.length ≤ 2000000 ∧ b.length ≤ 2000000) :
    Am.Fn Try.prog 22 [.slc 0 0 a.length false 0, .slc 1 0 b.length false 0] [.ro (xm a), .ro (xm b)] (fun v H' => v = .bool (decide (a = b)) ∧ H' = [.ro (xm a), .ro (xm b)]) := by
  refine Am.Fn.xy (R := fun v => v = _) Ks mixed qjr (by simp) (Jb (qn _) (qn _)) ?_
  have hla := xg a
  have hlb := xg b
  by_cases hlen : a.length = b.length
  · have hq : ((a.length : Int) != (b.length : Int)) = false := by rw [hlen]; simp
    simp (maxSteps := 3000000) only [qf, zH, Yp, hq, iE, iN, iB, iC, iL, iD, iA, iS, iM, qa, zZ, ↓qt, ↓reduceIte, reduceCtorEq, nA, nM, nS, nE, nL, nD]; try simp only [qa, zY]
    refine WA.jl Ks (fun s => ∃ k : Nat, k ≤ a.length ∧ (∀ i, i < k → a[i]? = b[i]?) ∧ s = ⟨[(0, .slc 0 0 a.length false 0), (1, .slc 1 0 b.length false 0), (5, .int .i64 k)], [.ro (xm a), .ro (xm b)]⟩)
      (fun s => match get s.env 5 with | .int _ x => a.length - x.toNat | _ => 0) ⟨_, qv.qy [0, 1, 5], 0, by omega, fun i h => absurd h (by omega), rfl⟩ ?_
    rintro s ⟨k, hk, hc, rfl⟩
    by_cases hlt : k < a.length
    · have hltb : k < b.length := by omega
      have hli : (k : Int) < (a.length : Int) := by omega
      have hli' : (k : Int) < (b.length : Int) := by omega
      have hk0 : (0 : Int) ≤ k := by omega
      have hw : qo .i64 ((k : Int) + 1) = ((k + 1 : Nat) : Int) := by rw [wrap64 (by omega) (by omega)]; rfl
      have hga : a.getD k 0 = a[k] := by simp [hlt]
      have hgb : b.getD k 0 = b[k] := by simp [hltb]
      by_cases he : a[k] = b[k]
      · have hd : (a[k] != b[k]) = false := by simp [he]
        simp (maxSteps := 3000000) only [qf, zH, km, hli, hli', hk0, hw, hla, hlb, hga, hgb, hlt, hltb, hd, and_self, iE, iN, iB, iC, iL, iD, iA, iS, iM, qa, zZ, ↓qt, ↓reduceIte, reduceCtorEq, nA, nM, nS, nE, nL, nD]; try simp only [qa, zY]
        refine ⟨_, qv.qy [0, 1, 5], ⟨k + 1, by omega, fun i hi => ?_, rfl⟩, ?_⟩
        · by_cases e : i = k
          · subst e; rw [List.getElem?_eq_getElem hlt, List.getElem?_eq_getElem hltb, he]
          · exact hc i (by omega)
        · simp only [zL, ↓reduceIte, reduceCtorEq, nE, nA]; omega
      · have hd : (a[k] != b[k]) = true := by simp [he]
        simp (maxSteps := 3000000) only [qf, zH, km, hli, hli', hk0, hw, hla, hlb, hga, hgb, hlt, hltb, hd, and_self, iE, iN, iB, iC, iL, iD, iA, iS, iM, qa, zZ, ↓qt, ↓reduceIte, reduceCtorEq, nA, nM, nS, nE, nL, nD]; try simp only [qa, zY]
        exact ⟨⟨_, rfl⟩, (decide_eq_false fun h => by subst h; exact he rfl).symm⟩
    · have hli : ¬ (k : Int) < (a.length : Int) := by omega
      obtain rfl : k = a.length := by omega
      simp (maxSteps := 3000000) only [qf, zH, km, Y9, hli, Int.lt_irrefl, iE, iN, iB, iC, iL, iD, iA, iS, iM, qa, zZ, ↓qt, ↓reduceIte, reduceCtorEq, nA, nM, nS, nE, nL, nD]; try simp only [qa, zY]
      refine ⟨⟨_, rfl⟩, (decide_eq_true (List.ext_getElem? fun i => ?_)).symm⟩
      by_cases e : i < a.length
      · exact hc i e
      · rw [List.getElem?_eq_none (by omega), List.getElem?_eq_none (by omega)]
  · have hq : ((a.length : Int) != (b.length : Int)) = true := by simp; omega
    simp (maxSteps := 3000000) only [qf, zH, Yp, hq, iE, iN, iB, iC, iL, iD, iA, iS, iM, qa, zZ, ↓qt, ↓reduceIte, reduceCtorEq, nA, nM, nS, nE, nL, nD]; try simp only [qa, zY]
    exact ⟨⟨_, rfl⟩, (decide_eq_false fun h => by subst h; exact hlen rfl).symm⟩
def qg6 : BE := fun hp xs => match xs with
  | [.slc b 0 k false 0, .slc b' 0 k' false 0] => match rd hp b, rd hp b' with
    | some L, some L' => match Gs L, Gs L' with
      | some w, some w' => chk ((k = w.length ∧ k' = w'.length) ∧ k ≤ 2000000 ∧ k' ≤ 2000000) (some (.bool (decide (w = w')), hp))
      | _, _ => none
    | _, _ => none
  | _ => none
theorem q1b : Am.Callee Try.prog 22 qg6 := Callee.ro2 fun hp xs v hp' he => by
  unfold qg6 at he
  split at he
  · rename_i b k b' k'
    split at he
    · rename_i L L' hL hL'
      split at he
      · rename_i w w' h1 h1'
        have h9 := qk he
        clear he
        obtain ⟨⟨⟨k1, k2⟩, h0⟩, h8⟩ := h9
        simp only [Option.some.injEq, Prod.mk.injEq] at h8
        obtain ⟨rfl, rfl⟩ := h8
        subst k1; subst k2
        have e1 := wj h1
        have f1 := wj h1'
        subst e1; subst f1
        refine ⟨xm w, xm w', b, b', [.slc 0 0 w.length false 0, .slc 1 0 w'.length false 0], rfl, ⟨_, hL, Nat.le_refl _, List.take_length⟩, ⟨_, hL', Nat.le_refl _, List.take_length⟩, qn _, qn _, ?_, rfl, ?_, rfl, qob w w' h0⟩
        · simp only [AV.ze, AV.ren, two, if_true, Nat.zero_add]
          rfl
        · exact ⟨by simp [AV.under], by simp [AV.under], trivial⟩
      · cases he
    · cases he
  · cases he
def Ve (p a : Int) : Bool := yd p && decide (1 ≤ a ∧ a ≤ p - 1)
theorem qis {p a : Int} (h : Ve p a = true) : okI p a := by
  unfold Ve at h
  rw [Bool.and_eq_true, decide_eq_true_eq] at h
  exact h
theorem gn : qgl 71 = some (ql yf) := rfl
theorem j9 : qgl 72 = some (ql vj) := rfl
theorem vb : qgl 120 = some (ql je) := rfl
theorem yn : qgl 76 = some (ql vq) := rfl
theorem wk : qgl 66 = some (ql yf) := rfl
theorem jc : qgl 67 = some (ql vk) := rfl
theorem vx : qgl 70 = some (ql j0) := rfl
theorem jt : qgl 137 = some (ql je) := rfl
def Yg : AC := .seq (.region [oB 4 false]) (.seq (.region [oM 5 0,oC 6 120 [.t 5],oM 7 6,oG 8 7 true (.mov (.t 1)),oG 9 7 true (.mov (.t 0)),oG 10 7 true (.bin .sub (.t 9) (.c (.int .i64 1))),⟨some 11,some (7,true),.call (.c (.fn 71 [] [])) [.t 8,(.c (.int .i64 1)),.t 10]⟩,o0 12 (.pick (.t 7) (.t 11) (.c (.bool false))),oM 4 12]) .ret)
theorem qi1 : zl Try.prog 56 = some ⟨13, Yg, [.slot 4]⟩ := by kernel_rfl
theorem qjl (p a : Int) : Am.Fn Try.prog 56 [.int .i64 p, .int .i64 a] [] (fun v H' => v = .bool (Ve p a) ∧ H' = []) := by
  refine Am.Fn.xy (R := fun v => v = _) K9 mixed qi1 (by simp) (by simp) ?_
  cases hP : yd p with
  | false =>
    simp (maxSteps := 3000000) only [qf, zH, Yg, gn, j9, vb, yn, wk, jc, vx, jt, vj, yf, j0, je, vq, vk, hP, iE, iN, iB, iC, iL, iD, iA, iS, iM, qa, zZ, ↓qt, ↓reduceIte, reduceCtorEq, nA, nM, nS, nE, nL, nD]; try simp only [qa, zY]
    simp [Ve, hP]
  | true =>
    have hb := vi hP
    have hw : qo .i64 (p - 1) = p - 1 := wrap64 (by omega) (by omega)
    simp (maxSteps := 3000000) only [qf, zH, Yg, gn, j9, vb, yn, wk, jc, vx, jt, vj, yf, j0, je, vq, vk, hP, hw, iE, iN, iB, iC, iL, iD, iA, iS, iM, qa, zZ, ↓qt, ↓reduceIte, reduceCtorEq, nA, nM, nS, nE, nL, nD]; try simp only [qa, zY]
    simp [Ve, hP]
def Jt : AC := .seq (.region [oB 4 false]) (.seq (.region [oM 5 0,oC 6 137 [.t 5],oM 7 6,oG 8 7 true (.mov (.t 1)),oG 9 7 true (.mov (.t 0)),oG 10 7 true (.bin .sub (.t 9) (.c (.int .i64 1))),⟨some 11,some (7,true),.call (.c (.fn 66 [] [])) [.t 8,(.c (.int .i64 1)),.t 10]⟩,o0 12 (.pick (.t 7) (.t 11) (.c (.bool false))),oM 4 12]) .ret)
theorem qfh : zl Try.prog 117 = some ⟨13, Jt, [.slot 4]⟩ := by kernel_rfl
theorem qd1 (p a : Int) : Am.Fn Try.prog 117 [.int .i64 p, .int .i64 a] [] (fun v H' => v = .bool (Ve p a) ∧ H' = []) := by
  refine Am.Fn.xy (R := fun v => v = _) K9 mixed qfh (by simp) (by simp) ?_
  cases hP : yd p with
  | false =>
    simp (maxSteps := 3000000) only [qf, zH, Jt, gn, j9, vb, yn, wk, jc, vx, jt, vj, yf, j0, je, vq, vk, hP, iE, iN, iB, iC, iL, iD, iA, iS, iM, qa, zZ, ↓qt, ↓reduceIte, reduceCtorEq, nA, nM, nS, nE, nL, nD]; try simp only [qa, zY]
    simp [Ve, hP]
  | true =>
    have hb := vi hP
    have hw : qo .i64 (p - 1) = p - 1 := wrap64 (by omega) (by omega)
    simp (maxSteps := 3000000) only [qf, zH, Jt, gn, j9, vb, yn, wk, jc, vx, jt, vj, yf, j0, je, vq, vk, hP, hw, iE, iN, iB, iC, iL, iD, iA, iS, iM, qa, zZ, ↓qt, ↓reduceIte, reduceCtorEq, nA, nM, nS, nE, nL, nD]; try simp only [qa, zY]
    simp [Ve, hP]
def ke : List AV → Option AV
  | [.int .i64 p, .int .i64 a] => some (.bool (Ve p a))
  | _ => none
theorem qka {f : FuncId} (h : ∀ p a, Am.Fn Try.prog f [.int .i64 p, .int .i64 a] [] (fun v H' => v = .bool (Ve p a) ∧ H' = [])) : Am.Callee Try.prog f (ql ke) := Am.Callee.plain fun xs v he => by
  unfold ke at he
  split at he
  · rename_i p a
    cases he
    exact ⟨rfl, rfl, h p a⟩
  · cases he
noncomputable def yp (p a : Int) : Int := (-a * a - jx p a * jx p a).emod p
theorem Wr {p a : Int} (h : okI p a) : 0 ≤ yp p a ∧ yp p a ≤ p - 1 := by
  have hb := vi h.1
  exact ⟨Int.emod_nonneg _ (by omega), Int.le_sub_one_of_lt (Int.emod_lt_of_pos _ (by omega))⟩
theorem qpw {p a : Int} (hp : p ≤ 97) (h : 1 ≤ a ∧ a ≤ p - 1) : 0 ≤ a * a ∧ a * a ≤ 9216 := by
  have h1 : a * a ≤ 96 * 96 := Int.mul_le_mul (by omega) (by omega) (by omega) (by omega)
  exact ⟨Int.mul_nonneg (by omega) (by omega), by omega⟩
def Gu : AC := .seq (.region [oI 4 0]) (.seq (.region [oM 6 1,oM 7 0,oC 8 72 [.t 6,.t 7],oM 5 8]) (.seq (.region [oM 9 1,o0 10 (.un .neg (.t 9)),oM 11 1,oP 12 .mul 10 11,oM 13 5,oM 14 5,oP 15 .mul 13 14,oP 16 .sub 12 15,oM 17 0,oC 18 76 [.t 16,.t 17],oM 4 18]) .ret))
theorem qgv : zl Try.prog 123 = some ⟨19, Gu, [.slot 4]⟩ := by kernel_rfl
theorem qgq (p a : Int) (h : okI p a) : Am.Fn Try.prog 123 [.int .i64 p, .int .i64 a] [] (fun v H' => v = .int .i64 (yp p a) ∧ H' = []) := by
  refine Am.Fn.xy (R := fun v => v = _) K9 mixed qgv (by simp) (by simp) ?_
  have hb := vi h.1
  have hv := (Wv h.1 h.2).1
  have h2 : 1 ≤ a ∧ a ≤ p - 1 := h.2
  have q1 := qpw hb.2 h2
  have q2 := qpw hb.2 hv
  have hn : (0 : Int) - a = -a := by omega
  have w0 : qo .i64 (-a) = -a := wrap64 (by omega) (by omega)
  have e1 : -a * a = -(a * a) := Int.neg_mul ..
  have w1 : qo .i64 (-a * a) = -a * a := wrap64 (by omega) (by omega)
  have w2 : qo .i64 (jx p a * jx p a) = jx p a * jx p a := wrap64 (by omega) (by omega)
  have w3 : qo .i64 (-a * a - jx p a * jx p a) = -a * a - jx p a * jx p a := wrap64 (by omega) (by omega)
  have hp0 : 0 < p ∧ p ≤ 1000000 := by omega
  have e : (-a * a - jx p a * jx p a).emod p = yp p a := rfl
  simp (maxSteps := 3000000) only [qf, zH, Gu, gn, j9, vb, yn, wk, jc, vx, jt, vj, yf, j0, je, vq, vk, h, hn, w0, w1, w2, w3, hp0, e, iE, iN, iB, iC, iL, iD, iA, iS, iM, qa, zZ, ↓qt, ↓reduceIte, reduceCtorEq, nA, nM, nS, nE, nL, nD]; try simp only [qa, zY]
def qct : AC := .seq (.region [oI 4 0]) (.seq (.region [oM 6 0,oM 7 1,oC 8 67 [.t 6,.t 7],oM 5 8]) (.seq (.region [oM 9 0,oM 10 1,o0 11 (.un .neg (.t 10)),oM 12 1,oP 13 .mul 11 12,oM 14 5,oM 15 5,oP 16 .mul 14 15,oP 17 .sub 13 16,oC 18 70 [.t 9,.t 17],oM 4 18]) .ret))
theorem qk6 : zl Try.prog 118 = some ⟨19, qct, [.slot 4]⟩ := by kernel_rfl
theorem qli (p a : Int) (h : okI p a) : Am.Fn Try.prog 118 [.int .i64 p, .int .i64 a] [] (fun v H' => v = .int .i64 (yp p a) ∧ H' = []) := by
  refine Am.Fn.xy (R := fun v => v = _) K9 mixed qk6 (by simp) (by simp) ?_
  have hb := vi h.1
  have hv := (Wv h.1 h.2).1
  have h2 : 1 ≤ a ∧ a ≤ p - 1 := h.2
  have q1 := qpw hb.2 h2
  have q2 := qpw hb.2 hv
  have hn : (0 : Int) - a = -a := by omega
  have w0 : qo .i64 (-a) = -a := wrap64 (by omega) (by omega)
  have e1 : -a * a = -(a * a) := Int.neg_mul ..
  have w1 : qo .i64 (-a * a) = -a * a := wrap64 (by omega) (by omega)
  have w2 : qo .i64 (jx p a * jx p a) = jx p a * jx p a := wrap64 (by omega) (by omega)
  have w3 : qo .i64 (-a * a - jx p a * jx p a) = -a * a - jx p a * jx p a := wrap64 (by omega) (by omega)
  have hp0 : 0 < p ∧ p ≤ 1000000 := by omega
  have e : (-a * a - jx p a * jx p a).emod p = yp p a := rfl
  simp (maxSteps := 3000000) only [qf, zH, qct, gn, j9, vb, yn, wk, jc, vx, jt, vj, yf, j0, je, vq, vk, h, hn, w0, w1, w2, w3, hp0, e, iE, iN, iB, iC, iL, iD, iA, iS, iM, qa, zZ, ↓qt, ↓reduceIte, reduceCtorEq, nA, nM, nS, nE, nL, nD]; try simp only [qa, zY]
noncomputable def bd : List AV → Option AV
  | [.int .i64 p, .int .i64 a] => chk (okI p a) (some (.int .i64 (yp p a)))
  | _ => none
theorem qfu {f : FuncId} (h : ∀ p a, okI p a → Am.Fn Try.prog f [.int .i64 p, .int .i64 a] [] (fun v H' => v = .int .i64 (yp p a) ∧ H' = [])) : Am.Callee Try.prog f (ql bd) := Am.Callee.plain fun xs v he => by
  unfold bd at he
  split at he
  · rename_i p a
    obtain ⟨h1, he⟩ := qk he
    cases he
    exact ⟨rfl, rfl, h p a h1⟩
  · cases he
noncomputable def qgr : zh := ((((((qgl.put 20 (qgz)).put 22 (qg6)).put 56 (ql ke)).put 117 (ql ke)).put 123 (ql bd)).put 118 (ql bd))
theorem qp2 : qq Try.prog qgr := ((((((K9.put (q0p)).put (q1b)).put (qka qjl)).put (qka qd1)).put (qfu qgq)).put (qfu qli))
theorem qan : qgr 71 = some (ql yf) := rfl
theorem V4 : qgr 72 = some (ql vj) := rfl
theorem Vw : qgr 120 = some (ql je) := rfl
theorem Bh : qgr 76 = some (ql vq) := rfl
theorem Ue : qgr 66 = some (ql yf) := rfl
theorem Zw : qgr 67 = some (ql vk) := rfl
theorem W3 : qgr 70 = some (ql j0) := rfl
theorem Jv : qgr 137 = some (ql je) := rfl
def we (n i : Int) : Bool := decide (i = 0) || !decide (qo .i64 (1 - n) ≤ i ∧ i ≤ qo .i64 (n - 1))
def V8 : AC := .seq (.region [oB 3 false]) (.seq (.region [oM 4 0,oK 5 .eql 4 0,oM 6 5,oG 7 6 false (.mov (.t 0)),oG 8 6 false (.J4 (.t 1)),oG 9 6 false (.bin .sub (.c (.int .i64 1)) (.t 8)),oG 10 6 false (.J4 (.t 1)),oG 11 6 false (.bin .sub (.t 10) (.c (.int .i64 1))),⟨some 12,some (6,false),.call (.c (.fn 71 [] [])) [.t 7,.t 9,.t 11]⟩,oG 13 6 false (.un .not (.t 12)),o0 14 (.pick (.t 6) (.c (.bool true)) (.t 13)),oM 3 14]) .ret)
theorem qgt : zl Try.prog 122 = some ⟨15, V8, [.slot 3]⟩ := by kernel_rfl
theorem qgf (n i : Int) : Am.Fn Try.prog 122 [.int .i64 i, .ptr 0 0] [.ro [.int .i64 n]] (fun v H' => v = .bool (we n i) ∧ H' = [.ro [.int .i64 n]]) := by
  refine Am.Fn.xy (R := fun v => v = _) qp2 mixed qgt (by simp [AV.qm, AV.under]) (vg rfl) ?_
  by_cases h0 : i = 0
  · have hb : we n i = true := by simp [we, h0]
    have hq : (i == 0) = true := by simpa using h0
    simp (maxSteps := 3000000) only [qf, zH, V8, qan, V4, Vw, Bh, Ue, Zw, W3, Jv, vj, yf, j0, je, vq, vk, hq, iE, iN, iB, iC, iL, iD, iA, iS, iM, qa, zZ, ↓qt, ↓reduceIte, reduceCtorEq, nA, nM, nS, nE, nL, nD]; try simp only [qa, zY]
    exact ⟨⟨_, rfl⟩, by rw [hb]⟩
  · have hb : we n i = !decide (qo .i64 (1 - n) ≤ i ∧ i ≤ qo .i64 (n - 1)) := by simp [we, h0]
    have hq : (i == 0) = false := by simpa using h0
    simp (maxSteps := 3000000) only [qf, zH, V8, qan, V4, Vw, Bh, Ue, Zw, W3, Jv, vj, yf, j0, je, vq, vk, hq, iE, iN, iB, iC, iL, iD, iA, iS, iM, qa, zZ, ↓qt, ↓reduceIte, reduceCtorEq, nA, nM, nS, nE, nL, nD]; try simp only [qa, zY]
    exact ⟨⟨_, rfl⟩, hb.symm⟩
def Vb : BE := fun hp xs => match xs with
  | [.int .i64 i, .ptr b 0] => match rd hp b with
    | some (.int .i64 n :: _) => some (.bool (we n i), hp)
    | _ => none
  | _ => none
theorem q1n : Am.Callee Try.prog 122 Vb := Callee.fp fun hp xs v hp' he => by
  unfold Vb at he
  split at he
  · rename_i i b
    split at he
    · rename_i n L hL
      simp only [Option.some.injEq, Prod.mk.injEq] at he
      obtain ⟨rfl, rfl⟩ := he
      refine ⟨[(b, 0)], [.int .i64 i, .ptr 0 0], _, _, _, qgf n i, by simp [AV.ren, AV.ze, ofL], rfl, ⟨⟨_, hL, by simp, by simp [AV.ze, AV.ren]⟩, trivial⟩, rfl, ⟨⟨trivial, trivial⟩, trivial⟩, ⟨trivial, by simp [AV.under], trivial⟩, by simp [AV.ren], ?_⟩
      simp [after, upd, AO.wr]
    · cases he
  · cases he
noncomputable def qft : zh := (qgr.put 122 (Vb))
theorem qif : qq Try.prog qft := (qp2.put (q1n))
theorem qav : qft 71 = some (ql yf) := rfl
theorem Vx : qft 72 = some (ql vj) := rfl
theorem V1 : qft 120 = some (ql je) := rfl
theorem U9 : qft 76 = some (ql vq) := rfl
theorem Ul : qft 66 = some (ql yf) := rfl
theorem Z0 : qft 67 = some (ql vk) := rfl
theorem W9 : qft 70 = some (ql j0) := rfl
theorem Jk : qft 137 = some (ql je) := rfl
theorem X2 : qft 122 = some (Vb) := rfl
def xt : AC := .seq (.region [oP 9 .lss 8 7]) (.seq (.cond 9 .skip (.exit 0)) (.seq (.block 1 (.seq (.region [oM 10 8,oM 5 10]) (.seq (.region [oM 11 1,oM 12 0,oM 13 5,oX 14 1 12 13,oL 15 14,⟨some 16,none,.call (.t 11) [.t 15]⟩]) (.cond 16 (.seq (.region [oM 17 5,oM 4 17]) .ret) .skip)))) (.region [oK 18 .add 8 1,oM 8 18])))
def y8 : AC := .seq (.region [oI 4 (-1)]) .ret
def bf : AC := .seq (.region [oI 4 0]) (.seq (.seq (.region [oM 6 0,o0 7 (.len .slc (.t 6)),oI 8 0]) (.block 0 (.loop xt))) y8)
theorem Js : zl Try.prog 161 = some ⟨19, bf, [.slot 4]⟩ := by kernel_rfl
theorem qt4 (n : Int) (w : List Int) (hl : w.length ≤ 2000000) :
    Am.Fn Try.prog 161 [.slc 0 0 w.length false 0, .fn 122 [] [.ptr 1 0]] [.ro (xm w), .ro [.int .i64 n]] (fun v H' => v = .int .i64 (if w.any (we n) then (w.findIdx (we n) : Nat) else -1) ∧ H' = [.ro (xm w), .ro [.int .i64 n]]) := by
  refine Am.Fn.xy (R := fun v => v = _) qif mixed Js (by simp [AV.qm, AV.under]) (Jb (qn _) rfl) ?_
  have hla := xg w
  simp (maxSteps := 3000000) only [qf, zH, bf, iE, iN, iB, iC, iL, iD, iA, iS, iM, qa, zZ, ↓qt, ↓reduceIte, reduceCtorEq, nA, nM, nS, nE, nL, nD]; try simp only [qa, zY]
  refine WA.jl qif (fun s => ∃ k : Nat, k ≤ w.length ∧ (∀ i, (h : i < k) → ∀ h2, we n (w[i]'h2) = false) ∧ s = ⟨[(0, .slc 0 0 w.length false 0), (1, .fn 122 [] [.ptr 1 0]), (7, .int .i64 w.length), (8, .int .i64 k)], [.ro (xm w), .ro [.int .i64 n]]⟩)
    (fun s => match get s.env 8 with | .int _ x => w.length - x.toNat | _ => 0) ⟨_, qv.qy [0, 1, 7, 8], 0, by omega, by intros; omega, rfl⟩ ?_
  rintro s ⟨k, hk, hc, rfl⟩
  have hw : qo .i64 ((k : Int) + 1) = ((k + 1 : Nat) : Int) := by rw [wrap64 (by omega) (by omega)]; rfl
  by_cases hlt : k < w.length
  · have hli : (k : Int) < (w.length : Int) := by omega
    have hk0 : (0 : Int) ≤ k := by omega
    have hg : w.getD k 0 = w[k] := by simp [hlt]
    cases hb : we n w[k] with
    | true =>
      simp (maxSteps := 3000000) only [qf, zH, xt, qav, Vx, V1, U9, Ul, Z0, W9, Jk, X2, Vb, vj, yf, j0, je, vq, vk, hli, hk0, hw, hla, hlt, hg, hb, and_self, iE, iN, iB, iC, iL, iD, iA, iS, iM, qa, zZ, ↓qt, ↓reduceIte, reduceCtorEq, nA, nM, nS, nE, nL, nD]; try simp only [qa, zY]
      have h1 : w.any (we n) = true := List.any_eq_true.2 ⟨w[k], List.getElem_mem hlt, hb⟩
      have h3 : w.findIdx (we n) = k := (List.findIdx_eq hlt).2 ⟨hb, fun j hj => hc j hj (by omega)⟩
      exact ⟨⟨_, rfl⟩, by rw [h1, h3, if_pos rfl]⟩
    | false =>
      simp (maxSteps := 3000000) only [qf, zH, xt, qav, Vx, V1, U9, Ul, Z0, W9, Jk, X2, Vb, vj, yf, j0, je, vq, vk, hli, hk0, hw, hla, hlt, hg, hb, and_self, iE, iN, iB, iC, iL, iD, iA, iS, iM, qa, zZ, ↓qt, ↓reduceIte, reduceCtorEq, nA, nM, nS, nE, nL, nD]; try simp only [qa, zY]
      refine ⟨_, qv.qy [0, 1, 7, 8], ⟨k + 1, by omega, fun i hi h2 => ?_, rfl⟩, ?_⟩
      · by_cases e : i = k
        · subst e; exact hb
        · exact hc i (by omega) h2
      · simp only [zL, ↓reduceIte, reduceCtorEq, nE, nA]; omega
  · have hli : ¬ (k : Int) < (w.length : Int) := by omega
    obtain rfl : k = w.length := by omega
    simp (maxSteps := 3000000) only [qf, zH, xt, y8, hli, Int.lt_irrefl, iE, iN, iB, iC, iL, iD, iA, iS, iM, qa, zZ, ↓qt, ↓reduceIte, reduceCtorEq, nA, nM, nS, nE, nL, nD]; try simp only [qa, zY]
    have h1 : w.any (we n) = false := List.any_eq_false.2 fun d hd => by
      obtain ⟨i, hi, rfl⟩ := List.getElem_of_mem hd
      rw [hc i (by omega) hi]; simp
    exact ⟨⟨_, rfl⟩, by rw [h1]; rfl⟩
def Wu : BE := fun hp xs => match xs with
  | [.slc b 0 k false 0, .fn 122 [] [.ptr b' 0]] => match rd hp b, rd hp b' with
    | some L, some (.int .i64 n :: _) => match Gs L with
      | some w => chk (k = w.length ∧ k ≤ 2000000) (some (.int .i64 (if w.any (we n) then (w.findIdx (we n) : Nat) else -1), hp))
      | none => none
    | _, _ => none
  | _ => none
theorem qwc : Am.Callee Try.prog 161 Wu := Callee.fp fun hp xs v hp' he => by
  unfold Wu at he
  split at he
  · rename_i b k b'
    split at he
    · rename_i L n L' hL hL'
      split at he
      · rename_i w hw
        have h9 := qk he
        clear he
        obtain ⟨⟨k1, h0⟩, h8⟩ := h9
        simp only [Option.some.injEq, Prod.mk.injEq] at h8
        obtain ⟨rfl, rfl⟩ := h8
        subst k1
        have e1 := wj hw
        subst e1
        refine ⟨[(b, 0), (b', 0)], [.slc 0 0 w.length false 0, .fn 122 [] [.ptr 1 0]], _, _, _, qt4 n w h0, by simp [AV.ren, AV.ze, ofL], rfl, ⟨⟨_, hL, by simp, by simp [qb _ _ (qn _)]⟩, ⟨_, hL', by simp, by simp [AV.ze, AV.ren]⟩, trivial⟩, rfl, ⟨qi _ _ (qn _), ⟨trivial, trivial⟩, trivial⟩, ?_, by simp [AV.ren], ?_⟩
        · simp [AV.under, AV.qm]
        · simp [after, upd, AO.wr]
      · cases he
    · cases he
  · cases he
noncomputable def qdi : zh := (qft.put 161 (Wu))
theorem qqk : qq Try.prog qdi := (qif.put (qwc))
theorem qaa : qdi 71 = some (ql yf) := rfl
theorem Vh : qdi 72 = some (ql vj) := rfl
theorem Vg : qdi 120 = some (ql je) := rfl
theorem Bz : qdi 76 = some (ql vq) := rfl
theorem Y7 : qdi 66 = some (ql yf) := rfl
theorem Z6 : qdi 67 = some (ql vk) := rfl
theorem W1 : qdi 70 = some (ql j0) := rfl
theorem J7 : qdi 137 = some (ql je) := rfl
theorem Xv : qdi 122 = some (Vb) := rfl
theorem wz : qdi 161 = some (Wu) := rfl
def j2 : AC := .seq (.region [oB 4 false]) (.seq (.region [oM 5 0,oM 6 1,oC 7 161 [.t 5,.t 6],oK 8 .geq 7 0,oM 4 8]) .ret)
theorem Zy : zl Try.prog 121 = some ⟨9, j2, [.slot 4]⟩ := by kernel_rfl
theorem qmx (n : Int) (w : List Int) (hl : w.length ≤ 2000000) :
    Am.Fn Try.prog 121 [.slc 0 0 w.length false 0, .fn 122 [] [.ptr 1 0]] [.ro (xm w), .ro [.int .i64 n]] (fun v H' => v = .bool (w.any (we n)) ∧ H' = [.ro (xm w), .ro [.int .i64 n]]) := by
  refine Am.Fn.xy (R := fun v => v = _) qqk mixed Zy (by simp [AV.qm, AV.under]) (Jb (qn _) rfl) ?_
  have hw := ur w
  cases hb : w.any (we n) with
  | true =>
    have hd : decide ((0 : Int) ≤ ((w.findIdx (we n) : Nat) : Int)) = true := by simp
    simp (maxSteps := 3000000) only [qf, zH, j2, qaa, Vh, Vg, Bz, Y7, Z6, W1, J7, Xv, wz, Vb, vj, yf, Wu, j0, je, vq, vk, hw, hl, hb, hd, and_self, iE, iN, iB, iC, iL, iD, iA, iS, iM, qa, zZ, ↓qt, ↓reduceIte, reduceCtorEq, nA, nM, nS, nE, nL, nD]; try simp only [qa, zY]
    trace_state
    exact ⟨_, rfl⟩
  | false =>
    simp (maxSteps := 3000000) only [qf, zH, j2, qaa, Vh, Vg, Bz, Y7, Z6, W1, J7, Xv, wz, Vb, vj, yf, Wu, j0, je, vq, vk, hw, hl, hb, and_self, iE, iN, iB, iC, iL, iD, iA, iS, iM, qa, zZ, ↓qt, ↓reduceIte, reduceCtorEq, nA, nM, nS, nE, nL, nD]; try simp only [qa, zY]
    trace_state
    exact ⟨_, rfl⟩
def yi : BE := fun hp xs => match xs with
  | [.slc b 0 k false 0, .fn 122 [] [.ptr b' 0]] => match rd hp b, rd hp b' with
    | some L, some (.int .i64 n :: _) => match Gs L with
      | some w => chk (k = w.length ∧ k ≤ 2000000) (some (.bool (w.any (we n)), hp))
      | none => none
    | _, _ => none
  | _ => none
theorem qx8 : Am.Callee Try.prog 121 yi := Callee.fp fun hp xs v hp' he => by
  unfold yi at he
  split at he
  · rename_i b k b'
    split at he
    · rename_i L n L' hL hL'
      split at he
      · rename_i w hw
        have h9 := qk he
        clear he
        obtain ⟨⟨k1, h0⟩, h8⟩ := h9
        simp only [Option.some.injEq, Prod.mk.injEq] at h8
        obtain ⟨rfl, rfl⟩ := h8
        subst k1
        have e1 := wj hw
        subst e1
        refine ⟨[(b, 0), (b', 0)], [.slc 0 0 w.length false 0, .fn 122 [] [.ptr 1 0]], _, _, _, qmx n w h0, by simp [AV.ren, AV.ze, ofL], rfl, ⟨⟨_, hL, by simp, by simp [qb _ _ (qn _)]⟩, ⟨_, hL', by simp, by simp [AV.ze, AV.ren]⟩, trivial⟩, rfl, ⟨qi _ _ (qn _), ⟨trivial, trivial⟩, trivial⟩, ?_, by simp [AV.ren], ?_⟩
        · simp [AV.under, AV.qm]
        · simp [after, upd, AO.wr]
      · cases he
    · cases he
  · cases he
noncomputable def qnf : zh := (qdi.put 121 (yi))
theorem qdm : qq Try.prog qnf := (qqk.put (qx8))
def wt (n : Int) (w : List Int) : Bool := decide (2 ≤ n ∧ n ≤ 6) && (decide (w.length ≤ 24) && !w.any (we n))
theorem qw : qnf 121 = some (yi) := rfl
theorem zw : qnf 122 = some (Vb) := rfl
theorem vn : qnf 71 = some (ql yf) := rfl
theorem x7 : qnf 66 = some (ql yf) := rfl
theorem zp : qnf 117 = some (ql ke) := rfl
def Vl : AC := .seq (.region [o0 2 (.box (.t 0)),oB 4 false]) (.seq (.region [oM 6 1,o0 7 (.qdf 122 [] [.t 2]),oC 8 121 [.t 6,.t 7],oM 5 8]) (.seq (.region [oL 9 2,oC 10 71 [.t 9,(.c (.int .i64 2)),(.c (.int .i64 6))],oM 11 10,oG 12 11 true (.mov (.t 1)),oG 13 11 true (.len .slc (.t 12)),oG 14 11 true (.bin .leq (.t 13) (.c (.int .i64 24))),o0 15 (.pick (.t 11) (.t 14) (.c (.bool false))),oM 16 15,oG 17 16 true (.mov (.t 5)),oG 18 16 true (.un .not (.t 17)),o0 19 (.pick (.t 16) (.t 18) (.c (.bool false))),oM 4 19]) .ret))
theorem qlh : zl Try.prog 57 = some ⟨20, Vl, [.slot 4]⟩ := by kernel_rfl
theorem qjw (n : Int) (w : List Int) (hl : w.length ≤ 2000000) :
    Am.Fn Try.prog 57 [.int .i64 n, .slc 0 0 w.length false 0] [.ro (xm w)] (fun v H' => v = .bool (wt n w) ∧ H' = [.ro (xm w)]) := by
  refine Am.Fn.xy (R := fun v => v = _) qdm mixed qlh (by simp [AV.qm, AV.under]) (vg (qn _)) ?_
  have hw := ur w
  have hla := xg w
  by_cases hn : 2 ≤ n ∧ n ≤ 6
  · by_cases h24 : w.length ≤ 24
    · have h24i : (w.length : Int) ≤ 24 := by omega
      have e : wt n w = !w.any (we n) := by simp [wt, hn, h24]
      simp (maxSteps := 3000000) only [qf, zH, Vl, qw, zw, vn, x7, zp, Vb, yi, yf, ke, hw, hla, hl, hn, h24i, and_self, iE, iN, iB, iC, iL, iD, iA, iS, iM, qa, zZ, ↓qt, ↓reduceIte, reduceCtorEq, nA, nM, nS, nE, nL, nD]; try simp only [qa, zY]
      rw [e]; exact ⟨⟨rfl, rfl⟩, ⟨_, rfl⟩, rfl⟩
    · have h24i : ¬ (w.length : Int) ≤ 24 := by omega
      have e : wt n w = false := by simp [wt, h24]
      simp (maxSteps := 3000000) only [qf, zH, Vl, qw, zw, vn, x7, zp, Vb, yi, yf, ke, hw, hla, hl, hn, h24i, and_self, iE, iN, iB, iC, iL, iD, iA, iS, iM, qa, zZ, ↓qt, ↓reduceIte, reduceCtorEq, nA, nM, nS, nE, nL, nD]; try simp only [qa, zY]
      rw [e]; exact ⟨⟨rfl, rfl⟩, ⟨_, rfl⟩, rfl⟩
  · have e : wt n w = false := by simp only [wt, decide_eq_false hn, Bool.false_and]
    simp (maxSteps := 3000000) only [qf, zH, Vl, qw, zw, vn, x7, zp, Vb, yi, yf, ke, hw, hla, hl, hn, and_self, iE, iN, iB, iC, iL, iD, iA, iS, iM, qa, zZ, ↓qt, ↓reduceIte, reduceCtorEq, nA, nM, nS, nE, nL, nD]; try simp only [qa, zY]
    rw [e]; exact ⟨⟨rfl, rfl⟩, ⟨_, rfl⟩, rfl⟩
def bm : AC := .seq (.seq (.region [oM 14 5,oM 15 1,o0 16 (.len .slc (.t 15)),oP 17 .lss 14 16]) (.cond 17 .skip (.exit 0))) (.seq (.block 1 (.seq (.region [oM 20 1,oM 21 5,oX 22 1 20 21,oL 23 22,oK 24 .eql 23 0,oM 25 24,oG 26 25 false (.mov (.t 1)),oG 27 25 false (.mov (.t 5)),oG 28 25 false (.J1 1 (.t 26) (.t 27)),oG 29 25 false (.J4 (.t 28)),oG 30 25 false (.mov (.t 0)),oG 31 25 false (.bin .sub (.c (.int .i64 1)) (.t 30)),oG 32 25 false (.mov (.t 0)),oG 33 25 false (.bin .sub (.t 32) (.c (.int .i64 1))),⟨some 34,some (25,false),.call (.c (.fn 66 [] [])) [.t 29,.t 31,.t 33]⟩,oG 35 25 false (.un .not (.t 34)),o0 36 (.pick (.t 25) (.c (.bool true)) (.t 35))]) (.cond 36 (.seq (.region [oB 4 false]) .ret) .skip))) (.region [oM 18 5,oK 19 .add 18 1,oM 5 19]))
def Be : AC := .seq (.region [oB 4 true]) .ret
def Vs : AC := .seq (.region [oB 4 false]) (.seq (.seq (.region [oM 6 0,oC 7 66 [.t 6,(.c (.int .i64 2)),(.c (.int .i64 6))],o0 8 (.un .not (.t 7)),oM 9 8,oG 10 9 false (.mov (.t 1)),oG 11 9 false (.len .slc (.t 10)),oG 12 9 false (.bin .gtr (.t 11) (.c (.int .i64 24))),o0 13 (.pick (.t 9) (.c (.bool true)) (.t 12))]) (.cond 13 (.seq (.region [oB 4 false]) .ret) .skip)) (.seq (.seq (.region [oI 5 0]) (.block 0 (.loop bm))) Be))
theorem qj1 : zl Try.prog 53 = some ⟨37, Vs, [.slot 4]⟩ := by kernel_rfl
theorem qkb (n : Int) (w : List Int) (hl : w.length ≤ 2000000) :
    Am.Fn Try.prog 53 [.int .i64 n, .slc 0 0 w.length false 0] [.ro (xm w)] (fun v H' => v = .bool (wt n w) ∧ H' = [.ro (xm w)]) := by
  refine Am.Fn.xy (R := fun v => v = _) qdm mixed qj1 (by simp [AV.qm, AV.under]) (vg (qn _)) ?_
  have hla := xg w
  by_cases hn : 2 ≤ n ∧ n ≤ 6
  · by_cases h24 : w.length ≤ 24
    · have h24i : ¬ (24 : Int) < (w.length : Int) := by omega
      have e : wt n w = !w.any (we n) := by simp [wt, hn, h24]
      simp (maxSteps := 3000000) only [qf, zH, Vs, qw, zw, vn, x7, zp, Vb, yi, yf, ke, hla, hn, h24i, and_self, iE, iN, iB, iC, iL, iD, iA, iS, iM, qa, zZ, ↓qt, ↓reduceIte, reduceCtorEq, nA, nM, nS, nE, nL, nD]; try simp only [qa, zY]
      refine WA.jl qdm (fun s => ∃ k : Nat, k ≤ w.length ∧ (∀ i, (h : i < k) → ∀ h2, we n (w[i]'h2) = false) ∧ s = ⟨[(0, .int .i64 n), (1, .slc 0 0 w.length false 0), (5, .int .i64 k)], [.ro (xm w)]⟩)
        (fun s => match get s.env 5 with | .int _ x => w.length - x.toNat | _ => 0) ⟨_, qv.qy [0, 1, 5], 0, by omega, by intros; omega, rfl⟩ ?_
      rintro s ⟨k, hk, hc, rfl⟩
      have hw : qo .i64 ((k : Int) + 1) = ((k + 1 : Nat) : Int) := by rw [wrap64 (by omega) (by omega)]; rfl
      by_cases hlt : k < w.length
      · have hli : (k : Int) < (w.length : Int) := by omega
        have hk0 : (0 : Int) ≤ k := by omega
        have hg : w.getD k 0 = w[k] := by simp [hlt]
        by_cases h0 : w[k] = 0
        · have hb : we n w[k] = true := by simp [we, h0]
          have hq : (w[k] == 0) = true := by simpa using h0
          have h1 : w.any (we n) = true := List.any_eq_true.2 ⟨w[k], List.getElem_mem hlt, hb⟩
          simp (maxSteps := 3000000) only [qf, zH, bm, qw, zw, vn, x7, zp, Vb, yi, yf, ke, hli, hk0, hw, hla, hlt, hg, hq, and_self, iE, iN, iB, iC, iL, iD, iA, iS, iM, qa, zZ, ↓qt, ↓reduceIte, reduceCtorEq, nA, nM, nS, nE, nL, nD]; try simp only [qa, zY]
          exact ⟨⟨_, rfl⟩, by rw [e, h1]; rfl⟩
        · have hq : (w[k] == 0) = false := by simpa using h0
          by_cases hin : qo .i64 (1 - n) ≤ w[k] ∧ w[k] ≤ qo .i64 (n - 1)
          · have hb : we n w[k] = false := by simp only [we, decide_eq_false h0, decide_eq_true hin]; rfl
            simp (maxSteps := 3000000) only [qf, zH, bm, qw, zw, vn, x7, zp, Vb, yi, yf, ke, hli, hk0, hw, hla, hlt, hg, hq, hin, and_self, iE, iN, iB, iC, iL, iD, iA, iS, iM, qa, zZ, ↓qt, ↓reduceIte, reduceCtorEq, nA, nM, nS, nE, nL, nD]; try simp only [qa, zY]
            refine ⟨_, qv.qy [0, 1, 5], ⟨k + 1, by omega, fun i hi h2 => ?_, rfl⟩, ?_⟩
            · by_cases e : i = k
              · subst e; exact hb
              · exact hc i (by omega) h2
            · simp only [zL, ↓reduceIte, reduceCtorEq, nE, nA]; omega
          · have hb : we n w[k] = true := by simp only [we, decide_eq_false h0, decide_eq_false hin]; rfl
            have h1 : w.any (we n) = true := List.any_eq_true.2 ⟨w[k], List.getElem_mem hlt, hb⟩
            simp (maxSteps := 3000000) only [qf, zH, bm, qw, zw, vn, x7, zp, Vb, yi, yf, ke, hli, hk0, hw, hla, hlt, hg, hq, hin, and_self, iE, iN, iB, iC, iL, iD, iA, iS, iM, qa, zZ, ↓qt, ↓reduceIte, reduceCtorEq, nA, nM, nS, nE, nL, nD]; try simp only [qa, zY]
            exact ⟨⟨_, rfl⟩, by rw [e, h1]; rfl⟩
      · have hli : ¬ (k : Int) < (w.length : Int) := by omega
        obtain rfl : k = w.length := by omega
        have h1 : w.any (we n) = false := List.any_eq_false.2 fun d hd => by
          obtain ⟨i, hi, rfl⟩ := List.getElem_of_mem hd
          rw [hc i (by omega) hi]; simp
        simp (maxSteps := 3000000) only [qf, zH, bm, Be, hli, Int.lt_irrefl, iE, iN, iB, iC, iL, iD, iA, iS, iM, qa, zZ, ↓qt, ↓reduceIte, reduceCtorEq, nA, nM, nS, nE, nL, nD]; try simp only [qa, zY]
        exact ⟨⟨_, rfl⟩, by rw [e, h1]; rfl⟩
    · have h24i : (24 : Int) < (w.length : Int) := by omega
      have e : wt n w = false := by simp [wt, h24]
      simp (maxSteps := 3000000) only [qf, zH, Vs, qw, zw, vn, x7, zp, Vb, yi, yf, ke, hla, hn, h24i, and_self, iE, iN, iB, iC, iL, iD, iA, iS, iM, qa, zZ, ↓qt, ↓reduceIte, reduceCtorEq, nA, nM, nS, nE, nL, nD]; try simp only [qa, zY]
      exact ⟨⟨_, rfl⟩, by rw [e]⟩
  · have e : wt n w = false := by simp only [wt, decide_eq_false hn, Bool.false_and]
    simp (maxSteps := 3000000) only [qf, zH, Vs, qw, zw, vn, x7, zp, Vb, yi, yf, ke, hla, hn, and_self, iE, iN, iB, iC, iL, iD, iA, iS, iM, qa, zZ, ↓qt, ↓reduceIte, reduceCtorEq, nA, nM, nS, nE, nL, nD]; try simp only [qa, zY]
    exact ⟨⟨_, rfl⟩, by rw [e]⟩
def Ji : BE := fun hp xs => match xs with
  | [.int .i64 n, .slc b 0 k false 0] => match rd hp b with
    | some L => match Gs L with
      | some w => chk (k = w.length ∧ k ≤ 2000000) (some (.bool (wt n w), hp))
      | none => none
    | none => none
  | _ => none
theorem qhh {f : FuncId} (h : ∀ n w, w.length ≤ 2000000 → Am.Fn Try.prog f [.int .i64 n, .slc 0 0 w.length false 0] [.ro (xm w)] (fun v H' => v = .bool (wt n w) ∧ H' = [.ro (xm w)])) : Am.Callee Try.prog f Ji := Callee.fp fun hp xs v hp' he => by
  unfold Ji at he
  split at he
  · rename_i n b k
    split at he
    · rename_i L hL
      split at he
      · rename_i w hw
        have h9 := qk he
        clear he
        obtain ⟨⟨k1, h0⟩, h8⟩ := h9
        simp only [Option.some.injEq, Prod.mk.injEq] at h8
        obtain ⟨rfl, rfl⟩ := h8
        subst k1
        have e1 := wj hw
        subst e1
        refine ⟨[(b, 0)], [.int .i64 n, .slc 0 0 w.length false 0], _, _, _, h n w h0, by simp [AV.ren, AV.ze, ofL], rfl, ⟨⟨_, hL, by simp, by simp [qb _ _ (qn _)]⟩, trivial⟩, rfl, ⟨qi _ _ (qn _), trivial⟩, ?_, by simp [AV.ren], ?_⟩
        · simp [AV.under, AV.qm]
        · simp [after, upd, AO.wr]
      · cases he
    · cases he
  · cases he
noncomputable def qj4 : zh := ((qnf.put 57 (Ji)).put 53 (Ji))
theorem qph : qq Try.prog qj4 := ((qdm.put (qhh qjw)).put (qhh qkb))
theorem vt : qj4 121 = some (yi) := rfl
theorem Xt : qj4 122 = some (Vb) := rfl
theorem qa1 : qj4 71 = some (ql yf) := rfl
theorem Y6 : qj4 66 = some (ql yf) := rfl
theorem Zx : qj4 117 = some (ql ke) := rfl
theorem Vj : qj4 53 = some (Ji) := rfl
def Ye : AC := .seq (.region [oB 8 false]) (.seq (.region [oM 9 0,oM 10 1,oC 11 117 [.t 9,.t 10],oM 12 11,oG 13 12 true (.mov (.t 2)),oG 14 12 true (.mov (.t 3)),⟨some 15,some (12,true),.call (.c (.fn 53 [] [])) [.t 13,.t 14]⟩,o0 16 (.pick (.t 12) (.t 15) (.c (.bool false))),oM 8 16]) .ret)
theorem qid : zl Try.prog 52 = some ⟨17, Ye, [.slot 8]⟩ := by kernel_rfl
theorem qjm (p a n : Int) (w : List Int) (hl : w.length ≤ 2000000) :
    Am.Fn Try.prog 52 [.int .i64 p, .int .i64 a, .int .i64 n, .slc 0 0 w.length false 0] [.ro (xm w)] (fun v H' => v = .bool (Ve p a && wt n w) ∧ H' = [.ro (xm w)]) := by
  refine Am.Fn.xy (R := fun v => v = _) qph mixed qid (by simp [AV.qm, AV.under]) (vg (qn _)) ?_
  have hw := ur w
  cases hb : Ve p a with
  | true =>
    simp (maxSteps := 3000000) only [qf, zH, Ye, vt, Xt, qa1, Y6, Zx, Vj, Vb, yi, yf, ke, Ji, hw, hl, hb, and_self, iE, iN, iB, iC, iL, iD, iA, iS, iM, qa, zZ, ↓qt, ↓reduceIte, reduceCtorEq, nA, nM, nS, nE, nL, nD]; try simp only [qa, zY]
    exact ⟨⟨_, rfl⟩, by rw [Bool.true_and]⟩
  | false =>
    simp (maxSteps := 3000000) only [qf, zH, Ye, vt, Xt, qa1, Y6, Zx, Vj, Vb, yi, yf, ke, Ji, hw, hl, hb, and_self, iE, iN, iB, iC, iL, iD, iA, iS, iM, qa, zZ, ↓qt, ↓reduceIte, reduceCtorEq, nA, nM, nS, nE, nL, nD]; try simp only [qa, zY]
    exact ⟨⟨_, rfl⟩, by rw [Bool.false_and]⟩
def kj : BE := fun hp xs => match xs with
  | [.int .i64 p, .int .i64 a, .int .i64 n, .slc b 0 k false 0] => match rd hp b with
    | some L => match Gs L with
      | some w => chk (k = w.length ∧ k ≤ 2000000) (some (.bool (Ve p a && wt n w), hp))
      | none => none
    | none => none
  | _ => none
theorem qwp : Am.Callee Try.prog 52 kj := Callee.fp fun hp xs v hp' he => by
  unfold kj at he
  split at he
  · rename_i p a n b k
    split at he
    · rename_i L hL
      split at he
      · rename_i w hw
        have h9 := qk he
        clear he
        obtain ⟨⟨k1, h0⟩, h8⟩ := h9
        simp only [Option.some.injEq, Prod.mk.injEq] at h8
        obtain ⟨rfl, rfl⟩ := h8
        subst k1
        have e1 := wj hw
        subst e1
        refine ⟨[(b, 0)], [.int .i64 p, .int .i64 a, .int .i64 n, .slc 0 0 w.length false 0], _, _, _, qjm p a n w h0, by simp [AV.ren, AV.ze, ofL], rfl, ⟨⟨_, hL, by simp, by simp [qb _ _ (qn _)]⟩, trivial⟩, rfl, ⟨qi _ _ (qn _), trivial⟩, ?_, by simp [AV.ren], ?_⟩
        · simp [AV.under, AV.qm]
        · simp [after, upd, AO.wr]
      · cases he
    · cases he
  · cases he
noncomputable def q1k : zh := (qj4.put 52 (kj))
theorem qx6 : qq Try.prog q1k := (qph.put (qwp))
end Go.Proofs.Ytfhckbbgmblhbaa
namespace Go.Proofs.Ytfhckbbgmblhbaa
open Go.Am Go.Dia
open Nat renaming reduceAdd → nA, reduceMul → nM, reduceSub → nS, reduceEqDiff → nE, reduceLT → nL, reduceLeDiff → nD, reduceBEq → nB
open Int renaming reduceEq → iE, reduceNe → iN, reduceBEq → iB, reduceBNe → iC, reduceLT → iL, reduceLE → iD, reduceAdd → iA, reduceSub → iS, reduceMul → iM
set_option linter.unusedSimpArgs false
set_option linter.unusedVariables false
set_option maxRecDepth 4000
set_option maxHeartbeats 2000000
theorem qgx (p c n : Int) (k cap : Nat) (ex : Bool) :
    Am.Fn Try.prog 97 [.agg [.int .i64 p, .int .i64 c, .int .i64 n, .slc 0 0 k ex cap]] [.ro []] (fun v H' => v = elemV p c n 1 0 ∧ H' = [.ro [], .vec 18 []]) := by
  refine Am.Fn.ofW qn1 mixed qad (by simp [AV.qm, AV.under]) (vg rfl) ?_
  simp (maxSteps := 3000000) only [qf, zH, Yf, qa, elemV, iE, iN, iB, iC, iL, iD, iA, iS, iM, rep, qa, zZ, ↓qt, ↓reduceIte, reduceCtorEq, nA, nM, nS, nE, nL, nD]; try simp only [qa, zY]
  refine ⟨rfl, _, qv.trans (qv.qy [2]) (qv.vec 3 0 18 (by decide) rfl rfl rfl rfl), ?_⟩
  refine Ret.xj [0, 3] ⟨⟨by simp, rfl, by decide⟩, ?_⟩ (rs := [.agg [.int .i64 p, .int .i64 c, .int .i64 n, .slc 3 0 0 false 0]]) ?_ rfl (by simp [zx]) ?_ ⟨?_, ?_⟩
  · simp only [qy, zn, zV, ↓reduceIte, nE, reduceCtorEq, nB]
    simp only [zK, ↓reduceIte, reduceCtorEq, nE, nB, nA]
  · simp only [qy, zn, zV, ↓reduceIte, nE, reduceCtorEq, nB]
    rfl
  · intro j l; match j with
    | 0 => simp [q6, Wn, AO.zu, AO.ren]
    | 1 => simp [q6, Wn, AO.zu, AO.ren]
    | j + 2 => simp [q6]
  · simp only [zx]
    simp only [zL, ↓reduceIte, reduceCtorEq, nE, nA]
  · rfl
def ki : BE := fun hp xs => match xs with
  | [.agg [.int .i64 p, .int .i64 c, .int .i64 n, .slc b 0 k ex cap]] => match rd hp b with
    | some _ => some (elemV p c n hp.length 0, hp ++ [.vec 18 []])
    | none => none
  | _ => none
theorem qtn : Am.Callee Try.prog 97 ki := Callee.fp fun hp xs v hp' he => by
  unfold ki at he
  split at he
  · rename_i p c n b k ex cap
    split at he
    · rename_i L hL
      simp only [Option.some.injEq, Prod.mk.injEq] at he
      obtain ⟨rfl, rfl⟩ := he
      refine ⟨[(b, 0)], [.agg [.int .i64 p, .int .i64 c, .int .i64 n, .slc 0 0 k ex cap]], _, _, _, qgx p c n k cap ex, by simp [AV.ren, AV.ze, ofL], rfl, ⟨⟨L, hL, by simp, by simp [AV.ze]⟩, trivial⟩, rfl, ⟨trivial, trivial⟩, ⟨⟨trivial, trivial, trivial, by simp [AV.under], trivial⟩, trivial⟩, by simp [elemV, AV.ren, AV.ze, Ren.ext], ?_⟩
      simp [after, upd, AO.wr, AO.ren, AV.ze]
    · cases he
  · cases he
noncomputable def qxj : zh := (q1k.put 97 (ki))
theorem qp8 : qq Try.prog qxj := (qx6.put (qtn))
theorem qb5 : qxj 83 = some (ql js) := rfl
theorem Kr : qxj 97 = some (ki) := rfl
theorem qkm (p c n : Int) (k cap : Nat) (ex : Bool) (hn : 1 ≤ n ∧ n ≤ 8) :
    Am.Fn Try.prog 119 [.agg [.int .i64 p, .int .i64 c, .int .i64 n, .slc 0 0 k ex cap]] [.ro []] (fun v H' => v = elemV p c n 1 1 ∧ H' = [.ro [], .vec 18 (qx [(n, xk n.toNat, 1)])]) := by
  refine Am.Fn.ofW qp8 mixed qez (by simp [AV.qm, AV.under]) (vg rfl) ?_
  have o1 := Qr (n := n.toNat) (by omega)
  have o2 := o1.1
  have c0 : 0 ≤ n ∧ n ≤ 8 := by omega
  have e0 : (trm (0, List.replicate 16 0, 0)).length = 18 := rfl
  have e1 : over (trm (0, List.replicate 16 0, 0)) 0 (dia n (xk n.toNat)) = trm (n, xk n.toNat, 0) := Q7 (by simp) o2
  have e2 : over (trm (n, xk n.toNat, 0)) 17 [.int .i64 1] = trm (n, xk n.toNat, 1) := Zm o2
  have e3 : over (trm (0, List.replicate 16 0, 0)) 0 (trm (n, xk n.toNat, 1)) = trm (n, xk n.toNat, 1) := gb (by simp) o2
  have e4 : (trm (n, xk n.toNat, 1)).length = 18 := by rw [wc, o2]
  have e5 : (trm (n, xk n.toNat, 0)).length = 18 := by rw [wc, o2]
  simp (maxSteps := 3000000) only [qf, zH, Kn, qb5, Kr, ki, js, elemV, c0, qh, o2, ve, e0, e1, e2, e3, e4, e5, ji, src, lim, bx, Option.map_some, Option.map_none, List.all_nil, Nat.zero_mul, Int.toNat_zero, List.take_zero, Nat.le_refl, and_self, iE, iN, iB, iC, iL, iD, iA, iS, iM, qa, zZ, ↓qt, ↓reduceIte, reduceCtorEq, nA, nM, nS, nE, nL, nD]; try simp only [qa, zY]
  exact ⟨rfl, ⟨_, rfl⟩, by rw [bl o2, ji], rfl, rfl, _, qv.refl _, qju rfl (qc _) rfl rfl rfl (by rw [bl o2]; simp [qx])⟩
def V6 : BE := fun hp xs => match xs with
  | [.agg [.int .i64 p, .int .i64 c, .int .i64 n, .slc b 0 k ex cap]] => match rd hp b with
    | some _ => chk (1 ≤ n ∧ n ≤ 8) (some (elemV p c n hp.length 1, hp ++ [.vec 18 (qx [(n, xk n.toNat, 1)])]))
    | none => none
  | _ => none
theorem qxc : Am.Callee Try.prog 119 V6 := Callee.fp fun hp xs v hp' he => by
  unfold V6 at he
  split at he
  · rename_i p c n b k ex cap
    split at he
    · rename_i L hL
      obtain ⟨h1, he⟩ := qk he
      simp only [Option.some.injEq, Prod.mk.injEq] at he
      obtain ⟨rfl, rfl⟩ := he
      refine ⟨[(b, 0)], [.agg [.int .i64 p, .int .i64 c, .int .i64 n, .slc 0 0 k ex cap]], _, _, _, qkm p c n k cap ex h1, by simp [AV.ren, AV.ze, ofL], rfl, ⟨⟨L, hL, by simp, by simp [AV.ze]⟩, trivial⟩, rfl, ⟨trivial, trivial⟩, ⟨⟨trivial, trivial, trivial, by simp [AV.under], trivial⟩, trivial⟩, by simp [elemV, AV.ren, AV.ze, Ren.ext], ?_⟩
      simp [after, upd, AO.wr, AO.ren, AV.ze, qb _ _ (qc _)]
    · cases he
  · cases he
noncomputable def Bc : zh := (qxj.put 119 (V6))
theorem qal : qq Try.prog Bc := (qp8.put (qxc))
def qi9 (p n : Int) (k : Nat) (a b : Int) : List (Int × List Nat × Int) := j4 p [(n, xk n.toNat, a)] n (J2 n.toNat k) b
noncomputable def kr (p a n i : Int) : List (Int × List Nat × Int) := if i < 0 then qi9 p n (-i - 1).toNat (jx p a) a else qi9 p n (i - 1).toNat a (jx p a)
noncomputable def ku (p a n : Int) (w : List Int) : List (Int × List Nat × Int) := w.foldl (fun acc i => MP p n (wa p (yp p a) n acc (kr p a n i))) [(n, xk n.toNat, 1)]
theorem qbh {p a n : Int} {w : List Int} {k : Nat} (h : k < w.length) : ku p a n (w.take (k + 1)) = MP p n (wa p (yp p a) n (ku p a n (w.take k)) (kr p a n w[k])) := by
  rw [List.take_succ_eq_append_getElem h, ku, List.foldl_append]; rfl
theorem Wh {p n k : Int} (hn : 1 ≤ n ∧ n ≤ 8) (hk : 1 ≤ k ∧ k ≤ p - 1) : xa p n [(n, xk n.toNat, k)] :=
  ⟨fun t h => by simp at h; subst h; exact Qr (by omega), fun t h => by simp at h; subst h; exact ⟨rfl, qvj (by omega)⟩, fun t h => by simp at h; subst h; exact hk, List.pairwise_singleton ..⟩
theorem qc0 {p n a b : Int} {k : Nat} (hp : 2 ≤ p) (hn : 1 ≤ n ∧ n ≤ 8) (hk : k + 1 < n.toNat) (ha : 1 ≤ a ∧ a ≤ p - 1) : xa p n (qi9 p n k a b) ∧ (qi9 p n k a b).length ≤ 2 :=
  ⟨qb2 (by omega) (Vr (by omega) hk) (qp9 (by omega) hk) (Wh hn ha), qfe⟩
theorem qih {n i : Int} (hn : 2 ≤ n ∧ n ≤ 6) (h : we n i = false) : i ≠ 0 ∧ 1 - n ≤ i ∧ i ≤ n - 1 := by
  rw [we, Bool.or_eq_false_iff, Bool.not_eq_false', decide_eq_false_iff_not, decide_eq_true_eq, wrap64 (by omega) (by omega), wrap64 (by omega) (by omega)] at h
  exact ⟨h.1, h.2⟩
theorem Bv {p a n i : Int} (h : okI p a) (hn : 2 ≤ n ∧ n ≤ 6) (hi : we n i = false) : xa p n (kr p a n i) ∧ (kr p a n i).length ≤ 2 := by
  have hb := vi h.1
  have hv := (Wv h.1 h.2).1
  obtain ⟨h0, h1, h2⟩ := qih hn hi
  unfold kr
  split
  · exact qc0 (by omega) (by omega) (by omega) hv
  · exact qc0 (by omega) (by omega) (by omega) h.2
theorem Qo {p a n : Int} {w : List Int} (h : okI p a) (hn : 2 ≤ n ∧ n ≤ 6) (hw : w.any (we n) = false) : ∀ k, k ≤ w.length → xa p n (ku p a n (w.take k)) ∧ (ku p a n (w.take k)).length ≤ 132
  | 0, _ => by
    have hb := vi h.1
    have := Wh (p := p) (n := n) (k := 1) (by omega) (by omega)
    exact ⟨by simpa [ku] using this, by simp [ku]⟩
  | k + 1, hk => by
    have hb := vi h.1
    have ih := Qo h hn hw k (by omega)
    have hi : we n (w[k]'(by omega)) = false := by
      have := List.any_eq_false.1 hw _ (List.getElem_mem (show k < w.length by omega))
      simpa using this
    have hc := Bv h hn hi
    rw [qbh (by omega)]
    have hg := (qxf (c := yp p a) hb (Wr h) ih.1 hc.1 ⟨by omega, by omega⟩).1
    exact ⟨hg, qs5 hg (by omega)⟩
theorem qqo {p n k : Int} {m : List Nat} (hk : 1 ≤ k ∧ k ≤ p - 1) : j4 p [] n m k = [(n, m, k)] := by
  have e : k.emod p = k := Int.emod_eq_of_lt (by omega) (by omega)
  rw [Gi, e, if_neg (by omega)]; rfl
theorem gi : Bc 84 = some (ql Vm) := rfl
theorem wq : Bc 67 = some (ql vk) := rfl
theorem gu : Bc 83 = some (ql js) := rfl
theorem uf : Bc 97 = some (ki) := rfl
theorem gw : Bc 119 = some (V6) := rfl
theorem gm : Bc 100 = some (Z7) := rfl
theorem ub : Bc 98 = some (Vt) := rfl
theorem u6 : Bc 118 = some (ql bd) := rfl
def u9 : AC := .seq (.seq (.region [oM 29 12,oM 30 3,o0 31 (.len .slc (.t 30)),oP 32 .lss 29 31]) (.cond 32 .skip (.exit 0))) (.seq (.block 1 (.seq (.draw false [oM 35 3,oM 36 12,oX 37 1 35 36,oL 38 37,oM 39 3,oM 40 12,oX 41 1 39 40,oL 42 41,o0 43 (.un .neg (.t 42)),o0 44 (.Jj false (.t 38) (.t 43)),oK 45 .sub 44 1,oM 46 1,oM 47 11,oM 13 45,oM 14 46,oM 15 47]) (.seq (.seq (.region [oM 48 3,oM 49 12,oX 50 1 48 49,oL 51 50,oK 52 .lss 51 0]) (.cond 52 (.seq (.region [oM 53 11,oM 14 53]) (.region [oM 54 1,oM 15 54])) .skip)) (.seq (.region [oN 55 4 9,oC 56 97 [.t 55],oZ 16,oS 4 16 56]) (.seq (.draw true [oM 57 0,oF 58 3 16,oL 59 58,oM 60 2,oM 62 14,oC 61 83 [.t 60],oC 63 100 [.t 57,.t 59,.t 61,.t 62],oF 64 3 16,oT 64 63]) (.seq (.draw true [oM 65 0,oF 66 3 16,oL 67 66,oM 68 2,oM 69 13,oM 71 15,oC 70 84 [.t 68,.t 69],oC 72 100 [.t 65,.t 67,.t 70,.t 71],oF 73 3 16,oT 73 72]) (.region [oN 74 4 10,oN 75 4 16,oC 76 98 [.t 74,.t 75],oS 4 10 76]))))))) (.region [oM 33 12,oK 34 .add 33 1,oM 12 34]))
def Vf : AC := .seq (.region [oN 77 4 10,oS 4 8 77]) .ret
def U4 : AC := .seq (.region [oZ 8]) (.seq (.region [oM 17 0,oM 18 0,oM 19 1,oC 20 118 [.t 18,.t 19],oM 21 2,o0 22 (.Qm 0 [] []),o0 23 (.build [.int .i64 0,.int .i64 0,.int .i64 0,(.v (.slice none 0 0))] [(0,1,.t 17),(1,1,.t 20),(2,1,.t 21),(3,1,.t 22)]),oZ 9,oS 4 9 23]) (.seq (.region [oN 24 4 9,oC 25 119 [.t 24],oM 26 0,oM 27 1,oC 28 67 [.t 26,.t 27],oZ 10,oS 4 10 25,oM 11 28]) (.seq (.seq (.region [oI 12 0]) (.block 0 (.loop u9))) Vf)))
theorem qe6 : zl Try.prog 55 = some ⟨78, U4, [.gz 8 4]⟩ := by kernel_rfl
theorem qef (p a n : Int) (w : List Int) (h : okI p a) (hn : 2 ≤ n ∧ n ≤ 6) (hl : w.length ≤ 24) (hbw : w.any (we n) = false) :
    Am.Fn Try.prog 55 [.int .i64 p, .int .i64 a, .int .i64 n, .slc 0 0 w.length false 0] [.ro (xm w)]
      (fun v H' => v = elemV p (yp p a) n 1 (ku p a n w).length ∧ H' = [.ro (xm w), .vec 18 (qx (ku p a n w))]) := by
  refine Am.Fn.ofW qal mixed qe6 (by simp [AV.qm, AV.under]) (vg (qn _)) ?_
  have hla := xg w
  have hb := vi h.1
  have ha := h.2
  have hlb := Wr h
  have hv := (Wv h.1 h.2).1
  have c1 : 1 ≤ n ∧ n ≤ 8 := by omega
  have c0 : 0 ≤ n ∧ n ≤ 8 := by omega
  simp (maxSteps := 3000000) only [qf, zH, U4, gi, wq, gu, uf, gw, gm, ub, u6, ki, Vm, bd, Vt, Z7, vk, V6, js, ue, elemV, vd, qb _ _ (qc _), qb _ _ (qe _ _), h, hb, ha, hla, c1, c0, and_self, iE, iN, iB, iC, iL, iD, iA, iS, iM, qa, zZ, ↓qt, ↓reduceIte, reduceCtorEq, nA, nM, nS, nE, nL, nD]; try simp only [qa, zY]
  refine ⟨rfl, rfl, ?_⟩
  refine WA.jl qal (fun s => ∃ k : Nat, k ≤ w.length ∧ s = ⟨[(0, .int .i64 p), (1, .int .i64 a), (2, .int .i64 n), (3, .slc 0 0 w.length false 0), (8, .ptr 1 0), (9, .ptr 2 0), (10, .ptr 4 0), (11, .int .i64 (jx p a)), (12, .int .i64 k)], [.ro (xm w), qgy, .cells [.int .i64 p, .int .i64 (yp p a), .int .i64 n, .slc 3 0 0 true 0], .cells [], .cells [.int .i64 p, .int .i64 (yp p a), .int .i64 n, .slc 5 0 (ku p a n (w.take k)).length false 0], .vec 18 (qx (ku p a n (w.take k)))]⟩)
    (fun s => match get s.env 12 with | .int _ x => w.length - x.toNat | _ => 0) ⟨_, qv.can [0, 1, 2, 3, 8, 9, 10, 11, 12] (by simp only [Ys, zC, nB, nD, nA, nE, ↓reduceIte, reduceCtorEq]; rfl), 0, by omega, ?_⟩ ?_
  · simp only [qb _ _ (qc _), qb _ _ (qn _), zL, ↓reduceIte, reduceCtorEq, nE, nA]
    rfl
  rintro s ⟨k, hk, rfl⟩
  have hbr := Qo h hn hbw k hk
  have hg1 := hbr.1.dec
  have htp := jb hbr.1.ok
  have hlp := zb hbr.1.ok
  have hl1 : (ku p a n (w.take k)).length ≤ 300 := by omega
  by_cases hlt : k < w.length
  · have hw : qo .i64 ((k : Int) + 1) = ((k + 1 : Nat) : Int) := by rw [wrap64 (by omega) (by omega)]; rfl
    have hli : (k : Int) < (w.length : Int) := by omega
    have hk0 : (0 : Int) ≤ k := by omega
    have hg : w.getD k 0 = w[k] := by simp [hlt]
    have hbi : we n w[k] = false := by
      have := List.any_eq_false.1 hbw _ (List.getElem_mem hlt)
      simpa using this
    obtain ⟨d0, d1, d2⟩ := qih hn hbi
    have hcr := Bv h hn hbi
    have hg2 := hcr.1.dec
    have htc := jb hcr.1.ok
    have hlc := zb hcr.1.ok
    have hl2 : (kr p a n w[k]).length ≤ 300 := by omega
    have hnext := qbh (p := p) (a := a) (n := n) hlt
    have hgn := Qo h hn hbw (k + 1) (by omega)
    have hln := zb hgn.1.ok
    have hw1 : qo .i64 (0 - w[k]) = -w[k] := by rw [wrap64 (by omega) (by omega)]; omega
    by_cases hneg : w[k] < 0
    · have hx : (if -w[k] > w[k] then -w[k] else w[k]) = -w[k] := if_pos (by omega)
      have hw2 : qo .i64 (-w[k] - 1) = -w[k] - 1 := wrap64 (by omega) (by omega)
      have hgen : n ≤ 8 ∧ 0 ≤ -w[k] - 1 ∧ -w[k] - 1 + 1 < n := by omega
      have hcI : kr p a n w[k] = j4 p [(n, xk n.toNat, jx p a)] n (J2 n.toNat (-w[k] - 1).toNat) (a) := by unfold kr; rw [if_pos hneg]; rfl
      rw [hcI] at hg2 htc hlc hl2 hnext
      have hog := Wh (p := p) (n := n) (k := jx p a) c1 hv
      have hto : Va 1 (qx _) = some _ := jb hog.ok
      have hlo := zb hog.ok
      have hpo := qqo (n := n) (m := xk n.toNat) hv
      have hne : ¬ ((jx p a).emod p = 0) := by
        have e : (jx p a).emod p = jx p a := Int.emod_eq_of_lt (by omega) (by omega)
        rw [e]; omega
      have hne2 : ¬ ((a).emod p = 0) := by
        have e : (a).emod p = a := Int.emod_eq_of_lt (by omega) (by omega)
        rw [e]; omega
      have hdu : yh (dia n (xk n.toNat)) = some (n, xk n.toNat) := q9 (Qr (by omega))
      have hdg : yh (dia n (J2 n.toNat (-w[k] - 1).toNat)) = some (n, J2 n.toNat (-w[k] - 1).toNat) := q9 (Vr (by omega) (by omega))
      have p1 : 0 < p ∧ p ≤ 1000000 := by omega
      have hf0 : qgn n [] := ⟨by simp, by simp, by simp, .nil⟩
      have hf1 : qgn n [(n, xk n.toNat, jx p a)] := hog.fit (by omega) (by simp)
      have ht0 : Va 0 [] = some [] := rfl
      simp (maxSteps := 3000000) only [qf, zH, u9, gi, wq, gu, uf, gw, gm, ub, u6, ki, Vm, bd, Vt, Z7, vk, V6, js, ue, elemV, vd, qb _ _ (qc _), qb _ _ (qe _ _), hli, hk0, hw, hla, hlt, hg, hw1, hx, hw2, hneg, hgen, hto, hlo, hpo, hdu, hdg, hne, hne2, p1, c0, c1, hf0, hf1, ht0, hg1, htp, hlp, hl1, hg2, htc, hlc, hl2, hln, hb, hlb, ← hnext, and_self, iE, iN, iB, iC, iL, iD, iA, iS, iM, qa, zZ, ↓qt, ↓reduceIte, reduceCtorEq, nA, nM, nS, nE, nL, nD]; try simp only [qa, zY]
      repeat' refine And.intro (by first | rfl | exact ⟨_, rfl⟩) ?_
      refine ⟨_, qv.can [0, 1, 2, 3, 8, 9, 10, 11, 12] (by simp only [Ys, zC, nB, nD, nA, nE, ↓reduceIte, reduceCtorEq]; rfl), ⟨k + 1, by omega, ?_⟩, ?_⟩
      · simp only [qb _ _ (qc _), qb _ _ (qn _), zL, ↓reduceIte, reduceCtorEq, nE, nA]
      · simp only [zL, ↓reduceIte, reduceCtorEq, nE, nA]; omega
    · have hx : (if -w[k] > w[k] then -w[k] else w[k]) = w[k] := if_neg (by omega)
      have hw2 : qo .i64 (w[k] - 1) = w[k] - 1 := wrap64 (by omega) (by omega)
      have hgen : n ≤ 8 ∧ 0 ≤ w[k] - 1 ∧ w[k] - 1 + 1 < n := by omega
      have hcI : kr p a n w[k] = j4 p [(n, xk n.toNat, a)] n (J2 n.toNat (w[k] - 1).toNat) (jx p a) := by unfold kr; rw [if_neg hneg]; rfl
      rw [hcI] at hg2 htc hlc hl2 hnext
      have hog := Wh (p := p) (n := n) (k := a) c1 ha
      have hto : Va 1 (qx _) = some _ := jb hog.ok
      have hlo := zb hog.ok
      have hpo := qqo (n := n) (m := xk n.toNat) ha
      have hne : ¬ ((a).emod p = 0) := by
        have e : (a).emod p = a := Int.emod_eq_of_lt (by omega) (by omega)
        rw [e]; omega
      have hne2 : ¬ ((jx p a).emod p = 0) := by
        have e : (jx p a).emod p = jx p a := Int.emod_eq_of_lt (by omega) (by omega)
        rw [e]; omega
      have hdu : yh (dia n (xk n.toNat)) = some (n, xk n.toNat) := q9 (Qr (by omega))
      have hdg : yh (dia n (J2 n.toNat (w[k] - 1).toNat)) = some (n, J2 n.toNat (w[k] - 1).toNat) := q9 (Vr (by omega) (by omega))
      have p1 : 0 < p ∧ p ≤ 1000000 := by omega
      have hf0 : qgn n [] := ⟨by simp, by simp, by simp, .nil⟩
      have hf1 : qgn n [(n, xk n.toNat, a)] := hog.fit (by omega) (by simp)
      have ht0 : Va 0 [] = some [] := rfl
      simp (maxSteps := 3000000) only [qf, zH, u9, gi, wq, gu, uf, gw, gm, ub, u6, ki, Vm, bd, Vt, Z7, vk, V6, js, ue, elemV, vd, qb _ _ (qc _), qb _ _ (qe _ _), hli, hk0, hw, hla, hlt, hg, hw1, hx, hw2, hneg, hgen, hto, hlo, hpo, hdu, hdg, hne, hne2, p1, c0, c1, hf0, hf1, ht0, hg1, htp, hlp, hl1, hg2, htc, hlc, hl2, hln, hb, hlb, ← hnext, and_self, iE, iN, iB, iC, iL, iD, iA, iS, iM, qa, zZ, ↓qt, ↓reduceIte, reduceCtorEq, nA, nM, nS, nE, nL, nD]; try simp only [qa, zY]
      repeat' refine And.intro (by first | rfl | exact ⟨_, rfl⟩) ?_
      refine ⟨_, qv.can [0, 1, 2, 3, 8, 9, 10, 11, 12] (by simp only [Ys, zC, nB, nD, nA, nE, ↓reduceIte, reduceCtorEq]; rfl), ⟨k + 1, by omega, ?_⟩, ?_⟩
      · simp only [qb _ _ (qc _), qb _ _ (qn _), zL, ↓reduceIte, reduceCtorEq, nE, nA]
      · simp only [zL, ↓reduceIte, reduceCtorEq, nE, nA]; omega
  · have hli : ¬ (k : Int) < (w.length : Int) := by omega
    obtain rfl : k = w.length := by omega
    simp (maxSteps := 3000000) only [qf, zH, u9, Vf, gi, wq, gu, uf, gw, gm, ub, u6, ki, Vm, bd, Vt, Z7, vk, V6, js, ue, elemV, vd, qb _ _ (qc _), qb _ _ (qe _ _), hli, Int.lt_irrefl, iE, iN, iB, iC, iL, iD, iA, iS, iM, qa, zZ, ↓qt, ↓reduceIte, reduceCtorEq, nA, nM, nS, nE, nL, nD]; try simp only [qa, zY]
    rw [List.take_length]
    exact ⟨rfl, _, qv.refl _, qju (qn _) (qc _) rfl rfl rfl rfl⟩
theorem qqf {p n k : Int} {a : List (Int × List Nat × Int)} {m : List Nat} : qbs p n k a [(n, m, 1)] = j4 p a n m k := by
  simp [qbs]
theorem ql7 {p n k : Int} {i : Nat} (hn : 1 ≤ n ∧ n ≤ 8) (hi : i + 1 < n.toNat) (hk : 1 ≤ k ∧ k ≤ p - 1) : xa p n [(n, J2 n.toNat i, k)] :=
  ⟨fun t h => by simp at h; subst h; exact Vr (by omega) hi, fun t h => by simp at h; subst h; exact ⟨rfl, qp9 (by omega) hi⟩, fun t h => by simp at h; subst h; exact hk, List.pairwise_singleton ..⟩
theorem qdx {p k : Int} (hk : 1 ≤ k ∧ k ≤ p - 1) : k.emod p = k := Int.emod_eq_of_lt (by omega) (by omega)
theorem q0v {p k : Int} (hk : 1 ≤ k ∧ k ≤ p - 1) : ¬ k.emod p = 0 := by rw [qdx hk]; omega
theorem yj : Bc 125 = some (ql Vm) := rfl
theorem u7 : Bc 72 = some (ql vj) := rfl
theorem yk : Bc 123 = some (ql bd) := rfl
theorem wu : Bc 90 = some (Vt) := rfl
theorem Q0 : Bc 124 = some (Bd) := rfl
theorem gv : Bc 103 = some (qgm j3) := rfl
theorem Qs : Bc 88 = some (ql js) := rfl
def X8 : AC := .seq (.region [oP 33 .lss 32 31]) (.seq (.cond 33 .skip (.exit 0)) (.seq (.block 1 (.seq (.region [oX 34 1 30 32,oL 35 34,oM 14 35]) (.seq (.region [oM 36 1,oM 37 10,oM 15 36,oM 16 37]) (.seq (.seq (.region [oM 38 14,oK 39 .lss 38 0]) (.cond 39 (.region [oM 40 10,oM 41 1,oM 42 14,o0 43 (.un .neg (.t 42)),oM 15 40,oM 16 41,oM 14 43]) .skip)) (.seq (.region [oM 44 0,oM 45 9,oM 46 2,oC 47 88 [.t 46],oM 48 15,oC 49 103 [.t 44,.t 45,.t 47,.t 48],oM 50 0,oM 51 9,oM 52 2,oM 53 14,oK 54 .sub 53 1,oC 55 125 [.t 52,.t 54],oC 56 103 [.t 50,.t 51,.t 55,(.c (.int .i64 1))],oM 57 16,oC 58 124 [.t 49,.t 56,.t 57],oZ 17,oS 4 17 58]) (.region [oN 59 4 12,oN 60 4 17,oC 61 90 [.t 59,.t 60],oS 4 12 61])))))) (.region [oK 62 .add 32 1,oM 32 62])))
def qax : AC := .seq (.region [oN 63 4 12,oS 4 8 63]) .ret
def qhy : AC := .seq (.region [oZ 8]) (.seq (.region [oM 18 0,oM 19 1,oC 20 123 [.t 18,.t 19],oM 21 1,oM 22 0,oC 23 72 [.t 21,.t 22],oM 9 20,oM 10 23]) (.seq (.region [oM 24 0,oM 25 9,oM 26 2,oC 27 88 [.t 26],oC 28 103 [.t 24,.t 25,.t 27,(.c (.int .i64 1))],oZ 11,oS 4 11 28]) (.seq (.region [oN 29 4 11,oZ 12,oS 4 12 29]) (.seq (.seq (.region [oM 30 3,o0 31 (.len .slc (.t 30)),oI 32 0]) (.block 0 (.loop X8))) qax))))
theorem qrb : zl Try.prog 59 = some ⟨64, qhy, [.gz 8 4]⟩ := by kernel_rfl
theorem qrl (p a n : Int) (w : List Int) (h : okI p a) (hn : 2 ≤ n ∧ n ≤ 6) (hl : w.length ≤ 24) (hbw : w.any (we n) = false) :
    Am.Fn Try.prog 59 [.int .i64 p, .int .i64 a, .int .i64 n, .slc 0 0 w.length false 0] [.ro (xm w)]
      (fun v H' => v = elemV p (yp p a) n 1 (ku p a n w).length ∧ H' = [.ro (xm w), .vec 18 (qx (ku p a n w))]) := by
  refine Am.Fn.ofW qal mixed qrb (by simp [AV.qm, AV.under]) (vg (qn _)) ?_
  have hla := xg w
  have hb := vi h.1
  have ha := h.2
  have hlb := Wr h
  have hv := (Wv h.1 h.2).1
  have c1 : 1 ≤ n ∧ n ≤ 8 := by omega
  have c0 : 0 ≤ n ∧ n ≤ 8 := by omega
  have k1 : (1 : Int) ≤ 1 ∧ (1 : Int) ≤ p - 1 := by omega
  have p1 : 0 < p ∧ p ≤ 1000000 := by omega
  have s1 := qdx k1
  have n1 := q0v k1
  have hdu : yh (dia n (xk n.toNat)) = some (n, xk n.toNat) := q9 (Qr (by omega))
  simp (maxSteps := 3000000) only [qf, zH, qhy, yj, u7, yk, wu, Q0, gv, Qs, Vm, vj, bd, Vt, Bd, j3, js, ue, elemV, vd, qb _ _ (qc _), qb _ _ (qe _ _), h, hb, ha, hla, c1, c0, p1, s1, n1, hdu, List.length_singleton, and_self, iE, iN, iB, iC, iL, iD, iA, iS, iM, qa, zZ, ↓qt, ↓reduceIte, reduceCtorEq, nA, nM, nS, nE, nL, nD]; try simp only [qa, zY]
  refine ⟨rfl, rfl, ?_⟩
  refine WA.jl qal (fun s => ∃ k : Nat, k ≤ w.length ∧ s = ⟨[(0, .int .i64 p), (1, .int .i64 a), (2, .int .i64 n), (8, .ptr 1 0), (9, .int .i64 (yp p a)), (10, .int .i64 (jx p a)), (12, .ptr 2 0), (30, .slc 0 0 w.length false 0), (31, .int .i64 w.length), (32, .int .i64 k)], [.ro (xm w), qgy, .cells [.int .i64 p, .int .i64 (yp p a), .int .i64 n, .slc 3 0 (ku p a n (w.take k)).length false 0], .vec 18 (qx (ku p a n (w.take k)))]⟩)
    (fun s => match get s.env 32 with | .int _ x => w.length - x.toNat | _ => 0) ⟨_, qv.can [0, 1, 2, 8, 9, 10, 12, 30, 31, 32] (by simp only [Ys, zC, nB, nD, nA, nE, ↓reduceIte, reduceCtorEq]; rfl), 0, by omega, ?_⟩ ?_
  · simp only [qb _ _ (qc _), qb _ _ (qn _), zL, ↓reduceIte, reduceCtorEq, nE, nA]
    rfl
  rintro s ⟨k, hk, rfl⟩
  have hbr := Qo h hn hbw k hk
  have hg1 := hbr.1.dec
  have htp := jb hbr.1.ok
  have hlp := zb hbr.1.ok
  have hl1 : (ku p a n (w.take k)).length ≤ 300 := by omega
  by_cases hlt : k < w.length
  · have hw : qo .i64 ((k : Int) + 1) = ((k + 1 : Nat) : Int) := by rw [wrap64 (by omega) (by omega)]; rfl
    have hli : (k : Int) < (w.length : Int) := by omega
    have hk0 : (0 : Int) ≤ k := by omega
    have hg : w.getD k 0 = w[k] := by simp [hlt]
    have hbi : we n w[k] = false := by
      have := List.any_eq_false.1 hbw _ (List.getElem_mem hlt)
      simpa using this
    obtain ⟨d0, d1, d2⟩ := qih hn hbi
    have hcr := Bv h hn hbi
    have hg2 := hcr.1.dec
    have htc := jb hcr.1.ok
    have hlc := zb hcr.1.ok
    have hl2 : (kr p a n w[k]).length ≤ 300 := by omega
    have hnext := qbh (p := p) (a := a) (n := n) hlt
    have hgn := Qo h hn hbw (k + 1) (by omega)
    have hln := zb hgn.1.ok
    have hw1 : qo .i64 (0 - w[k]) = -w[k] := by rw [wrap64 (by omega) (by omega)]; omega
    by_cases hneg : w[k] < 0
    · have hw2 : qo .i64 (-w[k] - 1) = -w[k] - 1 := wrap64 (by omega) (by omega)
      have hgen : n ≤ 8 ∧ 0 ≤ -w[k] - 1 ∧ -w[k] - 1 + 1 < n := by omega
      have hcI : kr p a n w[k] = j4 p [(n, xk n.toNat, jx p a)] n (J2 n.toNat (-w[k] - 1).toNat) (a) := by unfold kr; rw [if_pos hneg]; rfl
      rw [hcI] at hg2 htc hlc hl2 hnext
      have hog := Wh (p := p) (n := n) (k := jx p a) c1 hv
      have hto : Va 1 (qx _) = some _ := jb hog.ok
      have hog1 := hog.dec
      have hgg := ql7 (p := p) (n := n) (k := 1) (i := (-w[k] - 1).toNat) c1 (by omega) k1
      have htg : Va 1 (qx _) = some _ := jb hgg.ok
      have hgg1 := hgg.dec
      have s2 := qdx hv
      have n2 : ¬ jx p a = 0 := by omega
      have hdg : yh (dia n (J2 n.toNat (-w[k] - 1).toNat)) = some (n, J2 n.toNat (-w[k] - 1).toNat) := q9 (Vr (by omega) (by omega))
      have q1 : (1 : Nat) ≤ 100000 := by omega
      have q2 : -1000001 ≤ (a) ∧ (a) ≤ 1000001 := by omega
      simp (maxSteps := 3000000) only [qf, zH, X8, yj, u7, yk, wu, Q0, gv, Qs, Vm, vj, bd, Vt, Bd, j3, js, ue, elemV, vd, qb _ _ (qc _), qb _ _ (qe _ _), hli, hk0, hw, hla, hlt, hg, hw1, hw2, hneg, hgen, hto, hog1, htg, hgg1, hdu, hdg, s1, n1, s2, n2, q1, q2, qqf, List.length_singleton, p1, c0, c1, hg1, htp, hlp, hl1, hg2, htc, hlc, hl2, hln, hb, hlb, ← hnext, and_self, iE, iN, iB, iC, iL, iD, iA, iS, iM, qa, zZ, ↓qt, ↓reduceIte, reduceCtorEq, nA, nM, nS, nE, nL, nD]; try simp only [qa, zY]
      repeat' refine And.intro (by first | rfl | exact ⟨_, rfl⟩) ?_
      refine ⟨_, qv.can [0, 1, 2, 8, 9, 10, 12, 30, 31, 32] (by simp only [Ys, zC, nB, nD, nA, nE, ↓reduceIte, reduceCtorEq]; rfl), ⟨k + 1, by omega, ?_⟩, ?_⟩
      · simp only [qb _ _ (qc _), qb _ _ (qn _), zL, ↓reduceIte, reduceCtorEq, nE, nA]
      · simp only [zL, ↓reduceIte, reduceCtorEq, nE, nA]; omega
    · have hw2 : qo .i64 (w[k] - 1) = w[k] - 1 := wrap64 (by omega) (by omega)
      have hgen : n ≤ 8 ∧ 0 ≤ w[k] - 1 ∧ w[k] - 1 + 1 < n := by omega
      have hcI : kr p a n w[k] = j4 p [(n, xk n.toNat, a)] n (J2 n.toNat (w[k] - 1).toNat) (jx p a) := by unfold kr; rw [if_neg hneg]; rfl
      rw [hcI] at hg2 htc hlc hl2 hnext
      have hog := Wh (p := p) (n := n) (k := a) c1 ha
      have hto : Va 1 (qx _) = some _ := jb hog.ok
      have hog1 := hog.dec
      have hgg := ql7 (p := p) (n := n) (k := 1) (i := (w[k] - 1).toNat) c1 (by omega) k1
      have htg : Va 1 (qx _) = some _ := jb hgg.ok
      have hgg1 := hgg.dec
      have s2 := qdx ha
      have n2 : ¬ a = 0 := by omega
      have hdg : yh (dia n (J2 n.toNat (w[k] - 1).toNat)) = some (n, J2 n.toNat (w[k] - 1).toNat) := q9 (Vr (by omega) (by omega))
      have q1 : (1 : Nat) ≤ 100000 := by omega
      have q2 : -1000001 ≤ (jx p a) ∧ (jx p a) ≤ 1000001 := by omega
      simp (maxSteps := 3000000) only [qf, zH, X8, yj, u7, yk, wu, Q0, gv, Qs, Vm, vj, bd, Vt, Bd, j3, js, ue, elemV, vd, qb _ _ (qc _), qb _ _ (qe _ _), hli, hk0, hw, hla, hlt, hg, hw1, hw2, hneg, hgen, hto, hog1, htg, hgg1, hdu, hdg, s1, n1, s2, n2, q1, q2, qqf, List.length_singleton, p1, c0, c1, hg1, htp, hlp, hl1, hg2, htc, hlc, hl2, hln, hb, hlb, ← hnext, and_self, iE, iN, iB, iC, iL, iD, iA, iS, iM, qa, zZ, ↓qt, ↓reduceIte, reduceCtorEq, nA, nM, nS, nE, nL, nD]; try simp only [qa, zY]
      repeat' refine And.intro (by first | rfl | exact ⟨_, rfl⟩) ?_
      refine ⟨_, qv.can [0, 1, 2, 8, 9, 10, 12, 30, 31, 32] (by simp only [Ys, zC, nB, nD, nA, nE, ↓reduceIte, reduceCtorEq]; rfl), ⟨k + 1, by omega, ?_⟩, ?_⟩
      · simp only [qb _ _ (qc _), qb _ _ (qn _), zL, ↓reduceIte, reduceCtorEq, nE, nA]
      · simp only [zL, ↓reduceIte, reduceCtorEq, nE, nA]; omega
  · have hli : ¬ (k : Int) < (w.length : Int) := by omega
    obtain rfl : k = w.length := by omega
    simp (maxSteps := 3000000) only [qf, zH, X8, qax, yj, u7, yk, wu, Q0, gv, Qs, Vm, vj, bd, Vt, Bd, j3, js, ue, elemV, vd, qb _ _ (qc _), qb _ _ (qe _ _), hli, Int.lt_irrefl, iE, iN, iB, iC, iL, iD, iA, iS, iM, qa, zZ, ↓qt, ↓reduceIte, reduceCtorEq, nA, nM, nS, nE, nL, nD]; try simp only [qa, zY]
    rw [List.take_length]
    exact ⟨rfl, _, qv.refl _, qju (qn _) (qc _) rfl rfl rfl rfl⟩
noncomputable def Wx : BE := fun hp xs => match xs with
  | [.int .i64 p, .int .i64 a, .int .i64 n, .slc b 0 k false 0] => match rd hp b with
    | some L => match Gs L with
      | some w => chk ((k = w.length ∧ k ≤ 24) ∧ okI p a ∧ (2 ≤ n ∧ n ≤ 6) ∧ w.any (we n) = false) (some (elemV p (yp p a) n hp.length (ku p a n w).length, hp ++ [.vec 18 (qx (ku p a n w))]))
      | none => none
    | none => none
  | _ => none
theorem qmw {f : FuncId} (hf : ∀ (p a n : Int) (w : List Int), okI p a → 2 ≤ n ∧ n ≤ 6 → w.length ≤ 24 → w.any (we n) = false → Am.Fn Try.prog f [.int .i64 p, .int .i64 a, .int .i64 n, .slc 0 0 w.length false 0] [.ro (xm w)]
      (fun v H' => v = elemV p (yp p a) n 1 (ku p a n w).length ∧ H' = [.ro (xm w), .vec 18 (qx (ku p a n w))])) : Am.Callee Try.prog f Wx := Callee.fp fun hp xs v hp' he => by
  unfold Wx at he
  split at he
  · rename_i p a n b k
    split at he
    · rename_i L hL
      split at he
      · rename_i w hw
        have h9 := qk he
        clear he
        obtain ⟨⟨⟨k1, k2⟩, h1, h2, h3⟩, h8⟩ := h9
        simp only [Option.some.injEq, Prod.mk.injEq] at h8
        obtain ⟨rfl, rfl⟩ := h8
        subst k1
        have e1 := wj hw
        subst e1
        refine ⟨[(b, 0)], [.int .i64 p, .int .i64 a, .int .i64 n, .slc 0 0 w.length false 0], _, _, _, hf p a n w h1 h2 k2 h3, by simp [AV.ren, AV.ze, ofL], rfl, ⟨⟨_, hL, by simp, by simp [qb _ _ (qn _)]⟩, trivial⟩, rfl, ⟨qi _ _ (qn _), trivial⟩, ?_, by simp [elemV, AV.ren, AV.ze, Ren.ext], ?_⟩
        · simp [AV.under, AV.qm]
        · simp [after, upd, AO.wr, AO.ren, qb _ _ (qc _)]
      · cases he
    · cases he
  · cases he
noncomputable def qog : zh := ((Bc.put 55 (Wx)).put 59 (Wx))
theorem qpl : qq Try.prog qog := ((qal.put (qmw qef)).put (qmw qrl))
theorem Za : qog 57 = some (Ji) := rfl
theorem kz : qog 56 = some (ql ke) := rfl
theorem Qb : qog 52 = some (kj) := rfl
theorem bn : qog 55 = some (Wx) := rfl
theorem Xi : qog 59 = some (Wx) := rfl
noncomputable def Jq (p a n : Int) (w : List Int) : ER := if Ve p a = true ∧ wt n w = true then (p, yp p a, n, ku p a n w, 0) else (0, 0, 0, [], 2)
theorem qey {n : Int} {w : List Int} (h : wt n w = true) : (2 ≤ n ∧ n ≤ 6) ∧ w.length ≤ 24 ∧ w.any (we n) = false := by
  unfold wt at h
  simp only [Bool.and_eq_true, decide_eq_true_eq, Bool.not_eq_true'] at h
  exact h
def gq : AC := .seq (.region [oZ 8,oI 9 0]) (.seq (.seq (.region [oM 10 0,oM 11 1,oC 12 56 [.t 10,.t 11],o0 13 (.un .not (.t 12)),oM 14 13,oG 15 14 false (.mov (.t 2)),oG 16 14 false (.mov (.t 3)),⟨some 17,some (14,false),.call (.c (.fn 57 [] [])) [.t 15,.t 16]⟩,oG 18 14 false (.un .not (.t 17)),o0 19 (.pick (.t 14) (.c (.bool true)) (.t 18))]) (.cond 19 (.seq (.region [o0 20 (.build [.int .i64 0,.int .i64 0,.int .i64 0,(.v (.slice none 0 0))] []),oS 4 8 20,oI 9 2]) .ret) .skip)) (.seq (.region [oM 21 0,oM 22 1,oM 23 2,oM 24 3,oC 25 59 [.t 21,.t 22,.t 23,.t 24],oS 4 8 25,oI 9 0]) .ret))
theorem qbx : zl Try.prog 28 = some ⟨26, gq, [.gz 8 4, .slot 9]⟩ := by kernel_rfl
theorem qb4 (p a n : Int) (w : List Int) (hl : w.length ≤ 2000000) :
    Am.Fn Try.prog 28 [.int .i64 p, .int .i64 a, .int .i64 n, .slc 0 0 w.length false 0] [.ro (xm w)] (qug (xm w) (Jq p a n w)) := by
  refine Am.Fn.ofW qpl mixed qbx (by simp [AV.qm, AV.under]) (vg (qn _)) ?_
  have hws := ur w
  have hla := xg w
  cases hb : Ve p a with
  | false =>
    have e : Jq p a n w = (0, 0, 0, [], 2) := if_neg (by simp [hb])
    simp (maxSteps := 3000000) only [qf, zH, gq, Za, kz, Qb, bn, Xi, Wx, kj, ke, Ji, ue, elemV, vd, qb _ _ (qc _), qb _ _ (qe _ _), hws, hla, hl, hb, Bool.false_and, and_self, iE, iN, iB, iC, iL, iD, iA, iS, iM, qa, zZ, ↓qt, ↓reduceIte, reduceCtorEq, nA, nM, nS, nE, nL, nD]; try simp only [qa, zY]
    rw [e]
    exact ⟨rfl, qpq (qn w) rfl rfl rfl rfl (by decide)⟩
  | true =>
    cases hw : wt n w with
    | false =>
      have e : Jq p a n w = (0, 0, 0, [], 2) := if_neg (by simp [hw])
      simp (maxSteps := 3000000) only [qf, zH, gq, Za, kz, Qb, bn, Xi, Wx, kj, ke, Ji, ue, elemV, vd, qb _ _ (qc _), qb _ _ (qe _ _), hws, hla, hl, hb, hw, Bool.and_false, and_self, iE, iN, iB, iC, iL, iD, iA, iS, iM, qa, zZ, ↓qt, ↓reduceIte, reduceCtorEq, nA, nM, nS, nE, nL, nD]; try simp only [qa, zY]
      rw [e]
      exact ⟨rfl, qpq (qn w) rfl rfl rfl rfl (by decide)⟩
    | true =>
      have e : Jq p a n w = (p, yp p a, n, ku p a n w, 0) := if_pos ⟨hb, hw⟩
      have ho := qis hb
      obtain ⟨h1, h2, h3⟩ := qey hw
      simp (maxSteps := 3000000) only [qf, zH, gq, Za, kz, Qb, bn, Xi, Wx, kj, ke, Ji, ue, elemV, vd, qb _ _ (qc _), qb _ _ (qe _ _), hws, hla, hl, hb, hw, Bool.and_true, ho, h1, h2, h3, and_self, iE, iN, iB, iC, iL, iD, iA, iS, iM, qa, zZ, ↓qt, ↓reduceIte, reduceCtorEq, nA, nM, nS, nE, nL, nD]; try simp only [qa, zY]
      rw [e]
      exact ⟨rfl, _, qv.refl _, qz8 (qn w) (qc _) rfl rfl rfl rfl rfl⟩
noncomputable def Ga : BE := fun hp xs => match xs with
  | [.int .i64 p, .int .i64 a, .int .i64 n, .slc b 0 k false 0] => match rd hp b with
    | some L => match Gs L with
      | some w => chk (k = w.length ∧ k ≤ 2000000) (some (.tup [elemV (Jq p a n w).1 (Jq p a n w).2.1 (Jq p a n w).2.2.1 hp.length (Jq p a n w).2.2.2.1.length, .int .i64 (Jq p a n w).2.2.2.2], hp ++ [.vec 18 (qx (Jq p a n w).2.2.2.1)]))
      | none => none
    | none => none
  | _ => none
theorem qqt {f : FuncId} (hf : ∀ (p a n : Int) (w : List Int), w.length ≤ 2000000 → Am.Fn Try.prog f [.int .i64 p, .int .i64 a, .int .i64 n, .slc 0 0 w.length false 0] [.ro (xm w)] (qug (xm w) (Jq p a n w))) : Am.Callee Try.prog f Ga := Callee.fp fun hp xs v hp' he => by
  unfold Ga at he
  split at he
  · rename_i p a n b k
    split at he
    · rename_i L hL
      split at he
      · rename_i w hw
        have h9 := qk he
        clear he
        obtain ⟨⟨k1, k2⟩, h8⟩ := h9
        simp only [Option.some.injEq, Prod.mk.injEq] at h8
        obtain ⟨rfl, rfl⟩ := h8
        subst k1
        have e1 := wj hw
        subst e1
        have hfn := hf p a n w k2
        unfold qug at hfn
        refine ⟨[(b, 0)], [.int .i64 p, .int .i64 a, .int .i64 n, .slc 0 0 w.length false 0], _, _, _, hfn, by simp [AV.ren, AV.ze, ofL], rfl, ⟨⟨_, hL, by simp, by simp [qb _ _ (qn _)]⟩, trivial⟩, rfl, ⟨qi _ _ (qn _), trivial⟩, ?_, by simp [elemV, AV.ren, AV.ze, Ren.ext], ?_⟩
        · simp [AV.under, AV.qm]
        · simp [after, upd, AO.wr, AO.ren, qb _ _ (qc _)]
      · cases he
    · cases he
  · cases he
noncomputable def q1i : zh := (qog.put 28 (Ga))
theorem qds : qq Try.prog q1i := (qpl.put (qqt qb4))
end Go.Proofs.Ytfhckbbgmblhbaa

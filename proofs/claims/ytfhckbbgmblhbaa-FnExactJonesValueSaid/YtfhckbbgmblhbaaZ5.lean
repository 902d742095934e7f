/- Contracts of functions of the program, and plain laws, part 5: each text of this part is proved without further condition. -/
import Derived.Test.YtfhckbbgmblhbaaZ4
import Derived.Test.YtfhckbbgmblhbaaZ1
import Derived.Test.YtfhckbbgmblhbaaZ3
namespace Go.Proofs.Ytfhckbbgmblhbaa
open Go.Am Go.Dia
open Nat renaming reduceAdd → nA, reduceMul → nM, reduceSub → nS, reduceEqDiff → nE, reduceLT → nL, reduceLeDiff → nD, reduceBEq → nB
open Int renaming reduceEq → iE, reduceNe → iN, reduceBEq → iB, reduceBNe → iC, reduceLT → iL, reduceLE → iD, reduceAdd → iA, reduceSub → iS, reduceMul → iM
set_option linter.unusedSimpArgs false
set_option linter.unusedVariables false
set_option maxRecDepth 4000
set_option maxHeartbeats 1000000
def qkn (p x : Nat) : Nat → Nat
  | 0 => 1
  | k + 1 => qkn p x k * x % p
def q0s (a b : Bool) : Bool := cond a b (!b)
def q1h : Bool := (List.range 98).all fun p => !yr p || (List.range p).all fun x => Nat.beq x 0 || (List.range p).all fun k => q0s (Nat.beq (k * x % p) 1) (Nat.beq k (qkn p x (p - 2)))
theorem qsy : q1h = true := by kernel_rfl
theorem qh5 (p x : Nat) : ∀ k, jz p x k = (qkn p x k : Nat)
  | 0 => rfl
  | k + 1 => by
    show (jz p x k * x).emod p = ((qkn p x k * x % p : Nat) : Int)
    rw [qh5 p x k, Int.natCast_emod, Int.natCast_mul]; rfl
theorem qus {a b : Bool} (h : q0s a b = true) : a = b := by cases a <;> cases b <;> simp_all [q0s]
noncomputable def xt (p x : Int) : Int := jz p x (p - 2).toNat
theorem Xy {p x : Int} (hp : yr p = true) (hx : 1 ≤ x ∧ x ≤ p - 1) : (1 ≤ xt p x ∧ xt p x ≤ p - 1) ∧ ∀ k : Int, 0 ≤ k → k < p → ((k * x).emod p = 1 ↔ k = xt p x) := by
  have hb := vu hp
  obtain ⟨P, rfl⟩ : ∃ P : Nat, p = P := ⟨p.toNat, by omega⟩
  obtain ⟨X, rfl⟩ : ∃ X : Nat, x = X := ⟨x.toNat, by omega⟩
  have h1 := List.all_eq_true.1 qsy P (List.mem_range.2 (by omega))
  rw [hp, Bool.not_true, Bool.false_or] at h1
  have h2 := List.all_eq_true.1 h1 X (List.mem_range.2 (by omega))
  have hX0 : Nat.beq X 0 = false := by
    cases h : Nat.beq X 0 with
    | false => rfl
    | true => have := Nat.eq_of_beq_eq_true h; omega
  rw [hX0, Bool.false_or] at h2
  have h3 : ∀ k : Nat, k < P → (k * X % P = 1 ↔ k = qkn P X (P - 2)) := fun k hk => by
    have h4 := qus (List.all_eq_true.1 h2 k (List.mem_range.2 hk))
    constructor
    · intro h
      rw [h] at h4
      exact Nat.eq_of_beq_eq_true (h4.symm.trans rfl)
    · intro h
      rw [h, Nat.beq_refl] at h4
      rw [h]
      exact Nat.eq_of_beq_eq_true h4
  have e1 : xt P X = (qkn P X (P - 2) : Nat) := by
    unfold xt
    rw [qh5]
    congr 2
    omega
  have hv : qkn P X (P - 2) < P := by
    rcases Nat.eq_zero_or_pos (P - 2) with h | h
    · rw [h]; show 1 < P; omega
    · obtain ⟨j, hj⟩ : ∃ j, P - 2 = j + 1 := ⟨P - 3, by omega⟩
      rw [hj]
      exact Nat.mod_lt _ (by omega)
  have hv1 : 1 ≤ qkn P X (P - 2) := by
    have := (h3 _ hv).2 rfl
    rcases Nat.eq_zero_or_pos (qkn P X (P - 2)) with h | h
    · rw [h, Nat.zero_mul, Nat.zero_mod] at this; omega
    · exact h
  rw [e1]
  refine ⟨by omega, fun k hk hkp => ?_⟩
  obtain ⟨K, rfl⟩ : ∃ K : Nat, k = K := ⟨k.toNat, by omega⟩
  have h5 := h3 K (by omega)
  have h6 : ((K : Int) * X).emod P = ((K * X % P : Nat) : Int) := by rw [Int.natCast_emod, Int.natCast_mul]; rfl
  rw [h6]
  omega
theorem J3 : B95 75 = some (qk jo) := rfl
theorem Jc : B95 70 = some (qk xm) := rfl
def qdj : AC := .seq (.region [oI 4 0]) (.seq (.region [oM 5 0,oM 6 1,oK 7 .sub 6 2,oM 8 1,oC 9 75 [.t 5,.t 7,.t 8],oM 4 9]) .ret)
theorem qmi : zk Try.prog 72 = some ⟨10, qdj, [.slot 4]⟩ := by kernel_rfl
theorem qkw (p x : Int) (hp : yr p = true) (hx : 1 ≤ x ∧ x ≤ p - 1) : Am.Fn Try.prog 72 [.int .i64 x, .int .i64 p] [] (fun v H' => v = .int .i64 (xt p x) ∧ H' = []) := by
  refine Am.Fn.xo (R := fun v => v = _) qki mixed qmi (by simp) (by simp) ?_
  have hb := vu hp
  have hw : qm .i64 (p - 2) = p - 2 := wrap64 (by omega) (by omega)
  have c1 : 0 ≤ x ∧ x ≤ p - 1 := by omega
  have c2 : 0 ≤ p - 2 ∧ p - 2 ≤ 1000000 := by omega
  have e : jz p x (p - 2).toNat = xt p x := rfl
  simp (maxSteps := 3000000) only [qf, zH, qdj, J3, Jc, jo, xm, hb, hw, c1, c2, e, and_self, iE, iN, iB, iC, iL, iD, iA, iS, iM, qa, zZ, ↓qt, ↓reduceIte, reduceCtorEq, nA, nM, nS, nE, nL, nD]; try simp only [qa, zY]
def Zm : AC := .seq (.seq (.region [oM 6 5,oM 7 0,oP 8 .lss 6 7]) (.cond 8 .skip (.exit 0))) (.seq (.block 1 (.seq (.region [oM 11 5,oM 12 0,oM 13 1,oC 14 70 [.t 12,.t 13],oP 15 .mul 11 14,oM 16 0,oP 17 .rem 15 16,oK 18 .eql 17 1]) (.cond 18 (.seq (.region [oM 19 5,oM 4 19]) .ret) .skip))) (.region [oM 9 5,oK 10 .add 9 1,oM 5 10]))
def qbj : AC := .seq (.region [oI 4 0]) .ret
def Ga : AC := .seq (.region [oI 4 0]) (.seq (.seq (.region [oI 5 1]) (.block 0 (.loop Zm))) qbj)
theorem qg5 : zk Try.prog 67 = some ⟨20, Ga, [.slot 4]⟩ := by kernel_rfl
theorem qgb (p x : Int) (hp : yr p = true) (hx : 1 ≤ x ∧ x ≤ p - 1) : Am.Fn Try.prog 67 [.int .i64 p, .int .i64 x] [] (fun v H' => v = .int .i64 (xt p x) ∧ H' = []) := by
  refine Am.Fn.xo (R := fun v => v = _) qki mixed qg5 (by simp) (by simp) ?_
  have hb := vu hp
  obtain ⟨⟨hv1, hv2⟩, hch⟩ := Xy hp hx
  have hm : x.emod p = x := Int.emod_eq_of_lt (by omega) (by omega)
  have hp0 : 0 < p ∧ p ≤ 1000000 := by omega
  have hpne : p ≠ 0 := by omega
  simp (maxSteps := 3000000) only [qf, zH, Ga, iE, iN, iB, iC, iL, iD, iA, iS, iM, qa, zZ, ↓qt, ↓reduceIte, reduceCtorEq, nA, nM, nS, nE, nL, nD]; try simp only [qa, zY]
  refine WA.jq qki (fun s => ∃ k : Nat, 1 ≤ k ∧ (k : Int) ≤ xt p x ∧ s = ⟨[(0, .int .i64 p), (1, .int .i64 x), (5, .int .i64 k)], []⟩)
    (fun s => match get s.env 5 with | .int _ k => 100 - k.toNat | _ => 0) ⟨_, qv.qw [0, 1, 5], 1, by omega, hv1, rfl⟩ ?_
  rintro s ⟨k, hk1, hk2, rfl⟩
  have hli : (k : Int) < p := by omega
  have h0 : 0 ≤ (k : Int) * x := Int.mul_nonneg (by omega) (by omega)
  have h1 : (k : Int) * x ≤ 96 * 96 := Int.mul_le_mul (by omega) (by omega) (by omega) (by omega)
  have hw1 : qm .i64 ((k : Int) * x) = (k : Int) * x := wrap64 (by omega) (by omega)
  have ht : Int.tmod ((k : Int) * x) p = ((k : Int) * x).emod p := Int.tmod_eq_emod_of_nonneg h0
  have hw : qm .i64 ((k : Int) + 1) = ((k + 1 : Nat) : Int) := by rw [wrap64 (by omega) (by omega)]; rfl
  have hc := hch k (by omega) hli
  by_cases he : (k : Int) = xt p x
  · have h2 := hc.2 he
    simp (maxSteps := 3000000) only [qf, zH, Zm, J3, Jc, jo, xm, hli, hp0, hm, hw1, ht, hpne, h2, iE, iN, iB, iC, iL, iD, iA, iS, iM, qa, zZ, ↓qt, ↓reduceIte, reduceCtorEq, nA, nM, nS, nE, nL, nD]; try simp only [qa, zY]
    rw [he]
  · have h2 : ¬ ((k : Int) * x).emod p = 1 := fun h => he (hc.1 h)
    simp (maxSteps := 3000000) only [qf, zH, Zm, J3, Jc, jo, xm, hli, hp0, hm, hw1, ht, hpne, h2, hw, iE, iN, iB, iC, iL, iD, iA, iS, iM, qa, zZ, ↓qt, ↓reduceIte, reduceCtorEq, nA, nM, nS, nE, nL, nD]; try simp only [qa, zY]
    refine ⟨_, qv.qw [0, 1, 5], ⟨k + 1, by omega, by omega, rfl⟩, ?_⟩
    simp only [zL, ↓reduceIte, reduceCtorEq, nE, nA]; omega
def okI (p x : Int) : Prop := yr p = true ∧ 1 ≤ x ∧ x ≤ p - 1
instance (p x : Int) : Decidable (okI p x) := by unfold okI; infer_instance
noncomputable def xj : List AV → Option AV
  | [.int .i64 p, .int .i64 x] => chk (okI p x) (some (.int .i64 (xt p x)))
  | _ => none
noncomputable def xh : List AV → Option AV
  | [.int .i64 x, .int .i64 p] => chk (okI p x) (some (.int .i64 (xt p x)))
  | _ => none
theorem q0v : Am.Callee Try.prog 67 (qk xj) := Am.Callee.plain fun xs v he => by
  unfold xj at he
  split at he
  · rename_i p x
    obtain ⟨⟨h1, h2⟩, he⟩ := ql he
    cases he
    exact ⟨rfl, rfl, qgb p x h1 h2⟩
  · cases he
theorem q0h : Am.Callee Try.prog 72 (qk xh) := Am.Callee.plain fun xs v he => by
  unfold xh at he
  split at he
  · rename_i x p
    obtain ⟨⟨h1, h2⟩, he⟩ := ql he
    cases he
    exact ⟨rfl, rfl, qkw p x h1 h2⟩
  · cases he
noncomputable def qhd : zh := ((B95.put 67 (qk xj)).put 72 (qk xh))
theorem qbp : qq Try.prog qhd := ((qki.put (q0v)).put (q0h))
def brs : Nat → Nat → List (List UInt8)
  | 0, o => if o = 0 then [[]] else []
  | r + 1, o => (brs r (o + 1)).map (40 :: ·) ++ (if 0 < o then (brs r (o - 1)).map (41 :: ·) else [])
theorem qlp {s : List UInt8} {k : Nat} (h : parts s k = none) : ∀ j, parts s (k + j) = none
  | 0 => h
  | j + 1 => by
    show parts s ((k + j) + 1) = none
    simp only [parts, qlp h j]
theorem qij {s : List UInt8} {o0 : List Nat} (hL : parts s s.length = some (o0, [])) : ∀ (r k : Nat) (out st : List Nat), k + r = s.length → parts s k = some (out, st) → s.drop k ∈ brs r st.length
  | 0, k, out, st, hk, h => by
    obtain rfl : k = s.length := by omega
    rw [hL] at h
    cases h
    rw [List.drop_length]
    simp [brs]
  | r + 1, k, out, st, hk, h => by
    have hlt : k < s.length := by omega
    have hd : s.drop k = s.getD k 0 :: s.drop (k + 1) := by
      rw [List.drop_eq_getElem_cons hlt, List.getD_eq_getElem?_getD, List.getElem?_eq_getElem hlt]; rfl
    cases h1 : parts s (k + 1) with
    | none =>
      have := qlp h1 (s.length - (k + 1))
      rw [show k + 1 + (s.length - (k + 1)) = s.length by omega, hL] at this
      cases this
    | some q =>
      obtain ⟨out', st'⟩ := q
      have ih := qij hL r (k + 1) out' st' (by omega) h1
      rw [hd]
      simp only [parts, h] at h1
      simp only [brs, List.mem_append]
      split at h1
      · rename_i h40
        cases h1
        rw [h40]
        exact .inl (List.mem_map.2 ⟨_, ih, rfl⟩)
      · split at h1
        · rename_i h41
          rw [h41]
          split at h1
          · cases h1
          · cases h1
            rename_i i st'
            right
            rw [if_pos (by simp)]
            exact List.mem_map.2 ⟨_, by simpa using ih, rfl⟩
        · cases h1
theorem qwe {n : Nat} {m : List Nat} (h : isS n m = true) (hm : m.length = 16) : wy n m ∈ brs (2 * n) 0 := by
  rw [K4 n m hm] at h
  simp only [isI, Bool.and_eq_true, beq_iff_eq] at h
  have h1 := h.2.2
  unfold qau at h1
  split at h1
  · split at h1
    · rename_i out ho
      have := qij ho (2 * n) 0 _ _ (by rw [Qb]; omega) rfl
      simpa using this
    · cases h1
  · cases h1
theorem qh0 {α : Type} [DecidableEq α] : ∀ {l m : List α}, l.Nodup → (∀ x ∈ l, x ∈ m) → l.length ≤ m.length
  | [], m, _, _ => by simp
  | x :: l, m, h, hs => by
    have h1 := List.nodup_cons.1 h
    have hx := hs x (by simp)
    have ih := qh0 (m := m.erase x) h1.2 fun y hy => by
      have : y ≠ x := fun e => h1.1 (e ▸ hy)
      exact (List.mem_erase_of_ne this).2 (hs y (by simp [hy]))
    rw [List.length_erase_of_mem hx] at ih
    have := List.length_pos_of_mem hx
    simp only [List.length_cons]; omega
def q0t : Bool := (List.range 7).all fun n => Nat.ble (brs (2 * n) 0).length 132
theorem qss : q0t = true := by kernel_rfl
theorem qw2 {p n : Int} {L : List (Int × List Nat × Int)} (h : xd p n L) (hn : 0 ≤ n ∧ n ≤ 6) : L.length ≤ 132 := by
  have h1 : (L.map txt).Nodup := List.pairwise_map.2 (h.up.imp fun {a b} hlt e => by
    unfold ltT at hlt
    rw [e] at hlt
    have : Op.bytesLess (txt b) (txt b) = false := by
      generalize txt b = s
      induction s with
      | nil => rfl
      | cons x s ih => simp [Op.bytesLess, ih]
    rw [this] at hlt; cases hlt)
  have h2 := qh0 h1 (m := brs (2 * n.toNat) 0) fun x hx => by
    obtain ⟨t, ht, rfl⟩ := List.mem_map.1 hx
    have h3 := h.dia t ht
    have h4 := qwe h3.2 (h.ok t ht).1
    unfold txt
    rwa [h3.1]
  rw [List.length_map] at h2
  have h3 := List.all_eq_true.1 qss n.toNat (List.mem_range.2 (by omega))
  have h4 := Nat.le_of_ble_eq_true h3
  omega
def qob (H : List AO) (X : AV) (w : List Int) : Prop :=
  (X = .v (.slice none 0 0) ∧ H = [] ∧ w = []) ∨ (X = .slc 0 0 0 true 0 ∧ H = [.dead] ∧ w = []) ∨ ∃ cap, X = .slc 0 0 w.length true cap ∧ w.length ≤ cap ∧ H = [.ro (z8 w)]
def Bw : List AV → Option (List Int)
  | [] => some []
  | .int .i64 x :: l => match Bw l with
    | some w => some (x :: w)
    | none => none
  | _ => none
theorem uf : ∀ w, Bw (z8 w) = some w
  | [] => rfl
  | x :: w => by
    have := uf w
    simp only [z8, List.map_cons] at this ⊢
    simp only [Bw, this]
theorem wh : ∀ {l : List AV} {w : List Int}, Bw l = some w → l = z8 w
  | [], w, h => by cases h; rfl
  | x :: l, w, h => by
    unfold Bw at h
    split at h
    · rename_i e; cases e
    · rename_i y l' e
      cases e
      split at h
      · rename_i w' hw
        cases h
        rw [wh hw]; rfl
      · cases h
    · cases h
def qkt (hp : List AO) (X : AV) : Option (List Int) := match X with
  | .v (.slice none 0 0) => some []
  | .slc b 0 n true cap => match hp[b]? with
    | some .dead => if n = 0 ∧ cap = 0 then some [] else none
    | some (.ro l) => match Bw l with
      | some w => if n = w.length ∧ n ≤ cap then some w else none
      | none => none
    | _ => none
  | _ => none
theorem qod {hp : List AO} {X : AV} {w : List Int} (h : qkt hp X = some w) : ∃ (bs : List (Nat × Nat)) (H : List AO) (X' : AV), qob H X' w ∧ X'.ren (ofL bs) = X ∧ je X = true ∧ Bx hp (ofL bs) bs H ∧
    Jf bs H = true ∧ AO.qa8 H.length H ∧ X'.under H.length ∧ (∀ o ∈ H, o.wr = false) ∧ (∀ bs', after ⟨[], hp⟩ (ofL bs) bs H (H ++ bs') = hp ++ bs'.map (AO.ren ((ofL bs).ext H.length hp.length))) := by
  unfold qkt at h
  split at h
  · cases h
    exact ⟨[], [], .v (.slice none 0 0), .inl ⟨rfl, rfl, rfl⟩, rfl, rfl, trivial, rfl, trivial, trivial, by simp, fun bs' => by simp [after, upd]⟩
  · rename_i b n cap
    split at h
    · rename_i hb
      split at h
      · rename_i h0
        cases h
        obtain ⟨rfl, rfl⟩ := h0
        refine ⟨[(b, 0)], [.dead], .slc 0 0 0 true 0, .inr (.inl ⟨rfl, rfl, rfl⟩), by simp [AV.ren, ofL], rfl, ⟨(List.getElem?_eq_some_iff.1 hb).1, trivial⟩, rfl, ⟨trivial, trivial⟩, by simp [AV.under], by simp [AO.wr], fun bs' => ?_⟩
        simp [after, upd, AO.wr]
      · cases h
    · rename_i l hb
      split at h
      · rename_i w' hw
        split at h
        · rename_i h0
          cases h
          have hl := wh hw
          subst hl
          obtain ⟨rfl, h0⟩ := h0
          refine ⟨[(b, 0)], [.ro (z8 w)], .slc 0 0 w.length true cap, .inr (.inr ⟨cap, rfl, h0, rfl⟩), by simp [AV.ren, ofL], rfl, ⟨⟨z8 w, by simp [rd, hb], by simp, by simp [qb _ _ (qo _)]⟩, trivial⟩, rfl, ⟨qi _ _ (qo _), trivial⟩, by simp [AV.under], by simp [AO.wr], fun bs' => ?_⟩
          simp [after, upd, AO.wr]
        · cases h
      · cases h
    · cases h
  · cases h
theorem K6 {H : List AO} {X : AV} {w : List Int} (h : qob H X w) : ∀ (j : Nat) (o' : AO), H[j]? = some o' → o'.under H.length := by
  intro j o' hj
  rcases h with ⟨_, rfl, _⟩ | ⟨_, rfl, _⟩ | ⟨cap, _, _, rfl⟩
  · simp at hj
  · cases j with
    | succ j => simp at hj
    | zero => cases hj; trivial
  · cases j with
    | succ j => simp at hj
    | zero => cases hj; exact qi _ _ (qo _)
theorem qt2 {H : List AO} {X : AV} {w : List Int} (h : qob H X w) (rest : List AO) : qkt (H ++ rest) X = some w := by
  rcases h with ⟨rfl, rfl, rfl⟩ | ⟨rfl, rfl, rfl⟩ | ⟨cap, rfl, hc, rfl⟩
  · rfl
  · rfl
  · simp only [qkt, List.cons_append, List.nil_append, List.getElem?_cons_zero, uf, hc, and_self, if_true]
theorem qh1 : ∀ n, rep n [AV.int .i64 0] = z8 (List.replicate n 0)
  | 0 => rfl
  | n + 1 => by rw [rep, qh1 n, List.replicate_succ]; rfl
def bb : AC := .seq (.seq (.region [oM 8 4,oM 9 0,o0 10 (.len .slc (.t 9)),oP 11 .lss 8 10]) (.cond 11 .skip (.exit 0))) (.seq (.block 1 (.region [oM 14 3,oM 15 4,oM 16 0,oM 17 4,oX 18 1 16 17,oL 19 18,oX 20 1 14 15,oT 20 19])) (.region [oM 12 4,oK 13 .add 12 1,oM 4 13]))
def Qg : AC := .seq (.region [oM 21 3,oM 2 21]) .ret
def Jx : AC := .seq (.region [o0 2 (.mov (.c (.v (.slice none 0 0))))]) (.seq (.region [oM 5 0,o0 6 (.len .slc (.t 5)),o0 7 (.Wd 1 8 [.int .i64 0] (.t 6) (.t 6)),oM 3 7]) (.seq (.seq (.region [oI 4 0]) (.block 0 (.loop bb))) Qg))
theorem qko : zk Try.prog 20 = some ⟨22, Jx, [.slot 2]⟩ := by kernel_rfl
theorem qqb (H : List AO) (X : AV) (w : List Int) (h : qob H X w) (hl : w.length ≤ 2000000) :
    Am.Fn Try.prog 20 [X] H (fun v H' => v = .slc H.length 0 w.length false 0 ∧ H' = H ++ [.vec 1 (z8 w)]) := by
  refine Am.Fn.ofW K7 mixed qko (by simp) (K6 h) ?_
  rcases h with ⟨rfl, rfl, rfl⟩ | ⟨rfl, rfl, rfl⟩ | ⟨cap, rfl, hc, rfl⟩
  · simp (maxSteps := 3000000) only [qf, zH, Jx, iE, iN, iB, iC, iL, iD, iA, iS, iM, gz, qdw, List.length_nil, Int.toNat_zero, rep, qa, zZ, ↓qt, ↓reduceIte, reduceCtorEq, nA, nM, nS, nE, nL, nD]; try simp only [qa, zY]
    refine ⟨by decide, WA.jq K7 (fun s => s = ⟨[(4, .int .i64 0), (3, .slc 0 0 0 true 0), (0, .v (.slice none 0 0))], [.cells []]⟩) (fun _ => 0) ⟨_, qv.qw [4, 3, 0], rfl⟩ ?_⟩
    rintro s rfl
    simp (maxSteps := 3000000) only [qf, zH, bb, Qg, iE, iN, iB, iC, iL, iD, iA, iS, iM, gz, qdw, List.length_nil, qa, zZ, ↓qt, ↓reduceIte, reduceCtorEq, nA, nM, nS, nE, nL, nD]; try simp only [qa, zY]
    refine ⟨_, qv.trans (qv.qw [2]) (qv.vec 0 0 1 (by decide) rfl rfl rfl rfl), ?_⟩
    refine Ret.xv [0] ⟨⟨by simp, rfl, by decide⟩, ?_⟩ (rs := [.slc 0 0 0 false 0]) rfl rfl (by simp [xa]) ?_ ⟨?_, ?_⟩
    · simp only [qw, zo, zV, ↓reduceIte, nE, reduceCtorEq, nB]
      simp only [zK, ↓reduceIte, reduceCtorEq, nE, nB, nA]
    · intro j l; match j with
      | 0 => simp [q9, Wy, AO.zu, AO.ren]
      | j + 1 => simp [q9]
    · simp only [xa]
      simp only [zL, ↓reduceIte, reduceCtorEq, nE, nA]
    · rfl
  · simp (maxSteps := 3000000) only [qf, zH, Jx, iE, iN, iB, iC, iL, iD, iA, iS, iM, gz, qdw, List.length_nil, Int.toNat_zero, rep, qa, zZ, ↓qt, ↓reduceIte, reduceCtorEq, nA, nM, nS, nE, nL, nD]; try simp only [qa, zY]
    refine ⟨by decide, WA.jq K7 (fun s => s = ⟨[(4, .int .i64 0), (3, .slc 1 0 0 true 0), (0, .slc 0 0 0 true 0)], [.dead, .cells []]⟩) (fun _ => 0) ⟨_, qv.qw [4, 3, 0], rfl⟩ ?_⟩
    rintro s rfl
    simp (maxSteps := 3000000) only [qf, zH, bb, Qg, iE, iN, iB, iC, iL, iD, iA, iS, iM, gz, qdw, List.length_nil, qa, zZ, ↓qt, ↓reduceIte, reduceCtorEq, nA, nM, nS, nE, nL, nD]; try simp only [qa, zY]
    refine ⟨_, qv.trans (qv.qw [2]) (qv.vec 1 0 1 (by decide) rfl rfl rfl rfl), ?_⟩
    refine Ret.xv [0, 1] ⟨⟨by simp, rfl, by decide⟩, ?_⟩ (rs := [.slc 1 0 0 false 0]) rfl rfl (by simp [xa]) ?_ ⟨?_, ?_⟩
    · simp only [qw, zo, zV, ↓reduceIte, nE, reduceCtorEq, nB]
      simp only [zK, ↓reduceIte, reduceCtorEq, nE, nB, nA]
    · intro j l; match j with
      | 0 => simp [q9, Wy, AO.zu, AO.ren]
      | 1 => simp [q9, Wy, AO.zu, AO.ren]
      | j + 2 => simp [q9]
    · simp only [xa]
      simp only [zL, ↓reduceIte, reduceCtorEq, nE, nA]
    · rfl
  · simp (maxSteps := 3000000) only [qf, zH, Jx, iE, iN, iB, iC, iL, iD, iA, iS, iM, gz, hc, List.length_nil, qh1, qa, zZ, ↓qt, ↓reduceIte, reduceCtorEq, nA, nM, nS, nE, nL, nD]; try simp only [qa, zY]
    refine ⟨⟨by omega, by omega, by omega⟩, WA.jq K7 (fun s => ∃ (i : Nat) (us : List Int), i ≤ w.length ∧ us = w.take i ++ List.replicate (w.length - i) 0 ∧ s = ⟨[(4, .int .i64 i), (3, .slc 1 0 w.length true w.length), (0, .slc 0 0 w.length true cap)], [.ro (z8 w), .cells (z8 us)]⟩)
      (fun s => match get s.env 4 with | .int _ x => w.length - x.toNat | _ => 0) ⟨_, qv.qw [4, 3, 0], 0, _, by omega, by simp, rfl⟩ ?_⟩
    rintro s ⟨i, us, hi, hus, rfl⟩
    have hul : us.length = w.length := by rw [hus]; simp; omega
    have hal := zw w
    have hbl := zw us
    have hw : qm .i64 ((i : Int) + 1) = ((i + 1 : Nat) : Int) := by rw [wrap64 (by omega) (by omega)]; rfl
    by_cases hlt : i < w.length
    · have hget : w.getD i 0 = w[i] := by simp [hlt]
      have hset : us.set i w[i] = w.take (i + 1) ++ List.replicate (w.length - (i + 1)) 0 := by
        rw [hus, List.set_append_right _ _ (by rw [List.length_take]; omega), List.length_take, Nat.min_eq_left hi, Nat.sub_self, show w.length - i = (w.length - (i + 1)) + 1 by omega, List.replicate_succ, List.set_cons_zero, List.take_succ_eq_append_getElem hlt, List.append_assoc]
        rfl
      have hst : (z8 us).set i (.int .i64 w[i]) = z8 (us.set i w[i]) := quy
      have hli : ((i : Int) < (w.length : Int)) := by omega
      have hli' : (0 : Int) ≤ i := by omega
      simp (maxSteps := 3000000) only [qf, zH, bb, iE, iN, iB, iC, iL, iD, iA, iS, iM, gz, hc, hw, hal, hbl, hul, hget, hst, hlt, hli, hli', AV.one, and_self, qa, zZ, ↓qt, ↓reduceIte, reduceCtorEq, nA, nM, nS, nE, nL, nD]; try simp only [qa, zY]
      refine ⟨_, qv.qw [4, 3, 0], ⟨i + 1, us.set i w[i], by omega, hset, ?_⟩, ?_⟩
      · simp only [zL, ↓reduceIte, reduceCtorEq, nE, nA]
      · simp only [zL, ↓reduceIte, reduceCtorEq, nE, nA]; omega
    · have hi' : i = w.length := by omega
      subst hi'
      have hu : us = w := by rw [hus]; simp
      subst hu
      simp (maxSteps := 3000000) only [qf, zH, bb, Qg, iE, iN, iB, iC, iL, iD, iA, iS, iM, gz, hc, Int.lt_irrefl, qa, zZ, ↓qt, ↓reduceIte, reduceCtorEq, nA, nM, nS, nE, nL, nD]; try simp only [qa, zY]
      refine ⟨_, qv.trans (qv.qw [2]) (qv.vec 1 us.length 1 (by decide) rfl (by rw [hal]; omega) rfl ?_), ?_⟩
      · simp only [zV, ↓reduceIte, nE, reduceCtorEq, nB]
      refine Ret.xv [0, 1] ⟨⟨by simp, rfl, by decide⟩, ?_⟩ (rs := [.slc 1 0 us.length false 0]) ?_ rfl (by simp [xa]) ?_ ⟨?_, ?_⟩
      · simp only [qw, zo, zV, ↓reduceIte, nE, reduceCtorEq, nB]
        simp only [zK, ↓reduceIte, reduceCtorEq, nE, nB, nA]
      · simp only [qw, zo, zV, ↓reduceIte, nE, reduceCtorEq, nB]
        rfl
      · intro j l; match j with
        | 0 => exact fun _ => ⟨_, rfl⟩
        | 1 => simp [q9, Wy, AO.zu, AO.ren]
        | j + 2 => simp [q9]
      · simp only [xa]
        simp only [zL, ↓reduceIte, reduceCtorEq, nE, nA]
      · simp only [zV, ↓reduceIte, nE, reduceCtorEq, nB]
        simp only [zL, ↓reduceIte, reduceCtorEq, nE, nA]
def qh4 : BE := fun hp xs => match xs with
  | [X] => match qkt hp X with
    | some w => chk (w.length ≤ 2000000) (some (.slc hp.length 0 w.length false 0, hp ++ [.vec 1 (z8 w)]))
    | none => none
  | _ => none
theorem q2b : Am.Callee Try.prog 20 qh4 := Callee.fp fun hp xs v hp' he => by
  unfold qh4 at he
  split at he
  · rename_i X
    split at he
    · rename_i w hw
      obtain ⟨h1, he⟩ := ql he
      simp only [Option.some.injEq, Prod.mk.injEq] at he
      obtain ⟨rfl, rfl⟩ := he
      obtain ⟨bs, H, X', hX, e1, e2, e3, e4, e5, e6, e7, e8⟩ := qod hw
      refine ⟨bs, [X'], H, _, _, qqb H X' w hX h1, by simp only [AV.zg, e1], (by simp only [List.all_cons, e2, List.all_nil, Bool.true_and, Bool.and_true]), e3, e4, e5, ⟨e6, trivial⟩, ?_, ?_⟩
      · simp [AV.ren, Ren.ext]
      · rw [e8]; simp only [List.map_cons, List.map_nil, j0, qb _ _ (qo _)]
    · cases he
  · cases he
def Qf : AC := .seq (.seq (.region [oM 11 5,oM 12 0,o0 13 (.len .slc (.t 12)),oP 14 .lss 11 13]) (.cond 14 .skip (.exit 0))) (.seq (.block 1 (.seq (.draw false [oM 17 0,oM 18 5,oX 19 1 17 18,oL 20 19,oM 21 1,oM 22 5,oX 23 1 21 22,oL 24 23,oP 25 .neq 20 24]) (.cond 25 (.seq (.region [oB 4 false]) .ret) .skip))) (.region [oM 15 5,oK 16 .add 15 1,oM 5 16]))
def Ux : AC := .seq (.region [oB 4 true]) .ret
def Ui : AC := .seq (.region [oB 4 false]) (.seq (.seq (.region [oM 6 0,o0 7 (.len .slc (.t 6)),oM 8 1,o0 9 (.len .slc (.t 8)),oP 10 .neq 7 9]) (.cond 10 (.seq (.region [oB 4 false]) .ret) .skip)) (.seq (.seq (.region [oI 5 0]) (.block 0 (.loop Qf))) Ux))
theorem qj2 : zk Try.prog 22 = some ⟨26, Ui, [.slot 4]⟩ := by kernel_rfl
theorem qos (a b : List Int) (hl : a.length ≤ 2000000 ∧ b.length ≤ 2000000) :
    Am.Fn Try.prog 22 [.slc 0 0 a.length false 0, .slc 1 0 b.length false 0] [.ro (z8 a), .ro (z8 b)] (fun v H' => v = .bool (decide (a = b)) ∧ H' = [.ro (z8 a), .ro (z8 b)]) := by
  refine Am.Fn.xo (R := fun v => v = _) K7 mixed qj2 (by simp) (J2 (qo _) (qo _)) ?_
  have hla := zw a
  have hlb := zw b
  by_cases hlen : a.length = b.length
  · have hq : ((a.length : Int) != (b.length : Int)) = false := by rw [hlen]; simp
    simp (maxSteps := 3000000) only [qf, zH, Ui, hq, iE, iN, iB, iC, iL, iD, iA, iS, iM, qa, zZ, ↓qt, ↓reduceIte, reduceCtorEq, nA, nM, nS, nE, nL, nD]; try simp only [qa, zY]
    refine WA.jq K7 (fun s => ∃ k : Nat, k ≤ a.length ∧ (∀ i, i < k → a[i]? = b[i]?) ∧ s = ⟨[(0, .slc 0 0 a.length false 0), (1, .slc 1 0 b.length false 0), (5, .int .i64 k)], [.ro (z8 a), .ro (z8 b)]⟩)
      (fun s => match get s.env 5 with | .int _ x => a.length - x.toNat | _ => 0) ⟨_, qv.qw [0, 1, 5], 0, by omega, fun i h => absurd h (by omega), rfl⟩ ?_
    rintro s ⟨k, hk, hc, rfl⟩
    by_cases hlt : k < a.length
    · have hltb : k < b.length := by omega
      have hli : (k : Int) < (a.length : Int) := by omega
      have hli' : (k : Int) < (b.length : Int) := by omega
      have hk0 : (0 : Int) ≤ k := by omega
      have hw : qm .i64 ((k : Int) + 1) = ((k + 1 : Nat) : Int) := by rw [wrap64 (by omega) (by omega)]; rfl
      have hga : a.getD k 0 = a[k] := by simp [hlt]
      have hgb : b.getD k 0 = b[k] := by simp [hltb]
      by_cases he : a[k] = b[k]
      · have hd : (a[k] != b[k]) = false := by simp [he]
        simp (maxSteps := 3000000) only [qf, zH, Qf, hli, hli', hk0, hw, hla, hlb, hga, hgb, hlt, hltb, hd, and_self, iE, iN, iB, iC, iL, iD, iA, iS, iM, qa, zZ, ↓qt, ↓reduceIte, reduceCtorEq, nA, nM, nS, nE, nL, nD]; try simp only [qa, zY]
        refine ⟨_, qv.qw [0, 1, 5], ⟨k + 1, by omega, fun i hi => ?_, rfl⟩, ?_⟩
        · by_cases e : i = k
          · subst e; rw [List.getElem?_eq_getElem hlt, List.getElem?_eq_getElem hltb, he]
          · exact hc i (by omega)
        · simp only [zL, ↓reduceIte, reduceCtorEq, nE, nA]; omega
      · have hd : (a[k] != b[k]) = true := by simp [he]
        simp (maxSteps := 3000000) only [qf, zH, Qf, hli, hli', hk0, hw, hla, hlb, hga, hgb, hlt, hltb, hd, and_self, iE, iN, iB, iC, iL, iD, iA, iS, iM, qa, zZ, ↓qt, ↓reduceIte, reduceCtorEq, nA, nM, nS, nE, nL, nD]; try simp only [qa, zY]
        exact ⟨⟨_, rfl⟩, (decide_eq_false fun h => by subst h; exact he rfl).symm⟩
    · have hli : ¬ (k : Int) < (a.length : Int) := by omega
      obtain rfl : k = a.length := by omega
      simp (maxSteps := 3000000) only [qf, zH, Qf, Ux, hli, Int.lt_irrefl, iE, iN, iB, iC, iL, iD, iA, iS, iM, qa, zZ, ↓qt, ↓reduceIte, reduceCtorEq, nA, nM, nS, nE, nL, nD]; try simp only [qa, zY]
      refine ⟨⟨_, rfl⟩, (decide_eq_true (List.ext_getElem? fun i => ?_)).symm⟩
      by_cases e : i < a.length
      · exact hc i e
      · rw [List.getElem?_eq_none (by omega), List.getElem?_eq_none (by omega)]
  · have hq : ((a.length : Int) != (b.length : Int)) = true := by simp; omega
    simp (maxSteps := 3000000) only [qf, zH, Ui, hq, iE, iN, iB, iC, iL, iD, iA, iS, iM, qa, zZ, ↓qt, ↓reduceIte, reduceCtorEq, nA, nM, nS, nE, nL, nD]; try simp only [qa, zY]
    exact ⟨⟨_, rfl⟩, (decide_eq_false fun h => by subst h; exact hlen rfl).symm⟩
def qio : BE := fun hp xs => match xs with
  | [.slc b 0 k false 0, .slc b' 0 k' false 0] => match rd hp b, rd hp b' with
    | some L, some L' => match Bw L, Bw L' with
      | some w, some w' => chk ((k = w.length ∧ k' = w'.length) ∧ k ≤ 2000000 ∧ k' ≤ 2000000) (some (.bool (decide (w = w')), hp))
      | _, _ => none
    | _, _ => none
  | _ => none
theorem q1s : Am.Callee Try.prog 22 qio := Callee.ro2 fun hp xs v hp' he => by
  unfold qio at he
  split at he
  · rename_i b k b' k'
    split at he
    · rename_i L L' hL hL'
      split at he
      · rename_i w w' h1 h1'
        have h9 := ql he
        clear he
        obtain ⟨⟨⟨k1, k2⟩, h0⟩, h8⟩ := h9
        simp only [Option.some.injEq, Prod.mk.injEq] at h8
        obtain ⟨rfl, rfl⟩ := h8
        subst k1; subst k2
        have e1 := wh h1
        have f1 := wh h1'
        subst e1; subst f1
        refine ⟨z8 w, z8 w', b, b', [.slc 0 0 w.length false 0, .slc 1 0 w'.length false 0], rfl, ⟨_, hL, Nat.le_refl _, List.take_length⟩, ⟨_, hL', Nat.le_refl _, List.take_length⟩, qo _, qo _, ?_, rfl, ?_, rfl, qos w w' h0⟩
        · simp only [AV.zg, AV.ren, two, if_true, Nat.zero_add]
          rfl
        · exact ⟨by simp [AV.under], by simp [AV.under], trivial⟩
      · cases he
    · cases he
  · cases he
def G9 (p a : Int) : Bool := yr p && decide (1 ≤ a ∧ a ≤ p - 1)
theorem qrl {p a : Int} (h : G9 p a = true) : okI p a := by
  unfold G9 at h
  rw [Bool.and_eq_true, decide_eq_true_eq] at h
  exact h
theorem kq : qhd 71 = some (qk yx) := rfl
theorem vk : qhd 72 = some (qk xh) := rfl
theorem vm : qhd 120 = some (qk jm) := rfl
theorem uh : qhd 76 = some (qk xi) := rfl
theorem w9 : qhd 66 = some (qk yx) := rfl
theorem ji : qhd 67 = some (qk xj) := rfl
theorem wj : qhd 70 = some (qk xm) := rfl
theorem j9 : qhd 137 = some (qk jm) := rfl
def Yv : AC := .seq (.region [oB 4 false]) (.seq (.region [oM 5 0,oC 6 120 [.t 5],oM 7 6,oG 8 7 true (.mov (.t 1)),oG 9 7 true (.mov (.t 0)),oG 10 7 true (.bin .sub (.t 9) (.c (.int .i64 1))),⟨some 11,some (7,true),.call (.c (.fn 71 [] [])) [.t 8,(.c (.int .i64 1)),.t 10]⟩,o0 12 (.pick (.t 7) (.t 11) (.c (.bool false))),oM 4 12]) .ret)
theorem qjo : zk Try.prog 56 = some ⟨13, Yv, [.slot 4]⟩ := by kernel_rfl
theorem qkp (p a : Int) : Am.Fn Try.prog 56 [.int .i64 p, .int .i64 a] [] (fun v H' => v = .bool (G9 p a) ∧ H' = []) := by
  refine Am.Fn.xo (R := fun v => v = _) qbp mixed qjo (by simp) (by simp) ?_
  cases hP : yr p with
  | false =>
    simp (maxSteps := 3000000) only [qf, zH, Yv, kq, vk, vm, uh, w9, ji, wj, j9, xh, yx, xm, jm, xi, xj, hP, iE, iN, iB, iC, iL, iD, iA, iS, iM, qa, zZ, ↓qt, ↓reduceIte, reduceCtorEq, nA, nM, nS, nE, nL, nD]; try simp only [qa, zY]
    simp [G9, hP]
  | true =>
    have hb := vu hP
    have hw : qm .i64 (p - 1) = p - 1 := wrap64 (by omega) (by omega)
    simp (maxSteps := 3000000) only [qf, zH, Yv, kq, vk, vm, uh, w9, ji, wj, j9, xh, yx, xm, jm, xi, xj, hP, hw, iE, iN, iB, iC, iL, iD, iA, iS, iM, qa, zZ, ↓qt, ↓reduceIte, reduceCtorEq, nA, nM, nS, nE, nL, nD]; try simp only [qa, zY]
    simp [G9, hP]
def Vg : AC := .seq (.region [oB 4 false]) (.seq (.region [oM 5 0,oC 6 137 [.t 5],oM 7 6,oG 8 7 true (.mov (.t 1)),oG 9 7 true (.mov (.t 0)),oG 10 7 true (.bin .sub (.t 9) (.c (.int .i64 1))),⟨some 11,some (7,true),.call (.c (.fn 66 [] [])) [.t 8,(.c (.int .i64 1)),.t 10]⟩,o0 12 (.pick (.t 7) (.t 11) (.c (.bool false))),oM 4 12]) .ret)
theorem qgz : zk Try.prog 117 = some ⟨13, Vg, [.slot 4]⟩ := by kernel_rfl
theorem qf6 (p a : Int) : Am.Fn Try.prog 117 [.int .i64 p, .int .i64 a] [] (fun v H' => v = .bool (G9 p a) ∧ H' = []) := by
  refine Am.Fn.xo (R := fun v => v = _) qbp mixed qgz (by simp) (by simp) ?_
  cases hP : yr p with
  | false =>
    simp (maxSteps := 3000000) only [qf, zH, Vg, kq, vk, vm, uh, w9, ji, wj, j9, xh, yx, xm, jm, xi, xj, hP, iE, iN, iB, iC, iL, iD, iA, iS, iM, qa, zZ, ↓qt, ↓reduceIte, reduceCtorEq, nA, nM, nS, nE, nL, nD]; try simp only [qa, zY]
    simp [G9, hP]
  | true =>
    have hb := vu hP
    have hw : qm .i64 (p - 1) = p - 1 := wrap64 (by omega) (by omega)
    simp (maxSteps := 3000000) only [qf, zH, Vg, kq, vk, vm, uh, w9, ji, wj, j9, xh, yx, xm, jm, xi, xj, hP, hw, iE, iN, iB, iC, iL, iD, iA, iS, iM, qa, zZ, ↓qt, ↓reduceIte, reduceCtorEq, nA, nM, nS, nE, nL, nD]; try simp only [qa, zY]
    simp [G9, hP]
def b9 : List AV → Option AV
  | [.int .i64 p, .int .i64 a] => some (.bool (G9 p a))
  | _ => none
theorem qme {f : FuncId} (h : ∀ p a, Am.Fn Try.prog f [.int .i64 p, .int .i64 a] [] (fun v H' => v = .bool (G9 p a) ∧ H' = [])) : Am.Callee Try.prog f (qk b9) := Am.Callee.plain fun xs v he => by
  unfold b9 at he
  split at he
  · rename_i p a
    cases he
    exact ⟨rfl, rfl, h p a⟩
  · cases he
noncomputable def gi (p a : Int) : Int := (-a * a - xt p a * xt p a).emod p
theorem W4 {p a : Int} (h : okI p a) : 0 ≤ gi p a ∧ gi p a ≤ p - 1 := by
  have hb := vu h.1
  exact ⟨Int.emod_nonneg _ (by omega), Int.le_sub_one_of_lt (Int.emod_lt_of_pos _ (by omega))⟩
theorem qmz {p a : Int} (hp : p ≤ 97) (h : 1 ≤ a ∧ a ≤ p - 1) : 0 ≤ a * a ∧ a * a ≤ 9216 := by
  have h1 : a * a ≤ 96 * 96 := Int.mul_le_mul (by omega) (by omega) (by omega) (by omega)
  exact ⟨Int.mul_nonneg (by omega) (by omega), by omega⟩
def Ku : AC := .seq (.region [oI 4 0]) (.seq (.region [oM 6 1,oM 7 0,oC 8 72 [.t 6,.t 7],oM 5 8]) (.seq (.region [oM 9 1,o0 10 (.un .neg (.t 9)),oM 11 1,oP 12 .mul 10 11,oM 13 5,oM 14 5,oP 15 .mul 13 14,oP 16 .sub 12 15,oM 17 0,oC 18 76 [.t 16,.t 17],oM 4 18]) .ret))
theorem qhf : zk Try.prog 123 = some ⟨19, Ku, [.slot 4]⟩ := by kernel_rfl
theorem qg9 (p a : Int) (h : okI p a) : Am.Fn Try.prog 123 [.int .i64 p, .int .i64 a] [] (fun v H' => v = .int .i64 (gi p a) ∧ H' = []) := by
  refine Am.Fn.xo (R := fun v => v = _) qbp mixed qhf (by simp) (by simp) ?_
  have hb := vu h.1
  have hv := (Xy h.1 h.2).1
  have h2 : 1 ≤ a ∧ a ≤ p - 1 := h.2
  have q1 := qmz hb.2 h2
  have q2 := qmz hb.2 hv
  have hn : (0 : Int) - a = -a := by omega
  have w0 : qm .i64 (-a) = -a := wrap64 (by omega) (by omega)
  have e1 : -a * a = -(a * a) := Int.neg_mul ..
  have w1 : qm .i64 (-a * a) = -a * a := wrap64 (by omega) (by omega)
  have w2 : qm .i64 (xt p a * xt p a) = xt p a * xt p a := wrap64 (by omega) (by omega)
  have w3 : qm .i64 (-a * a - xt p a * xt p a) = -a * a - xt p a * xt p a := wrap64 (by omega) (by omega)
  have hp0 : 0 < p ∧ p ≤ 1000000 := by omega
  have e : (-a * a - xt p a * xt p a).emod p = gi p a := rfl
  simp (maxSteps := 3000000) only [qf, zH, Ku, kq, vk, vm, uh, w9, ji, wj, j9, xh, yx, xm, jm, xi, xj, h, hn, w0, w1, w2, w3, hp0, e, iE, iN, iB, iC, iL, iD, iA, iS, iM, qa, zZ, ↓qt, ↓reduceIte, reduceCtorEq, nA, nM, nS, nE, nL, nD]; try simp only [qa, zY]
def qdl : AC := .seq (.region [oI 4 0]) (.seq (.region [oM 6 0,oM 7 1,oC 8 67 [.t 6,.t 7],oM 5 8]) (.seq (.region [oM 9 0,oM 10 1,o0 11 (.un .neg (.t 10)),oM 12 1,oP 13 .mul 11 12,oM 14 5,oM 15 5,oP 16 .mul 14 15,oP 17 .sub 13 16,oC 18 70 [.t 9,.t 17],oM 4 18]) .ret))
theorem qma : zk Try.prog 118 = some ⟨19, qdl, [.slot 4]⟩ := by kernel_rfl
theorem qm6 (p a : Int) (h : okI p a) : Am.Fn Try.prog 118 [.int .i64 p, .int .i64 a] [] (fun v H' => v = .int .i64 (gi p a) ∧ H' = []) := by
  refine Am.Fn.xo (R := fun v => v = _) qbp mixed qma (by simp) (by simp) ?_
  have hb := vu h.1
  have hv := (Xy h.1 h.2).1
  have h2 : 1 ≤ a ∧ a ≤ p - 1 := h.2
  have q1 := qmz hb.2 h2
  have q2 := qmz hb.2 hv
  have hn : (0 : Int) - a = -a := by omega
  have w0 : qm .i64 (-a) = -a := wrap64 (by omega) (by omega)
  have e1 : -a * a = -(a * a) := Int.neg_mul ..
  have w1 : qm .i64 (-a * a) = -a * a := wrap64 (by omega) (by omega)
  have w2 : qm .i64 (xt p a * xt p a) = xt p a * xt p a := wrap64 (by omega) (by omega)
  have w3 : qm .i64 (-a * a - xt p a * xt p a) = -a * a - xt p a * xt p a := wrap64 (by omega) (by omega)
  have hp0 : 0 < p ∧ p ≤ 1000000 := by omega
  have e : (-a * a - xt p a * xt p a).emod p = gi p a := rfl
  simp (maxSteps := 3000000) only [qf, zH, qdl, kq, vk, vm, uh, w9, ji, wj, j9, xh, yx, xm, jm, xi, xj, h, hn, w0, w1, w2, w3, hp0, e, iE, iN, iB, iC, iL, iD, iA, iS, iM, qa, zZ, ↓qt, ↓reduceIte, reduceCtorEq, nA, nM, nS, nE, nL, nD]; try simp only [qa, zY]
noncomputable def bt : List AV → Option AV
  | [.int .i64 p, .int .i64 a] => chk (okI p a) (some (.int .i64 (gi p a)))
  | _ => none
theorem qfw {f : FuncId} (h : ∀ p a, okI p a → Am.Fn Try.prog f [.int .i64 p, .int .i64 a] [] (fun v H' => v = .int .i64 (gi p a) ∧ H' = [])) : Am.Callee Try.prog f (qk bt) := Am.Callee.plain fun xs v he => by
  unfold bt at he
  split at he
  · rename_i p a
    obtain ⟨h1, he⟩ := ql he
    cases he
    exact ⟨rfl, rfl, h p a h1⟩
  · cases he
noncomputable def qhq : zh := ((((((qhd.put 20 (qh4)).put 22 (qio)).put 56 (qk b9)).put 117 (qk b9)).put 123 (qk bt)).put 118 (qk bt))
theorem qqj : qq Try.prog qhq := ((((((qbp.put (q2b)).put (q1s)).put (qme qkp)).put (qme qf6)).put (qfw qg9)).put (qfw qm6))
theorem qao : qhq 71 = some (qk yx) := rfl
theorem Wh : qhq 72 = some (qk xh) := rfl
theorem V2 : qhq 120 = some (qk jm) := rfl
theorem Br : qhq 76 = some (qk xi) := rfl
theorem Up : qhq 66 = some (qk yx) := rfl
theorem Xp : qhq 67 = some (qk xj) := rfl
theorem W6 : qhq 70 = some (qk xm) := rfl
theorem Vv : qhq 137 = some (qk jm) := rfl
def vw (n i : Int) : Bool := decide (i = 0) || !decide (qm .i64 (1 - n) ≤ i ∧ i ≤ qm .i64 (n - 1))
def Wt : AC := .seq (.region [oB 3 false]) (.seq (.region [oM 4 0,oK 5 .eql 4 0,oM 6 5,oG 7 6 false (.mov (.t 0)),oG 8 6 false (.Vl (.t 1)),oG 9 6 false (.bin .sub (.c (.int .i64 1)) (.t 8)),oG 10 6 false (.Vl (.t 1)),oG 11 6 false (.bin .sub (.t 10) (.c (.int .i64 1))),⟨some 12,some (6,false),.call (.c (.fn 71 [] [])) [.t 7,.t 9,.t 11]⟩,oG 13 6 false (.un .not (.t 12)),o0 14 (.pick (.t 6) (.c (.bool true)) (.t 13)),oM 3 14]) .ret)
theorem qho : zk Try.prog 122 = some ⟨15, Wt, [.slot 3]⟩ := by kernel_rfl
theorem qhr (n i : Int) : Am.Fn Try.prog 122 [.int .i64 i, .ptr 0 0] [.ro [.int .i64 n]] (fun v H' => v = .bool (vw n i) ∧ H' = [.ro [.int .i64 n]]) := by
  refine Am.Fn.xo (R := fun v => v = _) qqj mixed qho (by simp [AV.qn, AV.under]) (jv rfl) ?_
  by_cases h0 : i = 0
  · have hb : vw n i = true := by simp [vw, h0]
    have hq : (i == 0) = true := by simpa using h0
    simp (maxSteps := 3000000) only [qf, zH, Wt, qao, Wh, V2, Br, Up, Xp, W6, Vv, xh, yx, xm, jm, xi, xj, hq, iE, iN, iB, iC, iL, iD, iA, iS, iM, qa, zZ, ↓qt, ↓reduceIte, reduceCtorEq, nA, nM, nS, nE, nL, nD]; try simp only [qa, zY]
    exact ⟨⟨_, rfl⟩, by rw [hb]⟩
  · have hb : vw n i = !decide (qm .i64 (1 - n) ≤ i ∧ i ≤ qm .i64 (n - 1)) := by simp [vw, h0]
    have hq : (i == 0) = false := by simpa using h0
    simp (maxSteps := 3000000) only [qf, zH, Wt, qao, Wh, V2, Br, Up, Xp, W6, Vv, xh, yx, xm, jm, xi, xj, hq, iE, iN, iB, iC, iL, iD, iA, iS, iM, qa, zZ, ↓qt, ↓reduceIte, reduceCtorEq, nA, nM, nS, nE, nL, nD]; try simp only [qa, zY]
    exact ⟨⟨_, rfl⟩, hb.symm⟩
def Vx : BE := fun hp xs => match xs with
  | [.int .i64 i, .ptr b 0] => match rd hp b with
    | some (.int .i64 n :: _) => some (.bool (vw n i), hp)
    | _ => none
  | _ => none
theorem q2r : Am.Callee Try.prog 122 Vx := Callee.fp fun hp xs v hp' he => by
  unfold Vx at he
  split at he
  · rename_i i b
    split at he
    · rename_i n L hL
      simp only [Option.some.injEq, Prod.mk.injEq] at he
      obtain ⟨rfl, rfl⟩ := he
      refine ⟨[(b, 0)], [.int .i64 i, .ptr 0 0], _, _, _, qhr n i, by simp [AV.ren, AV.zg, ofL], rfl, ⟨⟨_, hL, by simp, by simp [AV.zg, AV.ren]⟩, trivial⟩, rfl, ⟨⟨trivial, trivial⟩, trivial⟩, ⟨trivial, by simp [AV.under], trivial⟩, by simp [AV.ren], ?_⟩
      simp [after, upd, AO.wr]
    · cases he
  · cases he
noncomputable def qgn : zh := (qhq.put 122 (Vx))
theorem qj5 : qq Try.prog qgn := (qqj.put (q2r))
theorem qa4 : qgn 71 = some (qk yx) := rfl
theorem We : qgn 72 = some (qk xh) := rfl
theorem V4 : qgn 120 = some (qk jm) := rfl
theorem Gd : qgn 76 = some (qk xi) := rfl
theorem Ul : qgn 66 = some (qk yx) := rfl
theorem Xr : qgn 67 = some (qk xj) := rfl
theorem Ys : qgn 70 = some (qk xm) := rfl
theorem Vq : qgn 137 = some (qk jm) := rfl
theorem Jm : qgn 122 = some (Vx) := rfl
def x7 : AC := .seq (.region [oP 9 .lss 8 7]) (.seq (.cond 9 .skip (.exit 0)) (.seq (.block 1 (.seq (.region [oM 10 8,oM 5 10]) (.seq (.region [oM 11 1,oM 12 0,oM 13 5,oX 14 1 12 13,oL 15 14,⟨some 16,none,.call (.t 11) [.t 15]⟩]) (.cond 16 (.seq (.region [oM 17 5,oM 4 17]) .ret) .skip)))) (.region [oK 18 .add 8 1,oM 8 18])))
def uq : AC := .seq (.region [oI 4 (-1)]) .ret
def kc : AC := .seq (.region [oI 4 0]) (.seq (.seq (.region [oM 6 0,o0 7 (.len .slc (.t 6)),oI 8 0]) (.block 0 (.loop x7))) uq)
theorem Vn : zk Try.prog 161 = some ⟨19, kc, [.slot 4]⟩ := by kernel_rfl
theorem qxb (n : Int) (w : List Int) (hl : w.length ≤ 2000000) :
    Am.Fn Try.prog 161 [.slc 0 0 w.length false 0, .fn 122 [] [.ptr 1 0]] [.ro (z8 w), .ro [.int .i64 n]] (fun v H' => v = .int .i64 (if w.any (vw n) then (w.findIdx (vw n) : Nat) else -1) ∧ H' = [.ro (z8 w), .ro [.int .i64 n]]) := by
  refine Am.Fn.xo (R := fun v => v = _) qj5 mixed Vn (by simp [AV.qn, AV.under]) (J2 (qo _) rfl) ?_
  have hla := zw w
  simp (maxSteps := 3000000) only [qf, zH, kc, iE, iN, iB, iC, iL, iD, iA, iS, iM, qa, zZ, ↓qt, ↓reduceIte, reduceCtorEq, nA, nM, nS, nE, nL, nD]; try simp only [qa, zY]
  refine WA.jq qj5 (fun s => ∃ k : Nat, k ≤ w.length ∧ (∀ i, (h : i < k) → ∀ h2, vw n (w[i]'h2) = false) ∧ s = ⟨[(0, .slc 0 0 w.length false 0), (1, .fn 122 [] [.ptr 1 0]), (7, .int .i64 w.length), (8, .int .i64 k)], [.ro (z8 w), .ro [.int .i64 n]]⟩)
    (fun s => match get s.env 8 with | .int _ x => w.length - x.toNat | _ => 0) ⟨_, qv.qw [0, 1, 7, 8], 0, by omega, by intros; omega, rfl⟩ ?_
  rintro s ⟨k, hk, hc, rfl⟩
  have hw : qm .i64 ((k : Int) + 1) = ((k + 1 : Nat) : Int) := by rw [wrap64 (by omega) (by omega)]; rfl
  by_cases hlt : k < w.length
  · have hli : (k : Int) < (w.length : Int) := by omega
    have hk0 : (0 : Int) ≤ k := by omega
    have hg : w.getD k 0 = w[k] := by simp [hlt]
    cases hb : vw n w[k] with
    | true =>
      simp (maxSteps := 3000000) only [qf, zH, x7, qa4, We, V4, Gd, Ul, Xr, Ys, Vq, Jm, Vx, xh, yx, xm, jm, xi, xj, hli, hk0, hw, hla, hlt, hg, hb, and_self, iE, iN, iB, iC, iL, iD, iA, iS, iM, qa, zZ, ↓qt, ↓reduceIte, reduceCtorEq, nA, nM, nS, nE, nL, nD]; try simp only [qa, zY]
      have h1 : w.any (vw n) = true := List.any_eq_true.2 ⟨w[k], List.getElem_mem hlt, hb⟩
      have h3 : w.findIdx (vw n) = k := (List.findIdx_eq hlt).2 ⟨hb, fun j hj => hc j hj (by omega)⟩
      exact ⟨⟨_, rfl⟩, by rw [h1, h3, if_pos rfl]⟩
    | false =>
      simp (maxSteps := 3000000) only [qf, zH, x7, qa4, We, V4, Gd, Ul, Xr, Ys, Vq, Jm, Vx, xh, yx, xm, jm, xi, xj, hli, hk0, hw, hla, hlt, hg, hb, and_self, iE, iN, iB, iC, iL, iD, iA, iS, iM, qa, zZ, ↓qt, ↓reduceIte, reduceCtorEq, nA, nM, nS, nE, nL, nD]; try simp only [qa, zY]
      refine ⟨_, qv.qw [0, 1, 7, 8], ⟨k + 1, by omega, fun i hi h2 => ?_, rfl⟩, ?_⟩
      · by_cases e : i = k
        · subst e; exact hb
        · exact hc i (by omega) h2
      · simp only [zL, ↓reduceIte, reduceCtorEq, nE, nA]; omega
  · have hli : ¬ (k : Int) < (w.length : Int) := by omega
    obtain rfl : k = w.length := by omega
    simp (maxSteps := 3000000) only [qf, zH, x7, uq, hli, Int.lt_irrefl, iE, iN, iB, iC, iL, iD, iA, iS, iM, qa, zZ, ↓qt, ↓reduceIte, reduceCtorEq, nA, nM, nS, nE, nL, nD]; try simp only [qa, zY]
    have h1 : w.any (vw n) = false := List.any_eq_false.2 fun d hd => by
      obtain ⟨i, hi, rfl⟩ := List.getElem_of_mem hd
      rw [hc i (by omega) hi]; simp
    exact ⟨⟨_, rfl⟩, by rw [h1]; rfl⟩
def W5 : BE := fun hp xs => match xs with
  | [.slc b 0 k false 0, .fn 122 [] [.ptr b' 0]] => match rd hp b, rd hp b' with
    | some L, some (.int .i64 n :: _) => match Bw L with
      | some w => chk (k = w.length ∧ k ≤ 2000000) (some (.int .i64 (if w.any (vw n) then (w.findIdx (vw n) : Nat) else -1), hp))
      | none => none
    | _, _ => none
  | _ => none
theorem qw5 : Am.Callee Try.prog 161 W5 := Callee.fp fun hp xs v hp' he => by
  unfold W5 at he
  split at he
  · rename_i b k b'
    split at he
    · rename_i L n L' hL hL'
      split at he
      · rename_i w hw
        have h9 := ql he
        clear he
        obtain ⟨⟨k1, h0⟩, h8⟩ := h9
        simp only [Option.some.injEq, Prod.mk.injEq] at h8
        obtain ⟨rfl, rfl⟩ := h8
        subst k1
        have e1 := wh hw
        subst e1
        refine ⟨[(b, 0), (b', 0)], [.slc 0 0 w.length false 0, .fn 122 [] [.ptr 1 0]], _, _, _, qxb n w h0, by simp [AV.ren, AV.zg, ofL], rfl, ⟨⟨_, hL, by simp, by simp [qb _ _ (qo _)]⟩, ⟨_, hL', by simp, by simp [AV.zg, AV.ren]⟩, trivial⟩, rfl, ⟨qi _ _ (qo _), ⟨trivial, trivial⟩, trivial⟩, ?_, by simp [AV.ren], ?_⟩
        · simp [AV.under, AV.qn]
        · simp [after, upd, AO.wr]
      · cases he
    · cases he
  · cases he
noncomputable def qd1 : zh := (qgn.put 161 (W5))
theorem qrd : qq Try.prog qd1 := (qj5.put (qw5))
theorem qar : qd1 71 = some (qk yx) := rfl
theorem V8 : qd1 72 = some (qk xh) := rfl
theorem Wj : qd1 120 = some (qk jm) := rfl
theorem Gc : qd1 76 = some (qk xi) := rfl
theorem Uu : qd1 66 = some (qk yx) := rfl
theorem Xz : qd1 67 = some (qk xj) := rfl
theorem Yp : qd1 70 = some (qk xm) := rfl
theorem Vr : qd1 137 = some (qk jm) := rfl
theorem Jj : qd1 122 = some (Vx) := rfl
theorem yf : qd1 161 = some (W5) := rfl
def vh : AC := .seq (.region [oB 4 false]) (.seq (.region [oM 5 0,oM 6 1,oC 7 161 [.t 5,.t 6],oK 8 .geq 7 0,oM 4 8]) .ret)
theorem Xk : zk Try.prog 121 = some ⟨9, vh, [.slot 4]⟩ := by kernel_rfl
theorem qk3 (n : Int) (w : List Int) (hl : w.length ≤ 2000000) :
    Am.Fn Try.prog 121 [.slc 0 0 w.length false 0, .fn 122 [] [.ptr 1 0]] [.ro (z8 w), .ro [.int .i64 n]] (fun v H' => v = .bool (w.any (vw n)) ∧ H' = [.ro (z8 w), .ro [.int .i64 n]]) := by
  refine Am.Fn.xo (R := fun v => v = _) qrd mixed Xk (by simp [AV.qn, AV.under]) (J2 (qo _) rfl) ?_
  have hw := uf w
  cases hb : w.any (vw n) with
  | true =>
    have hd : decide ((0 : Int) ≤ ((w.findIdx (vw n) : Nat) : Int)) = true := by simp
    simp (maxSteps := 3000000) only [qf, zH, vh, qar, V8, Wj, Gc, Uu, Xz, Yp, Vr, Jj, yf, Vx, xh, yx, W5, xm, jm, xi, xj, hw, hl, hb, hd, and_self, iE, iN, iB, iC, iL, iD, iA, iS, iM, qa, zZ, ↓qt, ↓reduceIte, reduceCtorEq, nA, nM, nS, nE, nL, nD]; try simp only [qa, zY]
    trace_state
    exact ⟨_, rfl⟩
  | false =>
    simp (maxSteps := 3000000) only [qf, zH, vh, qar, V8, Wj, Gc, Uu, Xz, Yp, Vr, Jj, yf, Vx, xh, yx, W5, xm, jm, xi, xj, hw, hl, hb, and_self, iE, iN, iB, iC, iL, iD, iA, iS, iM, qa, zZ, ↓qt, ↓reduceIte, reduceCtorEq, nA, nM, nS, nE, nL, nD]; try simp only [qa, zY]
    trace_state
    exact ⟨_, rfl⟩
def y8 : BE := fun hp xs => match xs with
  | [.slc b 0 k false 0, .fn 122 [] [.ptr b' 0]] => match rd hp b, rd hp b' with
    | some L, some (.int .i64 n :: _) => match Bw L with
      | some w => chk (k = w.length ∧ k ≤ 2000000) (some (.bool (w.any (vw n)), hp))
      | none => none
    | _, _ => none
  | _ => none
theorem qy3 : Am.Callee Try.prog 121 y8 := Callee.fp fun hp xs v hp' he => by
  unfold y8 at he
  split at he
  · rename_i b k b'
    split at he
    · rename_i L n L' hL hL'
      split at he
      · rename_i w hw
        have h9 := ql he
        clear he
        obtain ⟨⟨k1, h0⟩, h8⟩ := h9
        simp only [Option.some.injEq, Prod.mk.injEq] at h8
        obtain ⟨rfl, rfl⟩ := h8
        subst k1
        have e1 := wh hw
        subst e1
        refine ⟨[(b, 0), (b', 0)], [.slc 0 0 w.length false 0, .fn 122 [] [.ptr 1 0]], _, _, _, qk3 n w h0, by simp [AV.ren, AV.zg, ofL], rfl, ⟨⟨_, hL, by simp, by simp [qb _ _ (qo _)]⟩, ⟨_, hL', by simp, by simp [AV.zg, AV.ren]⟩, trivial⟩, rfl, ⟨qi _ _ (qo _), ⟨trivial, trivial⟩, trivial⟩, ?_, by simp [AV.ren], ?_⟩
        · simp [AV.under, AV.qn]
        · simp [after, upd, AO.wr]
      · cases he
    · cases he
  · cases he
noncomputable def qpj : zh := (qd1.put 121 (y8))
theorem qef : qq Try.prog qpj := (qrd.put (qy3))
def ke (n : Int) (w : List Int) : Bool := decide (2 ≤ n ∧ n ≤ 6) && (decide (w.length ≤ 24) && !w.any (vw n))
theorem qx : qpj 121 = some (y8) := rfl
theorem zx : qpj 122 = some (Vx) := rfl
theorem v8 : qpj 71 = some (qk yx) := rfl
theorem jd : qpj 66 = some (qk yx) := rfl
theorem zp : qpj 117 = some (qk b9) := rfl
def Wr : AC := .seq (.region [o0 2 (.box (.t 0)),oB 4 false]) (.seq (.region [oM 6 1,o0 7 (.qd4 122 [] [.t 2]),oC 8 121 [.t 6,.t 7],oM 5 8]) (.seq (.region [oL 9 2,oC 10 71 [.t 9,(.c (.int .i64 2)),(.c (.int .i64 6))],oM 11 10,oG 12 11 true (.mov (.t 1)),oG 13 11 true (.len .slc (.t 12)),oG 14 11 true (.bin .leq (.t 13) (.c (.int .i64 24))),o0 15 (.pick (.t 11) (.t 14) (.c (.bool false))),oM 16 15,oG 17 16 true (.mov (.t 5)),oG 18 16 true (.un .not (.t 17)),o0 19 (.pick (.t 16) (.t 18) (.c (.bool false))),oM 4 19]) .ret))
theorem qls : zk Try.prog 57 = some ⟨20, Wr, [.slot 4]⟩ := by kernel_rfl
theorem qn5 (n : Int) (w : List Int) (hl : w.length ≤ 2000000) :
    Am.Fn Try.prog 57 [.int .i64 n, .slc 0 0 w.length false 0] [.ro (z8 w)] (fun v H' => v = .bool (ke n w) ∧ H' = [.ro (z8 w)]) := by
  refine Am.Fn.xo (R := fun v => v = _) qef mixed qls (by simp [AV.qn, AV.under]) (jv (qo _)) ?_
  have hw := uf w
  have hla := zw w
  by_cases hn : 2 ≤ n ∧ n ≤ 6
  · by_cases h24 : w.length ≤ 24
    · have h24i : (w.length : Int) ≤ 24 := by omega
      have e : ke n w = !w.any (vw n) := by simp [ke, hn, h24]
      simp (maxSteps := 3000000) only [qf, zH, Wr, qx, zx, v8, jd, zp, Vx, y8, yx, b9, hw, hla, hl, hn, h24i, and_self, iE, iN, iB, iC, iL, iD, iA, iS, iM, qa, zZ, ↓qt, ↓reduceIte, reduceCtorEq, nA, nM, nS, nE, nL, nD]; try simp only [qa, zY]
      rw [e]; exact ⟨⟨rfl, rfl⟩, ⟨_, rfl⟩, rfl⟩
    · have h24i : ¬ (w.length : Int) ≤ 24 := by omega
      have e : ke n w = false := by simp [ke, h24]
      simp (maxSteps := 3000000) only [qf, zH, Wr, qx, zx, v8, jd, zp, Vx, y8, yx, b9, hw, hla, hl, hn, h24i, and_self, iE, iN, iB, iC, iL, iD, iA, iS, iM, qa, zZ, ↓qt, ↓reduceIte, reduceCtorEq, nA, nM, nS, nE, nL, nD]; try simp only [qa, zY]
      rw [e]; exact ⟨⟨rfl, rfl⟩, ⟨_, rfl⟩, rfl⟩
  · have e : ke n w = false := by simp only [ke, decide_eq_false hn, Bool.false_and]
    simp (maxSteps := 3000000) only [qf, zH, Wr, qx, zx, v8, jd, zp, Vx, y8, yx, b9, hw, hla, hl, hn, and_self, iE, iN, iB, iC, iL, iD, iA, iS, iM, qa, zZ, ↓qt, ↓reduceIte, reduceCtorEq, nA, nM, nS, nE, nL, nD]; try simp only [qa, zY]
    rw [e]; exact ⟨⟨rfl, rfl⟩, ⟨_, rfl⟩, rfl⟩
def kg : AC := .seq (.seq (.region [oM 14 5,oM 15 1,o0 16 (.len .slc (.t 15)),oP 17 .lss 14 16]) (.cond 17 .skip (.exit 0))) (.seq (.block 1 (.seq (.region [oM 20 1,oM 21 5,oX 22 1 20 21,oL 23 22,oK 24 .eql 23 0,oM 25 24,oG 26 25 false (.mov (.t 1)),oG 27 25 false (.mov (.t 5)),oG 28 25 false (.J7 1 (.t 26) (.t 27)),oG 29 25 false (.Vl (.t 28)),oG 30 25 false (.mov (.t 0)),oG 31 25 false (.bin .sub (.c (.int .i64 1)) (.t 30)),oG 32 25 false (.mov (.t 0)),oG 33 25 false (.bin .sub (.t 32) (.c (.int .i64 1))),⟨some 34,some (25,false),.call (.c (.fn 66 [] [])) [.t 29,.t 31,.t 33]⟩,oG 35 25 false (.un .not (.t 34)),o0 36 (.pick (.t 25) (.c (.bool true)) (.t 35))]) (.cond 36 (.seq (.region [oB 4 false]) .ret) .skip))) (.region [oM 18 5,oK 19 .add 18 1,oM 5 19]))
def Gk : AC := .seq (.region [oB 4 true]) .ret
def V7 : AC := .seq (.region [oB 4 false]) (.seq (.seq (.region [oM 6 0,oC 7 66 [.t 6,(.c (.int .i64 2)),(.c (.int .i64 6))],o0 8 (.un .not (.t 7)),oM 9 8,oG 10 9 false (.mov (.t 1)),oG 11 9 false (.len .slc (.t 10)),oG 12 9 false (.bin .gtr (.t 11) (.c (.int .i64 24))),o0 13 (.pick (.t 9) (.c (.bool true)) (.t 12))]) (.cond 13 (.seq (.region [oB 4 false]) .ret) .skip)) (.seq (.seq (.region [oI 5 0]) (.block 0 (.loop kg))) Gk))
theorem qlo : zk Try.prog 53 = some ⟨37, V7, [.slot 4]⟩ := by kernel_rfl
theorem ql2 (n : Int) (w : List Int) (hl : w.length ≤ 2000000) :
    Am.Fn Try.prog 53 [.int .i64 n, .slc 0 0 w.length false 0] [.ro (z8 w)] (fun v H' => v = .bool (ke n w) ∧ H' = [.ro (z8 w)]) := by
  refine Am.Fn.xo (R := fun v => v = _) qef mixed qlo (by simp [AV.qn, AV.under]) (jv (qo _)) ?_
  have hla := zw w
  by_cases hn : 2 ≤ n ∧ n ≤ 6
  · by_cases h24 : w.length ≤ 24
    · have h24i : ¬ (24 : Int) < (w.length : Int) := by omega
      have e : ke n w = !w.any (vw n) := by simp [ke, hn, h24]
      simp (maxSteps := 3000000) only [qf, zH, V7, qx, zx, v8, jd, zp, Vx, y8, yx, b9, hla, hn, h24i, and_self, iE, iN, iB, iC, iL, iD, iA, iS, iM, qa, zZ, ↓qt, ↓reduceIte, reduceCtorEq, nA, nM, nS, nE, nL, nD]; try simp only [qa, zY]
      refine WA.jq qef (fun s => ∃ k : Nat, k ≤ w.length ∧ (∀ i, (h : i < k) → ∀ h2, vw n (w[i]'h2) = false) ∧ s = ⟨[(0, .int .i64 n), (1, .slc 0 0 w.length false 0), (5, .int .i64 k)], [.ro (z8 w)]⟩)
        (fun s => match get s.env 5 with | .int _ x => w.length - x.toNat | _ => 0) ⟨_, qv.qw [0, 1, 5], 0, by omega, by intros; omega, rfl⟩ ?_
      rintro s ⟨k, hk, hc, rfl⟩
      have hw : qm .i64 ((k : Int) + 1) = ((k + 1 : Nat) : Int) := by rw [wrap64 (by omega) (by omega)]; rfl
      by_cases hlt : k < w.length
      · have hli : (k : Int) < (w.length : Int) := by omega
        have hk0 : (0 : Int) ≤ k := by omega
        have hg : w.getD k 0 = w[k] := by simp [hlt]
        by_cases h0 : w[k] = 0
        · have hb : vw n w[k] = true := by simp [vw, h0]
          have hq : (w[k] == 0) = true := by simpa using h0
          have h1 : w.any (vw n) = true := List.any_eq_true.2 ⟨w[k], List.getElem_mem hlt, hb⟩
          simp (maxSteps := 3000000) only [qf, zH, kg, qx, zx, v8, jd, zp, Vx, y8, yx, b9, hli, hk0, hw, hla, hlt, hg, hq, and_self, iE, iN, iB, iC, iL, iD, iA, iS, iM, qa, zZ, ↓qt, ↓reduceIte, reduceCtorEq, nA, nM, nS, nE, nL, nD]; try simp only [qa, zY]
          exact ⟨⟨_, rfl⟩, by rw [e, h1]; rfl⟩
        · have hq : (w[k] == 0) = false := by simpa using h0
          by_cases hin : qm .i64 (1 - n) ≤ w[k] ∧ w[k] ≤ qm .i64 (n - 1)
          · have hb : vw n w[k] = false := by simp only [vw, decide_eq_false h0, decide_eq_true hin]; rfl
            simp (maxSteps := 3000000) only [qf, zH, kg, qx, zx, v8, jd, zp, Vx, y8, yx, b9, hli, hk0, hw, hla, hlt, hg, hq, hin, and_self, iE, iN, iB, iC, iL, iD, iA, iS, iM, qa, zZ, ↓qt, ↓reduceIte, reduceCtorEq, nA, nM, nS, nE, nL, nD]; try simp only [qa, zY]
            refine ⟨_, qv.qw [0, 1, 5], ⟨k + 1, by omega, fun i hi h2 => ?_, rfl⟩, ?_⟩
            · by_cases e : i = k
              · subst e; exact hb
              · exact hc i (by omega) h2
            · simp only [zL, ↓reduceIte, reduceCtorEq, nE, nA]; omega
          · have hb : vw n w[k] = true := by simp only [vw, decide_eq_false h0, decide_eq_false hin]; rfl
            have h1 : w.any (vw n) = true := List.any_eq_true.2 ⟨w[k], List.getElem_mem hlt, hb⟩
            simp (maxSteps := 3000000) only [qf, zH, kg, qx, zx, v8, jd, zp, Vx, y8, yx, b9, hli, hk0, hw, hla, hlt, hg, hq, hin, and_self, iE, iN, iB, iC, iL, iD, iA, iS, iM, qa, zZ, ↓qt, ↓reduceIte, reduceCtorEq, nA, nM, nS, nE, nL, nD]; try simp only [qa, zY]
            exact ⟨⟨_, rfl⟩, by rw [e, h1]; rfl⟩
      · have hli : ¬ (k : Int) < (w.length : Int) := by omega
        obtain rfl : k = w.length := by omega
        have h1 : w.any (vw n) = false := List.any_eq_false.2 fun d hd => by
          obtain ⟨i, hi, rfl⟩ := List.getElem_of_mem hd
          rw [hc i (by omega) hi]; simp
        simp (maxSteps := 3000000) only [qf, zH, kg, Gk, hli, Int.lt_irrefl, iE, iN, iB, iC, iL, iD, iA, iS, iM, qa, zZ, ↓qt, ↓reduceIte, reduceCtorEq, nA, nM, nS, nE, nL, nD]; try simp only [qa, zY]
        exact ⟨⟨_, rfl⟩, by rw [e, h1]; rfl⟩
    · have h24i : (24 : Int) < (w.length : Int) := by omega
      have e : ke n w = false := by simp [ke, h24]
      simp (maxSteps := 3000000) only [qf, zH, V7, qx, zx, v8, jd, zp, Vx, y8, yx, b9, hla, hn, h24i, and_self, iE, iN, iB, iC, iL, iD, iA, iS, iM, qa, zZ, ↓qt, ↓reduceIte, reduceCtorEq, nA, nM, nS, nE, nL, nD]; try simp only [qa, zY]
      exact ⟨⟨_, rfl⟩, by rw [e]⟩
  · have e : ke n w = false := by simp only [ke, decide_eq_false hn, Bool.false_and]
    simp (maxSteps := 3000000) only [qf, zH, V7, qx, zx, v8, jd, zp, Vx, y8, yx, b9, hla, hn, and_self, iE, iN, iB, iC, iL, iD, iA, iS, iM, qa, zZ, ↓qt, ↓reduceIte, reduceCtorEq, nA, nM, nS, nE, nL, nD]; try simp only [qa, zY]
    exact ⟨⟨_, rfl⟩, by rw [e]⟩
def Zp : BE := fun hp xs => match xs with
  | [.int .i64 n, .slc b 0 k false 0] => match rd hp b with
    | some L => match Bw L with
      | some w => chk (k = w.length ∧ k ≤ 2000000) (some (.bool (ke n w), hp))
      | none => none
    | none => none
  | _ => none
theorem qik {f : FuncId} (h : ∀ n w, w.length ≤ 2000000 → Am.Fn Try.prog f [.int .i64 n, .slc 0 0 w.length false 0] [.ro (z8 w)] (fun v H' => v = .bool (ke n w) ∧ H' = [.ro (z8 w)])) : Am.Callee Try.prog f Zp := Callee.fp fun hp xs v hp' he => by
  unfold Zp at he
  split at he
  · rename_i n b k
    split at he
    · rename_i L hL
      split at he
      · rename_i w hw
        have h9 := ql he
        clear he
        obtain ⟨⟨k1, h0⟩, h8⟩ := h9
        simp only [Option.some.injEq, Prod.mk.injEq] at h8
        obtain ⟨rfl, rfl⟩ := h8
        subst k1
        have e1 := wh hw
        subst e1
        refine ⟨[(b, 0)], [.int .i64 n, .slc 0 0 w.length false 0], _, _, _, h n w h0, by simp [AV.ren, AV.zg, ofL], rfl, ⟨⟨_, hL, by simp, by simp [qb _ _ (qo _)]⟩, trivial⟩, rfl, ⟨qi _ _ (qo _), trivial⟩, ?_, by simp [AV.ren], ?_⟩
        · simp [AV.under, AV.qn]
        · simp [after, upd, AO.wr]
      · cases he
    · cases he
  · cases he
noncomputable def ql7 : zh := ((qpj.put 57 (Zp)).put 53 (Zp))
theorem qq9 : qq Try.prog ql7 := ((qef.put (qik qn5)).put (qik ql2))
theorem wc : ql7 121 = some (y8) := rfl
theorem Jn : ql7 122 = some (Vx) := rfl
theorem qbc : ql7 71 = some (qk yx) := rfl
theorem U2 : ql7 66 = some (qk yx) := rfl
theorem Xx : ql7 117 = some (qk b9) := rfl
theorem V0 : ql7 53 = some (Zp) := rfl
def Y2 : AC := .seq (.region [oB 8 false]) (.seq (.region [oM 9 0,oM 10 1,oC 11 117 [.t 9,.t 10],oM 12 11,oG 13 12 true (.mov (.t 2)),oG 14 12 true (.mov (.t 3)),⟨some 15,some (12,true),.call (.c (.fn 53 [] [])) [.t 13,.t 14]⟩,o0 16 (.pick (.t 12) (.t 15) (.c (.bool false))),oM 8 16]) .ret)
theorem qjs : zk Try.prog 52 = some ⟨17, Y2, [.slot 8]⟩ := by kernel_rfl
theorem qi7 (p a n : Int) (w : List Int) (hl : w.length ≤ 2000000) :
    Am.Fn Try.prog 52 [.int .i64 p, .int .i64 a, .int .i64 n, .slc 0 0 w.length false 0] [.ro (z8 w)] (fun v H' => v = .bool (G9 p a && ke n w) ∧ H' = [.ro (z8 w)]) := by
  refine Am.Fn.xo (R := fun v => v = _) qq9 mixed qjs (by simp [AV.qn, AV.under]) (jv (qo _)) ?_
  have hw := uf w
  cases hb : G9 p a with
  | true =>
    simp (maxSteps := 3000000) only [qf, zH, Y2, wc, Jn, qbc, U2, Xx, V0, Vx, y8, yx, b9, Zp, hw, hl, hb, and_self, iE, iN, iB, iC, iL, iD, iA, iS, iM, qa, zZ, ↓qt, ↓reduceIte, reduceCtorEq, nA, nM, nS, nE, nL, nD]; try simp only [qa, zY]
    exact ⟨⟨_, rfl⟩, by rw [Bool.true_and]⟩
  | false =>
    simp (maxSteps := 3000000) only [qf, zH, Y2, wc, Jn, qbc, U2, Xx, V0, Vx, y8, yx, b9, Zp, hw, hl, hb, and_self, iE, iN, iB, iC, iL, iD, iA, iS, iM, qa, zZ, ↓qt, ↓reduceIte, reduceCtorEq, nA, nM, nS, nE, nL, nD]; try simp only [qa, zY]
    exact ⟨⟨_, rfl⟩, by rw [Bool.false_and]⟩
def Xh : BE := fun hp xs => match xs with
  | [.int .i64 p, .int .i64 a, .int .i64 n, .slc b 0 k false 0] => match rd hp b with
    | some L => match Bw L with
      | some w => chk (k = w.length ∧ k ≤ 2000000) (some (.bool (G9 p a && ke n w), hp))
      | none => none
    | none => none
  | _ => none
theorem qyw : Am.Callee Try.prog 52 Xh := Callee.fp fun hp xs v hp' he => by
  unfold Xh at he
  split at he
  · rename_i p a n b k
    split at he
    · rename_i L hL
      split at he
      · rename_i w hw
        have h9 := ql he
        clear he
        obtain ⟨⟨k1, h0⟩, h8⟩ := h9
        simp only [Option.some.injEq, Prod.mk.injEq] at h8
        obtain ⟨rfl, rfl⟩ := h8
        subst k1
        have e1 := wh hw
        subst e1
        refine ⟨[(b, 0)], [.int .i64 p, .int .i64 a, .int .i64 n, .slc 0 0 w.length false 0], _, _, _, qi7 p a n w h0, by simp [AV.ren, AV.zg, ofL], rfl, ⟨⟨_, hL, by simp, by simp [qb _ _ (qo _)]⟩, trivial⟩, rfl, ⟨qi _ _ (qo _), trivial⟩, ?_, by simp [AV.ren], ?_⟩
        · simp [AV.under, AV.qn]
        · simp [after, upd, AO.wr]
      · cases he
    · cases he
  · cases he
noncomputable def q2f : zh := (ql7.put 52 (Xh))
theorem qx0 : qq Try.prog q2f := (qq9.put (qyw))
end Go.Proofs.Ytfhckbbgmblhbaa
namespace Go.Proofs.Ytfhckbbgmblhbaa
open Go.Am Go.Dia
open Nat renaming reduceAdd → nA, reduceMul → nM, reduceSub → nS, reduceEqDiff → nE, reduceLT → nL, reduceLeDiff → nD, reduceBEq → nB
open Int renaming reduceEq → iE, reduceNe → iN, reduceBEq → iB, reduceBNe → iC, reduceLT → iL, reduceLE → iD, reduceAdd → iA, reduceSub → iS, reduceMul → iM
set_option linter.unusedSimpArgs false
set_option linter.unusedVariables false
set_option maxRecDepth 4000
set_option maxHeartbeats 2000000
theorem qhk (p c n : Int) (k cap : Nat) (ex : Bool) :
    Am.Fn Try.prog 97 [.agg [.int .i64 p, .int .i64 c, .int .i64 n, .slc 0 0 k ex cap]] [.ro []] (fun v H' => v = elemV p c n 1 0 ∧ H' = [.ro [], .vec 18 []]) := by
  refine Am.Fn.ofW qo2 mixed qa3 (by simp [AV.qn, AV.under]) (jv rfl) ?_
  simp (maxSteps := 3000000) only [qf, zH, Uk, qa, elemV, iE, iN, iB, iC, iL, iD, iA, iS, iM, rep, qa, zZ, ↓qt, ↓reduceIte, reduceCtorEq, nA, nM, nS, nE, nL, nD]; try simp only [qa, zY]
  refine ⟨rfl, _, qv.trans (qv.qw [2]) (qv.vec 3 0 18 (by decide) rfl rfl rfl rfl), ?_⟩
  refine Ret.xv [0, 3] ⟨⟨by simp, rfl, by decide⟩, ?_⟩ (rs := [.agg [.int .i64 p, .int .i64 c, .int .i64 n, .slc 3 0 0 false 0]]) ?_ rfl (by simp [xa]) ?_ ⟨?_, ?_⟩
  · simp only [qw, zo, zV, ↓reduceIte, nE, reduceCtorEq, nB]
    simp only [zK, ↓reduceIte, reduceCtorEq, nE, nB, nA]
  · simp only [qw, zo, zV, ↓reduceIte, nE, reduceCtorEq, nB]
    rfl
  · intro j l; match j with
    | 0 => simp [q9, Wy, AO.zu, AO.ren]
    | 1 => simp [q9, Wy, AO.zu, AO.ren]
    | j + 2 => simp [q9]
  · simp only [xa]
    simp only [zL, ↓reduceIte, reduceCtorEq, nE, nA]
  · rfl
def k9 : BE := fun hp xs => match xs with
  | [.agg [.int .i64 p, .int .i64 c, .int .i64 n, .slc b 0 k ex cap]] => match rd hp b with
    | some _ => some (elemV p c n hp.length 0, hp ++ [.vec 18 []])
    | none => none
  | _ => none
theorem quu : Am.Callee Try.prog 97 k9 := Callee.fp fun hp xs v hp' he => by
  unfold k9 at he
  split at he
  · rename_i p c n b k ex cap
    split at he
    · rename_i L hL
      simp only [Option.some.injEq, Prod.mk.injEq] at he
      obtain ⟨rfl, rfl⟩ := he
      refine ⟨[(b, 0)], [.agg [.int .i64 p, .int .i64 c, .int .i64 n, .slc 0 0 k ex cap]], _, _, _, qhk p c n k cap ex, by simp [AV.ren, AV.zg, ofL], rfl, ⟨⟨L, hL, by simp, by simp [AV.zg]⟩, trivial⟩, rfl, ⟨trivial, trivial⟩, ⟨⟨trivial, trivial, trivial, by simp [AV.under], trivial⟩, trivial⟩, by simp [elemV, AV.ren, AV.zg, Ren.ext], ?_⟩
      simp [after, upd, AO.wr, AO.ren, AV.zg]
    · cases he
  · cases he
noncomputable def qyv : zh := (q2f.put 97 (k9))
theorem qq6 : qq Try.prog qyv := (qx0.put (quu))
theorem qb7 : qyv 83 = some (qk j6) := rfl
theorem qag : qyv 97 = some (k9) := rfl
theorem qna (p c n : Int) (k cap : Nat) (ex : Bool) (hn : 1 ≤ n ∧ n ≤ 8) :
    Am.Fn Try.prog 119 [.agg [.int .i64 p, .int .i64 c, .int .i64 n, .slc 0 0 k ex cap]] [.ro []] (fun v H' => v = elemV p c n 1 1 ∧ H' = [.ro [], .vec 18 (qy [(n, xp n.toNat, 1)])]) := by
  refine Am.Fn.ofW qq6 mixed qe7 (by simp [AV.qn, AV.under]) (jv rfl) ?_
  have o1 := Zv (n := n.toNat) (by omega)
  have o2 := o1.1
  have c0 : 0 ≤ n ∧ n ≤ 8 := by omega
  have e0 : (trm (0, List.replicate 16 0, 0)).length = 18 := rfl
  have e1 : over (trm (0, List.replicate 16 0, 0)) 0 (dia n (xp n.toNat)) = trm (n, xp n.toNat, 0) := Zw (by simp) o2
  have e2 : over (trm (n, xp n.toNat, 0)) 17 [.int .i64 1] = trm (n, xp n.toNat, 1) := Z5 o2
  have e3 : over (trm (0, List.replicate 16 0, 0)) 0 (trm (n, xp n.toNat, 1)) = trm (n, xp n.toNat, 1) := ka (by simp) o2
  have e4 : (trm (n, xp n.toNat, 1)).length = 18 := by rw [wv, o2]
  have e5 : (trm (n, xp n.toNat, 0)).length = 18 := by rw [wv, o2]
  simp (maxSteps := 3000000) only [qf, zH, K8, qb7, qag, k9, j6, elemV, c0, qg, o2, vy, e0, e1, e2, e3, e4, e5, jr, src, lim, gz, Option.map_some, Option.map_none, List.all_nil, Nat.zero_mul, Int.toNat_zero, List.take_zero, Nat.le_refl, and_self, iE, iN, iB, iC, iL, iD, iA, iS, iM, qa, zZ, ↓qt, ↓reduceIte, reduceCtorEq, nA, nM, nS, nE, nL, nD]; try simp only [qa, zY]
  exact ⟨rfl, ⟨_, rfl⟩, by rw [gg o2, jr], rfl, rfl, _, qv.refl _, qjr rfl (qc _) rfl rfl rfl (by rw [gg o2]; simp [qy])⟩
def Wf : BE := fun hp xs => match xs with
  | [.agg [.int .i64 p, .int .i64 c, .int .i64 n, .slc b 0 k ex cap]] => match rd hp b with
    | some _ => chk (1 ≤ n ∧ n ≤ 8) (some (elemV p c n hp.length 1, hp ++ [.vec 18 (qy [(n, xp n.toNat, 1)])]))
    | none => none
  | _ => none
theorem qyu : Am.Callee Try.prog 119 Wf := Callee.fp fun hp xs v hp' he => by
  unfold Wf at he
  split at he
  · rename_i p c n b k ex cap
    split at he
    · rename_i L hL
      obtain ⟨h1, he⟩ := ql he
      simp only [Option.some.injEq, Prod.mk.injEq] at he
      obtain ⟨rfl, rfl⟩ := he
      refine ⟨[(b, 0)], [.agg [.int .i64 p, .int .i64 c, .int .i64 n, .slc 0 0 k ex cap]], _, _, _, qna p c n k cap ex h1, by simp [AV.ren, AV.zg, ofL], rfl, ⟨⟨L, hL, by simp, by simp [AV.zg]⟩, trivial⟩, rfl, ⟨trivial, trivial⟩, ⟨⟨trivial, trivial, trivial, by simp [AV.under], trivial⟩, trivial⟩, by simp [elemV, AV.ren, AV.zg, Ren.ext], ?_⟩
      simp [after, upd, AO.wr, AO.ren, AV.zg, qb _ _ (qc _)]
    · cases he
  · cases he
noncomputable def Gu : zh := (qyv.put 119 (Wf))
theorem qbk : qq Try.prog Gu := (qq6.put (qyu))
def qi9 (p n : Int) (k : Nat) (a b : Int) : List (Int × List Nat × Int) := vi p [(n, xp n.toNat, a)] n (Vu n.toNat k) b
noncomputable def Qs (p a n i : Int) : List (Int × List Nat × Int) := if i < 0 then qi9 p n (-i - 1).toNat (xt p a) a else qi9 p n (i - 1).toNat a (xt p a)
noncomputable def Z8 (p a n : Int) (w : List Int) : List (Int × List Nat × Int) := w.foldl (fun acc i => MP p n (wt p (gi p a) n acc (Qs p a n i))) [(n, xp n.toNat, 1)]
theorem qck {p a n : Int} {w : List Int} {k : Nat} (h : k < w.length) : Z8 p a n (w.take (k + 1)) = MP p n (wt p (gi p a) n (Z8 p a n (w.take k)) (Qs p a n w[k])) := by
  rw [List.take_succ_eq_append_getElem h, Z8, List.foldl_append]; rfl
theorem W3 {p n k : Int} (hn : 1 ≤ n ∧ n ≤ 8) (hk : 1 ≤ k ∧ k ≤ p - 1) : xd p n [(n, xp n.toNat, k)] :=
  ⟨fun t h => by simp at h; subst h; exact Zv (by omega), fun t h => by simp at h; subst h; exact ⟨rfl, qt0 (by omega)⟩, fun t h => by simp at h; subst h; exact hk, List.pairwise_singleton ..⟩
theorem qdi {p n a b : Int} {k : Nat} (hp : 2 ≤ p) (hn : 1 ≤ n ∧ n ≤ 8) (hk : k + 1 < n.toNat) (ha : 1 ≤ a ∧ a ≤ p - 1) : xd p n (qi9 p n k a b) ∧ (qi9 p n k a b).length ≤ 2 :=
  ⟨qbx (by omega) (Wc (by omega) hk) (qqz (by omega) hk) (W3 hn ha), qgp⟩
theorem qj0 {n i : Int} (hn : 2 ≤ n ∧ n ≤ 6) (h : vw n i = false) : i ≠ 0 ∧ 1 - n ≤ i ∧ i ≤ n - 1 := by
  rw [vw, Bool.or_eq_false_iff, Bool.not_eq_false', decide_eq_false_iff_not, decide_eq_true_eq, wrap64 (by omega) (by omega), wrap64 (by omega) (by omega)] at h
  exact ⟨h.1, h.2⟩
theorem Bp {p a n i : Int} (h : okI p a) (hn : 2 ≤ n ∧ n ≤ 6) (hi : vw n i = false) : xd p n (Qs p a n i) ∧ (Qs p a n i).length ≤ 2 := by
  have hb := vu h.1
  have hv := (Xy h.1 h.2).1
  obtain ⟨h0, h1, h2⟩ := qj0 hn hi
  unfold Qs
  split
  · exact qdi (by omega) (by omega) (by omega) hv
  · exact qdi (by omega) (by omega) (by omega) h.2
theorem Q1 {p a n : Int} {w : List Int} (h : okI p a) (hn : 2 ≤ n ∧ n ≤ 6) (hw : w.any (vw n) = false) : ∀ k, k ≤ w.length → xd p n (Z8 p a n (w.take k)) ∧ (Z8 p a n (w.take k)).length ≤ 132
  | 0, _ => by
    have hb := vu h.1
    have := W3 (p := p) (n := n) (k := 1) (by omega) (by omega)
    exact ⟨by simpa [Z8] using this, by simp [Z8]⟩
  | k + 1, hk => by
    have hb := vu h.1
    have ih := Q1 h hn hw k (by omega)
    have hi : vw n (w[k]'(by omega)) = false := by
      have := List.any_eq_false.1 hw _ (List.getElem_mem (show k < w.length by omega))
      simpa using this
    have hc := Bp h hn hi
    rw [qck (by omega)]
    have hg := (qy6 (c := gi p a) hb (W4 h) ih.1 hc.1 ⟨by omega, by omega⟩).1
    exact ⟨hg, qw2 hg (by omega)⟩
theorem qru {p n k : Int} {m : List Nat} (hk : 1 ≤ k ∧ k ≤ p - 1) : vi p [] n m k = [(n, m, k)] := by
  have e : k.emod p = k := Int.emod_eq_of_lt (by omega) (by omega)
  rw [G2, e, if_neg (by omega)]; rfl
theorem kl : Gu 84 = some (qk Wa) := rfl
theorem yi : Gu 67 = some (qk xj) := rfl
theorem kr : Gu 83 = some (qk j6) := rfl
theorem uw : Gu 97 = some (k9) := rfl
theorem kx : Gu 119 = some (Wf) := rfl
theorem kj : Gu 100 = some (Xm) := rfl
theorem u5 : Gu 98 = some (V5) := rfl
theorem bx : Gu 118 = some (qk bt) := rfl
def bu : AC := .seq (.seq (.region [oM 29 12,oM 30 3,o0 31 (.len .slc (.t 30)),oP 32 .lss 29 31]) (.cond 32 .skip (.exit 0))) (.seq (.block 1 (.seq (.draw false [oM 35 3,oM 36 12,oX 37 1 35 36,oL 38 37,oM 39 3,oM 40 12,oX 41 1 39 40,oL 42 41,o0 43 (.un .neg (.t 42)),o0 44 (.Vb false (.t 38) (.t 43)),oK 45 .sub 44 1,oM 46 1,oM 47 11,oM 13 45,oM 14 46,oM 15 47]) (.seq (.seq (.region [oM 48 3,oM 49 12,oX 50 1 48 49,oL 51 50,oK 52 .lss 51 0]) (.cond 52 (.seq (.region [oM 53 11,oM 14 53]) (.region [oM 54 1,oM 15 54])) .skip)) (.seq (.region [oN 55 4 9,oC 56 97 [.t 55],oZ 16,oS 4 16 56]) (.seq (.draw true [oM 57 0,oF 58 3 16,oL 59 58,oM 60 2,oM 62 14,oC 61 83 [.t 60],oC 63 100 [.t 57,.t 59,.t 61,.t 62],oF 64 3 16,oT 64 63]) (.seq (.draw true [oM 65 0,oF 66 3 16,oL 67 66,oM 68 2,oM 69 13,oM 71 15,oC 70 84 [.t 68,.t 69],oC 72 100 [.t 65,.t 67,.t 70,.t 71],oF 73 3 16,oT 73 72]) (.region [oN 74 4 10,oN 75 4 16,oC 76 98 [.t 74,.t 75],oS 4 10 76]))))))) (.region [oM 33 12,oK 34 .add 33 1,oM 12 34]))
def Wg : AC := .seq (.region [oN 77 4 10,oS 4 8 77]) .ret
def Bs : AC := .seq (.region [oZ 8]) (.seq (.region [oM 17 0,oM 18 0,oM 19 1,oC 20 118 [.t 18,.t 19],oM 21 2,o0 22 (.Q4 0 [] []),o0 23 (.build [.int .i64 0,.int .i64 0,.int .i64 0,(.v (.slice none 0 0))] [(0,1,.t 17),(1,1,.t 20),(2,1,.t 21),(3,1,.t 22)]),oZ 9,oS 4 9 23]) (.seq (.region [oN 24 4 9,oC 25 119 [.t 24],oM 26 0,oM 27 1,oC 28 67 [.t 26,.t 27],oZ 10,oS 4 10 25,oM 11 28]) (.seq (.seq (.region [oI 12 0]) (.block 0 (.loop bu))) Wg)))
theorem qfh : zk Try.prog 55 = some ⟨78, Bs, [.Q9 8 4]⟩ := by kernel_rfl
theorem qf3 (p a n : Int) (w : List Int) (h : okI p a) (hn : 2 ≤ n ∧ n ≤ 6) (hl : w.length ≤ 24) (hbw : w.any (vw n) = false) :
    Am.Fn Try.prog 55 [.int .i64 p, .int .i64 a, .int .i64 n, .slc 0 0 w.length false 0] [.ro (z8 w)]
      (fun v H' => v = elemV p (gi p a) n 1 (Z8 p a n w).length ∧ H' = [.ro (z8 w), .vec 18 (qy (Z8 p a n w))]) := by
  refine Am.Fn.ofW qbk mixed qfh (by simp [AV.qn, AV.under]) (jv (qo _)) ?_
  have hla := zw w
  have hb := vu h.1
  have ha := h.2
  have hlb := W4 h
  have hv := (Xy h.1 h.2).1
  have c1 : 1 ≤ n ∧ n ≤ 8 := by omega
  have c0 : 0 ≤ n ∧ n ≤ 8 := by omega
  simp (maxSteps := 3000000) only [qf, zH, Bs, kl, yi, kr, uw, kx, kj, u5, bx, k9, Wa, bt, V5, Xm, xj, Wf, j6, wz, elemV, j0, qb _ _ (qc _), qb _ _ (qd _ _), h, hb, ha, hla, c1, c0, and_self, iE, iN, iB, iC, iL, iD, iA, iS, iM, qa, zZ, ↓qt, ↓reduceIte, reduceCtorEq, nA, nM, nS, nE, nL, nD]; try simp only [qa, zY]
  refine ⟨rfl, rfl, ?_⟩
  refine WA.jq qbk (fun s => ∃ k : Nat, k ≤ w.length ∧ s = ⟨[(0, .int .i64 p), (1, .int .i64 a), (2, .int .i64 n), (3, .slc 0 0 w.length false 0), (8, .ptr 1 0), (9, .ptr 2 0), (10, .ptr 4 0), (11, .int .i64 (xt p a)), (12, .int .i64 k)], [.ro (z8 w), qoj, .cells [.int .i64 p, .int .i64 (gi p a), .int .i64 n, .slc 3 0 0 true 0], .cells [], .cells [.int .i64 p, .int .i64 (gi p a), .int .i64 n, .slc 5 0 (Z8 p a n (w.take k)).length false 0], .vec 18 (qy (Z8 p a n (w.take k)))]⟩)
    (fun s => match get s.env 12 with | .int _ x => w.length - x.toNat | _ => 0) ⟨_, qv.can [0, 1, 2, 3, 8, 9, 10, 11, 12] (by simp only [Y6, zC, nB, nD, nA, nE, ↓reduceIte, reduceCtorEq]; rfl), 0, by omega, ?_⟩ ?_
  · simp only [qb _ _ (qc _), qb _ _ (qo _), zL, ↓reduceIte, reduceCtorEq, nE, nA]
    rfl
  rintro s ⟨k, hk, rfl⟩
  have hbr := Q1 h hn hbw k hk
  have hg1 := hbr.1.dec
  have htp := jh hbr.1.ok
  have hlp := zb hbr.1.ok
  have hl1 : (Z8 p a n (w.take k)).length ≤ 300 := by omega
  by_cases hlt : k < w.length
  · have hw : qm .i64 ((k : Int) + 1) = ((k + 1 : Nat) : Int) := by rw [wrap64 (by omega) (by omega)]; rfl
    have hli : (k : Int) < (w.length : Int) := by omega
    have hk0 : (0 : Int) ≤ k := by omega
    have hg : w.getD k 0 = w[k] := by simp [hlt]
    have hbi : vw n w[k] = false := by
      have := List.any_eq_false.1 hbw _ (List.getElem_mem hlt)
      simpa using this
    obtain ⟨d0, d1, d2⟩ := qj0 hn hbi
    have hcr := Bp h hn hbi
    have hg2 := hcr.1.dec
    have htc := jh hcr.1.ok
    have hlc := zb hcr.1.ok
    have hl2 : (Qs p a n w[k]).length ≤ 300 := by omega
    have hnext := qck (p := p) (a := a) (n := n) hlt
    have hgn := Q1 h hn hbw (k + 1) (by omega)
    have hln := zb hgn.1.ok
    have hw1 : qm .i64 (0 - w[k]) = -w[k] := by rw [wrap64 (by omega) (by omega)]; omega
    by_cases hneg : w[k] < 0
    · have hx : (if -w[k] > w[k] then -w[k] else w[k]) = -w[k] := if_pos (by omega)
      have hw2 : qm .i64 (-w[k] - 1) = -w[k] - 1 := wrap64 (by omega) (by omega)
      have hgen : n ≤ 8 ∧ 0 ≤ -w[k] - 1 ∧ -w[k] - 1 + 1 < n := by omega
      have hcI : Qs p a n w[k] = vi p [(n, xp n.toNat, xt p a)] n (Vu n.toNat (-w[k] - 1).toNat) (a) := by unfold Qs; rw [if_pos hneg]; rfl
      rw [hcI] at hg2 htc hlc hl2 hnext
      have hog := W3 (p := p) (n := n) (k := xt p a) c1 hv
      have hto : Vz 1 (qy _) = some _ := jh hog.ok
      have hlo := zb hog.ok
      have hpo := qru (n := n) (m := xp n.toNat) hv
      have hne : ¬ ((xt p a).emod p = 0) := by
        have e : (xt p a).emod p = xt p a := Int.emod_eq_of_lt (by omega) (by omega)
        rw [e]; omega
      have hne2 : ¬ ((a).emod p = 0) := by
        have e : (a).emod p = a := Int.emod_eq_of_lt (by omega) (by omega)
        rw [e]; omega
      have hdu : yz (dia n (xp n.toNat)) = some (n, xp n.toNat) := q8 (Zv (by omega))
      have hdg : yz (dia n (Vu n.toNat (-w[k] - 1).toNat)) = some (n, Vu n.toNat (-w[k] - 1).toNat) := q8 (Wc (by omega) (by omega))
      have p1 : 0 < p ∧ p ≤ 1000000 := by omega
      have hf0 : qhm n [] := ⟨by simp, by simp, by simp, .nil⟩
      have hf1 : qhm n [(n, xp n.toNat, xt p a)] := hog.fit (by omega) (by simp)
      have ht0 : Vz 0 [] = some [] := rfl
      simp (maxSteps := 3000000) only [qf, zH, bu, kl, yi, kr, uw, kx, kj, u5, bx, k9, Wa, bt, V5, Xm, xj, Wf, j6, wz, elemV, j0, qb _ _ (qc _), qb _ _ (qd _ _), hli, hk0, hw, hla, hlt, hg, hw1, hx, hw2, hneg, hgen, hto, hlo, hpo, hdu, hdg, hne, hne2, p1, c0, c1, hf0, hf1, ht0, hg1, htp, hlp, hl1, hg2, htc, hlc, hl2, hln, hb, hlb, ← hnext, and_self, iE, iN, iB, iC, iL, iD, iA, iS, iM, qa, zZ, ↓qt, ↓reduceIte, reduceCtorEq, nA, nM, nS, nE, nL, nD]; try simp only [qa, zY]
      repeat' refine And.intro (by first | rfl | exact ⟨_, rfl⟩) ?_
      refine ⟨_, qv.can [0, 1, 2, 3, 8, 9, 10, 11, 12] (by simp only [Y6, zC, nB, nD, nA, nE, ↓reduceIte, reduceCtorEq]; rfl), ⟨k + 1, by omega, ?_⟩, ?_⟩
      · simp only [qb _ _ (qc _), qb _ _ (qo _), zL, ↓reduceIte, reduceCtorEq, nE, nA]
      · simp only [zL, ↓reduceIte, reduceCtorEq, nE, nA]; omega
    · have hx : (if -w[k] > w[k] then -w[k] else w[k]) = w[k] := if_neg (by omega)
      have hw2 : qm .i64 (w[k] - 1) = w[k] - 1 := wrap64 (by omega) (by omega)
      have hgen : n ≤ 8 ∧ 0 ≤ w[k] - 1 ∧ w[k] - 1 + 1 < n := by omega
      have hcI : Qs p a n w[k] = vi p [(n, xp n.toNat, a)] n (Vu n.toNat (w[k] - 1).toNat) (xt p a) := by unfold Qs; rw [if_neg hneg]; rfl
      rw [hcI] at hg2 htc hlc hl2 hnext
      have hog := W3 (p := p) (n := n) (k := a) c1 ha
      have hto : Vz 1 (qy _) = some _ := jh hog.ok
      have hlo := zb hog.ok
      have hpo := qru (n := n) (m := xp n.toNat) ha
      have hne : ¬ ((a).emod p = 0) := by
        have e : (a).emod p = a := Int.emod_eq_of_lt (by omega) (by omega)
        rw [e]; omega
      have hne2 : ¬ ((xt p a).emod p = 0) := by
        have e : (xt p a).emod p = xt p a := Int.emod_eq_of_lt (by omega) (by omega)
        rw [e]; omega
      have hdu : yz (dia n (xp n.toNat)) = some (n, xp n.toNat) := q8 (Zv (by omega))
      have hdg : yz (dia n (Vu n.toNat (w[k] - 1).toNat)) = some (n, Vu n.toNat (w[k] - 1).toNat) := q8 (Wc (by omega) (by omega))
      have p1 : 0 < p ∧ p ≤ 1000000 := by omega
      have hf0 : qhm n [] := ⟨by simp, by simp, by simp, .nil⟩
      have hf1 : qhm n [(n, xp n.toNat, a)] := hog.fit (by omega) (by simp)
      have ht0 : Vz 0 [] = some [] := rfl
      simp (maxSteps := 3000000) only [qf, zH, bu, kl, yi, kr, uw, kx, kj, u5, bx, k9, Wa, bt, V5, Xm, xj, Wf, j6, wz, elemV, j0, qb _ _ (qc _), qb _ _ (qd _ _), hli, hk0, hw, hla, hlt, hg, hw1, hx, hw2, hneg, hgen, hto, hlo, hpo, hdu, hdg, hne, hne2, p1, c0, c1, hf0, hf1, ht0, hg1, htp, hlp, hl1, hg2, htc, hlc, hl2, hln, hb, hlb, ← hnext, and_self, iE, iN, iB, iC, iL, iD, iA, iS, iM, qa, zZ, ↓qt, ↓reduceIte, reduceCtorEq, nA, nM, nS, nE, nL, nD]; try simp only [qa, zY]
      repeat' refine And.intro (by first | rfl | exact ⟨_, rfl⟩) ?_
      refine ⟨_, qv.can [0, 1, 2, 3, 8, 9, 10, 11, 12] (by simp only [Y6, zC, nB, nD, nA, nE, ↓reduceIte, reduceCtorEq]; rfl), ⟨k + 1, by omega, ?_⟩, ?_⟩
      · simp only [qb _ _ (qc _), qb _ _ (qo _), zL, ↓reduceIte, reduceCtorEq, nE, nA]
      · simp only [zL, ↓reduceIte, reduceCtorEq, nE, nA]; omega
  · have hli : ¬ (k : Int) < (w.length : Int) := by omega
    obtain rfl : k = w.length := by omega
    simp (maxSteps := 3000000) only [qf, zH, bu, Wg, kl, yi, kr, uw, kx, kj, u5, bx, k9, Wa, bt, V5, Xm, xj, Wf, j6, wz, elemV, j0, qb _ _ (qc _), qb _ _ (qd _ _), hli, Int.lt_irrefl, iE, iN, iB, iC, iL, iD, iA, iS, iM, qa, zZ, ↓qt, ↓reduceIte, reduceCtorEq, nA, nM, nS, nE, nL, nD]; try simp only [qa, zY]
    rw [List.take_length]
    exact ⟨rfl, _, qv.refl _, qjr (qo _) (qc _) rfl rfl rfl rfl⟩
theorem qq2 {p n k : Int} {a : List (Int × List Nat × Int)} {m : List Nat} : qcf p n k a [(n, m, 1)] = vi p a n m k := by
  simp [qcf]
theorem qm9 {p n k : Int} {i : Nat} (hn : 1 ≤ n ∧ n ≤ 8) (hi : i + 1 < n.toNat) (hk : 1 ≤ k ∧ k ≤ p - 1) : xd p n [(n, Vu n.toNat i, k)] :=
  ⟨fun t h => by simp at h; subst h; exact Wc (by omega) hi, fun t h => by simp at h; subst h; exact ⟨rfl, qqz (by omega) hi⟩, fun t h => by simp at h; subst h; exact hk, List.pairwise_singleton ..⟩
theorem qee {p k : Int} (hk : 1 ≤ k ∧ k ≤ p - 1) : k.emod p = k := Int.emod_eq_of_lt (by omega) (by omega)
theorem q1y {p k : Int} (hk : 1 ≤ k ∧ k ≤ p - 1) : ¬ k.emod p = 0 := by rw [qee hk]; omega
theorem y0 : Gu 125 = some (qk Wa) := rfl
theorem b7 : Gu 72 = some (qk xh) := rfl
theorem y6 : Gu 123 = some (qk bt) := rfl
theorem yd : Gu 90 = some (V5) := rfl
theorem Zl : Gu 124 = some (Bv) := rfl
theorem ku : Gu 103 = some (qhc vf) := rfl
theorem Zs : Gu 88 = some (qk j6) := rfl
def Jq : AC := .seq (.region [oP 33 .lss 32 31]) (.seq (.cond 33 .skip (.exit 0)) (.seq (.block 1 (.seq (.region [oX 34 1 30 32,oL 35 34,oM 14 35]) (.seq (.region [oM 36 1,oM 37 10,oM 15 36,oM 16 37]) (.seq (.seq (.region [oM 38 14,oK 39 .lss 38 0]) (.cond 39 (.region [oM 40 10,oM 41 1,oM 42 14,o0 43 (.un .neg (.t 42)),oM 15 40,oM 16 41,oM 14 43]) .skip)) (.seq (.region [oM 44 0,oM 45 9,oM 46 2,oC 47 88 [.t 46],oM 48 15,oC 49 103 [.t 44,.t 45,.t 47,.t 48],oM 50 0,oM 51 9,oM 52 2,oM 53 14,oK 54 .sub 53 1,oC 55 125 [.t 52,.t 54],oC 56 103 [.t 50,.t 51,.t 55,(.c (.int .i64 1))],oM 57 16,oC 58 124 [.t 49,.t 56,.t 57],oZ 17,oS 4 17 58]) (.region [oN 59 4 12,oN 60 4 17,oC 61 90 [.t 59,.t 60],oS 4 12 61])))))) (.region [oK 62 .add 32 1,oM 32 62])))
def qan : AC := .seq (.region [oN 63 4 12,oS 4 8 63]) .ret
def qiz : AC := .seq (.region [oZ 8]) (.seq (.region [oM 18 0,oM 19 1,oC 20 123 [.t 18,.t 19],oM 21 1,oM 22 0,oC 23 72 [.t 21,.t 22],oM 9 20,oM 10 23]) (.seq (.region [oM 24 0,oM 25 9,oM 26 2,oC 27 88 [.t 26],oC 28 103 [.t 24,.t 25,.t 27,(.c (.int .i64 1))],oZ 11,oS 4 11 28]) (.seq (.region [oN 29 4 11,oZ 12,oS 4 12 29]) (.seq (.seq (.region [oM 30 3,o0 31 (.len .slc (.t 30)),oI 32 0]) (.block 0 (.loop Jq))) qan))))
theorem qts : zk Try.prog 59 = some ⟨64, qiz, [.Q9 8 4]⟩ := by kernel_rfl
theorem qtb (p a n : Int) (w : List Int) (h : okI p a) (hn : 2 ≤ n ∧ n ≤ 6) (hl : w.length ≤ 24) (hbw : w.any (vw n) = false) :
    Am.Fn Try.prog 59 [.int .i64 p, .int .i64 a, .int .i64 n, .slc 0 0 w.length false 0] [.ro (z8 w)]
      (fun v H' => v = elemV p (gi p a) n 1 (Z8 p a n w).length ∧ H' = [.ro (z8 w), .vec 18 (qy (Z8 p a n w))]) := by
  refine Am.Fn.ofW qbk mixed qts (by simp [AV.qn, AV.under]) (jv (qo _)) ?_
  have hla := zw w
  have hb := vu h.1
  have ha := h.2
  have hlb := W4 h
  have hv := (Xy h.1 h.2).1
  have c1 : 1 ≤ n ∧ n ≤ 8 := by omega
  have c0 : 0 ≤ n ∧ n ≤ 8 := by omega
  have k1 : (1 : Int) ≤ 1 ∧ (1 : Int) ≤ p - 1 := by omega
  have p1 : 0 < p ∧ p ≤ 1000000 := by omega
  have s1 := qee k1
  have n1 := q1y k1
  have hdu : yz (dia n (xp n.toNat)) = some (n, xp n.toNat) := q8 (Zv (by omega))
  simp (maxSteps := 3000000) only [qf, zH, qiz, y0, b7, y6, yd, Zl, ku, Zs, Wa, xh, bt, V5, Bv, vf, j6, wz, elemV, j0, qb _ _ (qc _), qb _ _ (qd _ _), h, hb, ha, hla, c1, c0, p1, s1, n1, hdu, List.length_singleton, and_self, iE, iN, iB, iC, iL, iD, iA, iS, iM, qa, zZ, ↓qt, ↓reduceIte, reduceCtorEq, nA, nM, nS, nE, nL, nD]; try simp only [qa, zY]
  refine ⟨rfl, rfl, ?_⟩
  refine WA.jq qbk (fun s => ∃ k : Nat, k ≤ w.length ∧ s = ⟨[(0, .int .i64 p), (1, .int .i64 a), (2, .int .i64 n), (8, .ptr 1 0), (9, .int .i64 (gi p a)), (10, .int .i64 (xt p a)), (12, .ptr 2 0), (30, .slc 0 0 w.length false 0), (31, .int .i64 w.length), (32, .int .i64 k)], [.ro (z8 w), qoj, .cells [.int .i64 p, .int .i64 (gi p a), .int .i64 n, .slc 3 0 (Z8 p a n (w.take k)).length false 0], .vec 18 (qy (Z8 p a n (w.take k)))]⟩)
    (fun s => match get s.env 32 with | .int _ x => w.length - x.toNat | _ => 0) ⟨_, qv.can [0, 1, 2, 8, 9, 10, 12, 30, 31, 32] (by simp only [Y6, zC, nB, nD, nA, nE, ↓reduceIte, reduceCtorEq]; rfl), 0, by omega, ?_⟩ ?_
  · simp only [qb _ _ (qc _), qb _ _ (qo _), zL, ↓reduceIte, reduceCtorEq, nE, nA]
    rfl
  rintro s ⟨k, hk, rfl⟩
  have hbr := Q1 h hn hbw k hk
  have hg1 := hbr.1.dec
  have htp := jh hbr.1.ok
  have hlp := zb hbr.1.ok
  have hl1 : (Z8 p a n (w.take k)).length ≤ 300 := by omega
  by_cases hlt : k < w.length
  · have hw : qm .i64 ((k : Int) + 1) = ((k + 1 : Nat) : Int) := by rw [wrap64 (by omega) (by omega)]; rfl
    have hli : (k : Int) < (w.length : Int) := by omega
    have hk0 : (0 : Int) ≤ k := by omega
    have hg : w.getD k 0 = w[k] := by simp [hlt]
    have hbi : vw n w[k] = false := by
      have := List.any_eq_false.1 hbw _ (List.getElem_mem hlt)
      simpa using this
    obtain ⟨d0, d1, d2⟩ := qj0 hn hbi
    have hcr := Bp h hn hbi
    have hg2 := hcr.1.dec
    have htc := jh hcr.1.ok
    have hlc := zb hcr.1.ok
    have hl2 : (Qs p a n w[k]).length ≤ 300 := by omega
    have hnext := qck (p := p) (a := a) (n := n) hlt
    have hgn := Q1 h hn hbw (k + 1) (by omega)
    have hln := zb hgn.1.ok
    have hw1 : qm .i64 (0 - w[k]) = -w[k] := by rw [wrap64 (by omega) (by omega)]; omega
    by_cases hneg : w[k] < 0
    · have hw2 : qm .i64 (-w[k] - 1) = -w[k] - 1 := wrap64 (by omega) (by omega)
      have hgen : n ≤ 8 ∧ 0 ≤ -w[k] - 1 ∧ -w[k] - 1 + 1 < n := by omega
      have hcI : Qs p a n w[k] = vi p [(n, xp n.toNat, xt p a)] n (Vu n.toNat (-w[k] - 1).toNat) (a) := by unfold Qs; rw [if_pos hneg]; rfl
      rw [hcI] at hg2 htc hlc hl2 hnext
      have hog := W3 (p := p) (n := n) (k := xt p a) c1 hv
      have hto : Vz 1 (qy _) = some _ := jh hog.ok
      have hog1 := hog.dec
      have hgg := qm9 (p := p) (n := n) (k := 1) (i := (-w[k] - 1).toNat) c1 (by omega) k1
      have htg : Vz 1 (qy _) = some _ := jh hgg.ok
      have hgg1 := hgg.dec
      have s2 := qee hv
      have n2 : ¬ xt p a = 0 := by omega
      have hdg : yz (dia n (Vu n.toNat (-w[k] - 1).toNat)) = some (n, Vu n.toNat (-w[k] - 1).toNat) := q8 (Wc (by omega) (by omega))
      have q1 : (1 : Nat) ≤ 100000 := by omega
      have q2 : -1000001 ≤ (a) ∧ (a) ≤ 1000001 := by omega
      simp (maxSteps := 3000000) only [qf, zH, Jq, y0, b7, y6, yd, Zl, ku, Zs, Wa, xh, bt, V5, Bv, vf, j6, wz, elemV, j0, qb _ _ (qc _), qb _ _ (qd _ _), hli, hk0, hw, hla, hlt, hg, hw1, hw2, hneg, hgen, hto, hog1, htg, hgg1, hdu, hdg, s1, n1, s2, n2, q1, q2, qq2, List.length_singleton, p1, c0, c1, hg1, htp, hlp, hl1, hg2, htc, hlc, hl2, hln, hb, hlb, ← hnext, and_self, iE, iN, iB, iC, iL, iD, iA, iS, iM, qa, zZ, ↓qt, ↓reduceIte, reduceCtorEq, nA, nM, nS, nE, nL, nD]; try simp only [qa, zY]
      repeat' refine And.intro (by first | rfl | exact ⟨_, rfl⟩) ?_
      refine ⟨_, qv.can [0, 1, 2, 8, 9, 10, 12, 30, 31, 32] (by simp only [Y6, zC, nB, nD, nA, nE, ↓reduceIte, reduceCtorEq]; rfl), ⟨k + 1, by omega, ?_⟩, ?_⟩
      · simp only [qb _ _ (qc _), qb _ _ (qo _), zL, ↓reduceIte, reduceCtorEq, nE, nA]
      · simp only [zL, ↓reduceIte, reduceCtorEq, nE, nA]; omega
    · have hw2 : qm .i64 (w[k] - 1) = w[k] - 1 := wrap64 (by omega) (by omega)
      have hgen : n ≤ 8 ∧ 0 ≤ w[k] - 1 ∧ w[k] - 1 + 1 < n := by omega
      have hcI : Qs p a n w[k] = vi p [(n, xp n.toNat, a)] n (Vu n.toNat (w[k] - 1).toNat) (xt p a) := by unfold Qs; rw [if_neg hneg]; rfl
      rw [hcI] at hg2 htc hlc hl2 hnext
      have hog := W3 (p := p) (n := n) (k := a) c1 ha
      have hto : Vz 1 (qy _) = some _ := jh hog.ok
      have hog1 := hog.dec
      have hgg := qm9 (p := p) (n := n) (k := 1) (i := (w[k] - 1).toNat) c1 (by omega) k1
      have htg : Vz 1 (qy _) = some _ := jh hgg.ok
      have hgg1 := hgg.dec
      have s2 := qee ha
      have n2 : ¬ a = 0 := by omega
      have hdg : yz (dia n (Vu n.toNat (w[k] - 1).toNat)) = some (n, Vu n.toNat (w[k] - 1).toNat) := q8 (Wc (by omega) (by omega))
      have q1 : (1 : Nat) ≤ 100000 := by omega
      have q2 : -1000001 ≤ (xt p a) ∧ (xt p a) ≤ 1000001 := by omega
      simp (maxSteps := 3000000) only [qf, zH, Jq, y0, b7, y6, yd, Zl, ku, Zs, Wa, xh, bt, V5, Bv, vf, j6, wz, elemV, j0, qb _ _ (qc _), qb _ _ (qd _ _), hli, hk0, hw, hla, hlt, hg, hw1, hw2, hneg, hgen, hto, hog1, htg, hgg1, hdu, hdg, s1, n1, s2, n2, q1, q2, qq2, List.length_singleton, p1, c0, c1, hg1, htp, hlp, hl1, hg2, htc, hlc, hl2, hln, hb, hlb, ← hnext, and_self, iE, iN, iB, iC, iL, iD, iA, iS, iM, qa, zZ, ↓qt, ↓reduceIte, reduceCtorEq, nA, nM, nS, nE, nL, nD]; try simp only [qa, zY]
      repeat' refine And.intro (by first | rfl | exact ⟨_, rfl⟩) ?_
      refine ⟨_, qv.can [0, 1, 2, 8, 9, 10, 12, 30, 31, 32] (by simp only [Y6, zC, nB, nD, nA, nE, ↓reduceIte, reduceCtorEq]; rfl), ⟨k + 1, by omega, ?_⟩, ?_⟩
      · simp only [qb _ _ (qc _), qb _ _ (qo _), zL, ↓reduceIte, reduceCtorEq, nE, nA]
      · simp only [zL, ↓reduceIte, reduceCtorEq, nE, nA]; omega
  · have hli : ¬ (k : Int) < (w.length : Int) := by omega
    obtain rfl : k = w.length := by omega
    simp (maxSteps := 3000000) only [qf, zH, Jq, qan, y0, b7, y6, yd, Zl, ku, Zs, Wa, xh, bt, V5, Bv, vf, j6, wz, elemV, j0, qb _ _ (qc _), qb _ _ (qd _ _), hli, Int.lt_irrefl, iE, iN, iB, iC, iL, iD, iA, iS, iM, qa, zZ, ↓qt, ↓reduceIte, reduceCtorEq, nA, nM, nS, nE, nL, nD]; try simp only [qa, zY]
    rw [List.take_length]
    exact ⟨rfl, _, qv.refl _, qjr (qo _) (qc _) rfl rfl rfl rfl⟩
noncomputable def Q0 : BE := fun hp xs => match xs with
  | [.int .i64 p, .int .i64 a, .int .i64 n, .slc b 0 k false 0] => match rd hp b with
    | some L => match Bw L with
      | some w => chk ((k = w.length ∧ k ≤ 24) ∧ okI p a ∧ (2 ≤ n ∧ n ≤ 6) ∧ w.any (vw n) = false) (some (elemV p (gi p a) n hp.length (Z8 p a n w).length, hp ++ [.vec 18 (qy (Z8 p a n w))]))
      | none => none
    | none => none
  | _ => none
theorem qlb {f : FuncId} (hf : ∀ (p a n : Int) (w : List Int), okI p a → 2 ≤ n ∧ n ≤ 6 → w.length ≤ 24 → w.any (vw n) = false → Am.Fn Try.prog f [.int .i64 p, .int .i64 a, .int .i64 n, .slc 0 0 w.length false 0] [.ro (z8 w)]
      (fun v H' => v = elemV p (gi p a) n 1 (Z8 p a n w).length ∧ H' = [.ro (z8 w), .vec 18 (qy (Z8 p a n w))])) : Am.Callee Try.prog f Q0 := Callee.fp fun hp xs v hp' he => by
  unfold Q0 at he
  split at he
  · rename_i p a n b k
    split at he
    · rename_i L hL
      split at he
      · rename_i w hw
        have h9 := ql he
        clear he
        obtain ⟨⟨⟨k1, k2⟩, h1, h2, h3⟩, h8⟩ := h9
        simp only [Option.some.injEq, Prod.mk.injEq] at h8
        obtain ⟨rfl, rfl⟩ := h8
        subst k1
        have e1 := wh hw
        subst e1
        refine ⟨[(b, 0)], [.int .i64 p, .int .i64 a, .int .i64 n, .slc 0 0 w.length false 0], _, _, _, hf p a n w h1 h2 k2 h3, by simp [AV.ren, AV.zg, ofL], rfl, ⟨⟨_, hL, by simp, by simp [qb _ _ (qo _)]⟩, trivial⟩, rfl, ⟨qi _ _ (qo _), trivial⟩, ?_, by simp [elemV, AV.ren, AV.zg, Ren.ext], ?_⟩
        · simp [AV.under, AV.qn]
        · simp [after, upd, AO.wr, AO.ren, qb _ _ (qc _)]
      · cases he
    · cases he
  · cases he
noncomputable def q10 : zh := ((Gu.put 55 (Q0)).put 59 (Q0))
theorem qyc : qq Try.prog q10 := ((qbk.put (qlb qf3)).put (qlb qtb))
theorem qmc {n : Int} {w : List Int} (h : ke n w = true) : (2 ≤ n ∧ n ≤ 6) ∧ w.length ≤ 24 ∧ w.any (vw n) = false := by
  unfold ke at h
  simp only [Bool.and_eq_true, decide_eq_true_eq, Bool.not_eq_true'] at h
  exact h
noncomputable def q2e : zh := q10
theorem qeo : qq Try.prog q2e := qyc
end Go.Proofs.Ytfhckbbgmblhbaa
namespace Go.Proofs.Ytfhckbbgmblhbaa
open Go.Am Go.Dia
open Nat renaming reduceAdd → nA, reduceMul → nM, reduceSub → nS, reduceEqDiff → nE, reduceLT → nL, reduceLeDiff → nD, reduceBEq → nB
open Int renaming reduceEq → iE, reduceNe → iN, reduceBEq → iB, reduceBNe → iC, reduceLT → iL, reduceLE → iD, reduceAdd → iA, reduceSub → iS, reduceMul → iM
set_option linter.unusedSimpArgs false
set_option linter.unusedVariables false
set_option maxRecDepth 4000
set_option maxHeartbeats 1000000
def clS (N : Nat) (m : List Nat) : Nat → List Bool → Nat → List Bool
  | 0, l, _ => l
  | f + 1, l, x => if l.getD x false = true then l else clS N m f ((l.set x true).set (m.getD x 0) true) ((m.getD x 0 + N) % (2 * N))
def clO (N : Nat) (m : List Nat) : Nat → List Bool × Nat
  | 0 => (List.replicate 16 false, 0)
  | i + 1 => if (clO N m i).1.getD i false = true then clO N m i else (clS N m 17 (clO N m i).1 i, (clO N m i).2 + 1)
def clN (N : Nat) (m : List Nat) : Nat := (clO N m (2 * N)).2
theorem qqu (N : Nat) (m : List Nat) : ∀ (f : Nat) (l : List Bool) (x : Nat), (clS N m f l x).length = l.length
  | 0, l, x => rfl
  | f + 1, l, x => by
    rw [clS]; split
    · rfl
    · rw [qqu N m f, List.length_set, List.length_set]
theorem qeh (N : Nat) (m : List Nat) : ∀ i, (clO N m i).1.length = 16
  | 0 => by simp [clO]
  | i + 1 => by
    rw [clO]; split
    · exact qeh N m i
    · rw [qqu, qeh N m i]
theorem qjp (N : Nat) (m : List Nat) : ∀ i, (clO N m i).2 ≤ i
  | 0 => by simp [clO]
  | i + 1 => by
    have := qjp N m i
    rw [clO]; split
    · omega
    · show (clO N m i).2 + 1 ≤ i + 1; omega
theorem qf0 {N : Nat} {m : List Nat} {i : Nat} (h : (clO N m i).1.getD i false = true) : clO N m (i + 1) = clO N m i := by rw [clO, if_pos h]
theorem qea {N : Nat} {m : List Nat} {i : Nat} (h : ¬ (clO N m i).1.getD i false = true) : clO N m (i + 1) = (clS N m 17 (clO N m i).1 i, (clO N m i).2 + 1) := by rw [clO, if_neg h]
theorem qg7 (l : List Bool) : bl (bls l) ≤ l.length := by
  have := List.countP_le_length (p := fun v : AV => match v with | .bool false => true | _ => false) (l := bls l)
  rw [zs] at this
  exact this
def ClA (N : Nat) (m : List Nat) (T : List Bool) (f : Nat) (l : List Bool) (x : Nat) : Prop := clS N m f l x = T ∧ bl (bls l) < f ∧ x < 2 * N ∧ l.length = 16
theorem qm7 {N : Nat} {m : List Nat} {T l : List Bool} {f x : Nat} (h : ClA N m T f l x) (hx : l.getD x false = true) : l = T := by
  obtain ⟨h1, h2, _⟩ := h
  match f with
  | 0 => omega
  | f + 1 => rw [clS, if_pos hx] at h1; exact h1
theorem qn0 {N : Nat} {m : List Nat} {T l : List Bool} {f x : Nat} (hN : 1 ≤ N ∧ N ≤ 8) (h : ClA N m T f l x) (hx : l.getD x false = false) : ∃ f', f = f' + 1 ∧ ClA N m T f' ((l.set x true).set (m.getD x 0) true) ((m.getD x 0 + N) % (2 * N)) := by
  obtain ⟨h1, h2, h3, h4⟩ := h
  match f with
  | 0 => omega
  | f + 1 =>
    rw [clS, if_neg (by rw [hx]; simp)] at h1
    have e1 := Qo (met := l) (k := x) (by omega) hx
    have e2 := Yd (met := l.set x true) (k := m.getD x 0)
    exact ⟨f, rfl, h1, by omega, Nat.mod_lt _ (by omega), by simp [h4]⟩
def Zq : AC := .seq (.seq (.region [oM 23 7,o0 24 (.zz 16 1 (.t 4) (.t 23)),oL 25 24,o0 26 (.un .not (.t 25))]) (.cond 26 .skip (.exit 2))) (.block 3 (.seq (.region [oM 27 7,o0 28 (.zz 16 1 (.t 4) (.t 27)),⟨none,none,.op (.bq (.t 28) (.c (.bool true)))⟩]) (.seq (.region [oM 29 7,oF 30 1 1,o0 31 (.zz 16 1 (.t 30) (.t 29)),oL 32 31,o0 33 (.conv .i64 (.t 32)),oM 7 33]) (.seq (.region [oM 34 7,o0 35 (.zz 16 1 (.t 4) (.t 34)),⟨none,none,.op (.bq (.t 35) (.c (.bool true)))⟩]) (.region [oM 36 7,oM 37 3,oP 38 .add 36 37,oM 39 3,o0 40 (.bin .mul (.c (.int .i64 2)) (.t 39)),oP 41 .rem 38 40,oM 7 41])))))
def Zi : AC := .region [oM 15 6,oK 16 .add 15 1,oM 6 16]
def br : AC := .seq (.seq (.region [oM 11 6,oM 12 3,o0 13 (.bin .mul (.c (.int .i64 2)) (.t 12)),oP 14 .lss 11 13]) (.cond 14 .skip (.exit 0))) (.seq (.block 1 (.seq (.seq (.region [oM 17 6,o0 18 (.zz 16 1 (.t 4) (.t 17)),oL 19 18]) (.cond 19 (.exit 1) .skip)) (.seq (.region [oM 20 5,oK 21 .add 20 1,oM 5 21]) (.seq (.region [oM 22 6,oM 7 22]) (.block 2 (.loop Zq)))))) Zi)
def Wn : AC := .seq (.region [oM 42 5,oM 2 42]) .ret
def Bh : AC := .seq (.region [o0 1 (.box (.t 0)),oI 2 0]) (.seq (.region [oF 8 0 1,oL 9 8,o0 10 (.build [(.bool false),(.bool false),(.bool false),(.bool false),(.bool false),(.bool false),(.bool false),(.bool false),(.bool false),(.bool false),(.bool false),(.bool false),(.bool false),(.bool false),(.bool false),(.bool false)] []),o0 4 (.alloc [(.bool false),(.bool false),(.bool false),(.bool false),(.bool false),(.bool false),(.bool false),(.bool false),(.bool false),(.bool false),(.bool false),(.bool false),(.bool false),(.bool false),(.bool false),(.bool false)]),oM 3 9,oS 16 4 10,oI 5 0]) (.seq (.seq (.region [oI 6 0]) (.block 0 (.loop br))) Wn))
theorem qf7 : zk Try.prog 80 = some ⟨43, Bh, [.slot 2]⟩ := by kernel_rfl
theorem qev (N : Nat) (m : List Nat) (hm : okD m) (hs : isS N m = true) : Am.Fn Try.prog 80 [.agg (dia N m)] [] (fun v H' => v = .int .i64 (clN N m : Nat) ∧ H' = []) := by
  refine Am.Fn.xo (R := fun v => v = _) qeo mixed qf7 (by simp [AV.qn, AV.under, qi _ _ (qd _ _)]) (by simp) ?_
  obtain ⟨hN, hp, _⟩ := z6 hs
  have hml := hm.1
  have w2 : qm .i64 (2 * (N : Int)) = ((2 * N : Nat) : Int) := by rw [wrap64 (by omega) (by omega)]; omega
  simp (maxSteps := 3000000) only [qf, zH, Bh, qa, qg, hml, gw, iE, iN, iB, iC, iL, iD, iA, iS, iM, qa, zZ, ↓qt, ↓reduceIte, reduceCtorEq, nA, nM, nS, nE, nL, nD]; try simp only [qa, zY]
  refine ⟨rfl, ?_⟩
  refine WA.jq qeo (fun s => ∃ i : Nat, i ≤ 2 * N ∧ s = ⟨[(1, .ptr 0 0), (3, .int .i64 N), (4, .ptr 1 0), (5, .int .i64 ((clO N m i).2 : Nat)), (6, .int .i64 i)], [.cells (dia N m), .cells (bls (clO N m i).1)]⟩)
    (fun s => match get s.env 6 with | .int _ x => 2 * N - x.toNat | _ => 0) ⟨_, qv.qw [1, 3, 4, 5, 6], 0, by omega, rfl⟩ ?_
  rintro s ⟨i, hi, rfl⟩
  have hw : qm .i64 ((i : Int) + 1) = ((i + 1 : Nat) : Int) := by rw [wrap64 (by omega) (by omega)]; rfl
  have hle := qjp N m i
  have hw2 : qm .i64 ((((clO N m i).2 : Nat) : Int) + 1) = (((clO N m i).2 + 1 : Nat) : Int) := by rw [wrap64 (by omega) (by omega)]; rfl
  have hlen := qeh N m i
  by_cases hlt : i < 2 * N
  · have hli : (i : Int) < ((2 * N : Nat) : Int) := by omega
    obtain ⟨g1, _⟩ := vz (show i < 16 by omega)
    have g2 : i < 16 := by omega
    have g3 := G1 (l := (clO N m i).1) (i := i) (by omega)
    by_cases hx : (clO N m i).1.getD i false = true
    · have e := qf0 hx
      simp (maxSteps := 3000000) only [qf, zH, br, Zi, qa, w2, hw, hli, g1, g2, g3, hx, zs, hlen, iE, iN, iB, iC, iL, iD, iA, iS, iM, qa, zZ, ↓qt, ↓reduceIte, reduceCtorEq, nA, nM, nS, nE, nL, nD]; try simp only [qa, zY]
      refine ⟨_, qv.qw [1, 3, 4, 5, 6], ⟨i + 1, by omega, ?_⟩, ?_⟩
      · simp only [zL, ↓reduceIte, reduceCtorEq, nE, nA]; rw [e]
      · simp only [zL, ↓reduceIte, reduceCtorEq, nE, nA]; omega
    · have hx' : (clO N m i).1.getD i false = false := by simpa using hx
      have e := qea hx
      simp (maxSteps := 3000000) only [qf, zH, br, qa, w2, hw, hw2, hli, g1, g2, g3, hx', zs, hlen, iE, iN, iB, iC, iL, iD, iA, iS, iM, qa, zZ, ↓qt, ↓reduceIte, reduceCtorEq, nA, nM, nS, nE, nL, nD]; try simp only [qa, zY]
      refine WA.jq qeo (fun s => ∃ (f x : Nat) (l : List Bool), ClA N m (clS N m 17 (clO N m i).1 i) f l x ∧ s = ⟨[(1, .ptr 0 0), (3, .int .i64 N), (4, .ptr 1 0), (5, .int .i64 ((clO N m i).2 + 1 : Nat)), (6, .int .i64 i), (7, .int .i64 x)], [.cells (dia N m), .cells (bls l)]⟩)
        (fun s : St => match s.hp[1]? with | some (AO.cells l) => bl l | _ => 0) ⟨_, qv.qw [1, 3, 4, 5, 6, 7], 17, i, (clO N m i).1, ⟨rfl, by have := qg7 (clO N m i).1; omega, hlt, hlen⟩, rfl⟩ ?_
      rintro s ⟨f, x, l, hA, rfl⟩
      have hxn := hA.2.2.1
      have hll := hA.2.2.2
      obtain ⟨g4, _⟩ := vz (show x < 16 by omega)
      have g5 : x < 16 := by omega
      have g6 := G1 (l := l) (i := x) (by omega)
      by_cases hlx : l.getD x false = true
      · have e2 := qm7 hA hlx
        simp (maxSteps := 3000000) only [qf, zH, Zq, Zi, qa, hw, g4, g5, g6, hlx, zs, hll, Bool.not_true, iE, iN, iB, iC, iL, iD, iA, iS, iM, qa, zZ, ↓qt, ↓reduceIte, reduceCtorEq, nA, nM, nS, nE, nL, nD]; try simp only [qa, zY]
        refine ⟨_, qv.qw [1, 3, 4, 5, 6], ⟨i + 1, by omega, ?_⟩, ?_⟩
        · simp only [zL, ↓reduceIte, reduceCtorEq, nE, nA]; rw [e, ← e2]
        · simp only [zL, ↓reduceIte, reduceCtorEq, nE, nA]; omega
      · have hlx' : l.getD x false = false := by simpa using hlx
        obtain ⟨f', rfl, hA'⟩ := qn0 hN hA hlx'
        have hy := (hp x hxn).1
        obtain ⟨g7, _⟩ := vz (show m.getD x 0 < 16 by omega)
        have g8 : m.getD x 0 < 16 := by omega
        have d1 := Jw (n := (N : Int)) (m := m) (i := x) (by omega)
        have v1 : qm .i64 ((m.getD x 0 : Nat) : Int) = ((m.getD x 0 : Nat) : Int) := kp (by omega)
        have v2 : qm .i64 (((m.getD x 0 : Nat) : Int) + (N : Int)) = ((m.getD x 0 + N : Nat) : Int) := by rw [wrap64 (by omega) (by omega)]; rfl
        have v3 : ¬ ((2 * N : Nat) : Int) = 0 := by omega
        have f1 := Qo (met := l) (k := x) (by omega) hlx'
        have f2 := Yd (met := l.set x true) (k := m.getD x 0)
        simp (maxSteps := 3000000) only [qf, zH, Zq, qa, w2, g4, g5, g6, g7, g8, hlx', zs, G0, hll, List.length_set, d1, v1, v2, v3, qzj, qg, hml, AV.one, Bool.not_false, and_self, iE, iN, iB, iC, iL, iD, iA, iS, iM, qa, zZ, ↓qt, ↓reduceIte, reduceCtorEq, nA, nM, nS, nE, nL, nD]; try simp only [qa, zY]
        refine ⟨_, qv.qw [1, 3, 4, 5, 6, 7], ⟨f', _, _, hA', ?_⟩, ?_⟩
        · simp only [zL, ↓reduceIte, reduceCtorEq, nE, nA]
        · simp only [zL, ↓reduceIte, reduceCtorEq, nE, nA]; omega
  · have hli : ¬ (i : Int) < ((2 * N : Nat) : Int) := by omega
    obtain rfl : i = 2 * N := by omega
    simp (maxSteps := 3000000) only [qf, zH, br, Wn, qa, w2, hli, Int.lt_irrefl, iE, iN, iB, iC, iL, iD, iA, iS, iM, qa, zZ, ↓qt, ↓reduceIte, reduceCtorEq, nA, nM, nS, nE, nL, nD]; try simp only [qa, zY]
    rfl
def Uw : List AV → Option AV
  | [.agg l] => match yz l with
    | some (n, m) => chk (0 ≤ n ∧ isS n.toNat m = true) (some (.int .i64 (clN n.toNat m : Nat)))
    | none => none
  | _ => none
theorem qnc {f : FuncId} (h : ∀ (N : Nat) m, okD m → isS N m = true → Am.Fn Try.prog f [.agg (dia N m)] [] (fun v H' => v = .int .i64 (clN N m : Nat) ∧ H' = [])) : Am.Callee Try.prog f (qk Uw) := Am.Callee.plain fun xs v he => by
  unfold Uw at he
  split at he
  · rename_i l
    split at he
    · rename_i n m hd1
      obtain ⟨⟨a1, a2⟩, he2⟩ := ql he
      cases he2
      obtain ⟨rfl, hm⟩ := xf hd1
      obtain ⟨N, rfl⟩ : ∃ N : Nat, n = N := ⟨n.toNat, by omega⟩
      simp only [Int.toNat_natCast] at a2 ⊢
      exact ⟨by simp only [AV.zq, AV.zl, qd, Bool.and_self], rfl, h N m hm a2⟩
    · cases he
  · cases he
noncomputable def q0m : zh := (q2e.put 80 (qk Uw))
theorem qjm : qq Try.prog q0m := (qeo.put (qnc qev))
end Go.Proofs.Ytfhckbbgmblhbaa

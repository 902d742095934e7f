/- Contracts of functions of the program, and plain laws, part 4: each text of this part is proved without further condition. -/
import Derived.Test.YtfhckbbgmblhbaaZ3
namespace Go.Proofs.Ytfhckbbgmblhbaa
open Go.Am Go.Dia
open Nat renaming reduceAdd → nA, reduceMul → nM, reduceSub → nS, reduceEqDiff → nE, reduceLT → nL, reduceLeDiff → nD, reduceBEq → nB
open Int renaming reduceEq → iE, reduceNe → iN, reduceBEq → iB, reduceBNe → iC, reduceLT → iL, reduceLE → iD, reduceAdd → iA, reduceSub → iS, reduceMul → iM
set_option linter.unusedSimpArgs false
set_option linter.unusedVariables false
set_option maxRecDepth 4000
set_option maxHeartbeats 1000000
def chP (p n : Int) (φ : List Nat → List Nat) (κ : List Nat → Int) (acc a : List (Int × List Nat × Int)) : List (Int × List Nat × Int) := a.foldl (fun acc t => qiw p acc n (φ t.2.1) (t.2.2 * κ t.2.1)) acc
def V3 (φ : List Nat → List Nat) (κ : List Nat → Int) (m : List Nat) : List (Int × List Nat × Int) → Int
  | [] => 0
  | t :: l => (if φ t.2.1 = m then t.2.2 * κ t.2.1 else 0) + V3 φ κ m l
def qta (n : Int) (F : Int) (φ : List Nat → List Nat) (κ : List Nat → Int) (a : List (Int × List Nat × Int)) : Prop := ∀ t ∈ a, okD (φ t.2.1) ∧ isS n.toNat (φ t.2.1) = true ∧ -F ≤ t.2.2 * κ t.2.1 ∧ t.2.2 * κ t.2.1 ≤ F
theorem qta.take {n F : Int} {φ : List Nat → List Nat} {κ : List Nat → Int} {a : List (Int × List Nat × Int)} (h : qta n F φ κ a) (i : Nat) : qta n F φ κ (a.take i) := fun t ht => h t (List.mem_of_mem_take ht)
theorem qf9 {p n F : Int} {φ : List Nat → List Nat} {κ : List Nat → Int} (hp : 0 < p) : ∀ {a acc : List (Int × List Nat × Int)}, vt p n acc → qta n F φ κ a → vt p n (chP p n φ κ acc a) ∧ (chP p n φ κ acc a).length ≤ acc.length + a.length
  | [], acc, h, _ => ⟨h, by simp [chP]⟩
  | t :: b, acc, h, hb => by
    obtain ⟨h1, h3, h4⟩ := hb t (List.mem_cons_self ..)
    have h5 := qtj (k := t.2.2 * κ t.2.1) hp h1 h3 h
    have h6 := qvl (p := p) (n := n) (m := φ t.2.1) (k := t.2.2 * κ t.2.1) (ts := acc)
    have := qf9 hp (a := b) h5 fun u hu => hb u (List.mem_cons_of_mem _ hu)
    refine ⟨this.1, ?_⟩
    have h7 := this.2
    have h3 : chP p n φ κ acc (t :: b) = chP p n φ κ (qiw p acc n (φ t.2.1) (t.2.2 * κ t.2.1)) b := rfl
    rw [h3, List.length_cons]; omega
theorem qpv {p n : Int} {φ : List Nat → List Nat} {κ : List Nat → Int} {m : List Nat} : ∀ {a acc : List (Int × List Nat × Int)}, (∀ t ∈ acc, t.1 = n) → p ∣ cf m (chP p n φ κ acc a) - (cf m acc + V3 φ κ m a)
  | [], acc, h => by simp [chP, V3]
  | t :: b, acc, h => by
    have ih := qpv (p := p) (φ := φ) (κ := κ) (m := m) (a := b) (q0i (p := p) (m := φ t.2.1) (k := t.2.2 * κ t.2.1) h)
    have h1 := q0p (p := p) (k := t.2.2 * κ t.2.1) (m := m) (m' := φ t.2.1) h
    have e : chP p n φ κ acc (t :: b) = chP p n φ κ (qiw p acc n (φ t.2.1) (t.2.2 * κ t.2.1)) b := rfl
    rw [e]
    refine ka ih h1 ?_
    rw [V3]
    omega
def jk (p c : Int) : Nat → Int
  | 0 => 1
  | k + 1 => (jk p c k * c).emod p
theorem qqf {p c : Int} (hp : 2 ≤ p) : ∀ k, 0 ≤ jk p c k ∧ jk p c k ≤ p - 1
  | 0 => by unfold jk; omega
  | k + 1 => by
    have h1 := Int.emod_nonneg (jk p c k * c) (show p ≠ 0 by omega)
    have h2 := Int.emod_lt_of_pos (jk p c k * c) (show 0 < p by omega)
    show 0 ≤ (jk p c k * c) % p ∧ (jk p c k * c) % p ≤ p - 1
    omega
theorem pow_mul {p c x : Int} (hp : 2 ≤ p ∧ p ≤ 97) (hc : 0 ≤ c ∧ c ≤ p - 1) (hx : 0 ≤ x ∧ x ≤ p - 1) : qu .i64 (x * c) = x * c ∧ Int.tmod (x * c) p = (x * c).emod p ∧ 0 ≤ x * c ∧ x * c ≤ 9216 := by
  have h0 : 0 ≤ x * c := Int.mul_nonneg hx.1 hc.1
  have h1 : x * c ≤ 96 * 96 := Int.mul_le_mul (by omega) (by omega) hc.1 (by omega)
  exact ⟨wrap64 (by omega) (by omega), Int.tmod_eq_emod_of_nonneg h0, h0, by omega⟩
def B53 : za := B39
theorem q28 : qn Try.prog B53 := qou
theorem Ky {n : Int} {m : List Nat} : List.take 1 (dia n m) = [.int .i64 n] := rfl
theorem kg {x : Nat} (h : x < 16) : ((0 : Int) ≤ (x : Int) ∧ (x : Int) < ((16 : Nat) : Int)) ∧ 1 + x < 17 := by omega
abbrev elC (p c n : Int) (k : Nat) : List AV := [.int .i64 p, .int .i64 c, .int .i64 n, .slc 0 0 k false 0]
def W2 : AC := .draw false [oM 6 0,oM 7 1,oM 8 0,oM 9 2,oM 10 2,o0 11 (.conv .u8 (.t 10)),oM 12 1,o0 13 (.conv .u8 (.t 12)),o0 14 (.ju (.t 6)),oF 15 1 14,o0 16 (.xp 16 1 (.t 15) (.t 7)),o0 17 (.ju (.t 8)),oF 18 1 17,oT 16 11,o0 19 (.xp 16 1 (.t 18) (.t 9)),oT 19 13]
theorem qb8 : zr Try.prog 143 = some ⟨20, W2, []⟩ := by kernel_rfl
theorem q3g (n : Int) (m : List Nat) (i k : Nat) (hm : m.length = 16) (hi : i < 16) (hk : k < 16) :
    Am.Fn Try.prog 143 [.ptr 0 0, .int .i64 i, .int .i64 k] [.cells (dia n m)] (fun v H' => v = .tup [] ∧ H' = [.cells (dia n ((m.set i k).set k i))]) := by
  refine Am.Fn.ofB qou mixed qb8 (by simp [AV.qy, AV.under]) (fun j o hj => by
    match j, hj with
    | 0, hj => cases hj; exact qh _ _ (qe _ _)
    | j + 1, hj => simp at hj) ?_
  obtain ⟨a1, a2⟩ := kg hi
  obtain ⟨b1, b2⟩ := kg hk
  have hu1 : qu .u8 (i : Int) = i := Uz (by omega)
  have hu2 : qu .u8 (k : Int) = k := Uz (by omega)
  simp (maxSteps := 3000000) only [qg, zH, W2, qb, hm, List.length_set, a1, a2, b1, b2, hu1, hu2, qau, AV.one, iE, iN, iB, iC, iL, iD, iA, iS, iM, qa, zZ, ↓qo, ↓reduceIte, reduceCtorEq, nA, nM, nS, nE, nL, nD]; try simp only [qa, zY]
  refine Ret.ve [0] ⟨⟨by simp, rfl, by decide⟩, ?_⟩ (rs := []) rfl rfl (by simp [xw]) ?_ ⟨?_, ?_⟩
  · simp only [zK, ↓reduceIte, reduceCtorEq, nE, nB, nA]
  · intro j l; match j with
    | 0 => simp [zi, AO.ren]
    | j + 1 => simp [zi]
  · rfl
  · simp only [zL, ↓reduceIte, reduceCtorEq, nE, nA]
def Qf : BE := fun hp xs => match xs with
  | [.ptr b 0, .int .i64 i, .int .i64 k] => match hp[b]? with
    | some (.cells l) => match ui l with
      | some (n, m) => chk ((0 ≤ i ∧ i < 16) ∧ (0 ≤ k ∧ k < 16)) (some (.tup [], hp.set b (.cells (dia n ((m.set i.toNat k.toNat).set k.toNat i.toNat)))))
      | none => none
    | _ => none
  | _ => none
theorem qyj : Am.Callee Try.prog 143 Qf := Callee.fp fun hp xs v hp' he => by
  unfold Qf at he
  split at he
  · rename_i b i k
    split at he
    · rename_i l hb
      split at he
      · rename_i n m hd
        obtain ⟨⟨h1, h2⟩, he⟩ := ql he
        simp only [Option.some.injEq, Prod.mk.injEq] at he
        obtain ⟨rfl, rfl⟩ := he
        obtain ⟨rfl, hm⟩ := zp hd
        obtain ⟨i, rfl⟩ : ∃ j : Nat, i = j := ⟨i.toNat, by omega⟩
        obtain ⟨k, rfl⟩ : ∃ j : Nat, k = j := ⟨k.toNat, by omega⟩
        simp only [Int.toNat_natCast]
        refine ⟨[(b, 0)], [.ptr 0 0, .int .i64 i, .int .i64 k], _, _, _, q3g n m i k hm.1 (by omega) (by omega), by simp [AV.ren, AV.zh, ofL], rfl, ⟨⟨rfl, by simp only [AO.ren, qc _ _ (qe _ _)]; exact hb⟩, trivial⟩, rfl, ⟨qh _ _ (qe _ _), trivial⟩, ⟨by simp [AV.under], trivial, trivial, trivial⟩, by simp [AV.ren, AV.zh], ?_⟩
        simp [after, upd, AO.wr, AO.ren, qc _ _ (qe _ _)]
      · cases he
    · cases he
  · cases he
def B46 : za := (B39.put 143 (Qf))
theorem quj : qn Try.prog B46 := (qou.put (qyj))
theorem bu : B46 143 = some (Qf) := rfl
def Vo (n : Nat) : Nat → List Nat
  | 0 => List.replicate 16 0
  | k + 1 => ((Vo n k).set k (n + k)).set (n + k) k
def gh (n : Nat) : List Nat := Vo n n
theorem qa2 (n : Nat) : ∀ k, (Vo n k).length = 16
  | 0 => by simp [Vo]
  | k + 1 => by simp [Vo, qa2 n k]
theorem qki {n : Nat} (hn : n ≤ 8) : ∀ k, k ≤ n → ∀ x ∈ Vo n k, x < 16
  | 0, _, x, hx => by rw [(List.mem_replicate.1 hx).2]; omega
  | k + 1, hk, x, hx => by
    unfold Vo at hx
    rcases List.mem_or_eq_of_mem_set hx with hx | rfl
    · rcases List.mem_or_eq_of_mem_set hx with hx | rfl
      · exact qki hn k (by omega) x hx
      · omega
    · omega
theorem qaw {n : Nat} (hn : n ≤ 8) {k : Nat} (hk : k ≤ n) : okD (Vo n k) := ⟨qa2 n k, fun x hx => by have := qki hn k hk x hx; omega⟩
def Ba : AC := .seq (.region [oP 9 .lss 8 7]) (.seq (.cond 9 .skip (.exit 0)) (.seq (.block 1 (.seq (.region [oM 10 8,oM 4 10]) (.region [oM 11 4,oM 12 0,oM 13 4,oP 14 .add 12 13,oC 15 143 [.t 3,.t 11,.t 14]]))) (.region [oK 16 .add 8 1,oM 8 16])))
def qc5 : AC := .seq (.region [oN 17 17 3,oS 17 2 17]) .ret
def qkj : AC := .seq (.region [oD 2]) (.seq (.region [oM 5 0,o0 6 (.build [.int .i64 0,.int .u8 0,.int .u8 0,.int .u8 0,.int .u8 0,.int .u8 0,.int .u8 0,.int .u8 0,.int .u8 0,.int .u8 0,.int .u8 0,.int .u8 0,.int .u8 0,.int .u8 0,.int .u8 0,.int .u8 0,.int .u8 0] [(0,1,.t 5)]),oD 3,oS 17 3 6]) (.seq (.seq (.region [oM 7 0,oI 8 0]) (.block 0 (.loop Ba))) qc5))
theorem qvt : zr Try.prog 88 = some ⟨18, qkj, [.Qj 2 17]⟩ := by kernel_rfl
theorem q2l (n : Nat) (hn : n ≤ 8) : Am.Fn Try.prog 88 [.int .i64 n] [] (fun v H' => v = .agg (dia n (gh n)) ∧ H' = []) := by
  refine Am.Fn.jd (R := fun v => v = _) quj mixed qvt (by simp) (by simp) ?_
  simp (maxSteps := 3000000) only [qg, zH, qkj, bu, Qf, zn, xy, Zq, qb, ze, zy qw qw, List.length_replicate, iE, iN, iB, iC, iL, iD, iA, iS, iM, qa, zZ, ↓qo, ↓reduceIte, reduceCtorEq, nA, nM, nS, nE, nL, nD]; try simp only [qa, zY]
  refine WA.jn quj (fun s => ∃ i : Nat, i ≤ n ∧ s = ⟨[(8, .int .i64 i), (7, .int .i64 n), (3, .ptr 1 0), (2, .ptr 0 0), (0, .int .i64 n)], [.cells (dia 0 (List.replicate 16 0)), .cells (dia n (Vo n i))]⟩)
    (fun s => match get s.env 8 with | .int _ x => n - x.toNat | _ => 0) ⟨_, qz.qx [8, 7, 3, 2, 0], 0, by omega, rfl⟩ ?_
  rintro s ⟨i, hi, rfl⟩
  have hw : qu .i64 ((i : Int) + 1) = ((i + 1 : Nat) : Int) := by rw [wrap64 (by omega) (by omega)]; rfl
  have hok := qaw hn hi
  by_cases hlt : i < n
  · have hli : (i : Int) < (n : Int) := by omega
    have h2 : qu .i64 ((n : Int) + i) = ((n + i : Nat) : Int) := by rw [wrap64 (by omega) (by omega)]; rfl
    have c1 : (0 : Int) ≤ i ∧ (i : Int) < 16 := by omega
    have c2 : (0 : Int) ≤ (n + i : Nat) ∧ ((n + i : Nat) : Int) < 16 := by omega
    have hnext : Vo n (i + 1) = ((Vo n i).set i (n + i)).set (n + i) i := rfl
    simp (maxSteps := 3000000) only [qg, zH, Ba, bu, Qf, hli, hw, h2, qq hok, c1, c2, iE, iN, iB, iC, iL, iD, iA, iS, iM, qa, zZ, ↓qo, ↓reduceIte, reduceCtorEq, nA, nM, nS, nE, nL, nD]; try simp only [qa, zY]
    refine ⟨_, qz.qx [8, 7, 3, 2, 0], ⟨i + 1, by omega, ?_⟩, ?_⟩
    · simp only [zL, ↓reduceIte, reduceCtorEq, nE, nA]; rw [hnext]
    · simp only [zL, ↓reduceIte, reduceCtorEq, nE, nA]; omega
  · have hli : ¬ ((i : Int) < (n : Int)) := by omega
    obtain rfl : i = n := by omega
    simp (maxSteps := 3000000) only [qg, zH, Ba, qc5, bu, Qf, hli, qb, hok.1, qt hok.1, zy qw hok.1, ze, List.length_replicate, Int.lt_irrefl, iE, iN, iB, iC, iL, iD, iA, iS, iM, qa, zZ, ↓qo, ↓reduceIte, reduceCtorEq, nA, nM, nS, nE, nL, nD]; try simp only [qa, zY]
    exact ⟨qe _ _, rfl⟩
def jl : List AV → Option AV
  | [.int .i64 n] => chk (0 ≤ n ∧ n ≤ 8) (some (.agg (dia n (gh n.toNat))))
  | _ => none
theorem qhq {f : FuncId} (h : ∀ n : Nat, n ≤ 8 → Am.Fn Try.prog f [.int .i64 n] [] (fun v H' => v = .agg (dia n (gh n)) ∧ H' = [])) : Am.Callee Try.prog f (qm jl) := Am.Callee.plain fun xs v he => by
  unfold jl at he
  split at he
  · rename_i n
    obtain ⟨h1, he⟩ := ql he
    cases he
    obtain ⟨N, rfl⟩ : ∃ N : Nat, n = N := ⟨n.toNat, by omega⟩
    rw [Int.toNat_natCast]
    exact ⟨rfl, by simp only [AV.zl, qe], h N (by omega)⟩
  · cases he
def rt (N i : Nat) : Nat := if i = 0 then N else 2 * N + 1
end Go.Proofs.Ytfhckbbgmblhbaa
namespace Go.Proofs.Ytfhckbbgmblhbaa
open Go.Am Go.Dia
open Nat renaming reduceAdd → nA, reduceMul → nM, reduceSub → nS, reduceEqDiff → nE, reduceLT → nL, reduceLeDiff → nD, reduceBEq → nB
open Int renaming reduceEq → iE, reduceNe → iN, reduceBEq → iB, reduceBNe → iC, reduceLT → iL, reduceLE → iD, reduceAdd → iA, reduceSub → iS, reduceMul → iM
set_option linter.unusedSimpArgs false
set_option linter.unusedVariables false
set_option maxRecDepth 4000
set_option maxHeartbeats 1000000
end Go.Proofs.Ytfhckbbgmblhbaa
namespace Go.Proofs.Ytfhckbbgmblhbaa
open Go.Am Go.Dia
open Nat renaming reduceAdd → nA, reduceMul → nM, reduceSub → nS, reduceEqDiff → nE, reduceLT → nL, reduceLeDiff → nD, reduceBEq → nB
open Int renaming reduceEq → iE, reduceNe → iN, reduceBEq → iB, reduceBNe → iC, reduceLT → iL, reduceLE → iD, reduceAdd → iA, reduceSub → iS, reduceMul → iM
set_option linter.unusedSimpArgs false
set_option linter.unusedVariables false
set_option maxRecDepth 4000
set_option maxHeartbeats 1000000
def B70 : za := B53
theorem q3y : qn Try.prog B70 := q28
def B79 : za := B70
theorem qot : qn Try.prog B79 := q3y
def q12 (p c n : Int) (L : List (Int × List Nat × Int)) : ER := if L.length ≤ 140 then (p, c, n, L, 0) else (0, 0, 0, [], 3)
theorem qp5 {p c n : Int} {L : List (Int × List Nat × Int)} (h : okT L) : q55 (q12 p c n L) := by
  unfold q12
  split
  · rename_i hle; exact ⟨h, by simp only; omega⟩
  · exact ⟨(fun t h => by cases h), by simp⟩
structure q1u (H : List AO) (X Y : AV) (ts us : List (Int × List Nat × Int)) : Prop where
  x : ∀ rest, Bh (H ++ rest) X = some ts
  y : ∀ rest, Bh (H ++ rest) Y = some us
  ok : okT ts ∧ okT us
  un : ∀ (j : Nat) (o : AO), H[j]? = some o → o.under H.length
  ux : X.under H.length ∧ Y.under H.length
  sh : (H = [] ∧ X = .v (.slice none 0 0) ∧ Y = .v (.slice none 0 0)) ∨
    (∃ (o : AO) (nx cx : Nat), H = [o] ∧ X = .slc 0 0 nx true cx ∧ Y = .v (.slice none 0 0) ∧ (∀ ids, o.within ids = true) ∧ ∀ ρ, o.ren ρ = o) ∨
    (∃ (o : AO) (ny cy : Nat), H = [o] ∧ X = .v (.slice none 0 0) ∧ Y = .slc 0 0 ny true cy ∧ (∀ ids, o.within ids = true) ∧ ∀ ρ, o.ren ρ = o) ∨
    ∃ (o o' : AO) (nx cx ny cy : Nat), H = [o, o'] ∧ X = .slc 0 0 nx true cx ∧ Y = .slc 1 0 ny true cy ∧ (∀ ids, o.within ids = true) ∧ (∀ ρ, o.ren ρ = o) ∧ (∀ ids, o'.within ids = true) ∧ ∀ ρ, o'.ren ρ = o'
theorem q1u.h {H : List AO} {X Y : AV} {ts us : List (Int × List Nat × Int)} (a : q1u H X Y ts us) : H = [] ∨ (∃ o, H = [o]) ∨ ∃ o o', H = [o, o'] := by
  rcases a.sh with ⟨rfl, _⟩ | ⟨o, _, _, rfl, _⟩ | ⟨o, _, _, rfl, _⟩ | ⟨o, o', _, _, _, _, rfl, _⟩
  · exact .inl rfl
  · exact .inr (.inl ⟨_, rfl⟩)
  · exact .inr (.inl ⟨_, rfl⟩)
  · exact .inr (.inr ⟨_, _, rfl⟩)
theorem qaq {p : Nat → Prop} (h : ∃ k, p k) : ∃ k, p k ∧ ∀ j, p j → k ≤ j := by
  obtain ⟨k, hk⟩ := h
  induction k using Nat.strongRecOn with
  | ind k ih =>
    by_cases hj : ∃ j, j < k ∧ p j
    · obtain ⟨j, h1, h2⟩ := hj; exact ih j h1 h2
    · exact ⟨k, hk, fun j h2 => Nat.le_of_not_lt fun h1 => hj ⟨j, h1, h2⟩⟩
open Classical in
noncomputable def qi4 (J : Nat → St → Prop) (s : St) : Nat := if h : ∃ k, J k s then Classical.choose (qaq h) else 0
theorem qh6 {J : Nat → St → Prop} {s : St} (h : ∃ k, J k s) : J (qi4 J s) s ∧ ∀ j, J j s → qi4 J s ≤ j := by
  unfold qi4; rw [dif_pos h]; exact Classical.choose_spec (qaq h)
theorem qxb {B : za} (hB : qn Try.prog B) {n0 nt : Nat} {Q : AX → St → Prop} {s : St} {a : AC} (J : Nat → St → Prop) (h0 : ∃ s', qz n0 s s' ∧ ∃ k, J k s')
    (round : ∀ k s, J k s → ∀ (post : St → Prop), (∀ s' s'' k', qz n0 s' s'' → J k' s'' → k' < k → post s') → wbC Try.prog B n0 nt a (AX.then post Q) s) : WA Try.prog n0 nt (.loop a) Q s := by
  refine WA.jn hB (fun s => ∃ k, J k s) (qi4 J) h0 fun s hs => ?_
  obtain ⟨h1, h2⟩ := qh6 hs
  exact round _ s h1 _ fun s' s'' k' hw hj hlt => ⟨s'', hw, ⟨k', hj⟩, Nat.lt_of_le_of_lt ((qh6 ⟨k', hj⟩).2 k' hj) hlt⟩
def bls (l : List Bool) : List AV := l.map .bool
theorem vv (l : List Bool) : (bls l).length = l.length := by simp [bls]
theorem vp (l : List Bool) : AV.zb (bls l) = true := by
  induction l with
  | nil => rfl
  | cons a l ih => simp only [bls, List.map_cons, AV.zb, AV.zl, Bool.true_and]; exact ih
theorem qqj {l : List Bool} {i : Nat} (h : i < l.length) : (bls l)[i]? = some (.bool (l.getD i false)) := by
  simp [bls, List.getD_eq_getElem?_getD, h]
theorem qeb {l : List Bool} {i : Nat} {b : Bool} : (bls l).set i (.bool b) = bls (l.set i b) := by simp [bls, List.map_set]
theorem V6 {x : Nat} (h : x < 8) : ((0 : Int) ≤ (x : Int) ∧ (x : Int) < ((8 : Nat) : Int)) := by omega
def ug : AC := .seq (.region [oM 18 2,oF 19 1 5,o0 20 (.xp 16 1 (.t 19) (.t 18)),oL 21 20,o0 22 (.conv .i64 (.t 21)),oM 13 22]) (.seq (.seq (.region [oM 23 13,oM 24 12,oP 25 .lss 23 24]) (.cond 25 (.seq (.region [oM 26 13,oM 10 26,oB 11 true]) .ret) .skip)) (.seq (.region [oM 27 4,oM 28 13,oM 29 12,oP 30 .sub 28 29,o0 31 (.ju (.t 27)),o0 32 (.xp 8 1 (.t 31) (.t 30)),⟨none,none,.op (.Qz (.t 32) (.c (.bool true)))⟩]) (.seq (.region [oM 33 13,oM 34 12,oP 35 .sub 33 34,oM 2 35]) (.seq (.region [oB 3 false]) (.exit 1)))))
def ue : AC := .block 1 (.seq (.seq (.region [oM 17 3]) (.cond 17 ug .skip)) (.seq (.region [oM 36 2,oF 37 1 6,o0 38 (.xp 16 1 (.t 37) (.t 36)),oL 39 38,o0 40 (.conv .i64 (.t 39)),oM 14 40]) (.seq (.seq (.region [oM 41 14,oM 42 12,oP 43 .geq 41 42]) (.cond 43 (.seq (.region [oM 44 14,oM 10 44,oB 11 false]) .ret) .skip)) (.seq (.region [oM 45 4,oM 46 14,o0 47 (.ju (.t 45)),o0 48 (.xp 8 1 (.t 47) (.t 46)),⟨none,none,.op (.Qz (.t 48) (.c (.bool true)))⟩]) (.seq (.region [oM 49 12,oM 50 14,oP 51 .add 49 50,oM 2 51]) (.region [oB 3 true]))))))
def Kc : AC := .seq (.region [o0 5 (.box (.t 0)),o0 6 (.box (.t 1)),oI 10 0,oB 11 false]) (.seq (.region [oF 15 0 5,oL 16 15,oM 12 16]) (.block 0 (.loop ue)))
theorem qg1 : zr Try.prog 167 = some ⟨52, Kc, [.slot 10, .slot 11]⟩ := by kernel_rfl
theorem qg3 (N : Nat) (d e : List Nat) (hd : okD d) (he : okD e) (hds : isS N d = true) (hes : isS N e = true) {f : Nat} {u : Bool} {i : Nat} {met : List Bool} {r : Nat} {s : Bool} {met' : List Bool} (hf : zs N d e f u i met = some (r, s, met')) (hi : i < 2 * N) (hm : met.length = 8) :
    Am.Fn Try.prog 167 [.agg (dia N d), .agg (dia N e), .int .i64 i, .bool u, .ptr 0 0] [.cells (bls met)] (fun v H' => v = .tup [.int .i64 r, .bool s] ∧ H' = [.cells (bls met')]) := by
  refine Am.Fn.ofB qot mixed qg1 (by simp [AV.qy, AV.under, qh _ _ (qe _ _)]) (fun j o hj => by
    match j, hj with
    | 0, hj => cases hj; exact qh _ _ (vp _)
    | j + 1, hj => simp at hj) ?_
  obtain ⟨hN, hpd, _⟩ := je hds
  obtain ⟨_, hpe, _⟩ := je hes
  have hdl := hd.1
  have hel := he.1
  simp (maxSteps := 3000000) only [qg, zH, Kc, qa, qb, hdl, hel, vg, iE, iN, iB, iC, iL, iD, iA, iS, iM, qa, zZ, ↓qo, ↓reduceIte, reduceCtorEq, nA, nM, nS, nE, nL, nD]; try simp only [qa, zY]
  refine qxb qot (fun f st => ∃ (u : Bool) (i : Nat) (met : List Bool), zs N d e f u i met = some (r, s, met') ∧ i < 2 * N ∧ met.length = 8 ∧
      st = ⟨[(12, .int .i64 N), (6, .ptr 2 0), (5, .ptr 1 0), (4, .ptr 0 0), (3, .bool u), (2, .int .i64 i)], [.cells (bls met), .cells (dia N d), .cells (dia N e)]⟩) ⟨_, qz.qx [12, 6, 5, 4, 3, 2], f, u, i, met, hf, hi, hm, rfl⟩ ?_
  clear hf hi hm
  rintro k st ⟨u, i, met, hf, hi, hm, rfl⟩ post hpost
  obtain ⟨hi16, hi16'⟩ := kg (show i < 16 by omega)
  have hi17 : i < 16 := by omega
  match k, u, hf with
  | 0, _, hf => simp [zs] at hf
  | f + 1, true, hf =>
    have hx := (hpd i hi).1
    have hcx : qu .i64 ((d.getD i 0 : Nat) : Int) = ((d.getD i 0 : Nat) : Int) := yf (by omega)
    rw [zs] at hf
    by_cases hlt : d.getD i 0 < N
    · rw [if_pos hlt] at hf
      simp only [Option.some.injEq, Prod.mk.injEq] at hf
      obtain ⟨rfl, rfl, rfl⟩ := hf
      have hli : ((d.getD i 0 : Nat) : Int) < (N : Int) := by omega
      simp (maxSteps := 3000000) only [qg, zH, ue, ug, hi16, hi16', hi17, qb, hdl, hel, hcx, hli, iE, iN, iB, iC, iL, iD, iA, iS, iM, qa, zZ, ↓qo, ↓reduceIte, reduceCtorEq, nA, nM, nS, nE, nL, nD]; try simp only [qa, zY]
      refine Ret.ve [0] ⟨⟨Nat.le_refl 1, rfl, by decide⟩, ?_⟩ (rs := [.int .i64 (d.getD i 0 : Nat), .bool true]) rfl rfl (by simp [xw]) ?_ ⟨?_, ?_⟩
      · simp only [qk _ _ (vp _), zK, ↓reduceIte, reduceCtorEq, nE, nB, nA]
      · intro j l; cases j <;> simp [zi, AO.ren]
      · rfl
      · simp only [qc _ _ (vp _), zL, ↓reduceIte, reduceCtorEq, nE, nA]
    · rw [if_neg hlt] at hf
      have hli : ¬ ((d.getD i 0 : Nat) : Int) < (N : Int) := by omega
      have hsub : qu .i64 (((d.getD i 0 : Nat) : Int) - (N : Int)) = ((d.getD i 0 - N : Nat) : Int) := by rw [wrap64 (by omega) (by omega)]; omega
      have h8 := V6 (show d.getD i 0 - N < 8 by omega)
      have h8' : d.getD i 0 - N < 8 := by omega
      simp (maxSteps := 3000000) only [qg, zH, ue, ug, hi16, hi16', hi17, qb, hdl, hel, hcx, hli, hsub, h8, h8', vv, hm, qeb, AV.one, iE, iN, iB, iC, iL, iD, iA, iS, iM, qa, zZ, ↓qo, ↓reduceIte, reduceCtorEq, nA, nM, nS, nE, nL, nD]; try simp only [qa, zY]
      exact hpost _ _ f (qz.qx [12, 6, 5, 4, 3, 2]) ⟨false, d.getD i 0 - N, _, hf, by omega, by simp [hm], rfl⟩ (Nat.lt_succ_self _)
  | f + 1, false, hf =>
    have hx := (hpe i hi).1
    have hcx : qu .i64 ((e.getD i 0 : Nat) : Int) = ((e.getD i 0 : Nat) : Int) := yf (by omega)
    rw [zs] at hf
    by_cases hlt : N ≤ e.getD i 0
    · rw [if_pos hlt] at hf
      simp only [Option.some.injEq, Prod.mk.injEq] at hf
      obtain ⟨rfl, rfl, rfl⟩ := hf
      have hli : (N : Int) ≤ ((e.getD i 0 : Nat) : Int) := by omega
      simp (maxSteps := 3000000) only [qg, zH, ue, ug, hi16, hi16', hi17, qb, hdl, hel, hcx, hli, iE, iN, iB, iC, iL, iD, iA, iS, iM, qa, zZ, ↓qo, ↓reduceIte, reduceCtorEq, nA, nM, nS, nE, nL, nD]; try simp only [qa, zY]
      refine Ret.ve [0] ⟨⟨Nat.le_refl 1, rfl, by decide⟩, ?_⟩ (rs := [.int .i64 (e.getD i 0 : Nat), .bool false]) rfl rfl (by simp [xw]) ?_ ⟨?_, ?_⟩
      · simp only [qk _ _ (vp _), zK, ↓reduceIte, reduceCtorEq, nE, nB, nA]
      · intro j l; cases j <;> simp [zi, AO.ren]
      · rfl
      · simp only [qc _ _ (vp _), zL, ↓reduceIte, reduceCtorEq, nE, nA]
    · rw [if_neg hlt] at hf
      have hli : ¬ (N : Int) ≤ ((e.getD i 0 : Nat) : Int) := by omega
      have hadd : qu .i64 ((N : Int) + ((e.getD i 0 : Nat) : Int)) = ((N + e.getD i 0 : Nat) : Int) := by rw [wrap64 (by omega) (by omega)]; rfl
      have h8 := V6 (show e.getD i 0 < 8 by omega)
      have h8' : e.getD i 0 < 8 := by omega
      simp (maxSteps := 3000000) only [qg, zH, ue, ug, hi16, hi16', hi17, qb, hdl, hel, hcx, hli, hadd, h8, h8', vv, hm, qeb, AV.one, iE, iN, iB, iC, iL, iD, iA, iS, iM, qa, zZ, ↓qo, ↓reduceIte, reduceCtorEq, nA, nM, nS, nE, nL, nD]; try simp only [qa, zY]
      exact hpost _ _ f (qz.qx [12, 6, 5, 4, 3, 2]) ⟨true, N + e.getD i 0, _, hf, by omega, by simp [hm], rfl⟩ (Nat.lt_succ_self _)
def Vs : List AV → Option (List Bool)
  | [] => some []
  | .bool b :: l => (Vs l).map (b :: ·)
  | _ => none
theorem Up : ∀ l, Vs (bls l) = some l
  | [] => rfl
  | b :: l => by
    have := Up l
    simp only [bls] at this
    simp only [bls, List.map_cons, Vs, this, Option.map_some]
theorem Yr : ∀ {l : List AV} {m : List Bool}, Vs l = some m → l = bls m
  | [], m, h => by simp only [Vs, Option.some.injEq] at h; subst h; rfl
  | .bool b :: l, m, h => by
    simp only [Vs, Option.map_eq_some_iff] at h
    obtain ⟨m', h1, rfl⟩ := h
    rw [Yr h1]; rfl
noncomputable def kc : BE := fun hp xs => match xs with
  | [.agg ld, .agg le, .int .i64 i, .bool u, .ptr b 0] => match hp[b]? with
    | some (.cells lm) => match ui ld, ui le, Vs lm with
      | some (n, d), some (n', e), some met => chk (((n' = n ∧ 0 ≤ n) ∧ isS n.toNat d = true ∧ isS n.toNat e = true) ∧ (0 ≤ i ∧ i < 2 * n) ∧ met.length = 8 ∧ u = decide (i < n)) (some (.tup [.int .i64 (pr n.toNat d e i.toNat : Nat), .bool (decide (pr n.toNat d e i.toNat < n.toNat))], hp.set b (.cells (bls (fol n.toNat d e u i.toNat met)))))
      | _, _, _ => none
    | _ => none
  | _ => none
theorem qvx : Am.Callee Try.prog 167 kc := Callee.fp fun hp xs v hp' he => by
  unfold kc at he
  split at he
  · rename_i ld le i u b
    split at he
    · rename_i lm hb
      split at he
      · rename_i n d n' e met hd1 he1 hm1
        obtain ⟨⟨⟨⟨a1, a2⟩, a3, a4⟩, a5, a6, a7⟩, he2⟩ := ql he
        simp only [Option.some.injEq, Prod.mk.injEq] at he2
        obtain ⟨rfl, rfl⟩ := he2
        obtain ⟨rfl, hd⟩ := zp hd1
        obtain ⟨rfl, he'⟩ := zp he1
        have hbl := Yr hm1
        subst hbl; subst a1
        obtain ⟨N, rfl⟩ : ∃ N : Nat, n' = N := ⟨n'.toNat, by omega⟩
        obtain ⟨k, rfl⟩ : ∃ k : Nat, i = k := ⟨i.toNat, by omega⟩
        simp only [Int.toNat_natCast] at a3 a4 ⊢
        have hu : u = decide (k < N) := by rw [a7]; congr 1; exact propext (by omega)
        subst hu
        obtain ⟨f, met', hf⟩ := Wf a3 a4 (i := k) (by omega) met
        have hfo := qe1 hf
        refine ⟨[(b, 0)], [.agg (dia N d), .agg (dia N e), .int .i64 k, .bool (decide (k < N)), .ptr 0 0], _, _, _, qg3 N d e hd he' a3 a4 hf (by omega) a6, by simp [AV.ren, AV.zh, ofL, qc _ _ (qe _ _)], by simp [vh], ⟨⟨rfl, by simp only [AO.ren, qc _ _ (vp _)]; exact hb⟩, trivial⟩, rfl, ⟨qh _ _ (vp _), trivial⟩, ⟨qh _ _ (qe _ _), qh _ _ (qe _ _), trivial, trivial, by simp [AV.under], trivial⟩, by simp [AV.ren, AV.zh], ?_⟩
        simp [after, upd, AO.wr, AO.ren, qc _ _ (vp _), hfo]
      · cases he
    · cases he
  · cases he
noncomputable def B80 : za := (B79.put 167 (kc))
theorem qb3 : qn Try.prog B80 := (qot.put (qvx))
def Q1 (l : List AV) : Nat := l.countP fun v => match v with | .bool false => true | _ => false
theorem Yq : ∀ {met : List Bool} {k : Nat}, k < met.length → met.getD k false = false → Q1 (bls (met.set k true)) < Q1 (bls met)
  | b :: l, 0, _, h => by
    simp only [List.getD_cons_zero] at h
    subst h
    simp [Q1, bls]
  | b :: l, k + 1, hk, h => by
    have ih := Yq (met := l) (k := k) (by simpa using hk) (by simpa using h)
    simp only [Q1, bls] at ih
    simp only [Q1, bls, List.set_cons_succ, List.map_cons, List.countP_cons]
    omega
theorem qig : ∀ {met : List Bool} {k : Nat}, Q1 (bls (met.set k true)) ≤ Q1 (bls met)
  | [], k => by simp [Q1, bls]
  | b :: l, 0 => by cases b <;> simp [Q1, bls]
  | b :: l, k + 1 => by
    have ih := qig (met := l) (k := k)
    simp only [Q1, bls] at ih
    simp only [Q1, bls, List.set_cons_succ, List.map_cons, List.countP_cons]
    omega
theorem Bd {n : Nat} {d e : List Nat} {r : Nat × Bool × List Bool} : ∀ {f : Nat} {u : Bool} {i : Nat} {met : List Bool}, zs n d e f u i met = some r → r.2.2.length = met.length
  | 0, _, _, _, h => by simp [zs] at h
  | f + 1, true, i, met, h => by
    rw [zs] at h
    split at h
    · cases h; rfl
    · rw [Bd h, List.length_set]
  | f + 1, false, i, met, h => by
    rw [zs] at h
    split at h
    · cases h; rfl
    · rw [Bd h, List.length_set]
theorem qrw {n : Nat} {d e : List Nat} (hd : isS n d = true) (he : isS n e = true) {i : Nat} {u : Bool} (hi : i < 2 * n) (hu : u = decide (i < n)) (met : List Bool) : (fol n d e u i met).length = met.length := by
  subst hu
  obtain ⟨f, met', h⟩ := Wf hd he hi met
  rw [qe1 h]; exact Bd h
def InL (n : Nat) (d e : List Nat) (f g : Nat → Nat) (i x : Nat) (met : List Bool) : Prop :=
  met.length = 8 ∧ ((x = i ∧ ∀ y, mt met y ↔ Seen n d e i y) ∨ ∃ (T : Nat → Prop) (last : Nat), qdz (XX n d e) f g i T last ∧ x = g last ∧ ∀ y, mt met y ↔ Seen n d e i y ∨ T y)
theorem qu0 {n : Nat} {d e : List Nat} {f g : Nat → Nat} (hf : Inv (XX n d e) f) (hg : Inv (XX n d e) g) (hn : n ≤ 8) {i x : Nat} {met : List Bool} (hi : i < n) (h0 : ¬ Seen n d e i i) (h : InL n d e f g i x met) (hx : ¬ mt met x) :
    XX n d e x ∧ XX n d e (f x) ∧ InL n d e f g i (g (f x)) ((met.set x true).set (f x) true) := by
  have hX : XX n d e i := ⟨hi, fun h => h0 (.inl h)⟩
  obtain ⟨hl, h⟩ := h
  have mt2 : ∀ {x y z : Nat}, x < n → y < n → (mt ((met.set x true).set y true) z ↔ z = y ∨ z = x ∨ mt met z) := fun {x y z} h1 h2 => by
    rw [bt (by rw [List.length_set]; omega), bt (by omega)]
  rcases h with ⟨rfl, hm⟩ | ⟨T, last, hT, rfl, hm⟩
  · have hfx := hf.mem _ hX
    refine ⟨hX, hfx, by rw [List.length_set, List.length_set]; exact hl, .inr ⟨_, _, qdz.start hf hX, rfl, fun y => ?_⟩⟩
    rw [mt2 hX.1 hfx.1, hm]
    constructor
    · rintro (h | h | h)
      · exact .inr (.inr h)
      · exact .inr (.inl h)
      · exact .inl h
    · rintro (h | h | h)
      · exact .inr (.inr h)
      · exact .inr (.inl h)
      · exact .inl h
  · have hT' : ¬ T (g last) := fun h => hx ((hm _).2 (.inr h))
    have hgl := hg.mem _ (Ring.mem hf hg hX (hT.ring _ hT.lm))
    have hfx := hf.mem _ hgl
    refine ⟨hgl, hfx, by rw [List.length_set, List.length_set]; exact hl, .inr ⟨_, _, (hT.next hf hg hX hT').1, rfl, fun y => ?_⟩⟩
    rw [mt2 hgl.1 hfx.1, hm]
    constructor
    · rintro (h | h | h | h)
      · exact .inr (.inr (.inl h))
      · exact .inr (.inl h)
      · exact .inl h
      · exact .inr (.inr (.inr h))
    · rintro (h | h | h | h)
      · exact .inr (.inr (.inl h))
      · exact .inr (.inl h)
      · exact .inl h
      · exact .inr (.inr (.inr h))
theorem qwy {n : Nat} {d e : List Nat} (hd : isS n d = true) (he : isS n e = true) {f g : Nat → Nat} (hf : Inv (XX n d e) f) (hg : Inv (XX n d e) g) (hR : ∀ i x, Ring f g i x ↔ Ring (dm n d) (em e) i x) {i x : Nat} {met : List Bool} (hi : i < n) (h0 : ¬ Seen n d e i i) (h : InL n d e f g i x met) (hx : mt met x) :
    ∀ y, mt met y ↔ Seen n d e (i + 1) y := by
  have hX : XX n d e i := ⟨hi, fun h => h0 (.inl h)⟩
  intro y
  rw [ql0 hi h0]
  obtain ⟨hl, ⟨rfl, hm⟩ | ⟨T, last, hT, rfl, hm⟩⟩ := h
  · exact absurd ((hm _).1 hx) h0
  · have hr : Ring f g i (g last) := .two (hT.ring _ hT.lm)
    have hT' : T (g last) := ((hm _).1 hx).resolve_left (W3 hd he hi h0 ((hR _ _).1 hr))
    have hs := (hT.stop hf hg hX hT').2
    rw [hm, hs, hR]
theorem jo : B80 167 = some (kc) := rfl
def Y5 : AT := (.one (oF 17 0 2) (.one (oL 18 17) (.one (o0 19 (.build [(.bool false),(.bool false),(.bool false),(.bool false),(.bool false),(.bool false),(.bool false),(.bool false)] [])) (.one (oF 20 0 2) (.alt (oL 21 20) (.one (o0 22 (.build [.int .i64 0,.int .u8 0,.int .u8 0,.int .u8 0,.int .u8 0,.int .u8 0,.int .u8 0,.int .u8 0,.int .u8 0,.int .u8 0,.int .u8 0,.int .u8 0,.int .u8 0,.int .u8 0,.int .u8 0,.int .u8 0,.int .u8 0] [(0,1,.t 21)])) (.alt (o0 7 (.alloc [(.bool false),(.bool false),(.bool false),(.bool false),(.bool false),(.bool false),(.bool false),(.bool false)])) (.one (oD 8) (.one (oM 6 18) (.one (oS 8 7 19) (.one (oS 17 8 22) (.nil))))) (.alt (oD 8) (.one (o0 7 (.alloc [(.bool false),(.bool false),(.bool false),(.bool false),(.bool false),(.bool false),(.bool false),(.bool false)])) (.one (oM 6 18) (.one (oS 8 7 19) (.one (oS 17 8 22) (.nil))))) (.none)))) (.alt (o0 7 (.alloc [(.bool false),(.bool false),(.bool false),(.bool false),(.bool false),(.bool false),(.bool false),(.bool false)])) (.alt (oL 21 20) (.one (o0 22 (.build [.int .i64 0,.int .u8 0,.int .u8 0,.int .u8 0,.int .u8 0,.int .u8 0,.int .u8 0,.int .u8 0,.int .u8 0,.int .u8 0,.int .u8 0,.int .u8 0,.int .u8 0,.int .u8 0,.int .u8 0,.int .u8 0,.int .u8 0] [(0,1,.t 21)])) (.one (oD 8) (.one (oM 6 18) (.one (oS 8 7 19) (.one (oS 17 8 22) (.nil)))))) (.alt (oD 8) (.one (oM 6 18) (.alt (oL 21 20) (.one (o0 22 (.build [.int .i64 0,.int .u8 0,.int .u8 0,.int .u8 0,.int .u8 0,.int .u8 0,.int .u8 0,.int .u8 0,.int .u8 0,.int .u8 0,.int .u8 0,.int .u8 0,.int .u8 0,.int .u8 0,.int .u8 0,.int .u8 0,.int .u8 0] [(0,1,.t 21)])) (.one (oS 8 7 19) (.one (oS 17 8 22) (.nil)))) (.alt (oS 8 7 19) (.one (oL 21 20) (.one (o0 22 (.build [.int .i64 0,.int .u8 0,.int .u8 0,.int .u8 0,.int .u8 0,.int .u8 0,.int .u8 0,.int .u8 0,.int .u8 0,.int .u8 0,.int .u8 0,.int .u8 0,.int .u8 0,.int .u8 0,.int .u8 0,.int .u8 0,.int .u8 0] [(0,1,.t 21)])) (.one (oS 17 8 22) (.nil)))) (.none)))) (.none))) (.alt (oD 8) (.alt (oL 21 20) (.one (o0 22 (.build [.int .i64 0,.int .u8 0,.int .u8 0,.int .u8 0,.int .u8 0,.int .u8 0,.int .u8 0,.int .u8 0,.int .u8 0,.int .u8 0,.int .u8 0,.int .u8 0,.int .u8 0,.int .u8 0,.int .u8 0,.int .u8 0,.int .u8 0] [(0,1,.t 21)])) (.one (o0 7 (.alloc [(.bool false),(.bool false),(.bool false),(.bool false),(.bool false),(.bool false),(.bool false),(.bool false)])) (.one (oM 6 18) (.one (oS 8 7 19) (.one (oS 17 8 22) (.nil)))))) (.alt (o0 7 (.alloc [(.bool false),(.bool false),(.bool false),(.bool false),(.bool false),(.bool false),(.bool false),(.bool false)])) (.one (oM 6 18) (.alt (oL 21 20) (.one (o0 22 (.build [.int .i64 0,.int .u8 0,.int .u8 0,.int .u8 0,.int .u8 0,.int .u8 0,.int .u8 0,.int .u8 0,.int .u8 0,.int .u8 0,.int .u8 0,.int .u8 0,.int .u8 0,.int .u8 0,.int .u8 0,.int .u8 0,.int .u8 0] [(0,1,.t 21)])) (.one (oS 8 7 19) (.one (oS 17 8 22) (.nil)))) (.alt (oS 8 7 19) (.one (oL 21 20) (.one (o0 22 (.build [.int .i64 0,.int .u8 0,.int .u8 0,.int .u8 0,.int .u8 0,.int .u8 0,.int .u8 0,.int .u8 0,.int .u8 0,.int .u8 0,.int .u8 0,.int .u8 0,.int .u8 0,.int .u8 0,.int .u8 0,.int .u8 0,.int .u8 0] [(0,1,.t 21)])) (.one (oS 17 8 22) (.nil)))) (.none)))) (.none))) (.none))))))))
def Xu : AC := .seq (.seq (.region [oM 23 9,oM 24 6,oP 25 .lss 23 24]) (.cond 25 .skip (.exit 0))) (.seq (.block 1 (.seq (.region [oN 29 17 2,oN 30 17 3,oM 31 9,oC 32 167 [.t 29,.t 30,.t 31,(.c (.bool true)),.t 7],oM 28 32,oE 33 0 28,oE 34 1 28,oM 10 33,oM 11 34]) (.seq (.region [oM 35 9,oM 36 10,o0 37 (.conv .u8 (.t 36)),oF 38 1 8,o0 39 (.xp 16 1 (.t 38) (.t 35)),oT 39 37]) (.seq (.region [oN 41 17 2,oN 42 17 3,oM 43 6,oM 44 9,oP 45 .add 43 44,oC 46 167 [.t 41,.t 42,.t 45,(.c (.bool false)),.t 7],oM 40 46,oE 47 0 40,oE 48 1 40,oM 12 47,oM 13 48]) (.region [oM 49 6,oM 50 9,oP 51 .add 49 50,oM 52 12,o0 53 (.conv .u8 (.t 52)),oF 54 1 8,o0 55 (.xp 16 1 (.t 54) (.t 51)),oT 55 53]))))) (.region [oM 26 9,oK 27 .add 26 1,oM 9 27]))
def Xs : AC := .seq (.seq (.region [oM 67 16,o0 68 (.xp 8 1 (.t 7) (.t 67)),oL 69 68,o0 70 (.un .not (.t 69))]) (.cond 70 .skip (.exit 4))) (.block 5 (.seq (.region [oM 71 16,o0 72 (.xp 8 1 (.t 7) (.t 71)),⟨none,none,.op (.Qz (.t 72) (.c (.bool true)))⟩]) (.seq (.region [oM 73 6,oM 74 16,oP 75 .add 73 74,oF 76 1 2,o0 77 (.xp 16 1 (.t 76) (.t 75)),oL 78 77,o0 79 (.conv .i64 (.t 78)),oM 80 6,oP 81 .sub 79 80,oM 16 81]) (.seq (.region [oM 82 16,o0 83 (.xp 8 1 (.t 7) (.t 82)),⟨none,none,.op (.Qz (.t 83) (.c (.bool true)))⟩]) (.region [oM 84 16,oF 85 1 3,o0 86 (.xp 16 1 (.t 85) (.t 84)),oL 87 86,o0 88 (.conv .i64 (.t 87)),oM 16 88])))))
def Xl : AC := .region [oM 59 15,oK 60 .add 59 1,oM 15 60]
def ky : AC := .seq (.seq (.region [oM 56 15,oM 57 6,oP 58 .lss 56 57]) (.cond 58 .skip (.exit 2))) (.seq (.block 3 (.seq (.seq (.region [oM 61 15,o0 62 (.xp 8 1 (.t 7) (.t 61)),oL 63 62]) (.cond 63 (.exit 3) .skip)) (.seq (.region [oM 64 14,oK 65 .add 64 1,oM 14 65]) (.seq (.region [oM 66 15,oM 16 66]) (.block 4 (.loop Xs)))))) Xl)
def Y4 : AC := .seq (.region [oN 89 17 8,oM 90 14,oS 17 4 89,oM 5 90]) .ret
def Ua : AC := .seq (.region [oI 14 0]) (.seq (.seq (.region [oI 15 0]) (.block 2 (.loop ky))) Y4)
def Y8 : AC := .seq (.seq (.region [oI 9 0]) (.block 0 (.loop Xu))) Ua
def qav : AC := .seq (.region [o0 2 (.box (.t 0)),o0 3 (.box (.t 1)),oD 4,oI 5 0]) (.seq (.tree false Y5) Y8)
theorem qjo : zr Try.prog 140 = some ⟨91, qav, [.Qj 4 17, .slot 5]⟩ := by kernel_rfl
theorem qjs (N : Nat) (d e : List Nat) (hd : okD d) (he : okD e) (hds : isS N d = true) (hes : isS N e = true) :
    Am.Fn Try.prog 140 [.agg (dia N d), .agg (dia N e)] [] (fun v H' => v = .tup [.agg (dia N (ja N d e)), .int .i64 (lpN N d e N : Nat)] ∧ H' = []) := by
  refine Am.Fn.jd (R := fun v => v = _) qb3 mixed qjo (by simp) (by simp) ?_
  obtain ⟨hN, hpd, _⟩ := je hds
  obtain ⟨_, hpe, _⟩ := je hes
  have hdl := hd.1
  have hel := he.1
  have hb8 : [AV.bool false, .bool false, .bool false, .bool false, .bool false, .bool false, .bool false, .bool false] = bls (List.replicate 8 false) := rfl
  simp (maxSteps := 3000000) only [qg, zH, qav, zn, xy, qb, hdl, hel, vg, iE, iN, iB, iC, iL, iD, iA, iS, iM, qa, zZ, ↓qo, ↓reduceIte, reduceCtorEq, nA, nM, nS, nE, nL, nD]; try simp only [qa, zY]
  refine WA.qvi qb3 (fun s => s = ⟨[(8, .ptr 4 0), (7, .ptr 3 0), (6, .int .i64 N), (5, .int .i64 0), (4, .ptr 2 0), (3, .ptr 1 0), (2, .ptr 0 0)], [.cells (dia N d), .cells (dia N e), .cells (dia 0 (List.replicate 16 0)), .cells (bls (List.replicate 8 false)), .cells (dia N (List.replicate 16 0))]⟩) ?_ ?_
  · have hov8 : over (bls (List.replicate 8 false)) 0 (bls (List.replicate 8 false)) = bls (List.replicate 8 false) := rfl
    have hl8 : (bls (List.replicate 8 false)).length = 8 := rfl
    have ho8 : (bls (List.replicate 8 false)).all AV.one = true := rfl
    unfold Y5
    simp (maxSteps := 3000000) only [qg, zH, qf0, qiu, hb8, hov8, hl8, ho8, zn, xy, Zq, qb, hdl, hel, vg, ze, zy qw qw, List.length_replicate, Nat.le_refl, iE, iN, iB, iC, iL, iD, iA, iS, iM, qa, zZ, ↓qo, ↓reduceIte, reduceCtorEq, nA, nM, nS, nE, nL, nD]; try simp only [qa, zY]
    repeat' (with_reducible refine And.intro ?_ ?_)
    all_goals first
      | exact ⟨_, qz.qx [8, 7, 6, 5, 4, 3, 2], rfl⟩
      | (refine ⟨_, qz.ve [0, 1, 2, 4, 3] [8, 7, 6, 5, 4, 3, 2] ⟨by decide, ?_⟩ ?_, ?_⟩
         · simp only [qk _ _ (qe _ _), qk _ _ (vp _), zK, ↓reduceIte, reduceCtorEq, nE, nB, nA]
         · simp only [qk _ _ (qe _ _), qk _ _ (vp _), zK, ↓reduceIte, reduceCtorEq, nE, nB, nA]
         · simp only [qc _ _ (qe _ _), qc _ _ (vp _), zL, ↓reduceIte, reduceCtorEq, nE, nA])
  rintro s rfl
  simp (maxSteps := 3000000) only [qg, zH, Y8, iE, iN, iB, iC, iL, iD, iA, iS, iM, qa, zZ, ↓qo, ↓reduceIte, reduceCtorEq, nA, nM, nS, nE, nL, nD]; try simp only [qa, zY]
  refine WA.jn qb3 (fun s => ∃ k : Nat, k ≤ N ∧ s = ⟨[(9, .int .i64 k), (8, .ptr 4 0), (7, .ptr 3 0), (6, .int .i64 N), (5, .int .i64 0), (4, .ptr 2 0), (3, .ptr 1 0), (2, .ptr 0 0)], [.cells (dia N d), .cells (dia N e), .cells (dia 0 (List.replicate 16 0)), .cells (bls (qd7 N d e k)), .cells (dia N (Wv N d e k))]⟩)
    (fun s => match get s.env 9 with | .int _ x => N - x.toNat | _ => 0) ⟨_, qz.qx [9, 8, 7, 6, 5, 4, 3, 2], 0, by omega, rfl⟩ ?_
  rintro s ⟨k, hk, rfl⟩
  have hw : qu .i64 ((k : Int) + 1) = ((k + 1 : Nat) : Int) := by rw [wrap64 (by omega) (by omega)]; rfl
  by_cases hlt : k < N
  · have hli : (k : Int) < (N : Int) := by omega
    have hk16 := yi N d e k
    have hmk := (Jb hds hes k hk).len
    have hx1 := qc8 hds hes (i := k) (by omega)
    have hx2 := qc8 hds hes (i := N + k) (by omega)
    have u1 : qu .u8 ((pr N d e k : Nat) : Int) = ((pr N d e k : Nat) : Int) := Uz (by omega)
    have u2 : qu .u8 ((pr N d e (N + k) : Nat) : Int) = ((pr N d e (N + k) : Nat) : Int) := Uz (by omega)
    have hadd : qu .i64 ((N : Int) + (k : Int)) = ((N + k : Nat) : Int) := by rw [wrap64 (by omega) (by omega)]; rfl
    obtain ⟨c1, c2⟩ := kg (show k < 16 by omega)
    obtain ⟨c3, c4⟩ := kg (show N + k < 16 by omega)
    have c5 : k < 16 := by omega
    have c6 : N + k < 16 := by omega
    have k1 : (0 : Int) ≤ (k : Int) ∧ (k : Int) < 2 * (N : Int) := by omega
    have k2 : (0 : Int) ≤ ((N + k : Nat) : Int) ∧ ((N + k : Nat) : Int) < 2 * (N : Int) := by omega
    have q1 : (true = decide ((k : Int) < (N : Int))) = True := by simp [hlt]
    have q2 : (false = decide (((N + k : Nat) : Int) < (N : Int))) = True := by simp; omega
    have hf1 : (fol N d e true k (qd7 N d e k)).length = 8 := by rw [qrw hds hes (by omega) (by simp [hlt])]; exact hmk
    have q0 : (0 : Int) ≤ (N : Int) := by omega
    have hdo := qq (n := (N : Int)) hd
    have heo := qq (n := (N : Int)) he
    simp (maxSteps := 3000000) only [qg, zH, Xu, jo, kc, hw, hli, qb, hdl, hel, qt hdl, qt hel, hdo, heo, Up, Int.toNat_natCast, hds, hes, k1, k2, q0, q1, q2, hmk, hf1, u1, u2, hadd, c1, c2, c3, c4, c5, c6, hk16, qau, List.length_set, vv, AV.one, and_self, true_and, and_true, iE, iN, iB, iC, iL, iD, iA, iS, iM, qa, zZ, ↓qo, ↓reduceIte, reduceCtorEq, nA, nM, nS, nE, nL, nD]; try simp only [qa, zY]
    refine ⟨_, qz.qx [9, 8, 7, 6, 5, 4, 3, 2], ⟨k + 1, by omega, ?_⟩, ?_⟩
    · simp only [zL, ↓reduceIte, reduceCtorEq, nE, nA]
      rfl
    · simp only [zL, ↓reduceIte, reduceCtorEq, nE, nA]; omega
  have hli : ¬ (k : Int) < (N : Int) := by omega
  obtain rfl : k = N := by omega
  simp (maxSteps := 3000000) only [qg, zH, Xu, Ua, jo, kc, hli, Int.lt_irrefl, iE, iN, iB, iC, iL, iD, iA, iS, iM, qa, zZ, ↓qo, ↓reduceIte, reduceCtorEq, nA, nM, nS, nE, nL, nD]; try simp only [qa, zY]
  refine WA.jn qb3 (fun s => ∃ (i : Nat) (met : List Bool), i ≤ k ∧ (met.length = 8 ∧ ∀ x, mt met x ↔ Seen k d e i x) ∧ s = ⟨[(15, .int .i64 i), (14, .int .i64 (lpN k d e i : Nat)), (8, .ptr 4 0), (7, .ptr 3 0), (6, .int .i64 k), (5, .int .i64 0), (4, .ptr 2 0), (3, .ptr 1 0), (2, .ptr 0 0)], [.cells (dia k d), .cells (dia k e), .cells (dia 0 (List.replicate 16 0)), .cells (bls met), .cells (dia k (ja k d e))]⟩)
    (fun s => match get s.env 15 with | .int _ x => k - x.toNat | _ => 0) ⟨_, qz.qx [15, 14, 8, 7, 6, 5, 4, 3, 2], 0, qd7 k d e k, by omega, ⟨(Jb hds hes k (Nat.le_refl _)).len, fun x => ⟨.inl, fun h => h.elim id fun ⟨j, hj, _⟩ => absurd hj (Nat.not_lt_zero _)⟩⟩, rfl⟩ ?_
  clear hlt hli hw
  rintro s ⟨i, met, hi, ⟨hml, hmt⟩, rfl⟩
  have hw : qu .i64 ((i : Int) + 1) = ((i + 1 : Nat) : Int) := by rw [wrap64 (by omega) (by omega)]; rfl
  have hle := qgi k d e i
  have hw2 : qu .i64 (((lpN k d e i : Nat) : Int) + 1) = ((lpN k d e i + 1 : Nat) : Int) := by rw [wrap64 (by omega) (by omega)]; rfl
  by_cases hlt : i < k
  · have hli : (i : Int) < (k : Int) := by omega
    have g1 := V6 (show i < 8 by omega)
    have g2 : i < 8 := by omega
    have g3 := qqj (l := met) (i := i) (by omega)
    by_cases hs : Seen k d e i i
    · have hm1 : met.getD i false = true := (hmt i).2 hs
      simp (maxSteps := 3000000) only [qg, zH, ky, Xl, jo, kc, hw, hli, g1, g2, g3, hm1, vv, hml, iE, iN, iB, iC, iL, iD, iA, iS, iM, qa, zZ, ↓qo, ↓reduceIte, reduceCtorEq, nA, nM, nS, nE, nL, nD]; try simp only [qa, zY]
      refine ⟨_, qz.qx [15, 14, 8, 7, 6, 5, 4, 3, 2], ⟨i + 1, met, by omega, ⟨hml, fun x => by rw [hmt, qnb hds hes hs]⟩, ?_⟩, ?_⟩
      · simp only [zL, ↓reduceIte, reduceCtorEq, nE, nA]
        simp only [lpN, if_pos hs]
      · simp only [zL, ↓reduceIte, reduceCtorEq, nE, nA]; omega
    · have hm1 : met.getD i false = false := by
        cases h : met.getD i false with
        | false => rfl
        | true => exact absurd ((hmt i).1 h) hs
      simp (maxSteps := 3000000) only [qg, zH, ky, jo, kc, hw, hw2, hli, g1, g2, g3, hm1, vv, hml, iE, iN, iB, iC, iL, iD, iA, iS, iM, qa, zZ, ↓qo, ↓reduceIte, reduceCtorEq, nA, nM, nS, nE, nL, nD]; try simp only [qa, zY]
      refine WA.jn qb3 (fun s => ∃ (x : Nat) (mm : List Bool), InL k d e (dm k d) (em e) i x mm ∧ s = ⟨[(16, .int .i64 x), (15, .int .i64 i), (14, .int .i64 (lpN k d e i + 1 : Nat)), (8, .ptr 4 0), (7, .ptr 3 0), (6, .int .i64 k), (5, .int .i64 0), (4, .ptr 2 0), (3, .ptr 1 0), (2, .ptr 0 0)], [.cells (dia k d), .cells (dia k e), .cells (dia 0 (List.replicate 16 0)), .cells (bls mm), .cells (dia k (ja k d e))]⟩)
        (fun s : St => match s.hp[3]? with | some (AO.cells l) => Q1 l | _ => 0) ⟨_, qz.qx [16, 15, 14, 8, 7, 6, 5, 4, 3, 2], i, met, ⟨hml, .inl ⟨rfl, hmt⟩⟩, rfl⟩ ?_
      rintro s ⟨x, mm, hin, rfl⟩
      have hmm := hin.1
      have hdi := Kq hds hes
      have hei := Kx hds hes
      have hxk : x < k := by
        rcases hin.2 with ⟨rfl, _⟩ | ⟨T, last, hT, rfl, _⟩
        · exact hlt
        · exact (hei.mem _ (Ring.mem hdi hei ⟨hlt, fun h => hs (.inl h)⟩ (hT.ring _ hT.lm))).1
      have g4 := V6 (show x < 8 by omega)
      have g5 : x < 8 := by omega
      have g6 := qqj (l := mm) (i := x) (by omega)
      by_cases hmx : mm.getD x false = true
      · have hst := qwy hds hes hdi hei (fun _ _ => Iff.rfl) hlt hs hin hmx
        simp (maxSteps := 3000000) only [qg, zH, Xs, Xl, jo, kc, hw, g4, g5, g6, hmx, vv, hmm, Bool.not_true, iE, iN, iB, iC, iL, iD, iA, iS, iM, qa, zZ, ↓qo, ↓reduceIte, reduceCtorEq, nA, nM, nS, nE, nL, nD]; try simp only [qa, zY]
        refine ⟨_, qz.qx [15, 14, 8, 7, 6, 5, 4, 3, 2], ⟨i + 1, mm, by omega, ⟨hmm, hst⟩, ?_⟩, ?_⟩
        · simp only [zL, ↓reduceIte, reduceCtorEq, nE, nA]
          simp only [lpN, if_neg hs]
        · simp only [zL, ↓reduceIte, reduceCtorEq, nE, nA]; omega
      · obtain ⟨y1, y2, y3⟩ := qu0 hdi hei (by omega) hlt hs hin hmx
        have hmx' : mm.getD x false = false := by simpa using hmx
        obtain ⟨z1, z2, z3⟩ := qip hds hes y1
        have hdx : dm k d x = d.getD (k + x) 0 - k := rfl
        have hyk := y2.1
        have hadd : qu .i64 ((k : Int) + (x : Int)) = ((k + x : Nat) : Int) := by rw [wrap64 (by omega) (by omega)]; rfl
        obtain ⟨c3, c4⟩ := kg (show k + x < 16 by omega)
        have c6 : k + x < 16 := by omega
        obtain ⟨c7, c8⟩ := kg (show dm k d x < 16 by omega)
        have c9 : dm k d x < 16 := by omega
        have g7 := V6 (show dm k d x < 8 by omega)
        have g8 : dm k d x < 8 := by omega
        have d1 := Vm (n := (k : Int)) (m := d) (i := k + x) (by omega)
        have d2 := Vm (n := (k : Int)) (m := e) (i := dm k d x) (by omega)
        have v1 : qu .i64 ((d.getD (k + x) 0 : Nat) : Int) = ((d.getD (k + x) 0 : Nat) : Int) := yf (by omega)
        have v2 : qu .i64 (((d.getD (k + x) 0 : Nat) : Int) - (k : Int)) = ((dm k d x : Nat) : Int) := by rw [wrap64 (by omega) (by omega)]; omega
        have v3 : qu .i64 ((e.getD (dm k d x) 0 : Nat) : Int) = ((e.getD (dm k d x) 0 : Nat) : Int) := yf (by have := qip hds hes y2; omega)
        simp (maxSteps := 3000000) only [qg, zH, Xs, jo, kc, g4, g5, g6, g7, g8, hmx', vv, qeb, hmm, List.length_set, hadd, c3, c4, c6, c7, c8, c9, d1, d2, v1, v2, v3, qb, hdl, hel, AV.one, Bool.not_false, iE, iN, iB, iC, iL, iD, iA, iS, iM, qa, zZ, ↓qo, ↓reduceIte, reduceCtorEq, nA, nM, nS, nE, nL, nD]; try simp only [qa, zY]
        refine ⟨_, qz.qx [16, 15, 14, 8, 7, 6, 5, 4, 3, 2], ⟨_, _, y3, ?_⟩, ?_⟩
        · simp only [zL, ↓reduceIte, reduceCtorEq, nE, nA]
          rfl
        · simp only [zL, ↓reduceIte, reduceCtorEq, nE, nA]
          have h1 := Yq (met := mm) (k := x) (by omega) hmx'
          have h2 := qig (met := mm.set x true) (k := dm k d x)
          omega
  · have hli : ¬ (i : Int) < (k : Int) := by omega
    obtain rfl : i = k := by omega
    have hk16 := yi i d e i
    have hk16' : (ja i d e).length = 16 := hk16
    simp (maxSteps := 3000000) only [qg, zH, ky, Y4, jo, kc, hli, qb, hk16', qt hk16', zy qw hk16', ze, List.length_replicate, Int.lt_irrefl, iE, iN, iB, iC, iL, iD, iA, iS, iM, qa, zZ, ↓qo, ↓reduceIte, reduceCtorEq, nA, nM, nS, nE, nL, nD]; try simp only [qa, zY]
    simp only [qe, Bool.and_self]
noncomputable def jv : List AV → Option AV
  | [.agg ld, .agg le] => match ui ld, ui le with
    | some (n, d), some (n', e) => chk ((n' = n ∧ 0 ≤ n) ∧ isS n.toNat d = true ∧ isS n.toNat e = true) (some (.tup [.agg (dia n (ja n.toNat d e)), .int .i64 (lpN n.toNat d e n.toNat : Nat)]))
    | _, _ => none
  | _ => none
theorem qgf {f : FuncId} (h : ∀ (N : Nat) d e, okD d → okD e → isS N d = true → isS N e = true → Am.Fn Try.prog f [.agg (dia N d), .agg (dia N e)] [] (fun v H' => v = .tup [.agg (dia N (ja N d e)), .int .i64 (lpN N d e N : Nat)] ∧ H' = [])) : Am.Callee Try.prog f (qm jv) := Am.Callee.plain fun xs v he => by
  unfold jv at he
  split at he
  · rename_i ld le
    split at he
    · rename_i n d n' e hd1 he1
      obtain ⟨⟨⟨a1, a2⟩, a3, a4⟩, he2⟩ := ql he
      cases he2
      obtain ⟨rfl, hd⟩ := zp hd1
      obtain ⟨rfl, he'⟩ := zp he1
      subst a1
      obtain ⟨N, rfl⟩ : ∃ N : Nat, n' = N := ⟨n'.toNat, by omega⟩
      simp only [Int.toNat_natCast] at a3 a4 ⊢
      exact ⟨by simp [AV.zb, AV.zl, qe], by simp [AV.zb, AV.zl, qe], h N d e hd he' a3 a4⟩
    · cases he
  · cases he
noncomputable def B81 : za := (B80.put 140 (qm jv))
theorem qjj : qn Try.prog B81 := (qb3.put (qgf qjs))
def qc6 : AC := .skip
theorem qkg : zr Try.prog 171 = some ⟨4, qc6, []⟩ := by kernel_rfl
theorem qko (b : Bool) (i : Int) : Am.Fn Try.prog 171 [.bool b, .int .i64 i] [] (fun v H' => v = .tup [] ∧ H' = []) := by
  refine Am.Fn.jd (R := fun v => v = _) qjj mixed qkg (by simp) (by simp) ?_
  simp (maxSteps := 3000000) only [qg, zH, qc6, qa, iE, iN, iB, iC, iL, iD, iA, iS, iM, qa, zZ, ↓qo, ↓reduceIte, reduceCtorEq, nA, nM, nS, nE, nL, nD]; try simp only [qa, zY]
def kn : List AV → Option AV
  | [.bool _, .int .i64 _] => some (.tup [])
  | _ => none
theorem q2h : Am.Callee Try.prog 171 (qm kn) := Am.Callee.plain fun xs v he => by
  unfold kn at he
  split at he
  · cases he; exact ⟨rfl, rfl, qko _ _⟩
  · cases he
def qdb : AC := .region [oM 5 0,oM 6 1,o0 7 (.conv .u8 (.t 6)),oF 8 1 2,o0 9 (.xp 16 1 (.t 8) (.t 5)),oT 9 7]
theorem qk1 : zr Try.prog 172 = some ⟨10, qdb, []⟩ := by kernel_rfl
theorem qny (n : Int) (m : List Nat) (hm : m.length = 16) (i v : Nat) (hi : i < 16) (hv : v < 256) : Am.Fn Try.prog 172 [.int .i64 i, .int .i64 v, .ptr 0 0] [.cells (dia n m)] (fun r H' => r = .tup [] ∧ H' = [.cells (dia n (m.set i v))]) := by
  refine Am.Fn.ofB qjj mixed qk1 (by simp [AV.qy, AV.under]) (fun j o hj => by
    match j, hj with
    | 0, hj => cases hj; exact qh _ _ (qe _ _)
    | j + 1, hj => simp at hj) ?_
  obtain ⟨c1, c2⟩ := kg hi
  have c3 : i < 16 := hi
  have hw : qu .u8 (v : Int) = (v : Int) := Uz hv
  simp (maxSteps := 3000000) only [qg, zH, qdb, qa, qb, hm, qau, c1, c2, c3, hw, AV.one, iE, iN, iB, iC, iL, iD, iA, iS, iM, qa, zZ, ↓qo, ↓reduceIte, reduceCtorEq, nA, nM, nS, nE, nL, nD]; try simp only [qa, zY]
  refine Ret.ve [0] ⟨⟨Nat.le_refl 1, rfl, by decide⟩, ?_⟩ (rs := []) rfl rfl (by simp [xw]) ?_ ⟨rfl, ?_⟩
  · simp only [qk _ _ (qe _ _), zK, ↓reduceIte, reduceCtorEq, nE, nB, nA]
  · intro j l; cases j <;> simp [zi, AO.ren]
  · simp only [qc _ _ (qe _ _), zL, ↓reduceIte, reduceCtorEq, nE, nA]
def Y1 : BE := fun hp xs => match xs with
  | [.int .i64 i, .int .i64 v, .ptr b 0] => match hp[b]? with
    | some (.cells l) => match ui l with
      | some (n, m) => chk ((0 ≤ i ∧ i < 16) ∧ 0 ≤ v ∧ v < 256) (some (.tup [], hp.set b (.cells (dia n (m.set i.toNat v.toNat)))))
      | none => none
    | _ => none
  | _ => none
theorem q5x : Am.Callee Try.prog 172 Y1 := Callee.fp fun hp xs v hp' he => by
  unfold Y1 at he
  split at he
  · rename_i i v b
    split at he
    · rename_i l hb
      split at he
      · rename_i n m hd1
        obtain ⟨⟨⟨a1, a2⟩, a3, a4⟩, he2⟩ := ql he
        simp only [Option.some.injEq, Prod.mk.injEq] at he2
        obtain ⟨rfl, rfl⟩ := he2
        obtain ⟨rfl, hd⟩ := zp hd1
        obtain ⟨k, rfl⟩ : ∃ k : Nat, i = k := ⟨i.toNat, by omega⟩
        obtain ⟨w, rfl⟩ : ∃ w : Nat, v = w := ⟨v.toNat, by omega⟩
        simp only [Int.toNat_natCast]
        refine ⟨[(b, 0)], [.int .i64 k, .int .i64 w, .ptr 0 0], _, _, _, qny n m hd.1 k w (by omega) (by omega), by simp [AV.ren, AV.zh, ofL], by simp [vh], ⟨⟨rfl, by simp only [AO.ren, qc _ _ (qe _ _)]; exact hb⟩, trivial⟩, rfl, ⟨qh _ _ (qe _ _), trivial⟩, ⟨trivial, trivial, by simp [AV.under], trivial⟩, by simp [AV.ren, AV.zh], ?_⟩
        simp [after, upd, AO.wr, AO.ren, qc _ _ (qe _ _)]
      · cases he
    · cases he
  · cases he
def qc2 : AC := .region [oL 1 0,oK 2 .add 1 1,oT 0 2]
theorem qng : zr Try.prog 173 = some ⟨3, qc2, []⟩ := by kernel_rfl
theorem qnu (k : Nat) (hk : k ≤ 1000) : Am.Fn Try.prog 173 [.ptr 0 0] [.cells [.int .i64 k]] (fun r H' => r = .tup [] ∧ H' = [.cells [.int .i64 (k + 1 : Nat)]]) := by
  refine Am.Fn.ofB qjj mixed qng (by simp [AV.qy, AV.under]) (fun j o hj => by
    match j, hj with
    | 0, hj => cases hj; exact ⟨trivial, trivial⟩
    | j + 1, hj => simp at hj) ?_
  have hw : qu .i64 ((k : Int) + 1) = ((k + 1 : Nat) : Int) := by rw [wrap64 (by omega) (by omega)]; rfl
  simp (maxSteps := 3000000) only [qg, zH, qc2, qa, hw, AV.one, iE, iN, iB, iC, iL, iD, iA, iS, iM, qa, zZ, ↓qo, ↓reduceIte, reduceCtorEq, nA, nM, nS, nE, nL, nD]; try simp only [qa, zY]
  refine Ret.ve [0] ⟨⟨Nat.le_refl 1, rfl, by decide⟩, ?_⟩ (rs := []) rfl rfl (by simp [xw]) ?_ ⟨rfl, ?_⟩
  · simp only [qk _ _ (qe _ _), zK, ↓reduceIte, reduceCtorEq, nE, nB, nA]
  · intro j l; cases j <;> simp [zi, AO.ren]
  · simp only [qc _ _ (qe _ _), zL, ↓reduceIte, reduceCtorEq, nE, nA]
def bf : BE := fun hp xs => match xs with
  | [.ptr b 0] => match hp[b]? with
    | some (.cells [.int .i64 k]) => chk (0 ≤ k ∧ k ≤ 1000) (some (.tup [], hp.set b (.cells [.int .i64 (k + 1)])))
    | _ => none
  | _ => none
theorem qx2 : Am.Callee Try.prog 173 bf := Callee.fp fun hp xs v hp' he => by
  unfold bf at he
  split at he
  · rename_i b
    split at he
    · rename_i k hb
      obtain ⟨⟨a1, a2⟩, he2⟩ := ql he
      simp only [Option.some.injEq, Prod.mk.injEq] at he2
      obtain ⟨rfl, rfl⟩ := he2
      obtain ⟨k', rfl⟩ : ∃ k' : Nat, k = k' := ⟨k.toNat, by omega⟩
      refine ⟨[(b, 0)], [.ptr 0 0], _, _, _, qnu k' (by omega), by simp [AV.ren, AV.zh, ofL], by simp [vh], ⟨⟨rfl, by simp only [AO.ren, AV.zh, AV.ren]; exact hb⟩, trivial⟩, rfl, ⟨⟨trivial, trivial⟩, trivial⟩, ⟨by simp [AV.under], trivial⟩, by simp [AV.ren, AV.zh], ?_⟩
      simp [after, upd, AO.wr, AO.ren, AV.zh, AV.ren]
    · cases he
  · cases he
noncomputable def B82 : za := (((B81.put 171 (qm kn)).put 172 (Y1)).put 173 (bf))
theorem qe4 : qn Try.prog B82 := (((qjj.put (q2h)).put (q5x)).put (qx2))
def stk (a b : Nat) (met : List Bool) : List AV := .ptr a 0 :: .ptr b 0 :: (bls met ++ [.fn 171 [] []])
theorem wo {a b : Nat} {met : List Bool} : (stk a b met).length = met.length + 3 := by simp [stk, vv]
theorem Q7 {a b : Nat} {met : List Bool} : (stk a b met)[0]? = some (.ptr a 0) := rfl
theorem Qv {a b : Nat} {met : List Bool} : (stk a b met)[1]? = some (.ptr b 0) := rfl
theorem Zy {a b : Nat} {met : List Bool} (h : met.length = 8) : (stk a b met)[10]? = some (.fn 171 [] []) := by
  simp [stk, List.getElem?_append, vv, h]
theorem qa4 {a b : Nat} {met : List Bool} {i : Nat} {v : Bool} (h : met.length = 8) (hi : i < 8) : (stk a b met).set (2 + i) (.bool v) = stk a b (met.set i v) := by
  rw [Nat.add_comm]
  simp [stk, List.set_append, vv, h, hi, qeb]
theorem qzz {a b : Nat} {met : List Bool} {i : Nat} (h : met.length = 8) (hi : i < 8) : (stk a b met)[2 + i]? = some (.bool (met.getD i false)) := by
  rw [Nat.add_comm]
  simp [stk, List.getElem?_append, vv, h, hi, bls]
theorem qop {n : Nat} (met : List Bool) : AV.qy n (bls met) := qh _ _ (vp _)
theorem qmn {ρ : Ren} : ∀ (l l' : List AV), AV.zh ρ (l ++ l') = AV.zh ρ l ++ AV.zh ρ l'
  | [], _ => rfl
  | a :: l, l' => by simp [AV.zh, qmn l l']
theorem qdi {n : Nat} : ∀ (l l' : List AV), AV.qy n l → AV.qy n l' → AV.qy n (l ++ l')
  | [], _, _, h => h
  | a :: l, l', h, h' => ⟨h.1, qdi l l' h.2 h'⟩
theorem qad {ids : List Nat} : ∀ (l l' : List AV), AV.xr ids l = true → AV.xr ids l' = true → AV.xr ids (l ++ l') = true
  | [], _, _, h => h
  | a :: l, l', h, h' => by
    simp only [AV.xr, List.cons_append, Bool.and_eq_true] at h ⊢
    exact ⟨h.1, qad l l' h.2 h'⟩
theorem V9 {ρ : Ren} {a b : Nat} {met : List Bool} : AV.zh ρ (stk a b met) = (AV.ptr a 0).ren ρ :: (AV.ptr b 0).ren ρ :: (bls met ++ [.fn 171 [] []]) := by
  simp only [stk, AV.zh, qmn, qc _ _ (vp met)]
  simp [AV.zh, AV.ren]
theorem qh2 {n a b : Nat} {met : List Bool} (h1 : a < n) (h2 : b < n) : AV.qy n (stk a b met) := ⟨h1, h2, qdi _ _ (qop _) ⟨⟨trivial, trivial⟩, trivial⟩⟩
theorem qqz {x N : Nat} (h1 : N ≤ x) (h2 : x < 2 * N) : Int.tmod (x : Int) (N : Int) = ((x - N : Nat) : Int) := by
  show ((x % N : Nat) : Int) = _
  rw [Nat.mod_eq_sub_mod h1, Nat.mod_eq_of_lt (by omega)]
theorem qrx {x N : Nat} (h1 : x < N) : Int.tmod (x : Int) (N : Int) = (x : Int) := by
  show ((x % N : Nat) : Int) = _
  rw [Nat.mod_eq_of_lt h1]
theorem Ku {met : List Bool} : AV.xr [0, 1, 2] (stk 1 2 met) = true := by
  have h : AV.xr [0, 1, 2] (bls met ++ [.fn 171 [] []]) = true := qad _ _ (qk _ _ (vp _)) rfl
  simp [stk, AV.xr, AV.within, h]
theorem ro3 {m m' l1 l2 : List AV} {hp : List AO} : ∀ (j : Nat) (l : List AV), (zi [0, 1, 2] (.cells m :: .ro l1 :: .ro l2 :: hp))[j]? = some (AO.ro l) → ∃ l', ([.cells m', .ro l1, .ro l2] : List AO)[j]? = some (AO.ro l')
  | 0, l, h => by simp [zi, AO.ren] at h
  | 1, l, h => ⟨_, rfl⟩
  | 2, l, h => ⟨_, rfl⟩
  | j + 3, l, h => by simp [zi] at h
def H3 (N : Nat) (d e : List Nat) (met : List Bool) : List AO := [.cells (stk 1 2 met), .ro (dia N d), .ro (dia N e)]
theorem qlo {N : Nat} {d e : List Nat} {met : List Bool} : ∀ (j : Nat) (o : AO), (H3 N d e met)[j]? = some o → o.under 3 := fun j o hj => by
  match j, hj with
  | 0, hj => cases hj; exact qh2 (by omega) (by omega)
  | 1, hj => cases hj; exact qh _ _ (qe _ _)
  | 2, hj => cases hj; exact qh _ _ (qe _ _)
  | j + 3, hj => simp [H3] at hj
theorem wq : B82 168 = some (Z4 1 g_n) := rfl
theorem y8 : B82 171 = some (qm kn) := rfl
def xv : AC := .block 1 (.seq (.region [oM 17 0,o0 18 (.ju (.t 17)),oF 19 0 18,oL 20 19,oM 10 20]) (.seq (.seq (.region [oM 21 1]) (.cond 21 (.region [oM 22 0,o0 23 (.ju (.t 22)),oF 24 1 23,oL 25 24,oM 10 25]) .skip)) (.seq (.region [oM 26 0,o0 27 (.ju (.t 26)),oF 28 10 27,oL 29 28,oM 30 1,oM 31 2,⟨some 32,none,.call (.t 29) [.t 30,.t 31]⟩]) (.seq (.region [oM 33 10,oM 34 2,o0 35 (.ju (.t 33)),oF 36 1 35,o0 37 (.xp 16 1 (.t 36) (.t 34)),oL 38 37,o0 39 (.conv .i64 (.t 38)),oM 2 39]) (.seq (.seq (.region [oM 40 1,oM 41 2,oM 42 9,oP 43 .geq 41 42,o0 44 (.eqb false (.t 40) (.t 43))]) (.cond 44 (.seq (.region [oM 45 2,oM 8 45]) .ret) .skip)) (.seq (.region [oM 46 2,oM 47 9,oP 48 .rem 46 47,oM 11 48]) (.seq (.region [oM 49 0,oM 50 11,o0 51 (.ju (.t 49)),oF 52 2 51,o0 53 (.xp 8 1 (.t 52) (.t 50)),⟨none,none,.op (.Qz (.t 53) (.c (.bool true)))⟩]) (.seq (.seq (.region [oM 54 1,o0 55 (.un .not (.t 54)),oM 1 55]) (.seq (.region [oM 56 1]) (.cond 56 (.region [oM 57 11,oM 2 57]) (.region [oM 58 9,oM 59 11,oP 60 .add 58 59,oM 2 60])))) (.seq (.region [oM 61 11,oM 62 3,oP 63 .eql 61 62]) (.cond 63 (.seq (.region [oI 8 (-1)]) .ret) .skip))))))))))
def Zv : AC := .seq (.region [oI 8 0]) (.seq (.region [oM 12 0,o0 13 (.ju (.t 12)),oF 14 0 13,oL 15 14,oC 16 168 [.t 15],oM 9 16]) (.block 0 (.loop xv)))
theorem Wx : zr Try.prog 187 = some ⟨64, Zv, [.slot 8]⟩ := by kernel_rfl
theorem qpr (N : Nat) (d e : List Nat) (hd : okD d) (he : okD e) (hds : isS N d = true) (hes : isS N e = true) {f : Nat} {u : Bool} {i : Nat} {met : List Bool} {r : Nat} {s : Bool} {met' : List Bool} (hf : zs N d e f u i met = some (r, s, met')) (hi : i < 2 * N) (hm : met.length = 8) :
    Am.Fn Try.prog 187 [.ptr 0 0, .bool (!u), .int .i64 i, .int .i64 (-1)] (H3 N d e met) (fun v H' => v = .int .i64 r ∧ H' = H3 N d e met') := by
  refine Am.Fn.ofB qe4 mixed Wx (by simp [AV.qy, AV.under, H3]) qlo ?_
  obtain ⟨hN, hpd, _⟩ := je hds
  obtain ⟨_, hpe, _⟩ := je hes
  have hdl := hd.1
  have hel := he.1
  unfold H3
  simp (maxSteps := 3000000) only [qg, zH, Zv, wq, y8, kn, g_n, wo, Q7, Qv, hm, qb, hdl, hel, vg, Ky, iE, iN, iB, iC, iL, iD, iA, iS, iM, qa, zZ, ↓qo, ↓reduceIte, reduceCtorEq, nA, nM, nS, nE, nL, nD]; try simp only [qa, zY]
  refine qxb qe4 (fun f st => ∃ (u : Bool) (i : Nat) (met : List Bool), zs N d e f u i met = some (r, s, met') ∧ i < 2 * N ∧ met.length = 8 ∧
      st = ⟨[(9, .int .i64 N), (0, .ptr 0 0), (1, .bool (!u)), (2, .int .i64 i), (3, .int .i64 (-1))], [.cells (stk 1 2 met), .ro (dia N d), .ro (dia N e)]⟩) ⟨_, qz.qx [9, 0, 1, 2, 3], f, u, i, met, hf, hi, hm, rfl⟩ ?_
  clear hf hi hm
  rintro k st ⟨u, i, met, hf, hi, hm, rfl⟩ post hpost
  obtain ⟨hi16, hi16'⟩ := kg (show i < 16 by omega)
  have hi17 : i < 16 := by omega
  have hN0 : (N : Int) ≠ 0 := by omega
  match k, u, hf with
  | 0, _, hf => simp [zs] at hf
  | f + 1, true, hf =>
    have hx := (hpd i hi).1
    have hcx : qu .i64 ((d.getD i 0 : Nat) : Int) = ((d.getD i 0 : Nat) : Int) := yf (by omega)
    have hdx := Vm (n := (N : Int)) (m := d) (i := i) (by omega)
    rw [zs] at hf
    by_cases hlt : d.getD i 0 < N
    · rw [if_pos hlt] at hf
      simp only [Option.some.injEq, Prod.mk.injEq] at hf
      obtain ⟨rfl, rfl, rfl⟩ := hf
      have hli : ((N : Int) ≤ ((d.getD i 0 : Nat) : Int)) ↔ False := iff_false_intro (by omega)
      simp (maxSteps := 3000000) only [qg, zH, xv, wq, y8, kn, g_n, Bool.not_true, Bool.not_false, wo, Q7, Qv, Zy hm, hm, qb, hdl, hel, hi16, hi16', hi17, hcx, hdx, hli, decide_false, decide_true, beq_self_eq_true, bne_self_eq_false, Bool.true_beq, Bool.false_beq, AV.one, iE, iN, iB, iC, iL, iD, iA, iS, iM, qa, zZ, ↓qo, ↓reduceIte, reduceCtorEq, nA, nM, nS, nE, nL, nD]; try simp only [qa, zY]
      refine Ret.ve [0, 1, 2] ⟨⟨by simp, rfl, by decide⟩, ?_⟩ (rs := [.int .i64 (d.getD i 0 : Nat)]) rfl rfl (by simp [xw]) ?_ ⟨?_, ?_⟩
      · simp only [qk _ _ (qe _ _), Ku, zK, ↓reduceIte, reduceCtorEq, nE, nB, nA]
      · exact ro3
      · rfl
      · simp only [qc _ _ (qe _ _), V9, zL, ↓reduceIte, reduceCtorEq, nE, nA]
        rfl
    · rw [if_neg hlt] at hf
      have hli : ((N : Int) ≤ ((d.getD i 0 : Nat) : Int)) ↔ True := iff_true_intro (by omega)
      have hrem := qqz (N := N) (x := d.getD i 0) (by omega) hx
      have h8 := V6 (show d.getD i 0 - N < 8 by omega)
      have h8' : d.getD i 0 - N < 8 := by omega
      have h10 : 2 + (d.getD i 0 - N) < 8 + 3 := by omega
      have hst : ((((d.getD i 0 - N : Nat) : Int)) == (-1 : Int)) = false := by rw [beq_eq_false_iff_ne]; omega
      simp (maxSteps := 3000000) only [qg, zH, xv, wq, y8, kn, g_n, Bool.not_true, Bool.not_false, wo, Q7, Qv, Zy hm, qa4 hm h8', hm, qb, hdl, hel, hi16, hi16', hi17, hcx, hdx, hli, decide_false, decide_true, beq_self_eq_true, bne_self_eq_false, Bool.true_beq, Bool.false_beq, hrem, h8, h8', h10, hN0, hst, AV.one, iE, iN, iB, iC, iL, iD, iA, iS, iM, qa, zZ, ↓qo, ↓reduceIte, reduceCtorEq, nA, nM, nS, nE, nL, nD]; try simp only [qa, zY]
      exact hpost _ _ f (qz.qx [9, 0, 1, 2, 3]) ⟨false, d.getD i 0 - N, _, hf, by omega, by simp [hm], rfl⟩ (Nat.lt_succ_self _)
  | f + 1, false, hf =>
    have hx := (hpe i hi).1
    have hcx : qu .i64 ((e.getD i 0 : Nat) : Int) = ((e.getD i 0 : Nat) : Int) := yf (by omega)
    have hdx := Vm (n := (N : Int)) (m := e) (i := i) (by omega)
    rw [zs] at hf
    by_cases hlt : N ≤ e.getD i 0
    · rw [if_pos hlt] at hf
      simp only [Option.some.injEq, Prod.mk.injEq] at hf
      obtain ⟨rfl, rfl, rfl⟩ := hf
      have hli : ((N : Int) ≤ ((e.getD i 0 : Nat) : Int)) ↔ True := iff_true_intro (by omega)
      simp (maxSteps := 3000000) only [qg, zH, xv, wq, y8, kn, g_n, Bool.not_true, Bool.not_false, wo, Q7, Qv, Zy hm, hm, qb, hdl, hel, hi16, hi16', hi17, hcx, hdx, hli, decide_false, decide_true, beq_self_eq_true, bne_self_eq_false, Bool.true_beq, Bool.false_beq, AV.one, iE, iN, iB, iC, iL, iD, iA, iS, iM, qa, zZ, ↓qo, ↓reduceIte, reduceCtorEq, nA, nM, nS, nE, nL, nD]; try simp only [qa, zY]
      refine Ret.ve [0, 1, 2] ⟨⟨by simp, rfl, by decide⟩, ?_⟩ (rs := [.int .i64 (e.getD i 0 : Nat)]) rfl rfl (by simp [xw]) ?_ ⟨?_, ?_⟩
      · simp only [qk _ _ (qe _ _), Ku, zK, ↓reduceIte, reduceCtorEq, nE, nB, nA]
      · exact ro3
      · rfl
      · simp only [qc _ _ (qe _ _), V9, zL, ↓reduceIte, reduceCtorEq, nE, nA]
        rfl
    · rw [if_neg hlt] at hf
      have hli : ((N : Int) ≤ ((e.getD i 0 : Nat) : Int)) ↔ False := iff_false_intro (by omega)
      have hrem := qrx (N := N) (x := e.getD i 0) (by omega)
      have hadd : qu .i64 ((N : Int) + ((e.getD i 0 : Nat) : Int)) = ((N + e.getD i 0 : Nat) : Int) := by rw [wrap64 (by omega) (by omega)]; rfl
      have h8 := V6 (show e.getD i 0 < 8 by omega)
      have h8' : e.getD i 0 < 8 := by omega
      have h10 : 2 + e.getD i 0 < 8 + 3 := by omega
      have hst : (((e.getD i 0 : Nat) : Int) == (-1 : Int)) = false := by rw [beq_eq_false_iff_ne]; omega
      simp (maxSteps := 3000000) only [qg, zH, xv, wq, y8, kn, g_n, Bool.not_true, Bool.not_false, wo, Q7, Qv, Zy hm, qa4 hm h8', hm, qb, hdl, hel, hi16, hi16', hi17, hcx, hdx, hli, decide_false, decide_true, beq_self_eq_true, bne_self_eq_false, Bool.true_beq, Bool.false_beq, hrem, hadd, h8, h8', h10, hN0, hst, AV.one, iE, iN, iB, iC, iL, iD, iA, iS, iM, qa, zZ, ↓qo, ↓reduceIte, reduceCtorEq, nA, nM, nS, nE, nL, nD]; try simp only [qa, zY]
      exact hpost _ _ f (qz.qx [9, 0, 1, 2, 3]) ⟨true, N + e.getD i 0, _, hf, by omega, by simp [hm], rfl⟩ (Nat.lt_succ_self _)
theorem uz : B82 168 = some (Z4 1 g_n) := rfl
theorem kd : B82 171 = some (qm kn) := rfl
def InA (n : Nat) (d e : List Nat) (i x : Nat) (met : List Bool) : Prop :=
  met.length = 8 ∧ ((x = i ∧ ∀ y, mt met y ↔ Seen n d e i y) ∨ ∃ (T : Nat → Prop) (last : Nat), qdz (XX n d e) (em e) (dm n d) i T last ∧ x = dm n d last ∧ ¬ T x ∧ ∀ y, mt met y ↔ Seen n d e i y ∨ (T y ∧ y ≠ i) ∨ y = x)
def InB (n : Nat) (d e : List Nat) (i y : Nat) (met : List Bool) : Prop :=
  met.length = 8 ∧ ∃ (T : Nat → Prop), qdz (XX n d e) (em e) (dm n d) i T y ∧ ∀ z, mt met z ↔ Seen n d e i z ∨ (T z ∧ z ≠ i)
theorem qyf {n : Nat} {d e : List Nat} (hd : isS n d = true) (he : isS n e = true) (hn : n ≤ 8) {i x : Nat} {met : List Bool} (hi : i < n) (h0 : ¬ Seen n d e i i) (h : InA n d e i x met) :
    XX n d e x ∧ XX n d e (em e x) ∧ em e x ≠ i ∧ ¬ mt met (em e x) ∧ InB n d e i (em e x) (met.set (em e x) true) := by
  have hX : XX n d e i := ⟨hi, fun h => h0 (.inl h)⟩
  have hf := Kx hd he
  have hg := Kq hd he
  obtain ⟨hl, ⟨rfl, hm⟩ | ⟨T, last, hT, rfl, hTx, hm⟩⟩ := h
  · have h1 := hf.mem _ hX
    have h2 : ¬ mt met (em e x) := fun h => W3 hd he hi h0 (.two .base) ((hm _).1 h)
    have h3 := hf.fix _ hX
    refine ⟨hX, h1, h3, h2, by rw [List.length_set]; exact hl, _, qdz.start hf hX, fun z => ?_⟩
    rw [bt (by have := h1.1; omega), hm]
    constructor
    · rintro (rfl | h)
      · exact .inr ⟨.inr rfl, h3⟩
      · exact .inl h
    · rintro (h | ⟨h | h, h'⟩)
      · exact .inr h
      · exact absurd h h'
      · exact .inl h
  · have hr := hT.ring _ hT.lm
    have h0' := hg.mem _ (Ring.mem hf hg hX hr)
    have h1 := hf.mem _ h0'
    obtain ⟨n1, n2, n3⟩ := hT.next hf hg hX hTx
    have h3 : em e (dm n d last) ≠ i := fun h => n2 (by rw [h]; exact hT.m0)
    have h4 : dm n d last ≠ i := fun h => hTx (by rw [h]; exact hT.m0)
    have h2 : ¬ mt met (em e (dm n d last)) := fun h => by
      rcases (hm _).1 h with h | ⟨h, _⟩ | h
      · exact W3 hd he hi h0 (Ring.swap (.one (.two hr))) h
      · exact n2 h
      · exact n3 h
    refine ⟨h0', h1, h3, h2, by rw [List.length_set]; exact hl, _, n1, fun z => ?_⟩
    rw [bt (by have := h1.1; omega), hm]
    constructor
    · rintro (rfl | h | ⟨h, h'⟩ | rfl)
      · exact .inr ⟨.inr (.inl rfl), h3⟩
      · exact .inl h
      · exact .inr ⟨.inr (.inr h), h'⟩
      · exact .inr ⟨.inl rfl, h4⟩
    · rintro (h | ⟨h | h | h, h'⟩)
      · exact .inr (.inl h)
      · exact .inr (.inr (.inr h))
      · exact .inl h
      · exact .inr (.inr (.inl ⟨h, h'⟩))
theorem qvd {n : Nat} {d e : List Nat} (hd : isS n d = true) (he : isS n e = true) (hn : n ≤ 8) {i y : Nat} {met : List Bool} (hi : i < n) (h0 : ¬ Seen n d e i i) (h : InB n d e i y met) :
    XX n d e y ∧ XX n d e (dm n d y) ∧ (dm n d y = i → ∀ z, mt (met.set i true) z ↔ Seen n d e i z ∨ Ring (dm n d) (em e) i z) ∧ (dm n d y ≠ i → ¬ mt met (dm n d y) ∧ InA n d e i (dm n d y) (met.set (dm n d y) true)) := by
  have hX : XX n d e i := ⟨hi, fun h => h0 (.inl h)⟩
  have hf := Kx hd he
  have hg := Kq hd he
  obtain ⟨hl, T, hT, hm⟩ := h
  have hr := hT.ring _ hT.lm
  have hy := Ring.mem hf hg hX hr
  have h1 := hg.mem _ hy
  refine ⟨hy, h1, fun hk z => ?_, fun hk => ?_⟩
  · have hs := (hT.stop hf hg hX (by rw [hk]; exact hT.m0)).2
    rw [bt (by omega), hm]
    constructor
    · rintro (rfl | h | ⟨h, _⟩)
      · exact .inr .base
      · exact .inl h
      · exact .inr (Ring.swap ((hs _).1 h))
    · rintro (h | h)
      · exact .inr (.inl h)
      · by_cases e1 : z = i
        · exact .inl e1
        · exact .inr (.inr ⟨(hs _).2 (Ring.swap h), e1⟩)
  · have hnT : ¬ T (dm n d y) := fun h => hk (hT.stop hf hg hX h).1
    refine ⟨fun h => ?_, by rw [List.length_set]; exact hl, .inr ⟨T, y, hT, rfl, hnT, fun z => ?_⟩⟩
    · rcases (hm _).1 h with h | ⟨h, _⟩
      · exact W3 hd he hi h0 (Ring.swap (.two hr)) h
      · exact hnT h
    · rw [bt (by have := h1.1; omega), hm]
      constructor
      · rintro (h | h | h)
        · exact .inr (.inr h)
        · exact .inl h
        · exact .inr (.inl h)
      · rintro (h | h | h)
        · exact .inr (.inl h)
        · exact .inr (.inr h)
        · exact .inl h
open Classical in
noncomputable def U1 (n : Nat) (d e : List Nat) (i : Nat) (met : List Bool) : List Bool := (List.range 8).map fun z => decide (mt met z ∨ Ring (dm n d) (em e) i z)
theorem qws {n : Nat} {d e : List Nat} {i : Nat} {met : List Bool} {z : Nat} (hz : z < 8) : mt (U1 n d e i met) z ↔ mt met z ∨ Ring (dm n d) (em e) i z := by
  conv => lhs; unfold mt U1
  simp [List.getD_eq_getElem?_getD, hz]
theorem qu8 {n : Nat} {d e : List Nat} {i : Nat} {met met' : List Bool} (hl : met'.length = 8) (h : ∀ z, mt met' z ↔ mt met z ∨ Ring (dm n d) (em e) i z) : met' = U1 n d e i met := by
  apply List.ext_getElem
  · simp [U1, hl]
  · intro z h1 h2
    have h3 := h z
    have h4 : mt met' z ↔ met'[z] = true := by simp [mt, List.getD_eq_getElem?_getD, h1]
    simp only [U1, List.getElem_map, List.getElem_range]
    rw [Bool.eq_iff_iff, ← h4, h3]
    simp
theorem qoq (N : Nat) (d e : List Nat) (hd : okD d) (he : okD e) (hds : isS N d = true) (hes : isS N e = true) {i : Nat} {met : List Bool} (hi : i < N) (hm0 : met.length = 8) (hmt : ∀ x, mt met x ↔ Seen N d e i x) (h0 : ¬ Seen N d e i i) :
    Am.Fn Try.prog 187 [.ptr 0 0, .bool true, .int .i64 i, .int .i64 i] (H3 N d e met) (fun v H' => v = .int .i64 (-1) ∧ H' = H3 N d e (U1 N d e i met)) := by
  refine Am.Fn.ofB qe4 mixed Wx (by simp [AV.qy, AV.under, H3]) qlo ?_
  obtain ⟨hN, hpd, _⟩ := je hds
  obtain ⟨_, hpe, _⟩ := je hes
  have hdl := hd.1
  have hel := he.1
  unfold H3
  simp (maxSteps := 3000000) only [qg, zH, Zv, uz, kd, kn, g_n, wo, Q7, Qv, hm0, qb, hdl, hel, vg, Ky, iE, iN, iB, iC, iL, iD, iA, iS, iM, qa, zZ, ↓qo, ↓reduceIte, reduceCtorEq, nA, nM, nS, nE, nL, nD]; try simp only [qa, zY]
  refine qxb qe4 (fun k st => (∃ (x : Nat) (mm : List Bool), k = Q1 (bls mm) ∧ InA N d e i x mm ∧ st = ⟨[(9, .int .i64 N), (0, .ptr 0 0), (1, .bool true), (2, .int .i64 x), (3, .int .i64 i)], [.cells (stk 1 2 mm), .ro (dia N d), .ro (dia N e)]⟩) ∨
      ∃ (y : Nat) (mm : List Bool), k = Q1 (bls mm) ∧ InB N d e i y mm ∧ st = ⟨[(9, .int .i64 N), (0, .ptr 0 0), (1, .bool false), (2, .int .i64 (N + y : Nat)), (3, .int .i64 i)], [.cells (stk 1 2 mm), .ro (dia N d), .ro (dia N e)]⟩)
    ⟨_, qz.qx [9, 0, 1, 2, 3], _, .inl ⟨i, met, rfl, ⟨hm0, .inl ⟨rfl, hmt⟩⟩, rfl⟩⟩ ?_
  have hN0 : (N : Int) ≠ 0 := by omega
  rintro k st (⟨x, mm, rfl, hA, rfl⟩ | ⟨y, mm, rfl, hB, rfl⟩) post hpost
  · obtain ⟨x1, x2, x3, x4, x5⟩ := qyf hds hes hN.2 hi h0 hA
    have hm := hA.1
    obtain ⟨z1, z2, z3⟩ := qip hds hes x1
    have hxk := x1.1
    have hex : em e x = e.getD x 0 := rfl
    obtain ⟨hi16, hi16'⟩ := kg (show x < 16 by omega)
    have hi17 : x < 16 := by omega
    have hcx : qu .i64 ((e.getD x 0 : Nat) : Int) = ((e.getD x 0 : Nat) : Int) := yf (by omega)
    have hdx := Vm (n := (N : Int)) (m := e) (i := x) (by omega)
    have hli : ((N : Int) ≤ ((e.getD x 0 : Nat) : Int)) ↔ False := iff_false_intro (by omega)
    have hrem := qrx (N := N) (x := e.getD x 0) z3
    have hadd : qu .i64 ((N : Int) + ((e.getD x 0 : Nat) : Int)) = ((N + e.getD x 0 : Nat) : Int) := by rw [wrap64 (by omega) (by omega)]; rfl
    have h8 := V6 (show e.getD x 0 < 8 by omega)
    have h8' : e.getD x 0 < 8 := by omega
    have h10 : 2 + e.getD x 0 < 8 + 3 := by omega
    have hst : (((e.getD x 0 : Nat) : Int) == (i : Int)) = false := by rw [beq_eq_false_iff_ne]; rw [hex] at x3; omega
    simp (maxSteps := 3000000) only [qg, zH, xv, uz, kd, kn, g_n, Bool.not_true, Bool.not_false, wo, Q7, Qv, Zy hm, qa4 hm h8', hm, qb, hdl, hel, hi16, hi16', hi17, hcx, hdx, hli, decide_false, decide_true, beq_self_eq_true, Bool.true_beq, Bool.false_beq, hrem, hadd, h8, h8', h10, hN0, hst, AV.one, iE, iN, iB, iC, iL, iD, iA, iS, iM, qa, zZ, ↓qo, ↓reduceIte, reduceCtorEq, nA, nM, nS, nE, nL, nD]; try simp only [qa, zY]
    have hlt := Yq (met := mm) (k := em e x) (by have := x2.1; omega) (by cases h : mm.getD (em e x) false with
      | false => rfl
      | true => exact absurd h x4)
    exact hpost _ _ _ (qz.qx [9, 0, 1, 2, 3]) (.inr ⟨em e x, _, rfl, x5, rfl⟩) hlt
  · obtain ⟨y1, y2, y3, y4⟩ := qvd hds hes hN.2 hi h0 hB
    have hm := hB.1
    obtain ⟨z1, z2, z3⟩ := qip hds hes y1
    have hyk := y1.1
    have hdy : dm N d y = d.getD (N + y) 0 - N := rfl
    obtain ⟨hi16, hi16'⟩ := kg (show N + y < 16 by omega)
    have hi17 : N + y < 16 := by omega
    have hcx : qu .i64 ((d.getD (N + y) 0 : Nat) : Int) = ((d.getD (N + y) 0 : Nat) : Int) := yf (by omega)
    have hdx := Vm (n := (N : Int)) (m := d) (i := N + y) (by omega)
    have hli : ((N : Int) ≤ ((d.getD (N + y) 0 : Nat) : Int)) ↔ True := iff_true_intro (by omega)
    have hrem := qqz (N := N) (x := d.getD (N + y) 0) (by omega) (by omega)
    have h8 := V6 (show d.getD (N + y) 0 - N < 8 by omega)
    have h8' : d.getD (N + y) 0 - N < 8 := by omega
    have h10 : 2 + (d.getD (N + y) 0 - N) < 8 + 3 := by omega
    by_cases hk : dm N d y = i
    · have hst : ((((d.getD (N + y) 0 - N : Nat) : Int)) == (i : Int)) = true := by rw [beq_iff_eq]; omega
      simp (maxSteps := 3000000) only [qg, zH, xv, uz, kd, kn, g_n, Bool.not_true, Bool.not_false, wo, Q7, Qv, Zy hm, qa4 hm h8', hm, qb, hdl, hel, hi16, hi16', hi17, hcx, hdx, hli, decide_false, decide_true, beq_self_eq_true, Bool.true_beq, Bool.false_beq, hrem, h8, h8', h10, hN0, hst, AV.one, iE, iN, iB, iC, iL, iD, iA, iS, iM, qa, zZ, ↓qo, ↓reduceIte, reduceCtorEq, nA, nM, nS, nE, nL, nD]; try simp only [qa, zY]
      have hL : mm.set (d.getD (N + y) 0 - N) true = U1 N d e i met := qu8 (by rw [List.length_set]; exact hm) fun z => by
        rw [show d.getD (N + y) 0 - N = i from hk, y3 hk, hmt]
      refine Ret.ve [0, 1, 2] ⟨⟨by simp, rfl, by decide⟩, ?_⟩ (rs := [.int .i64 (-1)]) rfl rfl (by simp [xw]) ?_ ⟨?_, ?_⟩
      · simp only [qk _ _ (qe _ _), Ku, zK, ↓reduceIte, reduceCtorEq, nE, nB, nA]
      · exact ro3
      · rfl
      · simp only [qc _ _ (qe _ _), V9, zL, ↓reduceIte, reduceCtorEq, nE, nA]
        rw [hL]; rfl
    · have hst : ((((d.getD (N + y) 0 - N : Nat) : Int)) == (i : Int)) = false := by rw [beq_eq_false_iff_ne]; omega
      obtain ⟨q1, q2⟩ := y4 hk
      simp (maxSteps := 3000000) only [qg, zH, xv, uz, kd, kn, g_n, Bool.not_true, Bool.not_false, wo, Q7, Qv, Zy hm, qa4 hm h8', hm, qb, hdl, hel, hi16, hi16', hi17, hcx, hdx, hli, decide_false, decide_true, beq_self_eq_true, Bool.true_beq, Bool.false_beq, hrem, h8, h8', h10, hN0, hst, AV.one, iE, iN, iB, iC, iL, iD, iA, iS, iM, qa, zZ, ↓qo, ↓reduceIte, reduceCtorEq, nA, nM, nS, nE, nL, nD]; try simp only [qa, zY]
      have hlt := Yq (met := mm) (k := dm N d y) (by have := y2.1; omega) (by cases h : mm.getD (dm N d y) false with
        | false => rfl
        | true => exact absurd h q1)
      exact hpost _ _ _ (qz.qx [9, 0, 1, 2, 3]) (.inl ⟨dm N d y, _, rfl, q2, rfl⟩) hlt
def qk5 : List AV → Option (Nat × Nat × List Bool)
  | .ptr a 0 :: .ptr b 0 :: rest => match Vs (rest.take 8), rest.drop 8 with
    | some met, [.fn 171 [] []] => chk (met.length = 8) (some (a, b, met))
    | _, _ => none
  | _ => none
theorem qbu {a b : Nat} {met : List Bool} (h : met.length = 8) : qk5 (stk a b met) = some (a, b, met) := by
  have h1 : (bls met).length = 8 := by rw [vv, h]
  have h2 : List.take 8 (bls met ++ [.fn 171 [] []]) = bls met := List.take_left' h1
  have h3 : List.drop 8 (bls met ++ [.fn 171 [] []]) = [.fn 171 [] []] := List.drop_left' h1
  simp only [stk, qk5, h2, h3, Up, chk, h, if_true]
theorem qoy {l : List AV} {a b : Nat} {met : List Bool} (h : qk5 l = some (a, b, met)) : l = stk a b met ∧ met.length = 8 := by
  unfold qk5 at h
  split at h
  · rename_i a' b' rest
    split at h
    · rename_i met' h1 h2
      obtain ⟨h3, h4⟩ := ql h
      simp only [Option.some.injEq, Prod.mk.injEq] at h4
      obtain ⟨rfl, rfl, rfl⟩ := h4
      refine ⟨?_, h3⟩
      have h5 := Yr h1
      conv => lhs; rw [← List.take_append_drop 8 rest, h5, h2]
      rfl
    · cases h
  · cases h
def rdD (hp : List AO) (b : Nat) : Option (Int × List Nat) := match rd hp b with
  | some L => ui (L.take 17)
  | none => none
open Classical in
noncomputable def bp : BE := fun hp xs => match xs with
  | [.ptr b 0, .bool w, .int .i64 i, .int .i64 st] => match hp[b]? with
    | some (.cells l) => match qk5 l with
      | some (b1, b2, met) => match rdD hp b1, rdD hp b2 with
        | some (n, d), some (n', e) => chk ((n' = n ∧ 0 ≤ n) ∧ (isS n.toNat d = true ∧ isS n.toNat e = true) ∧ b1 ≠ b ∧ b2 ≠ b)
          (if st = -1 then chk ((0 ≤ i ∧ i < 2 * n) ∧ w = decide (n ≤ i)) (some (.int .i64 (pr n.toNat d e i.toNat : Nat), hp.set b (.cells (stk b1 b2 (fol n.toNat d e (!w) i.toNat met)))))
          else chk ((st = i ∧ w = true ∧ 0 ≤ i ∧ i < n) ∧ (∀ x, mt met x ↔ Seen n.toNat d e i.toNat x) ∧ ¬ Seen n.toNat d e i.toNat i.toNat) (some (.int .i64 (-1), hp.set b (.cells (stk b1 b2 (U1 n.toNat d e i.toNat met))))))
        | _, _ => none
      | none => none
    | _ => none
  | _ => none
open Classical in
theorem qth : Am.Callee Try.prog 187 bp := Callee.fp fun hp xs v hp' he => by
  unfold bp at he
  split at he
  · rename_i b w i st
    split at he
    · rename_i l hb
      split at he
      · rename_i b1 b2 met hs1
        obtain ⟨rfl, hm⟩ := qoy hs1
        split at he
        · rename_i n d n' e hd1 he1
          obtain ⟨⟨⟨a1, a2⟩, ⟨a3, a4⟩, a5, a6⟩, he2⟩ := ql he
          subst a1
          obtain ⟨N, rfl⟩ : ∃ N : Nat, n' = N := ⟨n'.toNat, by omega⟩
          simp only [Int.toNat_natCast] at a3 a4 he2
          have rdd : ∀ {b : Nat} {m : List Nat}, rdD hp b = some ((N : Int), m) → okD m ∧ Fits hp (ofL [(b, 0)]) b 0 (.ro (dia N m)) ∧ ∃ L, rd hp b = some L ∧ 17 ≤ L.length ∧ L.take 17 = dia N m := fun {b m} h => by
            unfold rdD at h
            split at h
            · rename_i L hL
              obtain ⟨e1, hok⟩ := zp h
              have hlen : (dia (N : Int) m).length = 17 := by rw [qb, hok.1]
              have hLl : 17 ≤ L.length := by
                have := congrArg List.length e1
                rw [hlen, List.length_take] at this
                omega
              exact ⟨hok, ⟨L, hL, by rw [hlen]; omega, by rw [List.drop_zero, qc _ _ (qe _ _), hlen]; exact e1⟩, L, hL, hLl, e1⟩
            · cases h
          obtain ⟨hd, _, L1, r1, r2, r3⟩ := rdd hd1
          obtain ⟨he', _, L2, q1, q2, q3⟩ := rdd he1
          have hlen : ∀ {m : List Nat}, okD m → (dia (N : Int) m).length = 17 := fun h => by rw [qb, h.1]
          have hfit : Ka hp (ofL [(b, 0), (b1, 0), (b2, 0)]) [(b, 0), (b1, 0), (b2, 0)] (H3 N d e met) :=
            ⟨⟨rfl, by rw [hb]; simp only [AO.ren, V9]; simp [AV.ren, ofL, stk]⟩, ⟨L1, r1, by rw [hlen hd]; omega, by rw [List.drop_zero, qc _ _ (qe _ _), hlen hd]; exact r3⟩, ⟨L2, q1, by rw [hlen he']; omega, by rw [List.drop_zero, qc _ _ (qe _ _), hlen he']; exact q3⟩, trivial⟩
          have hap : ∀ met, J4 [(b, 0), (b1, 0), (b2, 0)] (H3 N d e met) = true := fun met => by simp [J4, H3, AO.wr, a5, a6]
          have hun : ∀ met, AO.qa0 3 (H3 N d e met) := fun met => ⟨qh2 (by omega) (by omega), qh _ _ (qe _ _), qh _ _ (qe _ _), trivial⟩
          split at he2
          · rename_i hst
            subst hst
            obtain ⟨⟨⟨c1, c2⟩, c3⟩, he3⟩ := ql he2
            simp only [Option.some.injEq, Prod.mk.injEq] at he3
            obtain ⟨rfl, rfl⟩ := he3
            obtain ⟨k, rfl⟩ : ∃ k : Nat, i = k := ⟨i.toNat, by omega⟩
            simp only [Int.toNat_natCast]
            have hw : w = !decide (k < N) := by
              rw [c3, Bool.eq_iff_iff]; simp
            obtain ⟨f, met', hf⟩ := Wf a3 a4 (i := k) (by omega) met
            have hfo := qe1 hf
            subst hw
            rw [Bool.not_not, hfo]
            refine ⟨[(b, 0), (b1, 0), (b2, 0)], [.ptr 0 0, .bool (!decide (k < N)), .int .i64 k, .int .i64 (-1)], H3 N d e met, _, _, qpr N d e hd he' a3 a4 hf (by omega) hm, by simp [AV.ren, AV.zh, ofL], by simp [vh], hfit, hap met, hun met, ⟨by simp [AV.under, H3], trivial, trivial, trivial, trivial⟩, by simp [AV.ren, AV.zh], ?_⟩
            simp [after, upd, AO.wr, AO.ren, H3, V9, AV.ren, qc _ _ (qe _ _)]
            simp [Ren.ext, ofL, stk]
          · obtain ⟨⟨⟨c1, c2, c3, c4⟩, c5, c6⟩, he3⟩ := ql he2
            simp only [Option.some.injEq, Prod.mk.injEq] at he3
            obtain ⟨rfl, rfl⟩ := he3
            subst c1; subst c2
            obtain ⟨k, rfl⟩ : ∃ k : Nat, st = k := ⟨st.toNat, by omega⟩
            simp only [Int.toNat_natCast] at c5 c6 ⊢
            refine ⟨[(b, 0), (b1, 0), (b2, 0)], [.ptr 0 0, .bool true, .int .i64 k, .int .i64 k], H3 N d e met, _, _, qoq N d e hd he' a3 a4 (by omega) hm c5 c6, by simp [AV.ren, AV.zh, ofL], by simp [vh], hfit, hap met, hun met, ⟨by simp [AV.under, H3], trivial, trivial, trivial, trivial⟩, by simp [AV.ren, AV.zh], ?_⟩
            simp [after, upd, AO.wr, AO.ren, H3, V9, AV.ren, qc _ _ (qe _ _)]
            simp [Ren.ext, ofL, stk]
        · cases he
      · cases he
    · cases he
  · cases he
noncomputable def B83 : za := (B82.put 187 (bp))
theorem qjb : qn Try.prog B83 := (qe4.put (qth))
def H4 (N : Nat) (d e m : List Nat) (k : Nat) : List AO := [.ro (dia N d), .ro (dia N e), .cells (dia N m), .cells [.int .i64 k]]
theorem qxi {N : Nat} {d e m : List Nat} {k n : Nat} : ∀ (j : Nat) (o : AO), (H4 N d e m k)[j]? = some o → o.under n := fun j o hj => by
  match j, hj with
  | 0, hj => cases hj; exact qh _ _ (qe _ _)
  | 1, hj => cases hj; exact qh _ _ (qe _ _)
  | 2, hj => cases hj; exact qh _ _ (qe _ _)
  | 3, hj => cases hj; exact ⟨trivial, trivial⟩
  | j + 4, hj => simp [H4] at hj
theorem qj4 {m : List Nat} (h : okD m) {i x : Nat} (hx : x < 256) : okD (m.set i x) := by
  refine ⟨by rw [List.length_set]; exact h.1, fun y hy => ?_⟩
  rcases List.mem_or_eq_of_mem_set hy with h1 | rfl
  · exact h.2 y h1
  · exact hx
theorem qb6 {n : Nat} {d e : List Nat} (hd : isS n d = true) (he : isS n e = true) : ∀ {k : Nat}, k ≤ n → okD (Wv n d e k)
  | 0, _ => ⟨by simp [Wv], fun y hy => by simp [Wv] at hy; omega⟩
  | k + 1, hk => by
    obtain ⟨hn, _⟩ := je hd
    have h1 := qc8 hd he (i := k) (by omega)
    have h2 := qc8 hd he (i := n + k) (by omega)
    exact qj4 (qj4 (qb6 hd he (by omega)) (by omega)) (by omega)
theorem vb : B83 168 = some (Z4 1 g_n) := rfl
theorem jj : B83 187 = some (bp) := rfl
theorem wj : B83 172 = some (Y1) := rfl
theorem wk : B83 173 = some (bf) := rfl
def J3 : AC := .seq (.region [oP 23 .lss 22 21]) (.seq (.cond 23 .skip (.exit 0)) (.seq (.block 1 (.seq (.region [oM 24 22,oM 12 24]) (.seq (.region [oM 25 3,oM 26 12,oM 27 11,oM 28 12,oC 29 187 [.t 27,(.c (.bool false)),.t 28,(.c (.int .i64 (-1)))],⟨some 30,none,.call (.t 25) [.t 26,.t 29]⟩]) (.region [oM 31 3,oM 32 10,oM 33 12,oP 34 .add 32 33,oM 35 11,oM 36 10,oM 37 12,oP 38 .add 36 37,oC 39 187 [.t 35,(.c (.bool true)),.t 38,(.c (.int .i64 (-1)))],⟨some 40,none,.call (.t 31) [.t 34,.t 39]⟩])))) (.region [oK 41 .add 22 1,oM 22 41])))
def Q3 : AC := .seq (.region [oP 44 .lss 43 42]) (.seq (.cond 44 .skip (.exit 2)) (.seq (.block 3 (.seq (.region [oM 45 43,oM 13 45]) (.seq (.region [oM 46 11,oM 47 13,o0 48 (.ju (.t 46)),oF 49 2 48,o0 50 (.xp 8 1 (.t 49) (.t 47)),oL 51 50,o0 52 (.un .not (.t 51))]) (.cond 52 (.seq (.region [oM 53 11,oM 54 13,oM 55 13,oC 56 187 [.t 53,(.c (.bool true)),.t 54,.t 55]]) (.region [oM 57 4,⟨some 58,none,.call (.t 57) []⟩])) .skip)))) (.region [oK 59 .add 43 1,oM 43 59])))
def Ux : AC := .seq (.region [oM 42 10,oI 43 0]) (.block 2 (.loop Q3))
def qcu : AC := .seq (.region [oM 14 0,oC 15 168 [.t 14],oM 10 15]) (.seq (.region [oM 16 0,oM 17 1,oM 18 2,o0 19 (.build [(.v (.pointer none)),(.v (.pointer none)),(.bool false),(.bool false),(.bool false),(.bool false),(.bool false),(.bool false),(.bool false),(.bool false),(.v .nilFunc)] [(0,1,.t 16),(1,1,.t 17),(10,1,.t 18)]),o0 20 (.box (.t 19)),oM 11 20]) (.seq (.seq (.region [oM 21 10,oI 22 0]) (.block 0 (.loop J3))) Ux))
theorem qkv : zr Try.prog 170 = some ⟨60, qcu, []⟩ := by kernel_rfl
theorem qmm (N : Nat) (d e : List Nat) (hd : okD d) (he : okD e) (hds : isS N d = true) (hes : isS N e = true) :
    Am.Fn Try.prog 170 [.ptr 0 0, .ptr 1 0, .fn 171 [] [], .fn 172 [] [.ptr 2 0], .fn 173 [] [.ptr 3 0]] (H4 N d e (List.replicate 16 0) 0) (fun v H' => v = .tup [] ∧ H' = H4 N d e (ja N d e) (lpN N d e N)) := by
  refine Am.Fn.ofB qjb mixed qkv (by simp [AV.qy, AV.under, H4]) qxi ?_
  obtain ⟨hN, hpd, _⟩ := je hds
  obtain ⟨_, hpe, _⟩ := je hes
  have hdl := hd.1
  have hel := he.1
  have o1 : over [AV.v (.pointer none), .v (.pointer none), .bool false, .bool false, .bool false, .bool false, .bool false, .bool false, .bool false, .bool false, .v .nilFunc] 0 [.ptr 0 0] = [.ptr 0 0, .v (.pointer none), .bool false, .bool false, .bool false, .bool false, .bool false, .bool false, .bool false, .bool false, .v .nilFunc] := rfl
  have o2 : over [AV.ptr 0 0, .v (.pointer none), .bool false, .bool false, .bool false, .bool false, .bool false, .bool false, .bool false, .bool false, .v .nilFunc] 1 [.ptr 1 0] = [.ptr 0 0, .ptr 1 0, .bool false, .bool false, .bool false, .bool false, .bool false, .bool false, .bool false, .bool false, .v .nilFunc] := rfl
  have o3 : over [AV.ptr 0 0, .ptr 1 0, .bool false, .bool false, .bool false, .bool false, .bool false, .bool false, .bool false, .bool false, .v .nilFunc] 10 [.fn 171 [] []] = stk 0 1 (List.replicate 8 false) := rfl
  have l1 : ([AV.ptr 0 0, .v (.pointer none), .bool false, .bool false, .bool false, .bool false, .bool false, .bool false, .bool false, .bool false, .v .nilFunc] : List AV).length = 11 := rfl
  have l2 : ([AV.ptr 0 0, .ptr 1 0, .bool false, .bool false, .bool false, .bool false, .bool false, .bool false, .bool false, .bool false, .v .nilFunc] : List AV).length = 11 := rfl
  unfold H4
  simp (maxSteps := 3000000) only [qg, zH, qcu, vb, jj, wj, wk, bf, g_n, Y1, bp, qb, hdl, hel, vg, Ky, o1, o2, o3, l1, l2, AV.one, iE, iN, iB, iC, iL, iD, iA, iS, iM, qa, zZ, ↓qo, ↓reduceIte, reduceCtorEq, nA, nM, nS, nE, nL, nD]; try simp only [qa, zY]
  have hdo := qq (n := (N : Int)) hd
  have heo := qq (n := (N : Int)) he
  have hN0 : (0 : Int) ≤ (N : Int) := by omega
  refine WA.jn qjb (fun s => ∃ k : Nat, k ≤ N ∧ s = ⟨[(22, .int .i64 k), (21, .int .i64 N), (11, .ptr 4 0), (10, .int .i64 N), (4, .fn 173 [] [.ptr 3 0]), (3, .fn 172 [] [.ptr 2 0])], [.ro (dia N d), .ro (dia N e), .cells (dia N (Wv N d e k)), .cells [.int .i64 0], .cells (stk 0 1 (qd7 N d e k))]⟩)
    (fun s => match get s.env 22 with | .int _ x => N - x.toNat | _ => 0) ⟨_, qz.qx [22, 21, 11, 10, 4, 3], 0, by omega, rfl⟩ ?_
  rintro s ⟨k, hk, rfl⟩
  have hw : qu .i64 ((k : Int) + 1) = ((k + 1 : Nat) : Int) := by rw [wrap64 (by omega) (by omega)]; rfl
  by_cases hlt : k < N
  · have hli : (k : Int) < (N : Int) := by omega
    have hk16 := yi N d e k
    have hmk := (Jb hds hes k hk).len
    have hx1 := qc8 hds hes (i := k) (by omega)
    have hx2 := qc8 hds hes (i := N + k) (by omega)
    have hadd : qu .i64 ((N : Int) + (k : Int)) = ((N + k : Nat) : Int) := by rw [wrap64 (by omega) (by omega)]; rfl
    have k1 : (0 : Int) ≤ (k : Int) ∧ (k : Int) < 2 * (N : Int) := by omega
    have k2 : (0 : Int) ≤ ((N + k : Nat) : Int) ∧ ((N + k : Nat) : Int) < 2 * (N : Int) := by omega
    have q1 : (false = decide ((N : Int) ≤ (k : Int))) = True := by simp; omega
    have q2 : (true = decide ((N : Int) ≤ ((N + k : Nat) : Int))) = True := by simp; omega
    have hf1 : (fol N d e true k (qd7 N d e k)).length = 8 := by rw [qrw hds hes (by omega) (by simp [hlt])]; exact hmk
    have s1 := qbu (a := 0) (b := 1) hmk
    have s2 := qbu (a := 0) (b := 1) hf1
    have d0 := qq (n := (N : Int)) (qj4 (qb6 hds hes hk) (i := k) (x := pr N d e k) (by omega))
    have d1 := qq (n := (N : Int)) (qb6 hds hes hk)
    have p1 : ((0 : Int) ≤ (k : Int) ∧ (k : Int) < 16) ∧ (0 : Int) ≤ ((pr N d e k : Nat) : Int) ∧ ((pr N d e k : Nat) : Int) < 256 := by omega
    have p2 : ((0 : Int) ≤ ((N + k : Nat) : Int) ∧ ((N + k : Nat) : Int) < 16) ∧ (0 : Int) ≤ ((pr N d e (N + k) : Nat) : Int) ∧ ((pr N d e (N + k) : Nat) : Int) < 256 := by omega
    simp (maxSteps := 3000000) only [qg, zH, J3, vb, jj, wj, wk, bf, g_n, Y1, bp, rdD, hw, hli, qb, hdl, hel, qt hdl, qt hel, hdo, heo, s1, s2, d0, d1, p1, p2, Int.toNat_natCast, hds, hes, k1, k2, hN0, q1, q2, hadd, AV.one, and_self, true_and, and_true, Bool.not_true, Bool.not_false, Ne, not_false_iff, not_false_eq_true, Nat.reduceEqDiff, reduceCtorEq, iE, iN, iB, iC, iL, iD, iA, iS, iM, qa, zZ, ↓qo, ↓reduceIte, reduceCtorEq, nA, nM, nS, nE, nL, nD]; try simp only [qa, zY]
    refine ⟨_, qz.qx [22, 21, 11, 10, 4, 3], ⟨k + 1, by omega, rfl⟩, ?_⟩
    simp only [zL, ↓reduceIte, reduceCtorEq, nE, nA]; omega
  have hli : ¬ (k : Int) < (N : Int) := by omega
  obtain rfl : k = N := by omega
  simp (maxSteps := 3000000) only [qg, zH, J3, Ux, vb, jj, wj, wk, bf, g_n, Y1, bp, hli, Int.lt_irrefl, iE, iN, iB, iC, iL, iD, iA, iS, iM, qa, zZ, ↓qo, ↓reduceIte, reduceCtorEq, nA, nM, nS, nE, nL, nD]; try simp only [qa, zY]
  refine WA.jn qjb (fun s => ∃ (i : Nat) (met : List Bool), i ≤ k ∧ (met.length = 8 ∧ ∀ x, mt met x ↔ Seen k d e i x) ∧ s = ⟨[(43, .int .i64 i), (42, .int .i64 k), (11, .ptr 4 0), (4, .fn 173 [] [.ptr 3 0])], [.ro (dia k d), .ro (dia k e), .cells (dia k (ja k d e)), .cells [.int .i64 (lpN k d e i : Nat)], .cells (stk 0 1 met)]⟩)
    (fun s => match get s.env 43 with | .int _ x => k - x.toNat | _ => 0) ⟨_, qz.qx [43, 42, 11, 4], 0, qd7 k d e k, by omega, ⟨(Jb hds hes k (Nat.le_refl _)).len, fun x => ⟨.inl, fun h => h.elim id fun ⟨j, hj, _⟩ => absurd hj (Nat.not_lt_zero _)⟩⟩, rfl⟩ ?_
  clear hlt hli hw
  rintro s ⟨i, met, hi, ⟨hml, hmt⟩, rfl⟩
  have hw : qu .i64 ((i : Int) + 1) = ((i + 1 : Nat) : Int) := by rw [wrap64 (by omega) (by omega)]; rfl
  have hle := qgi k d e i
  by_cases hlt : i < k
  · have hli : (i : Int) < (k : Int) := by omega
    have g1 := V6 (show i < 8 by omega)
    have g2 : 2 + i < 8 + 3 := by omega
    have g3 := qzz (a := 0) (b := 1) hml (show i < 8 by omega)
    by_cases hs : Seen k d e i i
    · have hm1 : met.getD i false = true := (hmt i).2 hs
      simp (maxSteps := 3000000) only [qg, zH, Q3, vb, jj, wj, wk, bf, g_n, Y1, bp, hw, hli, g1, g2, g3, hm1, wo, hml, Bool.not_true, iE, iN, iB, iC, iL, iD, iA, iS, iM, qa, zZ, ↓qo, ↓reduceIte, reduceCtorEq, nA, nM, nS, nE, nL, nD]; try simp only [qa, zY]
      refine ⟨_, qz.qx [43, 42, 11, 4], ⟨i + 1, met, by omega, ⟨hml, fun x => by rw [hmt, qnb hds hes hs]⟩, ?_⟩, ?_⟩
      · simp only [zL, ↓reduceIte, reduceCtorEq, nE, nA]
        simp only [lpN, if_pos hs]
      · simp only [zL, ↓reduceIte, reduceCtorEq, nE, nA]; omega
    · have hm1 : met.getD i false = false := by
        cases h : met.getD i false with
        | false => rfl
        | true => exact absurd ((hmt i).1 h) hs
      have s1 := qbu (a := 0) (b := 1) hml
      have k1 : (0 : Int) ≤ (i : Int) ∧ (i : Int) < (k : Int) := by omega
      have q1 : ((i : Int) = -1) = False := eq_false (by omega)
      have q2 : (∀ x, mt met x ↔ Seen k d e i x) = True := eq_true hmt
      have q3 : Seen k d e i i = False := eq_false hs
      have q4 : (0 : Int) ≤ ((lpN k d e i : Nat) : Int) ∧ ((lpN k d e i : Nat) : Int) ≤ 1000 := by omega
      have q5 : ((lpN k d e i : Nat) : Int) + 1 = ((lpN k d e i + 1 : Nat) : Int) := rfl
      simp (maxSteps := 3000000) only [qg, zH, Q3, vb, jj, wj, wk, bf, g_n, Y1, bp, rdD, hw, hli, g1, g2, g3, hm1, wo, hml, Bool.not_false, qb, hdl, hel, qt hdl, qt hel, hdo, heo, s1, Int.toNat_natCast, hds, hes, k1, hN0, q1, q2, q3, q4, q5, AV.one, and_self, true_and, and_true, Ne, not_false_iff, not_false_eq_true, if_false, Nat.reduceEqDiff, reduceCtorEq, iE, iN, iB, iC, iL, iD, iA, iS, iM, qa, zZ, ↓qo, ↓reduceIte, reduceCtorEq, nA, nM, nS, nE, nL, nD]; try simp only [qa, zY]
      refine ⟨_, qz.qx [43, 42, 11, 4], ⟨i + 1, U1 k d e i met, by omega, ⟨by simp [U1], fun x => ?_⟩, ?_⟩, ?_⟩
      · rw [ql0 hlt hs]
        by_cases hx : x < 8
        · rw [qws hx, hmt]
        · constructor
          · intro h
            simp [mt, U1, List.getD_eq_getElem?_getD, hx] at h
          · intro h
            have : x < k := by
              rcases h with h | h
              · exact q0u hds hes h
              · exact (Ring.mem (Kq hds hes) (Kx hds hes) ⟨hlt, fun h => hs (.inl h)⟩ h).1
            omega
      · simp only [zL, ↓reduceIte, reduceCtorEq, nE, nA]
        simp only [lpN, if_neg hs]
      · simp only [zL, ↓reduceIte, reduceCtorEq, nE, nA]; omega
  · have hli : ¬ (i : Int) < (k : Int) := by omega
    obtain rfl : i = k := by omega
    simp (maxSteps := 3000000) only [qg, zH, Q3, vb, jj, wj, wk, bf, g_n, Y1, bp, hli, Int.lt_irrefl, iE, iN, iB, iC, iL, iD, iA, iS, iM, qa, zZ, ↓qo, ↓reduceIte, reduceCtorEq, nA, nM, nS, nE, nL, nD]; try simp only [qa, zY]
    refine Ret.ve [0, 1, 2, 3] ⟨⟨by simp, rfl, by decide⟩, ?_⟩ (rs := []) rfl rfl (by simp [xw]) ?_ ⟨rfl, ?_⟩
    · simp only [qk _ _ (qe _ _), zK, ↓reduceIte, reduceCtorEq, nE, nB, nA]
    · intro j l h
      match j, h with
      | 0, _ => exact ⟨_, rfl⟩
      | 1, _ => exact ⟨_, rfl⟩
      | 2, h => simp [zi, AO.ren] at h
      | 3, h => simp [zi, AO.ren] at h
      | j + 4, h => simp [zi] at h
    · simp only [qc _ _ (qe _ _), zL, ↓reduceIte, reduceCtorEq, nE, nA]
end Go.Proofs.Ytfhckbbgmblhbaa

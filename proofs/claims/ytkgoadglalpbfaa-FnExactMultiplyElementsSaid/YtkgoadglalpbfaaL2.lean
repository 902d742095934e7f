/- Contracts: products of diagrams, the reference. -/
import Derived.Test.YtkgoadglalpbfaaL1
namespace Go.Proofs.Ytkgoadglalpbfaa
open Go.Am Go.Dia
set_option linter.unusedSimpArgs false
set_option linter.unusedVariables false
set_option maxRecDepth 4000
set_option maxHeartbeats 1000000

def falses (l : List AV) : Nat := l.countP fun v => match v with | .bool false => true | _ => false
theorem falses_set : ∀ {met : List Bool} {k : Nat}, k < met.length → met.getD k false = false → falses (bls (met.set k true)) < falses (bls met)
  | b :: l, 0, _, h => by
    simp only [List.getD_cons_zero] at h
    subst h
    simp [falses, bls]
  | b :: l, k + 1, hk, h => by
    have ih := falses_set (met := l) (k := k) (by simpa using hk) (by simpa using h)
    simp only [falses, bls] at ih
    simp only [falses, bls, List.set_cons_succ, List.map_cons, List.countP_cons]
    omega
theorem falses_le : ∀ {met : List Bool} {k : Nat}, falses (bls (met.set k true)) ≤ falses (bls met)
  | [], k => by simp [falses, bls]
  | b :: l, 0 => by cases b <;> simp [falses, bls]
  | b :: l, k + 1 => by
    have ih := falses_le (met := l) (k := k)
    simp only [falses, bls] at ih
    simp only [falses, bls, List.set_cons_succ, List.map_cons, List.countP_cons]
    omega
theorem followF_len {n : Nat} {d e : List Nat} {r : Nat × Bool × List Bool} : ∀ {f : Nat} {u : Bool} {i : Nat} {met : List Bool}, followF n d e f u i met = some r → r.2.2.length = met.length
  | 0, _, _, _, h => by simp [followF] at h
  | f + 1, true, i, met, h => by
    rw [followF] at h
    split at h
    · cases h; rfl
    · rw [followF_len h, List.length_set]
  | f + 1, false, i, met, h => by
    rw [followF] at h
    split at h
    · cases h; rfl
    · rw [followF_len h, List.length_set]
theorem fol_len {n : Nat} {d e : List Nat} (hd : isS n d = true) (he : isS n e = true) {i : Nat} {u : Bool} (hi : i < 2 * n) (hu : u = decide (i < n)) (met : List Bool) : (fol n d e u i met).length = met.length := by
  subst hu
  obtain ⟨f, met', h⟩ := follow_pr hd he hi met
  rw [fol_eq h]; exact followF_len h
/-- On the way round a loop. -/
def InL (n : Nat) (d e : List Nat) (f g : Nat → Nat) (i x : Nat) (met : List Bool) : Prop :=
  met.length = 8 ∧ ((x = i ∧ ∀ y, mt met y ↔ Seen n d e i y) ∨ ∃ (T : Nat → Prop) (last : Nat), Half (XX n d e) f g i T last ∧ x = g last ∧ ∀ y, mt met y ↔ Seen n d e i y ∨ T y)
theorem inL_next {n : Nat} {d e : List Nat} {f g : Nat → Nat} (hf : Inv (XX n d e) f) (hg : Inv (XX n d e) g) (hn : n ≤ 8) {i x : Nat} {met : List Bool} (hi : i < n) (h0 : ¬ Seen n d e i i) (h : InL n d e f g i x met) (hx : ¬ mt met x) :
    XX n d e x ∧ XX n d e (f x) ∧ InL n d e f g i (g (f x)) ((met.set x true).set (f x) true) := by
  have hX : XX n d e i := ⟨hi, fun h => h0 (.inl h)⟩
  obtain ⟨hl, h⟩ := h
  have mt2 : ∀ {x y z : Nat}, x < n → y < n → (mt ((met.set x true).set y true) z ↔ z = y ∨ z = x ∨ mt met z) := fun {x y z} h1 h2 => by
    rw [mt_set (by rw [List.length_set]; omega), mt_set (by omega)]
  rcases h with ⟨rfl, hm⟩ | ⟨T, last, hT, rfl, hm⟩
  · have hfx := hf.mem _ hX
    refine ⟨hX, hfx, by rw [List.length_set, List.length_set]; exact hl, .inr ⟨_, _, Half.start hf hX, rfl, fun y => ?_⟩⟩
    rw [mt2 hX.1 hfx.1, hm]
    constructor
    · rintro (h | h | h)
      · exact .inr (.inr h)
      · exact .inr (.inl h)
      · exact .inl h
    · rintro (h | h | h)
      · exact .inr (.inr h)
      · exact .inr (.inl h)
      · exact .inl h
  · have hT' : ¬ T (g last) := fun h => hx ((hm _).2 (.inr h))
    have hgl := hg.mem _ (Ring.mem hf hg hX (hT.ring _ hT.lm))
    have hfx := hf.mem _ hgl
    refine ⟨hgl, hfx, by rw [List.length_set, List.length_set]; exact hl, .inr ⟨_, _, (hT.next hf hg hX hT').1, rfl, fun y => ?_⟩⟩
    rw [mt2 hgl.1 hfx.1, hm]
    constructor
    · rintro (h | h | h | h)
      · exact .inr (.inr (.inl h))
      · exact .inr (.inl h)
      · exact .inl h
      · exact .inr (.inr (.inr h))
    · rintro (h | h | h | h)
      · exact .inr (.inr (.inl h))
      · exact .inr (.inl h)
      · exact .inl h
      · exact .inr (.inr (.inr h))
theorem inL_stop {n : Nat} {d e : List Nat} (hd : isS n d = true) (he : isS n e = true) {f g : Nat → Nat} (hf : Inv (XX n d e) f) (hg : Inv (XX n d e) g) (hR : ∀ i x, Ring f g i x ↔ Ring (dm n d) (em e) i x) {i x : Nat} {met : List Bool} (hi : i < n) (h0 : ¬ Seen n d e i i) (h : InL n d e f g i x met) (hx : mt met x) :
    ∀ y, mt met y ↔ Seen n d e (i + 1) y := by
  have hX : XX n d e i := ⟨hi, fun h => h0 (.inl h)⟩
  intro y
  rw [seen_new hi h0]
  obtain ⟨hl, ⟨rfl, hm⟩ | ⟨T, last, hT, rfl, hm⟩⟩ := h
  · exact absurd ((hm _).1 hx) h0
  · have hr : Ring f g i (g last) := .two (hT.ring _ hT.lm)
    have hT' : T (g last) := ((hm _).1 hx).resolve_left (seen_apart hd he hi h0 ((hR _ _).1 hr))
    have hs := (hT.stop hf hg hX hT').2
    rw [hm, hs, hR]
theorem B80_s_l01Follow_L2 : B80 143 = some (g_follow) := rfl
def a_s_l01Times_t1 : AT := (.one ⟨some 17, none, .op (.faddr 0 (.t 2))⟩
     (.one ⟨some 18, none, .op (.load1 (.t 17))⟩
     (.one ⟨some 19, none, .op (.build [(.bool false), (.bool false), (.bool false), (.bool false), (.bool false), (.bool false), (.bool false), (.bool false)] [])⟩
     (.one ⟨some 20, none, .op (.faddr 0 (.t 2))⟩
     (.alt ⟨some 21, none, .op (.load1 (.t 20))⟩
     (.one ⟨some 22, none, .op (.build [(.int .i64 0), (.int .u8 0), (.int .u8 0), (.int .u8 0), (.int .u8 0), (.int .u8 0), (.int .u8 0), (.int .u8 0), (.int .u8 0), (.int .u8 0), (.int .u8 0), (.int .u8 0), (.int .u8 0), (.int .u8 0), (.int .u8 0), (.int .u8 0), (.int .u8 0)] [(0, 1, (.t 21))])⟩
      (.alt ⟨some 7, none, .op (.alloc [(.bool false), (.bool false), (.bool false), (.bool false), (.bool false), (.bool false), (.bool false), (.bool false)])⟩
      (.one ⟨some 8, none, .op (.alloc [(.int .i64 0), (.int .u8 0), (.int .u8 0), (.int .u8 0), (.int .u8 0), (.int .u8 0), (.int .u8 0), (.int .u8 0), (.int .u8 0), (.int .u8 0), (.int .u8 0), (.int .u8 0), (.int .u8 0), (.int .u8 0), (.int .u8 0), (.int .u8 0), (.int .u8 0)])⟩
       (.one ⟨some 6, none, .op (.mov (.t 18))⟩
       (.one ⟨none, none, .op (.storeN 8 (.t 7) (.t 19))⟩
       (.one ⟨none, none, .op (.storeN 17 (.t 8) (.t 22))⟩
       (.nil)))))
      (.alt ⟨some 8, none, .op (.alloc [(.int .i64 0), (.int .u8 0), (.int .u8 0), (.int .u8 0), (.int .u8 0), (.int .u8 0), (.int .u8 0), (.int .u8 0), (.int .u8 0), (.int .u8 0), (.int .u8 0), (.int .u8 0), (.int .u8 0), (.int .u8 0), (.int .u8 0), (.int .u8 0), (.int .u8 0)])⟩
      (.one ⟨some 7, none, .op (.alloc [(.bool false), (.bool false), (.bool false), (.bool false), (.bool false), (.bool false), (.bool false), (.bool false)])⟩
       (.one ⟨some 6, none, .op (.mov (.t 18))⟩
       (.one ⟨none, none, .op (.storeN 8 (.t 7) (.t 19))⟩
       (.one ⟨none, none, .op (.storeN 17 (.t 8) (.t 22))⟩
       (.nil)))))
      (.none))))
     (.alt ⟨some 7, none, .op (.alloc [(.bool false), (.bool false), (.bool false), (.bool false), (.bool false), (.bool false), (.bool false), (.bool false)])⟩
     (.alt ⟨some 21, none, .op (.load1 (.t 20))⟩
      (.one ⟨some 22, none, .op (.build [(.int .i64 0), (.int .u8 0), (.int .u8 0), (.int .u8 0), (.int .u8 0), (.int .u8 0), (.int .u8 0), (.int .u8 0), (.int .u8 0), (.int .u8 0), (.int .u8 0), (.int .u8 0), (.int .u8 0), (.int .u8 0), (.int .u8 0), (.int .u8 0), (.int .u8 0)] [(0, 1, (.t 21))])⟩
       (.one ⟨some 8, none, .op (.alloc [(.int .i64 0), (.int .u8 0), (.int .u8 0), (.int .u8 0), (.int .u8 0), (.int .u8 0), (.int .u8 0), (.int .u8 0), (.int .u8 0), (.int .u8 0), (.int .u8 0), (.int .u8 0), (.int .u8 0), (.int .u8 0), (.int .u8 0), (.int .u8 0), (.int .u8 0)])⟩
       (.one ⟨some 6, none, .op (.mov (.t 18))⟩
       (.one ⟨none, none, .op (.storeN 8 (.t 7) (.t 19))⟩
       (.one ⟨none, none, .op (.storeN 17 (.t 8) (.t 22))⟩
       (.nil))))))
      (.alt ⟨some 8, none, .op (.alloc [(.int .i64 0), (.int .u8 0), (.int .u8 0), (.int .u8 0), (.int .u8 0), (.int .u8 0), (.int .u8 0), (.int .u8 0), (.int .u8 0), (.int .u8 0), (.int .u8 0), (.int .u8 0), (.int .u8 0), (.int .u8 0), (.int .u8 0), (.int .u8 0), (.int .u8 0)])⟩
      (.one ⟨some 6, none, .op (.mov (.t 18))⟩
       (.alt ⟨some 21, none, .op (.load1 (.t 20))⟩
       (.one ⟨some 22, none, .op (.build [(.int .i64 0), (.int .u8 0), (.int .u8 0), (.int .u8 0), (.int .u8 0), (.int .u8 0), (.int .u8 0), (.int .u8 0), (.int .u8 0), (.int .u8 0), (.int .u8 0), (.int .u8 0), (.int .u8 0), (.int .u8 0), (.int .u8 0), (.int .u8 0), (.int .u8 0)] [(0, 1, (.t 21))])⟩
        (.one ⟨none, none, .op (.storeN 8 (.t 7) (.t 19))⟩
        (.one ⟨none, none, .op (.storeN 17 (.t 8) (.t 22))⟩
        (.nil))))
       (.alt ⟨none, none, .op (.storeN 8 (.t 7) (.t 19))⟩
       (.one ⟨some 21, none, .op (.load1 (.t 20))⟩
        (.one ⟨some 22, none, .op (.build [(.int .i64 0), (.int .u8 0), (.int .u8 0), (.int .u8 0), (.int .u8 0), (.int .u8 0), (.int .u8 0), (.int .u8 0), (.int .u8 0), (.int .u8 0), (.int .u8 0), (.int .u8 0), (.int .u8 0), (.int .u8 0), (.int .u8 0), (.int .u8 0), (.int .u8 0)] [(0, 1, (.t 21))])⟩
        (.one ⟨none, none, .op (.storeN 17 (.t 8) (.t 22))⟩
        (.nil))))
       (.none))))
      (.none)))
     (.alt ⟨some 8, none, .op (.alloc [(.int .i64 0), (.int .u8 0), (.int .u8 0), (.int .u8 0), (.int .u8 0), (.int .u8 0), (.int .u8 0), (.int .u8 0), (.int .u8 0), (.int .u8 0), (.int .u8 0), (.int .u8 0), (.int .u8 0), (.int .u8 0), (.int .u8 0), (.int .u8 0), (.int .u8 0)])⟩
     (.alt ⟨some 21, none, .op (.load1 (.t 20))⟩
      (.one ⟨some 22, none, .op (.build [(.int .i64 0), (.int .u8 0), (.int .u8 0), (.int .u8 0), (.int .u8 0), (.int .u8 0), (.int .u8 0), (.int .u8 0), (.int .u8 0), (.int .u8 0), (.int .u8 0), (.int .u8 0), (.int .u8 0), (.int .u8 0), (.int .u8 0), (.int .u8 0), (.int .u8 0)] [(0, 1, (.t 21))])⟩
       (.one ⟨some 7, none, .op (.alloc [(.bool false), (.bool false), (.bool false), (.bool false), (.bool false), (.bool false), (.bool false), (.bool false)])⟩
       (.one ⟨some 6, none, .op (.mov (.t 18))⟩
       (.one ⟨none, none, .op (.storeN 8 (.t 7) (.t 19))⟩
       (.one ⟨none, none, .op (.storeN 17 (.t 8) (.t 22))⟩
       (.nil))))))
      (.alt ⟨some 7, none, .op (.alloc [(.bool false), (.bool false), (.bool false), (.bool false), (.bool false), (.bool false), (.bool false), (.bool false)])⟩
      (.one ⟨some 6, none, .op (.mov (.t 18))⟩
       (.alt ⟨some 21, none, .op (.load1 (.t 20))⟩
       (.one ⟨some 22, none, .op (.build [(.int .i64 0), (.int .u8 0), (.int .u8 0), (.int .u8 0), (.int .u8 0), (.int .u8 0), (.int .u8 0), (.int .u8 0), (.int .u8 0), (.int .u8 0), (.int .u8 0), (.int .u8 0), (.int .u8 0), (.int .u8 0), (.int .u8 0), (.int .u8 0), (.int .u8 0)] [(0, 1, (.t 21))])⟩
        (.one ⟨none, none, .op (.storeN 8 (.t 7) (.t 19))⟩
        (.one ⟨none, none, .op (.storeN 17 (.t 8) (.t 22))⟩
        (.nil))))
       (.alt ⟨none, none, .op (.storeN 8 (.t 7) (.t 19))⟩
       (.one ⟨some 21, none, .op (.load1 (.t 20))⟩
        (.one ⟨some 22, none, .op (.build [(.int .i64 0), (.int .u8 0), (.int .u8 0), (.int .u8 0), (.int .u8 0), (.int .u8 0), (.int .u8 0), (.int .u8 0), (.int .u8 0), (.int .u8 0), (.int .u8 0), (.int .u8 0), (.int .u8 0), (.int .u8 0), (.int .u8 0), (.int .u8 0), (.int .u8 0)] [(0, 1, (.t 21))])⟩
        (.one ⟨none, none, .op (.storeN 17 (.t 8) (.t 22))⟩
        (.nil))))
       (.none))))
      (.none)))
     (.none))))))))
def a_s_l01Times_l1 : AC := .seq (.seq (.region [⟨some 23, none, .op (.mov (.t 9))⟩,
         ⟨some 24, none, .op (.mov (.t 6))⟩,
         ⟨some 25, none, .op (.bin .lss (.t 23) (.t 24))⟩]) (.cond 25 .skip (.exit 0))) (.seq (.block 1 (.seq (.region [⟨some 29, none, .op (.loadN 17 (.t 2))⟩,
          ⟨some 30, none, .op (.loadN 17 (.t 3))⟩,
          ⟨some 31, none, .op (.mov (.t 9))⟩,
          ⟨some 32, none, .call (.c (.fn 143 [] [])) [(.t 29), (.t 30), (.t 31), (.c (.bool true)), (.t 7)]⟩,
          ⟨some 28, none, .op (.mov (.t 32))⟩,
          ⟨some 33, none, .op (.ext 0 (.t 28))⟩,
          ⟨some 34, none, .op (.ext 1 (.t 28))⟩,
          ⟨some 10, none, .op (.mov (.t 33))⟩,
          ⟨some 11, none, .op (.mov (.t 34))⟩]) (.seq (.region [⟨some 35, none, .op (.mov (.t 9))⟩,
          ⟨some 36, none, .op (.mov (.t 10))⟩,
          ⟨some 37, none, .op (.conv .u8 (.t 36))⟩,
          ⟨some 38, none, .op (.faddr 1 (.t 8))⟩,
          ⟨some 39, none, .op (.iaddrA 16 1 (.t 38) (.t 35))⟩,
          ⟨none, none, .op (.store1 (.t 39) (.t 37))⟩]) (.seq (.region [⟨some 41, none, .op (.loadN 17 (.t 2))⟩,
          ⟨some 42, none, .op (.loadN 17 (.t 3))⟩,
          ⟨some 43, none, .op (.mov (.t 6))⟩,
          ⟨some 44, none, .op (.mov (.t 9))⟩,
          ⟨some 45, none, .op (.bin .add (.t 43) (.t 44))⟩,
          ⟨some 46, none, .call (.c (.fn 143 [] [])) [(.t 41), (.t 42), (.t 45), (.c (.bool false)), (.t 7)]⟩,
          ⟨some 40, none, .op (.mov (.t 46))⟩,
          ⟨some 47, none, .op (.ext 0 (.t 40))⟩,
          ⟨some 48, none, .op (.ext 1 (.t 40))⟩,
          ⟨some 12, none, .op (.mov (.t 47))⟩,
          ⟨some 13, none, .op (.mov (.t 48))⟩]) (.region [⟨some 49, none, .op (.mov (.t 6))⟩,
         ⟨some 50, none, .op (.mov (.t 9))⟩,
         ⟨some 51, none, .op (.bin .add (.t 49) (.t 50))⟩,
         ⟨some 52, none, .op (.mov (.t 12))⟩,
         ⟨some 53, none, .op (.conv .u8 (.t 52))⟩,
         ⟨some 54, none, .op (.faddr 1 (.t 8))⟩,
         ⟨some 55, none, .op (.iaddrA 16 1 (.t 54) (.t 51))⟩,
         ⟨none, none, .op (.store1 (.t 55) (.t 53))⟩]))))) (.region [⟨some 26, none, .op (.mov (.t 9))⟩,
       ⟨some 27, none, .op (.bin .add (.t 26) (.c (.int .i64 1)))⟩,
       ⟨some 9, none, .op (.mov (.t 27))⟩]))
def a_s_l01Times_l2 : AC := .seq (.seq (.region [⟨some 67, none, .op (.mov (.t 16))⟩,
             ⟨some 68, none, .op (.iaddrA 8 1 (.t 7) (.t 67))⟩,
             ⟨some 69, none, .op (.load1 (.t 68))⟩,
             ⟨some 70, none, .op (.un .not (.t 69))⟩]) (.cond 70 .skip (.exit 4))) (.block 5 (.seq (.region [⟨some 71, none, .op (.mov (.t 16))⟩,
             ⟨some 72, none, .op (.iaddrA 8 1 (.t 7) (.t 71))⟩,
             ⟨none, none, .op (.store1 (.t 72) (.c (.bool true)))⟩]) (.seq (.region [⟨some 73, none, .op (.mov (.t 6))⟩,
             ⟨some 74, none, .op (.mov (.t 16))⟩,
             ⟨some 75, none, .op (.bin .add (.t 73) (.t 74))⟩,
             ⟨some 76, none, .op (.faddr 1 (.t 2))⟩,
             ⟨some 77, none, .op (.iaddrA 16 1 (.t 76) (.t 75))⟩,
             ⟨some 78, none, .op (.load1 (.t 77))⟩,
             ⟨some 79, none, .op (.conv .i64 (.t 78))⟩,
             ⟨some 80, none, .op (.mov (.t 6))⟩,
             ⟨some 81, none, .op (.bin .sub (.t 79) (.t 80))⟩,
             ⟨some 16, none, .op (.mov (.t 81))⟩]) (.seq (.region [⟨some 82, none, .op (.mov (.t 16))⟩,
             ⟨some 83, none, .op (.iaddrA 8 1 (.t 7) (.t 82))⟩,
             ⟨none, none, .op (.store1 (.t 83) (.c (.bool true)))⟩]) (.region [⟨some 84, none, .op (.mov (.t 16))⟩,
            ⟨some 85, none, .op (.faddr 1 (.t 3))⟩,
            ⟨some 86, none, .op (.iaddrA 16 1 (.t 85) (.t 84))⟩,
            ⟨some 87, none, .op (.load1 (.t 86))⟩,
            ⟨some 88, none, .op (.conv .i64 (.t 87))⟩,
            ⟨some 16, none, .op (.mov (.t 88))⟩])))))
def a_s_l01Times_k1 : AC := .region [⟨some 59, none, .op (.mov (.t 15))⟩,
       ⟨some 60, none, .op (.bin .add (.t 59) (.c (.int .i64 1)))⟩,
       ⟨some 15, none, .op (.mov (.t 60))⟩]
def a_s_l01Times_l3 : AC := .seq (.seq (.region [⟨some 56, none, .op (.mov (.t 15))⟩,
         ⟨some 57, none, .op (.mov (.t 6))⟩,
         ⟨some 58, none, .op (.bin .lss (.t 56) (.t 57))⟩]) (.cond 58 .skip (.exit 2))) (.seq (.block 3 (.seq (.seq (.region [⟨some 61, none, .op (.mov (.t 15))⟩,
           ⟨some 62, none, .op (.iaddrA 8 1 (.t 7) (.t 61))⟩,
           ⟨some 63, none, .op (.load1 (.t 62))⟩]) (.cond 63 (.exit 3) .skip)) (.seq (.region [⟨some 64, none, .op (.mov (.t 14))⟩,
          ⟨some 65, none, .op (.bin .add (.t 64) (.c (.int .i64 1)))⟩,
          ⟨some 14, none, .op (.mov (.t 65))⟩]) (.seq (.region [⟨some 66, none, .op (.mov (.t 15))⟩,
          ⟨some 16, none, .op (.mov (.t 66))⟩]) (.block 4 (.loop a_s_l01Times_l2)))))) a_s_l01Times_k1)
def a_s_l01Times_k2 : AC := .seq (.region [⟨some 89, none, .op (.loadN 17 (.t 8))⟩,
     ⟨some 90, none, .op (.mov (.t 14))⟩,
     ⟨none, none, .op (.storeN 17 (.t 4) (.t 89))⟩,
     ⟨some 5, none, .op (.mov (.t 90))⟩]) .ret
def a_s_l01Times_k3 : AC := .seq (.region [⟨some 14, none, .op (.mov (.c (.int .i64 0)))⟩]) (.seq (.seq (.region [⟨some 15, none, .op (.mov (.c (.int .i64 0)))⟩]) (.block 2 (.loop a_s_l01Times_l3))) a_s_l01Times_k2)
def a_s_l01Times_k4 : AC := .seq (.seq (.region [⟨some 9, none, .op (.mov (.c (.int .i64 0)))⟩]) (.block 0 (.loop a_s_l01Times_l1))) a_s_l01Times_k3
def a_s_l01Times : AC := .seq (.region [⟨some 2, none, .op (.box (.t 0))⟩,
     ⟨some 3, none, .op (.box (.t 1))⟩,
     ⟨some 4, none, .op (.alloc [(.int .i64 0), (.int .u8 0), (.int .u8 0), (.int .u8 0), (.int .u8 0), (.int .u8 0), (.int .u8 0), (.int .u8 0), (.int .u8 0), (.int .u8 0), (.int .u8 0), (.int .u8 0), (.int .u8 0), (.int .u8 0), (.int .u8 0), (.int .u8 0), (.int .u8 0)])⟩,
     ⟨some 5, none, .op (.mov (.c (.int .i64 0)))⟩]) (.seq (.tree false a_s_l01Times_t1) a_s_l01Times_k4)
theorem r_s_l01Times : readF Try.prog 125 = some ⟨91, a_s_l01Times, [.cellN 4 17, .slot 5]⟩ := by kernel_rfl
theorem c_s_l01Times (N : Nat) (d e : List Nat) (hd : okD d) (he : okD e) (hds : isS N d = true) (hes : isS N e = true) :
    Am.Fn Try.prog 125 [.agg (dia N d), .agg (dia N e)] [] (fun v H' => v = .tup [.agg (dia N (prodL N d e)), .int .i64 (lpN N d e N : Nat)] ∧ H' = []) := by
  refine Am.Fn.sameB (R := fun v => v = _) B80_ok mixed r_s_l01Times (by simp) (by simp) ?_
  obtain ⟨hN, hpd, _⟩ := isS_mate hds
  obtain ⟨_, hpe, _⟩ := isS_mate hes
  have hdl := hd.1
  have hel := he.1
  have hb8 : [AV.bool false, .bool false, .bool false, .bool false, .bool false, .bool false, .bool false, .bool false] = bls (List.replicate 8 false) := rfl
  simp (maxSteps := 3000000) only [over4E, heapL, fillA, rd, wrt, wrl, AO.withl, a_s_l01Times, dia_zero, dia_zero_len, dia_length, hdl, hel, dia_get0, Int.reduceEq, Int.reduceNe, Int.reduceBEq, Int.reduceBNe, Int.reduceLT, Int.reduceLE, Int.reduceAdd, Int.reduceSub, Int.reduceMul, idX_eq, wbE, ↓symP, symE, listE, AK.isCall, enumE, ev, putE, abin, aun, AV.cells, ↓reduceIte, reduceCtorEq, Nat.reduceAdd, Nat.reduceMul, Nat.reduceSub, Nat.reduceEqDiff, Nat.reduceLT, Nat.reduceLeDiff, implies_true, Back, retv, retV, AV.scal, AV.scals]; try simp only [idX_eq, ite_both, pickP_both, not_not_eq, Bool.not_eq_false, Bool.not_eq_true]
  refine WA.treeB B80_ok (fun s => s = ⟨[(8, .ptr 4 0), (7, .ptr 3 0), (6, .int .i64 N), (5, .int .i64 0), (4, .ptr 2 0), (3, .ptr 1 0), (2, .ptr 0 0)], [.cells (dia N d), .cells (dia N e), .cells (dia 0 (List.replicate 16 0)), .cells (bls (List.replicate 8 false)), .cells (dia N (List.replicate 16 0))]⟩) ?_ ?_
  · have hov8 : over (bls (List.replicate 8 false)) 0 (bls (List.replicate 8 false)) = bls (List.replicate 8 false) := rfl
    have hl8 : (bls (List.replicate 8 false)).length = 8 := rfl
    have ho8 : (bls (List.replicate 8 false)).all AV.one = true := rfl
    unfold a_s_l01Times_t1
    simp (maxSteps := 3000000) only [over4E, heapL, fillA, rd, wrt, wrl, AO.withl, wbTT_alt, wbTT_no, hb8, hov8, hl8, ho8, dia_zero, dia_zero_len, dia_sized', dia_length, hdl, hel, dia_get0, ones_dia, over_dia okD_zero okD_zero, List.length_replicate, Nat.le_refl, Int.reduceEq, Int.reduceNe, Int.reduceBEq, Int.reduceBNe, Int.reduceLT, Int.reduceLE, Int.reduceAdd, Int.reduceSub, Int.reduceMul, idX_eq, wbE, ↓symP, symE, listE, AK.isCall, enumE, ev, putE, abin, aun, AV.cells, ↓reduceIte, reduceCtorEq, Nat.reduceAdd, Nat.reduceMul, Nat.reduceSub, Nat.reduceEqDiff, Nat.reduceLT, Nat.reduceLeDiff, implies_true, Back, retv, retV, AV.scal, AV.scals]; try simp only [idX_eq, ite_both, pickP_both, not_not_eq, Bool.not_eq_false, Bool.not_eq_true]
    repeat' (with_reducible refine And.intro ?_ ?_)
    all_goals first
      | exact ⟨_, Weak.slots [8, 7, 6, 5, 4, 3, 2], rfl⟩
      | (refine ⟨_, Weak.keep [0, 1, 2, 4, 3] [8, 7, 6, 5, 4, 3, 2] ⟨by decide, ?_⟩ ?_, ?_⟩
         · simp only [withins_scal _ _ (scals_dia _ _), withins_scal _ _ (scals_bls _), keepW, keepL, AV.within, AV.withins, ↓reduceIte, reduceCtorEq, Nat.reduceEqDiff, Nat.reduceBEq, implies_true, Nat.reduceAdd]
         · simp only [withins_scal _ _ (scals_dia _ _), withins_scal _ _ (scals_bls _), keepW, keepL, AV.within, AV.withins, ↓reduceIte, reduceCtorEq, Nat.reduceEqDiff, Nat.reduceBEq, implies_true, Nat.reduceAdd]
         · simp only [rens_scal _ _ (scals_dia _ _), rens_scal _ _ (scals_bls _), keptL, keptW, keptE, kepts, slots, ↓reduceIte, reduceCtorEq, Nat.reduceEqDiff, AV.ren, AV.rens, pos, Nat.reduceAdd])
  rintro s rfl
  simp (maxSteps := 3000000) only [over4E, heapL, fillA, rd, wrt, wrl, AO.withl, a_s_l01Times_k4, Int.reduceEq, Int.reduceNe, Int.reduceBEq, Int.reduceBNe, Int.reduceLT, Int.reduceLE, Int.reduceAdd, Int.reduceSub, Int.reduceMul, idX_eq, wbE, ↓symP, symE, listE, AK.isCall, enumE, ev, putE, abin, aun, AV.cells, ↓reduceIte, reduceCtorEq, Nat.reduceAdd, Nat.reduceMul, Nat.reduceSub, Nat.reduceEqDiff, Nat.reduceLT, Nat.reduceLeDiff, implies_true, Back, retv, retV, AV.scal, AV.scals]; try simp only [idX_eq, ite_both, pickP_both, not_not_eq, Bool.not_eq_false, Bool.not_eq_true]
  refine WA.loopB B80_ok (fun s => ∃ k : Nat, k ≤ N ∧ s = ⟨[(9, .int .i64 k), (8, .ptr 4 0), (7, .ptr 3 0), (6, .int .i64 N), (5, .int .i64 0), (4, .ptr 2 0), (3, .ptr 1 0), (2, .ptr 0 0)], [.cells (dia N d), .cells (dia N e), .cells (dia 0 (List.replicate 16 0)), .cells (bls (metK N d e k)), .cells (dia N (prodK N d e k))]⟩)
    (fun s => match get s.env 9 with | .int _ x => N - x.toNat | _ => 0) ⟨_, Weak.slots [9, 8, 7, 6, 5, 4, 3, 2], 0, by omega, rfl⟩ ?_
  rintro s ⟨k, hk, rfl⟩
  have hw : wrapK .i64 ((k : Int) + 1) = ((k + 1 : Nat) : Int) := by rw [wrap64 (by omega) (by omega)]; rfl
  by_cases hlt : k < N
  · have hli : (k : Int) < (N : Int) := by omega
    have hk16 := prodK_length N d e k
    have hmk := (metK_ok hds hes k hk).len
    have hx1 := pr_lt hds hes (i := k) (by omega)
    have hx2 := pr_lt hds hes (i := N + k) (by omega)
    have u1 : wrapK .u8 ((pr N d e k : Nat) : Int) = ((pr N d e k : Nat) : Int) := wrapU8 (by omega)
    have u2 : wrapK .u8 ((pr N d e (N + k) : Nat) : Int) = ((pr N d e (N + k) : Nat) : Int) := wrapU8 (by omega)
    have hadd : wrapK .i64 ((N : Int) + (k : Int)) = ((N + k : Nat) : Int) := by rw [wrap64 (by omega) (by omega)]; rfl
    obtain ⟨c1, c2⟩ := small16 (show k < 16 by omega)
    obtain ⟨c3, c4⟩ := small16 (show N + k < 16 by omega)
    have c5 : k < 16 := by omega
    have c6 : N + k < 16 := by omega
    have k1 : (0 : Int) ≤ (k : Int) ∧ (k : Int) < 2 * (N : Int) := by omega
    have k2 : (0 : Int) ≤ ((N + k : Nat) : Int) ∧ ((N + k : Nat) : Int) < 2 * (N : Int) := by omega
    have q1 : (true = decide ((k : Int) < (N : Int))) = True := by simp [hlt]
    have q2 : (false = decide (((N + k : Nat) : Int) < (N : Int))) = True := by simp; omega
    have hf1 : (fol N d e true k (metK N d e k)).length = 8 := by rw [fol_len hds hes (by omega) (by simp [hlt])]; exact hmk
    have q0 : (0 : Int) ≤ (N : Int) := by omega
    have hdo := diaOf_dia (n := (N : Int)) hd
    have heo := diaOf_dia (n := (N : Int)) he
    simp (maxSteps := 3000000) only [over4E, heapL, fillA, rd, wrt, wrl, AO.withl, a_s_l01Times_l1, B80_s_l01Follow_L2, g_follow, hw, hli, dia_length, hdl, hel, dia_take17 hdl, dia_take17 hel, hdo, heo, boolsOf_bls, Int.toNat_natCast, hds, hes, k1, k2, q0, q1, q2, hmk, hf1, u1, u2, hadd, c1, c2, c3, c4, c5, c6, hk16, dia_set, List.length_set, bls_length, AV.one, and_self, true_and, and_true, Int.reduceEq, Int.reduceNe, Int.reduceBEq, Int.reduceBNe, Int.reduceLT, Int.reduceLE, Int.reduceAdd, Int.reduceSub, Int.reduceMul, idX_eq, wbE, ↓symP, symE, listE, AK.isCall, enumE, ev, putE, abin, aun, AV.cells, ↓reduceIte, reduceCtorEq, Nat.reduceAdd, Nat.reduceMul, Nat.reduceSub, Nat.reduceEqDiff, Nat.reduceLT, Nat.reduceLeDiff, implies_true, Back, retv, retV, AV.scal, AV.scals]; try simp only [idX_eq, ite_both, pickP_both, not_not_eq, Bool.not_eq_false, Bool.not_eq_true]
    refine ⟨_, Weak.slots [9, 8, 7, 6, 5, 4, 3, 2], ⟨k + 1, by omega, ?_⟩, ?_⟩
    · simp only [keptL, keptW, keptE, kepts, slots, ↓reduceIte, reduceCtorEq, Nat.reduceEqDiff, AV.ren, AV.rens, pos, Nat.reduceAdd]
      rfl
    · simp only [keptL, keptW, keptE, kepts, slots, ↓reduceIte, reduceCtorEq, Nat.reduceEqDiff, AV.ren, AV.rens, pos, Nat.reduceAdd]; omega
  have hli : ¬ (k : Int) < (N : Int) := by omega
  obtain rfl : k = N := by omega
  simp (maxSteps := 3000000) only [over4E, heapL, fillA, rd, wrt, wrl, AO.withl, a_s_l01Times_l1, a_s_l01Times_k3, B80_s_l01Follow_L2, g_follow, hli, Int.lt_irrefl, Int.reduceEq, Int.reduceNe, Int.reduceBEq, Int.reduceBNe, Int.reduceLT, Int.reduceLE, Int.reduceAdd, Int.reduceSub, Int.reduceMul, idX_eq, wbE, ↓symP, symE, listE, AK.isCall, enumE, ev, putE, abin, aun, AV.cells, ↓reduceIte, reduceCtorEq, Nat.reduceAdd, Nat.reduceMul, Nat.reduceSub, Nat.reduceEqDiff, Nat.reduceLT, Nat.reduceLeDiff, implies_true, Back, retv, retV, AV.scal, AV.scals]; try simp only [idX_eq, ite_both, pickP_both, not_not_eq, Bool.not_eq_false, Bool.not_eq_true]
  refine WA.loopB B80_ok (fun s => ∃ (i : Nat) (met : List Bool), i ≤ k ∧ (met.length = 8 ∧ ∀ x, mt met x ↔ Seen k d e i x) ∧ s = ⟨[(15, .int .i64 i), (14, .int .i64 (lpN k d e i : Nat)), (8, .ptr 4 0), (7, .ptr 3 0), (6, .int .i64 k), (5, .int .i64 0), (4, .ptr 2 0), (3, .ptr 1 0), (2, .ptr 0 0)], [.cells (dia k d), .cells (dia k e), .cells (dia 0 (List.replicate 16 0)), .cells (bls met), .cells (dia k (prodL k d e))]⟩)
    (fun s => match get s.env 15 with | .int _ x => k - x.toNat | _ => 0) ⟨_, Weak.slots [15, 14, 8, 7, 6, 5, 4, 3, 2], 0, metK k d e k, by omega, ⟨(metK_ok hds hes k (Nat.le_refl _)).len, fun x => ⟨.inl, fun h => h.elim id fun ⟨j, hj, _⟩ => absurd hj (Nat.not_lt_zero _)⟩⟩, rfl⟩ ?_
  clear hlt hli hw
  rintro s ⟨i, met, hi, ⟨hml, hmt⟩, rfl⟩
  have hw : wrapK .i64 ((i : Int) + 1) = ((i + 1 : Nat) : Int) := by rw [wrap64 (by omega) (by omega)]; rfl
  have hle := lpN_le k d e i
  have hw2 : wrapK .i64 (((lpN k d e i : Nat) : Int) + 1) = ((lpN k d e i + 1 : Nat) : Int) := by rw [wrap64 (by omega) (by omega)]; rfl
  by_cases hlt : i < k
  · have hli : (i : Int) < (k : Int) := by omega
    have g1 := small8 (show i < 8 by omega)
    have g2 : i < 8 := by omega
    have g3 := bls_get (l := met) (i := i) (by omega)
    by_cases hs : Seen k d e i i
    · have hm1 : met.getD i false = true := (hmt i).2 hs
      simp (maxSteps := 3000000) only [over4E, heapL, fillA, rd, wrt, wrl, AO.withl, a_s_l01Times_l3, a_s_l01Times_k1, B80_s_l01Follow_L2, g_follow, hw, hli, g1, g2, g3, hm1, bls_length, hml, Int.reduceEq, Int.reduceNe, Int.reduceBEq, Int.reduceBNe, Int.reduceLT, Int.reduceLE, Int.reduceAdd, Int.reduceSub, Int.reduceMul, idX_eq, wbE, ↓symP, symE, listE, AK.isCall, enumE, ev, putE, abin, aun, AV.cells, ↓reduceIte, reduceCtorEq, Nat.reduceAdd, Nat.reduceMul, Nat.reduceSub, Nat.reduceEqDiff, Nat.reduceLT, Nat.reduceLeDiff, implies_true, Back, retv, retV, AV.scal, AV.scals]; try simp only [idX_eq, ite_both, pickP_both, not_not_eq, Bool.not_eq_false, Bool.not_eq_true]
      refine ⟨_, Weak.slots [15, 14, 8, 7, 6, 5, 4, 3, 2], ⟨i + 1, met, by omega, ⟨hml, fun x => by rw [hmt, seen_old hds hes hs]⟩, ?_⟩, ?_⟩
      · simp only [keptL, keptW, keptE, kepts, slots, ↓reduceIte, reduceCtorEq, Nat.reduceEqDiff, AV.ren, AV.rens, pos, Nat.reduceAdd]
        simp only [lpN, if_pos hs]
      · simp only [keptL, keptW, keptE, kepts, slots, ↓reduceIte, reduceCtorEq, Nat.reduceEqDiff, AV.ren, AV.rens, pos, Nat.reduceAdd]; omega
    · have hm1 : met.getD i false = false := by
        cases h : met.getD i false with
        | false => rfl
        | true => exact absurd ((hmt i).1 h) hs
      simp (maxSteps := 3000000) only [over4E, heapL, fillA, rd, wrt, wrl, AO.withl, a_s_l01Times_l3, B80_s_l01Follow_L2, g_follow, hw, hw2, hli, g1, g2, g3, hm1, bls_length, hml, Int.reduceEq, Int.reduceNe, Int.reduceBEq, Int.reduceBNe, Int.reduceLT, Int.reduceLE, Int.reduceAdd, Int.reduceSub, Int.reduceMul, idX_eq, wbE, ↓symP, symE, listE, AK.isCall, enumE, ev, putE, abin, aun, AV.cells, ↓reduceIte, reduceCtorEq, Nat.reduceAdd, Nat.reduceMul, Nat.reduceSub, Nat.reduceEqDiff, Nat.reduceLT, Nat.reduceLeDiff, implies_true, Back, retv, retV, AV.scal, AV.scals]; try simp only [idX_eq, ite_both, pickP_both, not_not_eq, Bool.not_eq_false, Bool.not_eq_true]
      refine WA.loopB B80_ok (fun s => ∃ (x : Nat) (mm : List Bool), InL k d e (dm k d) (em e) i x mm ∧ s = ⟨[(16, .int .i64 x), (15, .int .i64 i), (14, .int .i64 (lpN k d e i + 1 : Nat)), (8, .ptr 4 0), (7, .ptr 3 0), (6, .int .i64 k), (5, .int .i64 0), (4, .ptr 2 0), (3, .ptr 1 0), (2, .ptr 0 0)], [.cells (dia k d), .cells (dia k e), .cells (dia 0 (List.replicate 16 0)), .cells (bls mm), .cells (dia k (prodL k d e))]⟩)
        (fun s : St => match s.hp[3]? with | some (AO.cells l) => falses l | _ => 0) ⟨_, Weak.slots [16, 15, 14, 8, 7, 6, 5, 4, 3, 2], i, met, ⟨hml, .inl ⟨rfl, hmt⟩⟩, rfl⟩ ?_
      rintro s ⟨x, mm, hin, rfl⟩
      have hmm := hin.1
      have hdi := dm_inv hds hes
      have hei := em_inv hds hes
      have hxk : x < k := by
        rcases hin.2 with ⟨rfl, _⟩ | ⟨T, last, hT, rfl, _⟩
        · exact hlt
        · exact (hei.mem _ (Ring.mem hdi hei ⟨hlt, fun h => hs (.inl h)⟩ (hT.ring _ hT.lm))).1
      have g4 := small8 (show x < 8 by omega)
      have g5 : x < 8 := by omega
      have g6 := bls_get (l := mm) (i := x) (by omega)
      by_cases hmx : mm.getD x false = true
      · have hst := inL_stop hds hes hdi hei (fun _ _ => Iff.rfl) hlt hs hin hmx
        simp (maxSteps := 3000000) only [over4E, heapL, fillA, rd, wrt, wrl, AO.withl, a_s_l01Times_l2, a_s_l01Times_k1, B80_s_l01Follow_L2, g_follow, hw, g4, g5, g6, hmx, bls_length, hmm, Bool.not_true, Int.reduceEq, Int.reduceNe, Int.reduceBEq, Int.reduceBNe, Int.reduceLT, Int.reduceLE, Int.reduceAdd, Int.reduceSub, Int.reduceMul, idX_eq, wbE, ↓symP, symE, listE, AK.isCall, enumE, ev, putE, abin, aun, AV.cells, ↓reduceIte, reduceCtorEq, Nat.reduceAdd, Nat.reduceMul, Nat.reduceSub, Nat.reduceEqDiff, Nat.reduceLT, Nat.reduceLeDiff, implies_true, Back, retv, retV, AV.scal, AV.scals]; try simp only [idX_eq, ite_both, pickP_both, not_not_eq, Bool.not_eq_false, Bool.not_eq_true]
        refine ⟨_, Weak.slots [15, 14, 8, 7, 6, 5, 4, 3, 2], ⟨i + 1, mm, by omega, ⟨hmm, hst⟩, ?_⟩, ?_⟩
        · simp only [keptL, keptW, keptE, kepts, slots, ↓reduceIte, reduceCtorEq, Nat.reduceEqDiff, AV.ren, AV.rens, pos, Nat.reduceAdd]
          simp only [lpN, if_neg hs]
        · simp only [keptL, keptW, keptE, kepts, slots, ↓reduceIte, reduceCtorEq, Nat.reduceEqDiff, AV.ren, AV.rens, pos, Nat.reduceAdd]; omega
      · obtain ⟨y1, y2, y3⟩ := inL_next hdi hei (by omega) hlt hs hin hmx
        have hmx' : mm.getD x false = false := by simpa using hmx
        obtain ⟨z1, z2, z3⟩ := xx_ge hds hes y1
        have hdx : dm k d x = d.getD (k + x) 0 - k := rfl
        have hyk := y2.1
        have hadd : wrapK .i64 ((k : Int) + (x : Int)) = ((k + x : Nat) : Int) := by rw [wrap64 (by omega) (by omega)]; rfl
        obtain ⟨c3, c4⟩ := small16 (show k + x < 16 by omega)
        have c6 : k + x < 16 := by omega
        obtain ⟨c7, c8⟩ := small16 (show dm k d x < 16 by omega)
        have c9 : dm k d x < 16 := by omega
        have g7 := small8 (show dm k d x < 8 by omega)
        have g8 : dm k d x < 8 := by omega
        have d1 := dia_get (n := (k : Int)) (m := d) (i := k + x) (by omega)
        have d2 := dia_get (n := (k : Int)) (m := e) (i := dm k d x) (by omega)
        have v1 : wrapK .i64 ((d.getD (k + x) 0 : Nat) : Int) = ((d.getD (k + x) 0 : Nat) : Int) := wrap64N (by omega)
        have v2 : wrapK .i64 (((d.getD (k + x) 0 : Nat) : Int) - (k : Int)) = ((dm k d x : Nat) : Int) := by rw [wrap64 (by omega) (by omega)]; omega
        have v3 : wrapK .i64 ((e.getD (dm k d x) 0 : Nat) : Int) = ((e.getD (dm k d x) 0 : Nat) : Int) := wrap64N (by have := xx_ge hds hes y2; omega)
        simp (maxSteps := 3000000) only [over4E, heapL, fillA, rd, wrt, wrl, AO.withl, a_s_l01Times_l2, B80_s_l01Follow_L2, g_follow, g4, g5, g6, g7, g8, hmx', bls_length, bls_set, hmm, List.length_set, hadd, c3, c4, c6, c7, c8, c9, d1, d2, v1, v2, v3, dia_length, hdl, hel, AV.one, Bool.not_false, Int.reduceEq, Int.reduceNe, Int.reduceBEq, Int.reduceBNe, Int.reduceLT, Int.reduceLE, Int.reduceAdd, Int.reduceSub, Int.reduceMul, idX_eq, wbE, ↓symP, symE, listE, AK.isCall, enumE, ev, putE, abin, aun, AV.cells, ↓reduceIte, reduceCtorEq, Nat.reduceAdd, Nat.reduceMul, Nat.reduceSub, Nat.reduceEqDiff, Nat.reduceLT, Nat.reduceLeDiff, implies_true, Back, retv, retV, AV.scal, AV.scals]; try simp only [idX_eq, ite_both, pickP_both, not_not_eq, Bool.not_eq_false, Bool.not_eq_true]
        refine ⟨_, Weak.slots [16, 15, 14, 8, 7, 6, 5, 4, 3, 2], ⟨_, _, y3, ?_⟩, ?_⟩
        · simp only [keptL, keptW, keptE, kepts, slots, ↓reduceIte, reduceCtorEq, Nat.reduceEqDiff, AV.ren, AV.rens, pos, Nat.reduceAdd]
          rfl
        · simp only [keptL, keptW, keptE, kepts, slots, ↓reduceIte, reduceCtorEq, Nat.reduceEqDiff, AV.ren, AV.rens, pos, Nat.reduceAdd]
          have h1 := falses_set (met := mm) (k := x) (by omega) hmx'
          have h2 := falses_le (met := mm.set x true) (k := dm k d x)
          omega
  · have hli : ¬ (i : Int) < (k : Int) := by omega
    obtain rfl : i = k := by omega
    have hk16 := prodK_length i d e i
    have hk16' : (prodL i d e).length = 16 := hk16
    simp (maxSteps := 3000000) only [over4E, heapL, fillA, rd, wrt, wrl, AO.withl, a_s_l01Times_l3, a_s_l01Times_k2, B80_s_l01Follow_L2, g_follow, hli, dia_length, hk16', dia_take17 hk16', over_dia okD_zero hk16', ones_dia, List.length_replicate, Int.lt_irrefl, Int.reduceEq, Int.reduceNe, Int.reduceBEq, Int.reduceBNe, Int.reduceLT, Int.reduceLE, Int.reduceAdd, Int.reduceSub, Int.reduceMul, idX_eq, wbE, ↓symP, symE, listE, AK.isCall, enumE, ev, putE, abin, aun, AV.cells, ↓reduceIte, reduceCtorEq, Nat.reduceAdd, Nat.reduceMul, Nat.reduceSub, Nat.reduceEqDiff, Nat.reduceLT, Nat.reduceLeDiff, implies_true, Back, retv, retV, AV.scal, AV.scals]; try simp only [idX_eq, ite_both, pickP_both, not_not_eq, Bool.not_eq_false, Bool.not_eq_true]
    simp only [scals_dia, Bool.and_self]
noncomputable def g_times : List AV → Option AV
  | [.agg ld, .agg le] => match diaOf ld, diaOf le with
    | some (n, d), some (n', e) => chk ((n' = n ∧ 0 ≤ n) ∧ isS n.toNat d = true ∧ isS n.toNat e = true) (some (.tup [.agg (dia n (prodL n.toNat d e)), .int .i64 (lpN n.toNat d e n.toNat : Nat)]))
    | _, _ => none
  | _ => none
theorem k_times_of {f : FuncId} (h : ∀ (N : Nat) d e, okD d → okD e → isS N d = true → isS N e = true → Am.Fn Try.prog f [.agg (dia N d), .agg (dia N e)] [] (fun v H' => v = .tup [.agg (dia N (prodL N d e)), .int .i64 (lpN N d e N : Nat)] ∧ H' = [])) : Am.Callee Try.prog f (plainE g_times) := Am.Callee.plain fun xs v he => by
  unfold g_times at he
  split at he
  · rename_i ld le
    split at he
    · rename_i n d n' e hd1 he1
      obtain ⟨⟨⟨a1, a2⟩, a3, a4⟩, he2⟩ := chk_some he
      cases he2
      obtain ⟨rfl, hd⟩ := diaOf_some hd1
      obtain ⟨rfl, he'⟩ := diaOf_some he1
      subst a1
      obtain ⟨N, rfl⟩ : ∃ N : Nat, n' = N := ⟨n'.toNat, by omega⟩
      simp only [Int.toNat_natCast] at a3 a4 ⊢
      exact ⟨by simp [AV.scals, AV.scal, scals_dia], by simp [AV.scals, AV.scal, scals_dia], h N d e hd he' a3 a4⟩
    · cases he
  · cases he
noncomputable def B81 : Book := (B80.put 125 (plainE g_times))

theorem B81_ok : BookOk Try.prog B81 := (B80_ok.put (k_times_of c_s_l01Times))

end Go.Proofs.Ytkgoadglalpbfaa

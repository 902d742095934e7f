/- The abstract machine, part 1: AmCore AmHeap AmOps AmSound AmSound2 AmSound3 AmSound4 AmSound5 AmSound6 AmSound7 AmEq AmAll AmStep AmCall AmFn. -/
import Derived.Tactics
import Derived.Laws.Sem
import Derived.Laws.World
import Derived.Laws.Alloc2
import Derived.Scope
import Derived.Laws.Strings
import Derived.Laws.StructEq
namespace Go.Am
set_option linter.unusedVariables false
inductive AV where
  | top
  | int (k : IntKind) (n : Int)
  | bool (b : Bool)
  | str (s : List UInt8)
  | v (x : Value)
  | ptr (b off : Nat)
  | slc (b off len : Nat) (exact : Bool) (c : Nat)
  | map (b : Nat)
  | fn (f : FuncId) (first caps : List AV)
  | agg (l : List AV)
  | tup (l : List AV)
structure Loc where
  addr : Addr
  null : Bool
  cap : Nat
def Loc.shift (l : Loc) (o : Nat) : Loc := ⟨l.addr.add o, l.null, l.cap⟩
def Loc.nil : Loc := ⟨default, true, 0⟩
theorem Addr.add_add (a : Addr) (m n : Nat) : (a.add m).add n = a.add (m + n) := by
  unfold Addr.add
  by_cases hm : m = 0 <;> by_cases hn : n = 0 <;> simp [hm, hn, Nat.add_assoc]
theorem Addr.add_zero (a : Addr) : a.add 0 = a := rfl
theorem Addr.Gb (a : Addr) (m : Nat) : (a.add m).block = a.block := by unfold Addr.add; split <;> rfl
theorem Addr.uk (b m : Nat) : (⟨b, 0, none⟩ : Addr).add m = ⟨b, m, none⟩ := by
  unfold Addr.add; split
  · rename_i h; rw [h]
  · simp
theorem Addr.add_plain (b o m : Nat) : (⟨b, o, none⟩ : Addr).add m = ⟨b, o + m, none⟩ := by
  unfold Addr.add; split
  · rename_i h; rw [h]; rfl
  · rfl
mutual
def gam (ι : Nat → Loc) : AV → Value
  | .top => undef
  | .int k n => .int k n
  | .bool b => .bool b
  | .str s => .string ⟨s.toArray⟩
  | .v x => x
  | .ptr b off => .pointer (some ((ι b).addr.add off))
  | .slc b off len ex c => .slice (cond (ι b).null none (some ((ι b).addr.add off))) len (cond ex c ((ι b).cap - c))
  | .map b => .map (some (ι b).addr.block)
  | .fn f first caps => .func (.func f) (qv ι first).toArray (qv ι caps).toArray
  | .agg l => .agg (qv ι l).toArray
  | .tup l => .tuple (qv ι l).toArray
def qv (ι : Nat → Loc) : List AV → List Value
  | [] => []
  | a :: l => gam ι a :: qv ι l
end
abbrev Ren := Nat → Option (Nat × Nat)
def Ren.loc (ρ : Ren) (ι : Nat → Loc) (j : Nat) : Loc :=
  match ρ j with
  | some (b, o) => (ι b).shift o
  | none => .nil
mutual
def AV.ren (ρ : Ren) : AV → AV
  | .top => .top
  | .int k n => .int k n
  | .bool b => .bool b
  | .str s => .str s
  | .v x => .v x
  | .ptr b off => match ρ b with | some (b', o) => .ptr b' (o + off) | none => .v (.pointer (some (Addr.add default off)))
  | .slc b off len ex c => match ρ b with | some (b', o) => .slc b' (o + off) len ex c | none => .v (.slice none len (cond ex c (0 - c)))
  | .map b => match ρ b with | some (b', _) => .map b' | none => .v (.map (some (default : Addr).block))
  | .fn f first caps => .fn f (AV.zh ρ first) (AV.zh ρ caps)
  | .agg l => .agg (AV.zh ρ l)
  | .tup l => .tup (AV.zh ρ l)
def AV.zh (ρ : Ren) : List AV → List AV
  | [] => []
  | a :: l => AV.ren ρ a :: AV.zh ρ l
end
mutual
def AV.under (n : Nat) : AV → Prop
  | .ptr b _ => b < n
  | .slc b _ _ _ _ => b < n
  | .map b => b < n
  | .fn _ first caps => AV.qy n first ∧ AV.qy n caps
  | .agg l => AV.qy n l
  | .tup l => AV.qy n l
  | _ => True
def AV.qy (n : Nat) : List AV → Prop
  | [] => True
  | a :: l => AV.under n a ∧ AV.qy n l
end
theorem gw (ι : Nat → Loc) (l : List AV) : qv ι l = l.map (gam ι) := by
  induction l with
  | nil => rfl
  | cons a l ih => simp [qv, ih]
theorem qfs (ρ : Ren) (l : List AV) : AV.zh ρ l = l.map (AV.ren ρ) := by
  induction l with
  | nil => rfl
  | cons a l ih => simp [AV.zh, ih]
theorem Qh (n : Nat) (l : List AV) : AV.qy n l ↔ ∀ a ∈ l, AV.under n a := by
  induction l with
  | nil => simp [AV.qy]
  | cons a l ih => simp [AV.qy, ih]
mutual
theorem Gi (ι : Nat → Loc) (ρ : Ren) : (a : AV) → gam ι (a.ren ρ) = gam (ρ.loc ι) a
  | .top => rfl
  | .int _ _ => rfl
  | .bool _ => rfl
  | .str _ => rfl
  | .v _ => rfl
  | .ptr b off => by
    simp only [AV.ren, gam, Ren.loc]
    cases h : ρ b with
    | none => rfl
    | some p => simp only [gam, Loc.shift, Addr.add_add]
  | .slc b off len ex c => by
    simp only [AV.ren, gam, Ren.loc]
    cases h : ρ b with
    | none => rfl
    | some p => simp only [gam, Loc.shift, Addr.add_add]
  | .map b => by
    simp only [AV.ren, gam, Ren.loc]
    cases h : ρ b with
    | none => rfl
    | some p => simp only [gam, Loc.shift, Addr.Gb]
  | .fn _ a b => by simp only [AV.ren, gam, yy ι ρ a, yy ι ρ b]
  | .agg l => by simp only [AV.ren, gam, yy ι ρ l]
  | .tup l => by simp only [AV.ren, gam, yy ι ρ l]
theorem yy (ι : Nat → Loc) (ρ : Ren) : (l : List AV) → qv ι (AV.zh ρ l) = qv (ρ.loc ι) l
  | [] => rfl
  | a :: l => by simp only [AV.zh, qv, Gi ι ρ a, yy ι ρ l]
end
mutual
theorem Jg {ι ι' : Nat → Loc} {n : Nat} (h : ∀ j, j < n → ι j = ι' j) : (a : AV) → a.under n → gam ι a = gam ι' a
  | .top, _ => rfl
  | .int _ _, _ => rfl
  | .bool _, _ => rfl
  | .str _, _ => rfl
  | .v _, _ => rfl
  | .ptr b _, hb => by simp only [gam, h b hb]
  | .slc b _ _ _ _, hb => by simp only [gam, h b hb]
  | .map b, hb => by simp only [gam, h b hb]
  | .fn _ a b, hb => by simp only [gam, vd h a hb.1, vd h b hb.2]
  | .agg l, hb => by simp only [gam, vd h l hb]
  | .tup l, hb => by simp only [gam, vd h l hb]
theorem vd {ι ι' : Nat → Loc} {n : Nat} (h : ∀ j, j < n → ι j = ι' j) : (l : List AV) → AV.qy n l → qv ι l = qv ι' l
  | [], _ => rfl
  | a :: l, hb => by simp only [qv, Jg h a hb.1, vd h l hb.2]
end
mutual
theorem jf {n m : Nat} (h : n ≤ m) : (a : AV) → a.under n → a.under m
  | .top, _ => trivial
  | .int _ _, _ => trivial
  | .bool _, _ => trivial
  | .str _, _ => trivial
  | .v _, _ => trivial
  | .ptr b _, hb => Nat.lt_of_lt_of_le hb h
  | .slc b _ _ _ _, hb => Nat.lt_of_lt_of_le hb h
  | .map b, hb => Nat.lt_of_lt_of_le hb h
  | .fn _ a b, hb => ⟨j4 h a hb.1, j4 h b hb.2⟩
  | .agg l, hb => j4 h l hb
  | .tup l, hb => j4 h l hb
theorem j4 {n m : Nat} (h : n ≤ m) : (l : List AV) → AV.qy n l → AV.qy m l
  | [], _ => trivial
  | a :: l, hb => ⟨jf h a hb.1, j4 h l hb.2⟩
end
def AV.one : AV → Bool
  | .top | .agg _ | .tup _ => false
  | .v x => x.oneCell'
  | _ => true
theorem AV.qeh {ι : Nat → Loc} {a : AV} (h : a.one = true) : (gam ι a).oneCell' = true := by
  cases a <;> simp_all [AV.one, gam, Value.oneCell']
structure AE where
  key : AV
  val : AV
  born : Nat
inductive AO where
  | cells (l : List AV)
  | vec (sz : Nat) (l : List AV)
  | ro (l : List AV)
  | map (es : List AE) (clock : Nat)
  | x6 (m : Option Nat) (since : Nat) (seen : List Nat) (last : Nat)
  | bg (s : List UInt8) (pos : Nat)
  | dead
def AO.under (n : Nat) : AO → Prop
  | .cells l => AV.qy n l
  | .vec _ l => AV.qy n l
  | .ro l => AV.qy n l
  | .map es _ => ∀ e ∈ es, e.key.under n ∧ e.val.under n
  | .x6 m _ _ _ => ∀ b, m = some b → b < n
  | _ => True
def AE.ren (ρ : Ren) (e : AE) : AE := ⟨e.key.ren ρ, e.val.ren ρ, e.born⟩
def AO.ren (ρ : Ren) : AO → AO
  | .cells l => .cells (AV.zh ρ l)
  | .vec sz l => .vec sz (AV.zh ρ l)
  | .ro l => .ro (AV.zh ρ l)
  | .map es c => .map (es.map (AE.ren ρ)) c
  | .x6 m a b c => .x6 (m.bind fun j => (ρ j).map (·.1)) a b c
  | .bg s p => .bg s p
  | .dead => .dead
def AO.live : AO → Bool
  | .dead => false
  | _ => true
def AO.wr : AO → Bool
  | .dead | .ro _ => false
  | _ => true
theorem AO.Qb {o : AO} (h : o.wr = true) : o.live = true := by cases o <;> simp_all [AO.wr, AO.live]
theorem AO.jf {n m : Nat} (h : n ≤ m) (o : AO) (hb : o.under n) : o.under m := by
  cases o with
  | cells l => exact j4 h l hb
  | vec s l => exact j4 h l hb
  | ro l => exact j4 h l hb
  | map es c => exact fun e he => ⟨Am.jf h _ (hb e he).1, Am.jf h _ (hb e he).2⟩
  | x6 m' _ _ _ => exact fun b hm => Nat.lt_of_lt_of_le (hb b hm) h
  | bg _ _ => trivial
  | dead => trivial
def calm (fz : Nat × Nat) (n : Nat) : Prop := ∀ i, i < n → ¬(fz.1 ≤ i ∧ i < fz.2)
def jq (ι : Nat → Loc) (e : AE) : MapEntry := { key := gam ι e.key, val := gam ι e.val, born := e.born }
def Xb (ι : Nat → Loc) (heap : Array Obj) (loc : Loc) : AO → Prop
  | .cells l => loc.null = false ∧ ∃ blk c ty fz, loc.addr = ⟨blk, 0, none⟩ ∧ heap[blk]? = some (.cells c ty fz) ∧ c.toList = qv ι l ∧ calm fz c.size
  | .vec sz l => (loc.null = true ∧ loc.cap = 0 ∧ l = []) ∨ (loc.null = false ∧
      ∃ blk c ty fz ex, loc.addr = ⟨blk, 0, none⟩ ∧ heap[blk]? = some (.cells c ty fz) ∧ c.toList = qv ι l ++ ex ∧ calm fz c.size ∧ loc.cap * sz = c.size)
  | .ro l => (loc.null = true ∧ l = []) ∨ (loc.null = false ∧ ∃ blk o c ty fz pre ex, loc.addr = ⟨blk, o, none⟩ ∧ heap[blk]? = some (.cells c ty fz) ∧ pre.length = o ∧ c.toList = pre ++ qv ι l ++ ex)
  | .map es clock => loc.null = false ∧ ∃ blk, loc.addr = ⟨blk, 0, none⟩ ∧ heap[blk]? = some (.map (es.map (jq ι)).toArray clock)
  | .x6 m a b c => loc.null = false ∧ ∃ blk, loc.addr = ⟨blk, 0, none⟩ ∧ heap[blk]? = some (.mapIter (m.map fun j => (ι j).addr.block) a b.toArray c)
  | .bg s p => loc.null = false ∧ ∃ blk, loc.addr = ⟨blk, 0, none⟩ ∧ heap[blk]? = some (.stringIter ⟨s.toArray⟩ p)
  | .dead => True
def At (ι : Nat → Loc) (hp : List AO) (j b : Nat) : Prop :=
  ∃ o, hp[j]? = some o ∧ o.live = true ∧ (ι j).null = false ∧ (ι j).addr.block = b
def AtW (ι : Nat → Loc) (hp : List AO) (j b : Nat) : Prop :=
  ∃ o, hp[j]? = some o ∧ o.wr = true ∧ (ι j).null = false ∧ (ι j).addr.block = b
theorem AtW.at_ {ι : Nat → Loc} {hp : List AO} {j b : Nat} (h : AtW ι hp j b) : At ι hp j b :=
  let ⟨o, h1, h2, h3, h4⟩ := h; ⟨o, h1, AO.Qb h2, h3, h4⟩
structure HOk (ι : Nat → Loc) (hp : List AO) (heap : Array Obj) : Prop where
  rel : ∀ j o, hp[j]? = some o → o.under hp.length ∧ Xb ι heap (ι j) o
  inj : ∀ i j b, AtW ι hp i b → At ι hp j b → i = j
theorem Xb.lt {ι : Nat → Loc} {heap : Array Obj} {loc : Loc} {o : AO} (h : Xb ι heap loc o) (hl : o.live = true) (hn : loc.null = false) :
    loc.addr.block < heap.size := by
  have key : ∀ {b : Nat} {x : Obj}, heap[b]? = some x → b < heap.size := fun hx => (Array.getElem?_eq_some_iff.1 hx).1
  cases o with
  | cells l => obtain ⟨_, blk, c, ty, fz, ha, hh, _⟩ := h; rw [ha]; exact key hh
  | vec sz l =>
    rcases h with h | ⟨_, blk, c, ty, fz, ex, ha, hh, _⟩
    · rw [h.1] at hn; cases hn
    · rw [ha]; exact key hh
  | ro l =>
    rcases h with h | ⟨_, blk, o, c, ty, fz, pre, ex, ha, hh, _⟩
    · rw [h.1] at hn; cases hn
    · rw [ha]; exact key hh
  | map es c => obtain ⟨_, blk, ha, hh⟩ := h; rw [ha]; exact key hh
  | x6 m a b c => obtain ⟨_, blk, ha, hh⟩ := h; rw [ha]; exact key hh
  | bg s p => obtain ⟨_, blk, ha, hh⟩ := h; rw [ha]; exact key hh
  | dead => simp [AO.live] at hl
theorem HOk.lt {ι : Nat → Loc} {hp : List AO} {heap : Array Obj} (h : HOk ι hp heap) {j b : Nat} (ha : At ι hp j b) : b < heap.size := by
  obtain ⟨o, ho, hl, hn, rfl⟩ := ha
  exact (h.rel j o ho).2.lt hl hn
theorem Xb.ve {ι ι' : Nat → Loc} {heap heap' : Array Obj} {loc : Loc} {o : AO} {n : Nat} (h : Xb ι heap loc o) (hb : o.under n)
    (hι : ∀ j, j < n → ι j = ι' j) (hh : o.live = true → loc.null = false → heap'[loc.addr.block]? = heap[loc.addr.block]?) : Xb ι' heap' loc o := by
  cases o with
  | cells l =>
    obtain ⟨hn, blk, c, ty, fz, ha, h1, h2, h3⟩ := h
    have := hh rfl hn; rw [ha] at this
    exact ⟨hn, blk, c, ty, fz, ha, this.trans h1, by rw [h2, vd hι l hb], h3⟩
  | vec sz l =>
    rcases h with h | ⟨hn, blk, c, ty, fz, ex, ha, h1, h2, h3, h4⟩
    · exact .inl h
    · have := hh rfl hn; rw [ha] at this
      exact .inr ⟨hn, blk, c, ty, fz, ex, ha, this.trans h1, by rw [h2, vd hι l hb], h3, h4⟩
  | ro l =>
    rcases h with h | ⟨hn, blk, o, c, ty, fz, pre, ex, ha, h1, h2, h3⟩
    · exact .inl h
    · have := hh rfl hn; rw [ha] at this
      exact .inr ⟨hn, blk, o, c, ty, fz, pre, ex, ha, this.trans h1, h2, by rw [h3, vd hι l hb]⟩
  | map es ck =>
    obtain ⟨hn, blk, ha, h1⟩ := h
    have := hh rfl hn; rw [ha] at this
    refine ⟨hn, blk, ha, this.trans (h1.trans ?_)⟩
    have : es.map (jq ι) = es.map (jq ι') := by
      apply List.map_congr_left
      intro e he
      simp only [jq, Jg hι _ (hb e he).1, Jg hι _ (hb e he).2]
    rw [this]
  | x6 m a b c =>
    obtain ⟨hn, blk, ha, h1⟩ := h
    have := hh rfl hn; rw [ha] at this
    refine ⟨hn, blk, ha, this.trans (h1.trans ?_)⟩
    cases m with
    | none => rfl
    | some j => simp only [Option.map_some, hι j (hb j rfl)]
  | bg s p =>
    obtain ⟨hn, blk, ha, h1⟩ := h
    have := hh rfl hn; rw [ha] at this
    exact ⟨hn, blk, ha, this.trans h1⟩
  | dead => trivial
abbrev Env := List (Nat × AV)
def get : Env → Nat → AV
  | [], _ => .top
  | (k, v) :: r, t => if k = t then v else get r t
structure St where
  env : Env
  hp : List AO
structure Ctx where
  w0 : World
  ι0 : Nat → Loc
  n0 : Nat
  D : Nat → Prop
  nt : Nat
structure Vc (w w' : World) : Prop where
  eq : w'.tape = w.tape
  le : w.drawn ≤ w'.drawn
theorem Vc.refl (w : World) : Vc w w := ⟨rfl, Nat.le_refl _⟩
theorem Vc.trans {w w' w'' : World} (h : Vc w w') (h' : Vc w' w'') : Vc w w'' := ⟨h'.eq.trans h.eq, Nat.le_trans h.le h'.le⟩
theorem Vc.next {w : World} : Vc w { w with drawn := w.drawn + 1 } := ⟨rfl, Nat.le_succ _⟩
structure WOk (X : Ctx) (w : World) : Prop where
  frame : ∀ b, b < X.w0.heap.size → ¬ X.D b → w.heap[b]? = X.w0.heap[b]?
  grow : X.w0.heap.size ≤ w.heap.size
  os : w.os = X.w0.os
  out : w.output = X.w0.output
  tape : Vc X.w0 w
structure Ok (X : Ctx) (ι : Nat → Loc) (s : St) (a : Act) (w : World) : Prop where
  size : a.tmps.size = X.nt
  defers : a.defers = []
  env : ∀ t, get s.env t ≠ .top → (get s.env t).under s.hp.length ∧ a.tmps[t]? = some (gam ι (get s.env t))
  heap : HOk ι s.hp w.heap
  dom : ∀ j b, AtW ι s.hp j b → X.D b
  base : ∀ j, j < X.n0 → ι j = X.ι0 j
  len : X.n0 ≤ s.hp.length
  fresh : ∀ b, X.w0.heap.size ≤ b → X.D b
  world : WOk X w
inductive AX where
  | normal
  | exit (id : Nat)
  | ret
def AX.of : Exit → Option AX
  | .normal => some .normal
  | .exit id => some (.exit id)
  | .ret => some .ret
  | _ => none
def lift (X : Ctx) (Q : AX → St → Prop) (e : Exit) (a : Act) (w : World) : Prop :=
  ∃ x ι s, AX.of e = some x ∧ Ok X ι s a w ∧ Q x s
def WC (P : Program) (n0 nt : Nat) (c : Code) (Q : AX → St → Prop) (s : St) : Prop :=
  ∀ X : Ctx, X.n0 = n0 → X.nt = nt → ∀ ι a w, Ok X ι s a w → c.wp P (lift X Q) a w
section rules
variable {P : Program} {n0 nt : Nat} {Q : AX → St → Prop} {s : St}
theorem WC.mono {c : Code} {Q' : AX → St → Prop} (h : WC P n0 nt c Q s) (hq : ∀ x s, Q x s → Q' x s) : WC P n0 nt c Q' s :=
  fun X h0 h1 ι a w hok => wp_mono (h X h0 h1 ι a w hok) fun e a w ⟨x, ι, s, hx, ho, hs⟩ => ⟨x, ι, s, hx, ho, hq _ _ hs⟩
theorem WC.skip (h : Q .normal s) : WC P n0 nt .skip Q s :=
  fun X _ _ ι a w hok => wp_skip ⟨_, ι, s, rfl, hok, h⟩
theorem WC.exit {id : Nat} (h : Q (.exit id) s) : WC P n0 nt (.exit id) Q s :=
  fun X _ _ ι a w hok => wp_exit ⟨_, ι, s, rfl, hok, h⟩
theorem WC.ret (h : Q .ret s) : WC P n0 nt .ret Q s :=
  fun X _ _ ι a w hok => wp_ret ⟨_, ι, s, rfl, hok, h⟩
def AX.then (K : St → Prop) (Q : AX → St → Prop) : AX → St → Prop
  | .normal, s => K s
  | x, s => Q x s
theorem WC.seq {x y : Code} (h : WC P n0 nt x (AX.then (WC P n0 nt y Q) Q) s) : WC P n0 nt (.seq x y) Q s := by
  intro X h0 h1 ι a w hok
  refine wp_seq (wp_mono (h X h0 h1 ι a w hok) ?_)
  rintro e a w ⟨x, ι, s, hx, ho, hs⟩
  cases e <;> simp only [AX.of, Option.some.injEq, reduceCtorEq] at hx <;> subst hx
  · exact hs X h0 h1 ι a w ho
  · exact ⟨_, ι, s, rfl, ho, hs⟩
  · exact ⟨_, ι, s, rfl, ho, hs⟩
def AX.inBlock (id : Nat) (Q : AX → St → Prop) : AX → St → Prop
  | .exit id', s => if id' = id then Q .normal s else Q (.exit id') s
  | x, s => Q x s
theorem WC.block {id : Nat} {c : Code} (h : WC P n0 nt c (AX.inBlock id Q) s) : WC P n0 nt (.block id c) Q s := by
  intro X h0 h1 ι a w hok
  refine wp_block (wp_mono (h X h0 h1 ι a w hok) ?_)
  rintro e a w ⟨x, ι, s, hx, ho, hs⟩
  cases e <;> simp only [AX.of, Option.some.injEq, reduceCtorEq] at hx <;> subst hx
  · exact ⟨_, ι, s, rfl, ho, hs⟩
  · rename_i id'
    simp only [AX.inBlock] at hs
    simp only [Exit.inBlock]
    by_cases hid : id' = id
    · rw [if_pos hid] at hs ⊢; exact ⟨_, ι, s, rfl, ho, hs⟩
    · rw [if_neg hid] at hs ⊢; exact ⟨_, ι, s, rfl, ho, hs⟩
  · exact ⟨_, ι, s, rfl, ho, hs⟩
structure Sim (n0 : Nat) (s s' : St) (ρ : Ren) : Prop where
  env : ∀ t, get s'.env t ≠ .top → (get s'.env t).under s'.hp.length ∧ get s.env t = (get s'.env t).ren ρ
  heap : ∀ j o, s'.hp[j]? = some o → o.under s'.hp.length ∧
    (o.live = true → (∃ j', ρ j = some (j', 0) ∧ s.hp[j']? = some (o.ren ρ)) ∨ (ρ j = none ∧ ∃ sz, o = .vec sz []))
  inj : ∀ i j b, (∃ o, s'.hp[i]? = some o ∧ o.live = true) → (∃ o, s'.hp[j]? = some o ∧ o.live = true) → ρ i = some b → ρ j = some b → i = j
  base : ∀ j, j < n0 → ρ j = some (j, 0)
  len : n0 ≤ s'.hp.length
  it : ∀ (j m a : Nat) (b : List Nat) (c : Nat), s'.hp[j]? = some (AO.x6 (some m) a b c) → ∃ j', ρ m = some (j', 0)
theorem Loc.u3 (l : Loc) : l.shift 0 = l := rfl
theorem AO.qm7 (ρ : Ren) (o : AO) : (o.ren ρ).live = o.live := by cases o <;> rfl
theorem AO.qpk (ρ : Ren) (o : AO) : (o.ren ρ).wr = o.wr := by cases o <;> rfl
theorem Xb.ren {ι : Nat → Loc} {ρ : Ren} {heap : Array Obj} {loc : Loc} {o : AO} (h : Xb ι heap loc (o.ren ρ))
    (hm : ∀ (m a : Nat) (b : List Nat) (c : Nat), o = AO.x6 (some m) a b c → ∃ j, ρ m = some (j, 0)) : Xb (ρ.loc ι) heap loc o := by
  cases o with
  | cells l => obtain ⟨hn, blk, c, ty, fz, ha, h1, h2, h3⟩ := h; exact ⟨hn, blk, c, ty, fz, ha, h1, by rw [h2, yy], h3⟩
  | vec sz l =>
    rcases h with ⟨h1, h2, h3⟩ | ⟨hn, blk, c, ty, fz, ex, ha, h1, h2, h3, h4⟩
    · refine .inl ⟨h1, h2, ?_⟩
      cases l with
      | nil => rfl
      | cons a l => simp [AV.zh] at h3
    · exact .inr ⟨hn, blk, c, ty, fz, ex, ha, h1, by rw [h2, yy], h3, h4⟩
  | ro l =>
    rcases h with ⟨h1, h3⟩ | ⟨hn, blk, o, c, ty, fz, pre, ex, ha, h1, h2, h3⟩
    · refine .inl ⟨h1, ?_⟩
      cases l with
      | nil => rfl
      | cons a l => simp [AV.zh] at h3
    · exact .inr ⟨hn, blk, o, c, ty, fz, pre, ex, ha, h1, h2, by rw [h3, yy]⟩
  | map es ck =>
    obtain ⟨hn, blk, ha, h1⟩ := h
    refine ⟨hn, blk, ha, h1.trans ?_⟩
    have : (es.map (AE.ren ρ)).map (jq ι) = es.map (jq (ρ.loc ι)) := by
      rw [List.map_map]
      apply List.map_congr_left
      intro e _
      simp only [Function.comp, jq, AE.ren, Gi]
    rw [this]
  | x6 m a b c =>
    obtain ⟨hn, blk, ha, h1⟩ := h
    refine ⟨hn, blk, ha, h1.trans ?_⟩
    cases m with
    | none => rfl
    | some j =>
      obtain ⟨j', hj⟩ := hm j a b c rfl
      simp only [Option.bind_some, hj, Option.map_some, Ren.loc, Loc.u3]
  | bg s p => exact h
  | dead => trivial
theorem Ok.sim {X : Ctx} {ι : Nat → Loc} {s s' : St} {a : Act} {w : World} (h : Ok X ι s a w) {ρ : Ren} (hs : Sim X.n0 s s' ρ) : Ok X (ρ.loc ι) s' a w where
  size := h.size
  defers := h.defers
  env := fun t ht => by
    obtain ⟨hb, he⟩ := hs.env t ht
    refine ⟨hb, ?_⟩
    have h1 : get s.env t ≠ .top := by
      rw [he]; intro h0; apply ht
      cases hv : get s'.env t <;> rw [hv] at h0 <;> simp only [AV.ren, reduceCtorEq] at h0 <;> (try (split at h0 <;> cases h0))
    rw [(h.env t h1).2, he, Gi]
  heap := by
    have atd : ∀ j b, At (ρ.loc ι) s'.hp j b → ∃ j', ρ j = some (j', 0) ∧ At ι s.hp j' b ∧ (∀ o, s'.hp[j]? = some o → s.hp[j']? = some (o.ren ρ)) := by
      rintro j b ⟨o, ho, hl, hn, hb⟩
      rcases (hs.heap j o ho).2 hl with ⟨j', hj, hh⟩ | ⟨hj, sz, rfl⟩
      · simp only [Ren.loc, hj, Loc.u3] at hn hb
        refine ⟨j', hj, ⟨_, hh, by rw [AO.qm7]; exact hl, hn, hb⟩, ?_⟩
        intro o' ho'; rw [ho] at ho'; cases ho'; exact hh
      · simp [Ren.loc, hj, Loc.nil] at hn
    refine ⟨fun j o ho => ⟨(hs.heap j o ho).1, ?_⟩, ?_⟩
    · by_cases hl : o.live = true
      · rcases (hs.heap j o ho).2 hl with ⟨j', hj, hh⟩ | ⟨hj, sz, rfl⟩
        · have := (h.heap.rel j' _ hh).2
          have e : ρ.loc ι j = ι j' := by simp [Ren.loc, hj, Loc.u3]
          rw [e]
          refine Xb.ren this ?_
          intro m a b c he; subst he
          exact hs.it j m a b c ho
        · refine .inl ⟨?_, ?_, rfl⟩ <;> simp [Ren.loc, hj, Loc.nil]
      · cases o <;> simp [AO.live] at hl
        trivial
    · intro i j b hi hj
      obtain ⟨i', hi', hai, hoi⟩ := atd i b hi.at_
      obtain ⟨j', hj', haj, hoj⟩ := atd j b hj
      obtain ⟨o, ho, hw, hn, hb⟩ := hi
      have hwi : AtW ι s.hp i' b := by
        obtain ⟨o', ho', _, hn', hb'⟩ := hai
        refine ⟨o.ren ρ, hoi o ho, by rw [AO.qpk]; exact hw, hn', hb'⟩
      have e := h.heap.inj i' j' b hwi haj
      subst e
      obtain ⟨o2, ho2, hl2, _⟩ := hj
      exact hs.inj i j _ ⟨o, ho, AO.Qb hw⟩ ⟨o2, ho2, hl2⟩ hi' hj'
  dom := fun j b hj => by
    obtain ⟨o, ho, hw, hn, hb⟩ := hj
    rcases (hs.heap j o ho).2 (AO.Qb hw) with ⟨j', hj, hh⟩ | ⟨hj, sz, rfl⟩
    · simp only [Ren.loc, hj, Loc.u3] at hn hb
      exact h.dom j' b ⟨_, hh, by rw [AO.qpk]; exact hw, hn, hb⟩
    · simp [Ren.loc, hj, Loc.nil] at hn
  base := fun j hj => by simp only [Ren.loc, hs.base j hj, Loc.u3]; exact h.base j hj
  len := hs.len
  fresh := h.fresh
  world := h.world
theorem WC.loop {c : Code} (I : St → Prop) (μ : St → Nat) (h0 : I s)
    (round : ∀ s, I s → WC P n0 nt c (AX.then (fun s' => ∃ s'' ρ, Sim n0 s' s'' ρ ∧ I s'' ∧ μ s'' < μ s) Q) s) : WC P n0 nt (.loop c) Q s := by
  intro X hx0 hx1 ι a w hok
  intro b k cs
  have key : ∀ n s, μ s = n → I s → ∀ ι a w, Ok X ι s a w →
      ∃ e a' w', lift X Q e a' w' ∧ Arrives P (lone (b.at a (.code c :: .inLoop c :: k)) cs w) b k cs e a' w' := by
    intro n
    induction n using Nat.strongRecOn with
    | _ n ih =>
      intro s hn hI ι a w hok
      obtain ⟨e, a₁, w₁, ⟨x, ι₁, s₁, hx, ho, hs⟩, harr⟩ := round s hI X hx0 hx1 ι a w hok b (.inLoop c :: k) cs
      cases e <;> simp only [AX.of, Option.some.injEq, reduceCtorEq] at hx <;> subst hx
      · obtain ⟨s₂, ρ, hsim, hI₁, hlt⟩ := hs
        obtain ⟨e₂, a₂, w₂, hq₂, harr₂⟩ := ih (μ s₂) (hn ▸ hlt) s₂ rfl hI₁ _ a₁ w₁ (ho.sim (hx0 ▸ hsim))
        exact ⟨e₂, a₂, w₂, hq₂, .of_steps (Steps.trans harr (.one step_inLoop)) harr₂⟩
      · exact ⟨_, a₁, w₁, ⟨_, ι₁, s₁, rfl, ho, hs⟩, .pass (x := .inLoop c) rfl (fun _ _ => .inl (by simp)) harr⟩
      · exact ⟨_, a₁, w₁, ⟨_, ι₁, s₁, rfl, ho, hs⟩, .pass (x := .inLoop c) rfl (fun _ _ => .inl (by simp)) harr⟩
  obtain ⟨e, a', w', hq, harr⟩ := key _ s rfl h0 ι a w hok
  exact ⟨e, a', w', hq, .of_steps (.one step_loop) harr⟩
theorem WC.scope {c : Code} (h : WC P n0 nt c Q s) : WC P n0 nt (.scope c) Q s := by
  intro X h0 h1 ι a w hok
  refine wp_scope_straight (wp_mono (h X h0 h1 ι a w hok) ?_)
  rintro e a w ⟨x, ι, s, hx, ho, hs⟩
  cases e <;> simp only [AX.of, Option.some.injEq, reduceCtorEq] at hx <;> subst hx
  · exact ⟨_, ι, s, rfl, ho, hs⟩
  · exact ⟨_, ι, s, rfl, ho, hs⟩
  · exact ⟨_, ι, s, rfl, ho, hs⟩
theorem WC.cond_true {c : Nat} {x y : Code} (hc : get s.env c = .bool true) (h : WC P n0 nt x Q s) : WC P n0 nt (.cond (.tmp c) x y) Q s := by
  intro X h0 h1 ι a w hok
  have := (hok.env c (by rw [hc]; simp)).2
  rw [hc] at this
  exact wp_cond_true (by simp [Act.eval, Array.getD_eq_getD_getElem?, this, gam]) (h X h0 h1 ι a w hok)
theorem WC.cond_false {c : Nat} {x y : Code} (hc : get s.env c = .bool false) (h : WC P n0 nt y Q s) : WC P n0 nt (.cond (.tmp c) x y) Q s := by
  intro X h0 h1 ι a w hok
  have := (hok.env c (by rw [hc]; simp)).2
  rw [hc] at this
  exact wp_cond_false (by simp [Act.eval, Array.getD_eq_getD_getElem?, this, gam]) (h X h0 h1 ι a w hok)
theorem WC.cond {c : Nat} {x y : Code} {b : Bool} (hc : get s.env c = .bool b) (ht : b = true → WC P n0 nt x Q s) (hf : b = false → WC P n0 nt y Q s) :
    WC P n0 nt (.cond (.tmp c) x y) Q s := by
  cases b
  · exact WC.cond_false hc (hf rfl)
  · exact WC.cond_true hc (ht rfl)
end rules
end Go.Am
namespace Go.Am
set_option linter.unusedVariables false
theorem Q0 (ι : Nat → Loc) (l : List AV) (i : Nat) : (qv ι l)[i]? = (l[i]?).map (gam ι) := by
  rw [gw, List.getElem?_map]
theorem q6 (ι : Nat → Loc) (l : List AV) : (qv ι l).length = l.length := by rw [gw, List.length_map]
theorem wi (ι : Nat → Loc) (a b : List AV) : qv ι (a ++ b) = qv ι a ++ qv ι b := by simp [gw]
theorem qbr (ι : Nat → Loc) (l : List AV) (n : Nat) : qv ι (l.take n) = (qv ι l).take n := by simp [gw]
theorem qh5 (ι : Nat → Loc) (l : List AV) (n : Nat) : qv ι (l.drop n) = (qv ι l).drop n := by simp [gw]
theorem kp {n : Nat} {a b : List AV} : AV.qy n (a ++ b) ↔ AV.qy n a ∧ AV.qy n b := by
  simp only [Qh, List.mem_append]
  exact ⟨fun h => ⟨fun x hx => h x (.inl hx), fun x hx => h x (.inr hx)⟩, fun h x hx => hx.elim (h.1 x) (h.2 x)⟩
theorem gp {n k : Nat} {l : List AV} (h : AV.qy n l) : AV.qy n (l.take k) := by
  rw [Qh] at *; exact fun a ha => h a (List.mem_of_mem_take ha)
theorem Xh {n k : Nat} {l : List AV} (h : AV.qy n l) : AV.qy n (l.drop k) := by
  rw [Qh] at *; exact fun a ha => h a (List.mem_of_mem_drop ha)
theorem Zs {n i : Nat} {l : List AV} {v : AV} (h : AV.qy n l) (hv : l[i]? = some v) : v.under n := by
  rw [Qh] at h; exact h v (List.mem_of_getElem? hv)
def rd (hp : List AO) (b : Nat) : Option (List AV) :=
  match hp[b]? with
  | some (.cells l) => some l
  | some (.vec _ l) => some l
  | some (.ro l) => some l
  | _ => none
def AO.b8 (o : AO) (l : List AV) : AO :=
  match o with
  | .cells _ => .cells l
  | .vec sz _ => .vec sz l
  | o => o
def wrt (hp : List AO) (b : Nat) : Option (List AV) :=
  match hp[b]? with
  | some (.cells l) => some l
  | some (.vec _ l) => some l
  | _ => none
def wrl (hp : List AO) (b : Nat) (l : List AV) : List AO :=
  match hp[b]? with
  | some o => hp.set b (o.b8 l)
  | none => hp
section
variable {ι : Nat → Loc} {hp : List AO} {w : World}
theorem cell_of {heap : Array Obj} {blk : Nat} {c : Array Value} {ty : TypeId} {fz : Nat × Nat} (h : w.heap[blk]? = some (.cells c ty fz)) (o : Nat) :
    w.cell? ⟨blk, o, none⟩ = c[o]? := by simp [World.cell?, h]
theorem Yn (h : HOk ι hp w.heap) {b : Nat} {l : List AV} (hr : rd hp b = some l) {i : Nat} {v : AV} (hv : l[i]? = some v) :
    (ι b).null = false ∧ v.under hp.length ∧ w.cell? ((ι b).addr.add i) = some (gam ι v) := by
  unfold rd at hr
  have hg := Q0 ι l i
  rw [hv] at hg
  simp only [Option.map_some] at hg
  split at hr <;> simp only [Option.some.injEq, reduceCtorEq] at hr <;> subst hr <;> rename_i hb
  · obtain ⟨hu, hn, blk, c, ty, fz, ha, hh, hc, _⟩ := h.rel _ _ hb
    refine ⟨hn, Zs hu hv, ?_⟩
    rw [ha, Addr.uk, cell_of (heap := w.heap) hh, ← Array.getElem?_toList, hc, hg]
  · obtain ⟨hu, h2⟩ := h.rel _ _ hb
    rcases h2 with ⟨_, _, rfl⟩ | ⟨hn, blk, c, ty, fz, ex, ha, hh, hc, _⟩
    · simp at hv
    refine ⟨hn, Zs hu hv, ?_⟩
    rw [ha, Addr.uk, cell_of (heap := w.heap) hh, ← Array.getElem?_toList, hc, List.getElem?_append_left, hg]
    rw [q6]; exact (List.getElem?_eq_some_iff.1 hv).1
  · obtain ⟨hu, h2⟩ := h.rel _ _ hb
    rcases h2 with ⟨_, rfl⟩ | ⟨hn, blk, o, c, ty, fz, pre, ex, ha, hh, hp, hc⟩
    · simp at hv
    refine ⟨hn, Zs hu hv, ?_⟩
    rw [ha, Addr.add_plain, cell_of (heap := w.heap) hh, ← Array.getElem?_toList, hc, List.append_assoc, ← hp, List.getElem?_append_right (by omega), Nat.add_sub_cancel_left,
      List.getElem?_append_left, hg]
    rw [q6]; exact (List.getElem?_eq_some_iff.1 hv).1
theorem qfl (h : HOk ι hp w.heap) {b : Nat} {l : List AV} (hr : rd hp b = some l) : AV.qy hp.length l := by
  unfold rd at hr
  split at hr <;> simp only [Option.some.injEq, reduceCtorEq] at hr <;> subst hr <;> rename_i hb <;> exact (h.rel _ _ hb).1
def jh (w : World) (b : Nat) (o : Obj) : World := { w with heap := w.heap.setIfInBounds b o }
theorem bb {w : World} {b : Nat} {o x : Obj} (h : w.heap[b]? = some x) : (jh w b o).heap[b]? = some o := by
  have := (Array.getElem?_eq_some_iff.1 h).1
  simp [jh, this]
theorem qaz {w : World} {b b' : Nat} {o : Obj} (h : b' ≠ b) : (jh w b o).heap[b']? = w.heap[b']? := by
  simp only [jh]; rw [Array.getElem?_setIfInBounds_ne]; exact fun e => h e.symm
theorem qky {w : World} {b : Nat} {o : Obj} : (jh w b o).heap.size = w.heap.size := by simp [jh]
theorem qhc {w : World} {b : Nat} {o o' : Obj} : jh (jh w b o) b o' = jh w b o' := by
  simp [jh]
theorem qpg {w : World} {blk o : Nat} {c : Array Value} {ty : TypeId} {fz : Nat × Nat} (h : w.heap[blk]? = some (.cells c ty fz)) (v : Value) :
    w.setCell ⟨blk, o, none⟩ v = jh w blk (.cells (c.setIfInBounds o v) ty fz) := by
  unfold World.setCell jh
  congr 1
  apply Array.ext_getElem?
  intro i
  rw [Array.getElem?_modify, Array.getElem?_setIfInBounds]
  by_cases hi : blk = i
  · subst hi
    have := (Array.getElem?_eq_some_iff.1 h).1
    simp only [if_true]
    rw [h]
    simp [this]
  · simp [hi]
theorem Za {P : Program} {blk : Nat} {ty : TypeId} {fz : Nat × Nat} : ∀ (vs : List Value) (w : World) (c : Array Value) (o i : Nat),
    w.heap[blk]? = some (.cells c ty fz) → calm fz c.size → (∀ v ∈ vs, v.oneCell' = true) → o + i + vs.length ≤ c.size →
    (storeCells ⟨blk, o, none⟩ vs i).run P w = .ok () (if vs = [] then w else jh w blk (.cells (c.toList.take (o + i) ++ vs ++ c.toList.drop (o + i + vs.length)).toArray ty fz))
  | [], w, c, o, i, h, hc, hv, hl => rfl
  | v :: vs, w, c, o, i, h, hc, hv, hl => by
    have hlt : o + i < c.size := by simp only [List.length_cons] at hl; omega
    have hs : w.cell? ⟨blk, o + i, none⟩ = some (c[o + i]) := by simp [World.cell?, h, hlt]
    have hf : w.frozen? ⟨blk, o + i, none⟩ = false := by
      have := hc (o + i) hlt
      unfold World.frozen?
      simp only [h, Bool.and_eq_false_iff, decide_eq_false_iff_not]
      rcases Nat.lt_or_ge (o + i) fz.1 with h1 | h1
      · exact .inl (by omega)
      · exact .inr (fun h2 => this ⟨h1, h2⟩)
    unfold storeCells
    rw [Sem.run_bind, run_store P w _ v _ (hv v (by simp)), Addr.add_plain, hs]
    simp only [hf, Bool.false_eq_true, if_false, Result.andThen_ok, qpg h]
    have hb : (jh w blk (.cells (c.setIfInBounds (o + i) v) ty fz)).heap[blk]? = some (.cells (c.setIfInBounds (o + i) v) ty fz) := bb h
    rw [Za vs _ (c.setIfInBounds (o + i) v) o (i + 1) hb (by simpa using hc) (fun x hx => hv x (by simp [hx])) (by simp at hl ⊢; omega)]
    have e : (c.setIfInBounds (o + i) v).toList = c.toList.take (o + i) ++ v :: c.toList.drop (o + i + 1) := by
      rw [Array.toList_setIfInBounds, List.set_eq_take_append_cons_drop, if_pos (by simpa using hlt)]
    by_cases hn : vs = []
    · subst hn
      simp only [if_true, List.cons_ne_nil, if_false, List.length_cons, List.length_nil, Nat.zero_add]
      congr 3
      rw [← Array.toList_inj, e]; simp
    · simp only [hn, if_false, List.cons_ne_nil, qhc]
      congr 4
      rw [e]
      have hlen : (c.toList.take (o + i)).length = o + i := by simp; omega
      have t1 : (c.toList.take (o + i) ++ v :: c.toList.drop (o + i + 1)).take (o + (i + 1)) = c.toList.take (o + i) ++ [v] := by
        rw [show o + (i + 1) = (c.toList.take (o + i)).length + 1 from by rw [hlen]; omega, List.take_length_add_append]; rfl
      have t2 : (c.toList.take (o + i) ++ v :: c.toList.drop (o + i + 1)).drop (o + (i + 1) + vs.length) = c.toList.drop (o + i + (v :: vs).length) := by
        rw [show o + (i + 1) + vs.length = (c.toList.take (o + i)).length + (vs.length + 1) from by rw [hlen]; omega, List.drop_length_add_append]
        simp only [List.drop_succ_cons, List.drop_drop, List.length_cons]
        congr 1; omega
      rw [t1, t2]
      simp only [List.append_assoc, List.cons_append, List.nil_append]
theorem run_loadCellsFrom {P : Program} {w : World} {a : Addr} : ∀ (n i : Nat) (vs : List Value) (acc : Array Value), vs.length = n →
    (∀ j v, vs[j]? = some v → w.cell? (a.add (i + j)) = some v) → (loadCellsFrom a i n acc).run P w = .ok (acc ++ vs.toArray) w
  | 0, i, vs, acc, hl, hc => by
    have : vs = [] := List.length_eq_zero_iff.1 hl
    subst this; simp [loadCellsFrom]
  | n + 1, i, [], acc, hl, hc => by simp at hl
  | n + 1, i, v :: vs, acc, hl, hc => by
    have h0 := hc 0 v rfl
    simp only [loadCellsFrom, Sem.run_bind, run_load]
    rw [Nat.add_zero] at h0
    rw [h0]
    simp only [Result.andThen_ok]
    rw [run_loadCellsFrom n (i + 1) vs (acc.push v) (by simpa using hl) (fun j u hu => by have := hc (j + 1) u (by simpa using hu); rwa [show i + (j + 1) = i + 1 + j from by omega] at this)]
    simp
theorem run_loadCells {P : Program} {w : World} {a : Addr} {vs : List Value} (hc : ∀ j v, vs[j]? = some v → w.cell? (a.add j) = some v) :
    (loadCells a vs.length).run P w = .ok vs.toArray w := by
  unfold loadCells
  rw [run_loadCellsFrom vs.length 0 vs #[] rfl (fun j v hv => by rw [Nat.zero_add]; exact hc j v hv)]
  simp
end
theorem HOk.set {ι : Nat → Loc} {hp : List AO} {heap heap' : Array Obj} (h : HOk ι hp heap) {j : Nat} {o o' : AO} (ho : hp[j]? = some o) (hw : o.wr = true)
    (hu : o'.under hp.length) (hr : Xb ι heap' (ι j) o') (hs : ∀ b, b ≠ (ι j).addr.block → heap'[b]? = heap[b]?) (hn : (ι j).null = false) : HOk ι (hp.set j o') heap' := by
  have hj : j < hp.length := (List.getElem?_eq_some_iff.1 ho).1
  have at_of : ∀ i b, At ι (hp.set j o') i b → At ι hp i b := by
    rintro i b ⟨x, hx, hl, hn', hb⟩
    by_cases e : j = i
    · subst e; exact ⟨o, ho, AO.Qb hw, hn', hb⟩
    · rw [List.getElem?_set_ne e] at hx; exact ⟨x, hx, hl, hn', hb⟩
  refine ⟨fun i x hx => ?_, fun i k b hi hk => ?_⟩
  · rw [List.length_set]
    by_cases e : j = i
    · subst e
      rw [List.getElem?_set_self hj] at hx
      cases hx; exact ⟨hu, hr⟩
    · rw [List.getElem?_set_ne e] at hx
      obtain ⟨h1, h2⟩ := h.rel i x hx
      refine ⟨h1, h2.ve h1 (fun _ _ => rfl) fun hl hn' => hs _ fun eb => ?_⟩
      exact e (h.inj j i _ ⟨o, ho, hw, hn, rfl⟩ ⟨x, hx, hl, hn', eb⟩)
  · refine h.inj i k b ?_ (at_of k b hk)
    obtain ⟨x, hx, hl, hn', hb⟩ := hi
    by_cases e : j = i
    · subst e; exact ⟨o, ho, hw, hn', hb⟩
    · rw [List.getElem?_set_ne e] at hx; exact ⟨x, hx, hl, hn', hb⟩
def put (ι : Nat → Loc) (n : Nat) (l : Loc) : Nat → Loc := fun j => if j = n then l else ι j
theorem vw {ι : Nat → Loc} {n : Nat} {l : Loc} : ∀ j, j < n → ι j = put ι n l j := fun j hj => by simp [put, Nat.ne_of_lt hj]
theorem jw {ι : Nat → Loc} {n : Nat} {l : Loc} : put ι n l n = l := by simp [put]
theorem HOk.push {ι : Nat → Loc} {hp : List AO} {heap heap' : Array Obj} (h : HOk ι hp heap) {o : AO} {l : Loc} (hs : ∀ b, b < heap.size → heap'[b]? = heap[b]?)
    (hl : l.null = false → heap.size ≤ l.addr.block) (hu : o.under (hp.length + 1)) (hr : Xb (put ι hp.length l) heap' l o) : HOk (put ι hp.length l) (hp ++ [o]) heap' := by
  have old : ∀ i b, At (put ι hp.length l) (hp ++ [o]) i b → (i < hp.length ∧ At ι hp i b) ∨ (i = hp.length ∧ heap.size ≤ b) := by
    rintro i b ⟨x, hx, hlv, hn, hb⟩
    rcases Nat.lt_or_ge i hp.length with hi | hi
    · rw [List.getElem?_append_left hi] at hx
      rw [← vw i hi] at hn hb
      exact .inl ⟨hi, x, hx, hlv, hn, hb⟩
    · have : i = hp.length := by
        have := (List.getElem?_eq_some_iff.1 hx).1
        simp at this; omega
      subst this
      rw [jw] at hn hb
      exact .inr ⟨rfl, hb ▸ hl hn⟩
  refine ⟨fun i x hx => ?_, fun i k b hi hk => ?_⟩
  · rw [List.length_append, List.length_singleton]
    rcases Nat.lt_or_ge i hp.length with hi | hi
    · rw [List.getElem?_append_left hi] at hx
      obtain ⟨h1, h2⟩ := h.rel i x hx
      rw [← vw i hi]
      exact ⟨AO.jf (by omega) _ h1, h2.ve h1 vw fun hlv hn => hs _ (h2.lt hlv hn)⟩
    · have : i = hp.length := by
        have := (List.getElem?_eq_some_iff.1 hx).1
        simp at this; omega
      subst this
      rw [List.getElem?_concat_length] at hx
      cases hx
      rw [jw]; exact ⟨hu, hr⟩
  · rcases old i b hi.at_ with ⟨h1, h2⟩ | ⟨rfl, h2⟩ <;> rcases old k b hk with ⟨h3, h4⟩ | ⟨rfl, h4⟩
    · refine h.inj i k b ?_ h4
      obtain ⟨x, hx, hlv, hn, hb⟩ := hi
      rw [List.getElem?_append_left h1] at hx
      rw [← vw i h1] at hn hb
      exact ⟨x, hx, hlv, hn, hb⟩
    · have := h.lt h2; omega
    · have := h.lt h4; omega
    · rfl
section
variable {X : Ctx} {ι : Nat → Loc} {s : St} {a : Act} {w : World}
theorem zj (env : Env) (d t : Nat) (v : AV) : get ((d, v) :: env) t = if d = t then v else get env t := rfl
theorem Ok.put (h : Ok X ι s a w) {d : Nat} (hd : d < X.nt) {v : AV} {v' : Value} (hv : v ≠ .top → v.under s.hp.length ∧ v' = gam ι v) :
    Ok X ι ⟨(d, v) :: s.env, s.hp⟩ (a.put (some d) v') w where
  size := by simp [Act.put, h.size]
  defers := by simp [Act.put, h.defers]
  env := fun t => by
    simp only [zj, Act.put]
    by_cases e : d = t
    · subst e
      intro ht
      simp only [if_true] at ht ⊢
      obtain ⟨h1, h2⟩ := hv ht
      exact ⟨h1, by rw [Array.getElem?_setIfInBounds_self_of_lt (by rw [h.size]; exact hd), h2]⟩
    · simp only [e, if_false]
      intro ht
      obtain ⟨h1, h2⟩ := h.env t ht
      exact ⟨h1, by rw [Array.getElem?_setIfInBounds_ne e, h2]⟩
  heap := h.heap
  dom := h.dom
  base := h.base
  len := h.len
  fresh := h.fresh
  world := h.world
theorem WOk.step {X : Ctx} {w w' : World} (h : WOk X w) (hf : ∀ b, b < w.heap.size → ¬ X.D b → w'.heap[b]? = w.heap[b]?) (hg : w.heap.size ≤ w'.heap.size)
    (h1 : w'.os = w.os) (h2 : w'.output = w.output) (h3 : Vc w w') : WOk X w' :=
  ⟨fun b hb hd => (hf b (by have := h.grow; omega) hd).trans (h.frame b hb hd), by have := h.grow; omega, h1.trans h.os, h2.trans h.out, h.tape.trans h3⟩
theorem Ok.mem (h : Ok X ι s a w) {ι' : Nat → Loc} {hp' : List AO} {w' : World} (hag : ∀ j, j < s.hp.length → ι j = ι' j) (hlen : s.hp.length ≤ hp'.length)
    (hheap : HOk ι' hp' w'.heap) (hdom : ∀ j b, AtW ι' hp' j b → X.D b) (hw : WOk X w') : Ok X ι' ⟨s.env, hp'⟩ a w' where
  size := h.size
  defers := h.defers
  env := fun t ht => by
    obtain ⟨h1, h2⟩ := h.env t ht
    exact ⟨jf hlen _ h1, by rw [h2, Jg hag _ h1]⟩
  heap := hheap
  dom := hdom
  base := fun j hj => by rw [← hag j (by have := h.len; omega)]; exact h.base j hj
  len := by have := h.len; exact Nat.le_trans this hlen
  fresh := h.fresh
  world := hw
theorem Ok.alloc (h : Ok X ι s a w) (o : AO) (ob : Obj) (cap : Nat) (hu : o.under (s.hp.length + 1))
    (hr : Xb (Am.put ι s.hp.length ⟨⟨w.heap.size, 0, none⟩, false, cap⟩) (w.alloc ob).heap ⟨⟨w.heap.size, 0, none⟩, false, cap⟩ o) :
    Ok X (Am.put ι s.hp.length ⟨⟨w.heap.size, 0, none⟩, false, cap⟩) ⟨s.env, s.hp ++ [o]⟩ a (w.alloc ob) := by
  refine h.mem vw (by simp) (h.heap.push ?_ (fun _ => Nat.le_refl _) hu hr) ?_ (h.world.step ?_ (by simp) rfl rfl ⟨rfl, Nat.le_refl _⟩)
  · intro b hb; show (w.heap.push ob)[b]? = _; rw [Array.getElem?_push, if_neg (Nat.ne_of_lt hb)]
  · rintro j b ⟨x, hx, hw, hn, hb⟩
    rcases Nat.lt_or_ge j s.hp.length with hj | hj
    · rw [List.getElem?_append_left hj] at hx
      rw [← vw j hj] at hn hb
      exact h.dom j b ⟨x, hx, hw, hn, hb⟩
    · have : j = s.hp.length := by
        have := (List.getElem?_eq_some_iff.1 hx).1
        simp at this; omega
      subst this
      rw [jw] at hb
      subst hb
      exact h.fresh _ h.world.grow
  · intro b hb _; show (w.heap.push ob)[b]? = _; rw [Array.getElem?_push, if_neg (Nat.ne_of_lt hb)]
theorem Ok.kill (h : Ok X ι s a w) (b : Nat) : Ok X ι ⟨s.env, s.hp.set b .dead⟩ a w := by
  have old : ∀ {j : Nat} {o : AO}, (s.hp.set b .dead)[j]? = some o → o.live = true → s.hp[j]? = some o := by
    intro j o ho hl
    by_cases e : b = j
    · subst e
      rw [List.getElem?_set] at ho
      simp only [if_true] at ho
      split at ho
      · cases ho; cases hl
      · cases ho
    · rwa [List.getElem?_set_ne e] at ho
  refine h.mem (fun _ _ => rfl) (by simp) ⟨fun j o ho => ?_, fun i j c hi hj => ?_⟩ ?_ h.world
  · rw [List.length_set]
    by_cases hl : o.live = true
    · exact h.heap.rel j o (old ho hl)
    · cases o <;> first | exact ⟨trivial, trivial⟩ | exact absurd rfl hl
  · obtain ⟨o, ho, hw, hn, hb⟩ := hi
    obtain ⟨o2, ho2, hl2, hn2, hb2⟩ := hj
    exact h.heap.inj i j c ⟨o, old ho (AO.Qb hw), hw, hn, hb⟩ ⟨o2, old ho2 hl2, hl2, hn2, hb2⟩
  · rintro j c ⟨o, ho, hw, hn, hb⟩
    exact h.dom j c ⟨o, old ho (AO.Qb hw), hw, hn, hb⟩
theorem Ok.null (h : Ok X ι s a w) (sz : Nat) : Ok X (Am.put ι s.hp.length .nil) ⟨s.env, s.hp ++ [.vec sz []]⟩ a w := by
  refine h.mem vw (by simp) (h.heap.push (fun _ _ => rfl) (fun h => by cases h) trivial (.inl ⟨rfl, rfl, rfl⟩)) ?_ h.world
  rintro j b ⟨x, hx, hw, hn, hb⟩
  rcases Nat.lt_or_ge j s.hp.length with hj | hj
  · rw [List.getElem?_append_left hj] at hx
    rw [← vw j hj] at hn hb
    exact h.dom j b ⟨x, hx, hw, hn, hb⟩
  · have : j = s.hp.length := by
      have := (List.getElem?_eq_some_iff.1 hx).1
      simp at this; omega
    subst this
    rw [jw] at hn; cases hn
theorem Ok.move (h : Ok X ι s a w) {b : Nat} {o o' : AO} {l : Loc} (ho : s.hp[b]? = some o) (hw : o.wr = true) (hu : o'.under (s.hp.length + 1)) (ha : l.addr = (ι b).addr) (hn : l.null = (ι b).null)
    (hr : Xb (Am.put ι s.hp.length l) w.heap l o') : Ok X (Am.put ι s.hp.length l) ⟨s.env, s.hp.set b .dead ++ [o']⟩ a w := by
  have hb : b < s.hp.length := (List.getElem?_eq_some_iff.1 ho).1
  have hk := h.kill b
  have split : ∀ i, (i < s.hp.length ∧ (s.hp.set b .dead ++ [o'])[i]? = (s.hp.set b .dead)[i]?) ∨ (i = s.hp.length ∧ (s.hp.set b .dead ++ [o'])[i]? = some o') ∨ (s.hp.set b .dead ++ [o'])[i]? = none := by
    intro i
    rcases Nat.lt_trichotomy i s.hp.length with hi | hi | hi
    · exact .inl ⟨hi, List.getElem?_append_left (by simpa using hi)⟩
    · refine .inr (.inl ⟨hi, ?_⟩)
      subst hi
      simp
    · exact .inr (.inr (List.getElem?_eq_none (by simp; omega)))
  have dead : ∀ j c, At ι (s.hp.set b .dead) j c → j ≠ b := by
    rintro j c ⟨x, hx, hl, _⟩ rfl
    rw [List.getElem?_set_self hb] at hx
    cases hx; cases hl
  have old : ∀ j c, At ι (s.hp.set b .dead) j c → At ι s.hp j c := by
    intro j c hj
    have := dead j c hj
    obtain ⟨x, hx, hl, hn, hc⟩ := hj
    rw [List.getElem?_set_ne (fun e => this e.symm)] at hx
    exact ⟨x, hx, hl, hn, hc⟩
  refine h.mem vw (by simp) ⟨fun j x hx => ?_, fun i j c hi hj => ?_⟩ ?_ h.world
  · have e : (s.hp.set b .dead ++ [o']).length = s.hp.length + 1 := by simp
    rw [e]
    rcases split j with ⟨hj, e1⟩ | ⟨rfl, e1⟩ | e1
    · rw [e1] at hx
      obtain ⟨h1, h2⟩ := hk.heap.rel j x hx
      simp only [List.length_set] at h1
      rw [← vw j hj]
      exact ⟨AO.jf (by omega) _ h1, h2.ve h1 vw fun _ _ => rfl⟩
    · rw [e1] at hx; cases hx
      rw [jw]; exact ⟨hu, hr⟩
    · rw [e1] at hx; cases hx
  · have atcase : ∀ k, At (Am.put ι s.hp.length l) (s.hp.set b .dead ++ [o']) k c → (k < s.hp.length ∧ At ι (s.hp.set b .dead) k c) ∨ (k = s.hp.length ∧ (ι b).null = false ∧ (ι b).addr.block = c) := by
      rintro k ⟨x, hx, hl, hn', hc⟩
      rcases split k with ⟨hk', e1⟩ | ⟨rfl, e1⟩ | e1
      · rw [e1] at hx; rw [← vw k hk'] at hn' hc; exact .inl ⟨hk', x, hx, hl, hn', hc⟩
      · rw [jw] at hn' hc; exact .inr ⟨rfl, by rw [← hn]; exact hn', by rw [← ha]; exact hc⟩
      · rw [e1] at hx; cases hx
    rcases atcase i hi.at_ with ⟨h1, h2⟩ | ⟨rfl, h2, h3⟩ <;> rcases atcase j hj with ⟨h4, h5⟩ | ⟨rfl, h5, h6⟩
    · refine hk.heap.inj i j c ?_ h5
      obtain ⟨x, hx, hw', hn', hc⟩ := hi
      rcases split i with ⟨hk', e1⟩ | ⟨e0, e1⟩ | e1
      · rw [e1] at hx; rw [← vw i hk'] at hn' hc; exact ⟨x, hx, hw', hn', hc⟩
      · omega
      · rw [e1] at hx; cases hx
    · exact absurd (h.heap.inj b i c ⟨o, ho, hw, h5, h6⟩ (old i c h2)).symm (dead i c h2)
    · exact absurd (h.heap.inj b j c ⟨o, ho, hw, h2, h3⟩ (old j c h5)).symm (dead j c h5)
    · rfl
  · rintro j c ⟨x, hx, hw', hn', hc⟩
    rcases split j with ⟨hj, e1⟩ | ⟨rfl, e1⟩ | e1
    · rw [e1] at hx; rw [← vw j hj] at hn' hc
      exact hk.dom j c ⟨x, hx, hw', hn', hc⟩
    · rw [jw] at hn' hc
      exact h.dom b c ⟨o, ho, hw, by rw [← hn]; exact hn', by rw [← ha]; exact hc⟩
    · rw [e1] at hx; cases hx
theorem Ok.drew (h : Ok X ι s a w) : Ok X ι s a w.drew :=
  ⟨h.size, h.defers, h.env, h.heap, h.dom, h.base, h.len, h.fresh, ⟨h.world.frame, h.world.grow, h.world.os, h.world.out, h.world.tape.trans ⟨rfl, Nat.le_succ _⟩⟩⟩
theorem Ok.set (h : Ok X ι s a w) {j : Nat} {o o' : AO} {ob : Obj} (ho : s.hp[j]? = some o) (hw : o.wr = true) (hn : (ι j).null = false) (hu : o'.under s.hp.length)
    (hr : Xb ι (jh w (ι j).addr.block ob).heap (ι j) o') : Ok X ι ⟨s.env, s.hp.set j o'⟩ a (jh w (ι j).addr.block ob) := by
  have hd : X.D (ι j).addr.block := h.dom j _ ⟨o, ho, hw, hn, rfl⟩
  refine h.mem (fun _ _ => rfl) (by simp) (h.heap.set ho hw hu hr (fun b hb => qaz hb) hn) ?_ (h.world.step ?_ (by rw [qky]; exact Nat.le_refl _) rfl rfl ⟨rfl, Nat.le_refl _⟩)
  · rintro i b ⟨x, hx, hwx, hnx, hb⟩
    by_cases e : j = i
    · subst e; exact hb ▸ hd
    · rw [List.getElem?_set_ne e] at hx; exact h.dom i b ⟨x, hx, hwx, hnx, hb⟩
  · intro b _ hb
    exact qaz fun e => hb (e ▸ hd)
end
end Go.Am
namespace Go.Am
set_option linter.unusedVariables false
inductive LT where
  | int | bool | str
inductive Opd where
  | t (n : Nat)
  | c (a : AV)
inductive LK where
  | str | slc | map
inductive AOp where
  | mov (x : Opd)
  | pick (c a b : Opd)
  | alloc (zero : List AV)
  | box (x : Opd)
  | build (zero : List AV) (parts : List (Nat × Nat × Opd))
  | ga (len : Nat) (zero : List AV) (parts : List (Nat × Nat × Opd))
  | wy (a : Opd)
  | Qq (n : Nat) (a : Opd)
  | Qz (a x : Opd)
  | Kk (n : Nat) (a x : Opd)
  | ju (x : Opd)
  | bin (op : BinOp) (x y : Opd)
  | eqs (neg : Bool) (ks : List LT) (x y : Opd)
  | qdo (neg : Bool) (x : Opd)
  | eqb (neg : Bool) (x y : Opd)
  | un (op : UnOp) (x : Opd)
  | conv (k : IntKind) (x : Opd)
  | b2s (x : Opd)
  | qc3 (x : Opd)
  | qg7 (f : FuncId) (first caps : List Opd)
  | qag
  | kx (size bytes : Nat) (zero : List AV) (len cap : Opd)
  | ym (off : Nat) (x : Opd)
  | field (off n : Nat) (agg : Bool) (x : Opd)
  | xp (len size : Nat) (x i : Opd)
  | Q9 (size : Nat) (x i : Opd)
  | qd0 (len size : Nat) (agg : Bool) (x i : Opd)
  | qd3 (x i : Opd)
  | substr (x : Opd) (lo hi : Option Opd)
  | qcz (size : Nat) (x : Opd) (lo hi : Option Opd)
  | ext (i : Nat) (x : Opd)
  | len (k : LK) (x : Opd)
  | append (size bytes : Nat) (x y : Opd)
  | Xj (isMin : Bool) (x y : Opd)
  | lookup (ks : List LT) (agg : Bool) (zero : AV) (ok : Bool) (m k : Opd)
  | Uy (ks : List LT) (agg : Bool) (m k v : Opd)
  | qcg (ks : List LT) (agg : Bool) (zero : AV) (m k : Opd)
  | qhw (m s v : Opd)
  | Bf (m : Opd)
  | qyg (it : Opd)
  | entry (it : Opd)
def ofConst : Value → AV
  | .int k n => .int k n
  | .bool b => .bool b
  | .string s => .str s.data.toList
  | x => .v x
def Qu : Value → AV
  | .agg l => .agg (l.toList.map ofConst)
  | x => ofConst x
def Opd.of : Operand → Opd
  | .tmp n => .t n
  | .const v => .c (Qu v)
  | .global g => .c (.v (.pointer (some ⟨g, 0, none⟩)))
  | .func f => .c (.fn f [] [])
def ev (env : Env) : Opd → AV
  | .t n => get env n
  | .c a => a
theorem qdj (ι : Nat → Loc) (v : Value) : gam ι (ofConst v) = v := by
  cases v <;> simp [ofConst, gam]
theorem X7 (ι : Nat → Loc) (l : List Value) : qv ι (l.map ofConst) = l := by
  induction l with
  | nil => rfl
  | cons a l ih => simp [qv, qdj, ih]
theorem qhg (n : Nat) (v : Value) : (ofConst v).under n := by
  cases v <;> simp [ofConst, AV.under]
theorem uh (n : Nat) (l : List Value) : AV.qy n (l.map ofConst) := by
  rw [Qh]; intro a ha; obtain ⟨v, _, rfl⟩ := List.mem_map.1 ha; exact qhg n v
theorem Q2 (ι : Nat → Loc) (v : Value) : gam ι (Qu v) = v := by
  cases v <;> simp [Qu, gam, ofConst, X7]
theorem gm (n : Nat) (v : Value) : (Qu v).under n := by
  cases v <;> simp [Qu, AV.under, ofConst, uh]
def AV.cells : AV → Option (List AV)
  | .agg l => some l
  | .tup _ => none
  | .top => none
  | .v x => if x.oneCell' then some [.v x] else none
  | a => some [a]
theorem AV.qmy {a : AV} {l : List AV} (h : a.cells = some l) : a ≠ .top ∧ (∀ n, a.under n → AV.qy n l) ∧ ∀ ι, (gam ι a).cells.toList = qv ι l := by
  cases a with
  | v x =>
    simp only [AV.cells] at h
    split at h
    · rename_i hx
      cases h
      refine ⟨by simp, fun _ _ => ⟨trivial, trivial⟩, fun ι => ?_⟩
      cases x <;> simp_all [gam, qv, Value.cells, Value.oneCell']
    · cases h
  | agg l' => simp only [AV.cells, Option.some.injEq] at h; subst h; exact ⟨by simp, fun _ h => h, fun ι => by simp [gam, Value.cells]⟩
  | tup l' => simp [AV.cells] at h
  | top => simp [AV.cells] at h
  | int k n => simp only [AV.cells, Option.some.injEq] at h; subst h; exact ⟨by simp, fun _ _ => ⟨trivial, trivial⟩, fun ι => by simp [gam, qv, Value.cells]⟩
  | bool b => simp only [AV.cells, Option.some.injEq] at h; subst h; exact ⟨by simp, fun _ _ => ⟨trivial, trivial⟩, fun ι => by simp [gam, qv, Value.cells]⟩
  | str b => simp only [AV.cells, Option.some.injEq] at h; subst h; exact ⟨by simp, fun _ _ => ⟨trivial, trivial⟩, fun ι => by simp [gam, qv, Value.cells]⟩
  | ptr b o => simp only [AV.cells, Option.some.injEq] at h; subst h; exact ⟨by simp, fun _ h => ⟨h, trivial⟩, fun ι => by simp [gam, qv, Value.cells]⟩
  | slc b o n e c => simp only [AV.cells, Option.some.injEq] at h; subst h; exact ⟨by simp, fun _ h => ⟨h, trivial⟩, fun ι => by simp [gam, qv, Value.cells]⟩
  | map b => simp only [AV.cells, Option.some.injEq] at h; subst h; exact ⟨by simp, fun _ h => ⟨h, trivial⟩, fun ι => by simp [gam, qv, Value.cells]⟩
  | fn f a b => simp only [AV.cells, Option.some.injEq] at h; subst h; exact ⟨by simp, fun _ h => ⟨h, trivial⟩, fun ι => by simp [gam, qv, Value.cells]⟩
def over (l : List AV) (off : Nat) (c : List AV) : List AV := l.take off ++ c ++ l.drop (off + c.length)
theorem qcb (ι : Nat → Loc) (l c : List AV) (off : Nat) : qv ι (over l off c) = (qv ι l).take off ++ qv ι c ++ (qv ι l).drop (off + (qv ι c).length) := by
  simp only [over, wi, qbr, qh5, q6]
theorem Uo {n off : Nat} {l c : List AV} (h : AV.qy n l) (h' : AV.qy n c) : AV.qy n (over l off c) :=
  kp.2 ⟨kp.2 ⟨gp h, h'⟩, Xh h⟩
def vx (env : Env) : List (Nat × Nat × Opd) → List AV → Option (List AV)
  | [], l => some l
  | (off, sz, x) :: r, l => match (ev env x).cells with
    | some c => if c.length = sz ∧ off + sz ≤ l.length then vx env r (over l off c) else none
    | none => none
def chk {α : Type} (c : Prop) [Decidable c] (x : Option α) : Option α := if c then x else none
theorem qb9 {α : Type} {c : Prop} [Decidable c] {x : Option α} (h : c) : chk c x = x := if_pos h
theorem ql {α : Type} {c : Prop} [Decidable c] {x : Option α} {y : α} (h : chk c x = some y) : c ∧ x = some y := by
  unfold chk at h; split at h
  · rename_i hc; exact ⟨hc, h⟩
  · cases h
def qu (k : IntKind) (n : Int) : Int := k.wrap n
def Qg : BinOp → AV → AV → Option AV
  | .add, .int k x, .int k' y => chk (k = k') (some (.int k (qu k (x + y))))
  | .sub, .int k x, .int k' y => chk (k = k') (some (.int k (qu k (x - y))))
  | .mul, .int k x, .int k' y => chk (k = k') (some (.int k (qu k (x * y))))
  | .quo, .int k x, .int k' y => chk (k = k') (chk (y ≠ 0) (some (.int k (qu k (x.tdiv y)))))
  | .rem, .int k x, .int k' y => chk (k = k') (chk (y ≠ 0) (some (.int k (x.tmod y))))
  | .and, .int k x, .int k' y => chk (k = k') (some (.int k (qu k ((BitVec.ofInt k.bits x) &&& (BitVec.ofInt k.bits y)).toNat)))
  | .or, .int k x, .int k' y => chk (k = k') (some (.int k (qu k ((BitVec.ofInt k.bits x) ||| (BitVec.ofInt k.bits y)).toNat)))
  | .xor, .int k x, .int k' y => chk (k = k') (some (.int k (qu k ((BitVec.ofInt k.bits x) ^^^ (BitVec.ofInt k.bits y)).toNat)))
  | .shl, .int k x, .int _ y => chk (0 ≤ y) (some (.int k (qu k (x * 2 ^ min y.toNat k.bits))))
  | .shr, .int k x, .int _ y => chk (0 ≤ y) (some (.int k (x.fdiv (2 ^ min y.toNat k.bits))))
  | .eql, .int k x, .int k' y => chk (k = k') (some (.bool (x == y)))
  | .neq, .int k x, .int k' y => chk (k = k') (some (.bool (x != y)))
  | .lss, .int k x, .int k' y => chk (k = k') (some (.bool (decide (x < y))))
  | .leq, .int k x, .int k' y => chk (k = k') (some (.bool (decide (x ≤ y))))
  | .gtr, .int k x, .int k' y => chk (k = k') (some (.bool (decide (y < x))))
  | .geq, .int k x, .int k' y => chk (k = k') (some (.bool (decide (y ≤ x))))
  | .add, .str x, .str y => chk (x.length + y.length ≤ 9223372036854775807) (some (.str (x ++ y)))
  | .eql, .str x, .str y => some (.bool (x == y))
  | .neq, .str x, .str y => some (.bool (!(x == y)))
  | .lss, .str x, .str y => some (.bool (Op.bytesLess x y))
  | .geq, .str x, .str y => some (.bool (!(Op.bytesLess x y)))
  | _, _, _ => none
def aun : UnOp → AV → Option AV
  | .neg, .int k x => some (.int k (qu k (0 - x)))
  | .not, .bool b => some (.bool (!b))
  | _, _ => none
def lim (lo hi : Option AV) (len : Nat) (cap : Nat) : Option (Nat × Nat) :=
  match hi, lo with
  | none, none => some (0, len)
  | none, some (.int _ l) => chk (0 ≤ l ∧ l ≤ len) (some (l.toNat, len))
  | some (.int _ h), none => chk (0 ≤ h ∧ h ≤ cap) (some (0, h.toNat))
  | some (.int _ h), some (.int _ l) => chk (0 ≤ h ∧ h ≤ cap) (chk (0 ≤ l ∧ l ≤ h) (some (l.toNat, h.toNat)))
  | _, _ => none
def xg : AV := .v undef
def rep : Nat → List AV → List AV
  | 0, _ => []
  | n + 1, z => z ++ rep n z
def k8 : List AV → Option (List UInt8)
  | [] => some []
  | .int .u8 n :: r => match k8 r with
    | some s => some (UInt8.ofNat n.toNat :: s)
    | none => none
  | _ => none
def Zk (hp : List AO) (b off len : Nat) (ex : Bool) (c size : Nat) : Bool :=
  cond ex (decide (len ≤ c)) (match hp[b]? with
    | some (.vec sz _) => decide (sz = size ∧ off = c * size ∧ 1 ≤ size)
    | _ => false)
def src (hp : List AO) (size : Nat) : AV → Option (Nat × List AV)
  | .slc b off n _ _ => match rd hp b with
    | some l => chk (off + n * size ≤ l.length) (some (n, (l.drop off).take (n * size)))
    | none => chk (n = 0) (some (0, []))
  | .v (.slice none n _) => chk (n = 0) (some (0, []))
  | .str s => chk (size = 1) (some (s.length, s.map fun b => .int .u8 b.toNat))
  | _ => none
def leq : LT → AV → AV → Option Bool
  | .int, .int k a, .int k' b => if k = k' then some (a == b) else none
  | .bool, .bool a, .bool b => some (a == b)
  | .str, .str a, .str b => some (a == b)
  | _, _, _ => none
def j6 : List LT → List AV → List AV → Option Bool
  | [], [], [] => some true
  | k :: ks, a :: as, b :: bs => match leq k a b, j6 ks as bs with
    | some x, some y => some (x && y)
    | _, _ => none
  | _, _, _ => none
def keq (ks : List LT) (agg : Bool) (x y : AV) : Option Bool :=
  match agg, x, y with
  | true, .agg l, .agg l' => j6 ks l l'
  | false, x, y => j6 ks [x] [y]
  | _, _, _ => none
def kok (ks : List LT) (agg : Bool) (x : AV) : Bool := keq ks agg x x matches some _
def uf (ks : List LT) (agg : Bool) (k : AV) : List AE → Nat → Option (Option (Nat × AE))
  | [], _ => some none
  | e :: es, i => match keq ks agg k e.key with
    | some true => some (some (i, e))
    | some false => uf ks agg k es (i + 1)
    | none => none
def qf (env : Env) (hp : List AO) : AOp → Option (AV × List AO)
  | .mov x => some (ev env x, hp)
  | .pick c a b => match ev env c with
    | .bool t => some (cond t (ev env a) (ev env b), hp)
    | _ => none
  | .alloc z => some (.ptr hp.length 0, hp ++ [.cells z])
  | .box x => match (ev env x).cells with
    | some l => some (.ptr hp.length 0, hp ++ [.cells l])
    | none => none
  | .build z parts => match vx env parts z with
    | some l => some (.agg l, hp)
    | none => none
  | .ga n z parts => match vx env parts z with
    | some l => some (.slc hp.length 0 n true n, hp ++ [.cells l])
    | none => none
  | .wy a => match ev env a with
    | .ptr b off => match rd hp b with
      | some l => match l[off]? with
        | some v => some (v, hp)
        | none => none
      | none => none
    | _ => none
  | .Qq n a => match ev env a with
    | .ptr b off => match rd hp b with
      | some l => chk (off + n ≤ l.length) (some (.agg ((l.drop off).take n), hp))
      | none => none
    | _ => none
  | .Qz a x => match ev env a with
    | .ptr b off => match wrt hp b with
      | some l => chk (off < l.length ∧ (ev env x).one = true) (some (xg, wrl hp b (l.set off (ev env x))))
      | none => none
    | _ => none
  | .Kk n a x => match ev env a, ev env x with
    | .ptr b off, .agg vs => match wrt hp b with
      | some l => chk (off + n ≤ l.length ∧ vs.length = n ∧ vs.all AV.one = true) (some (xg, wrl hp b (over l off vs)))
      | none => none
    | _, _ => none
  | .ju x => match ev env x with
    | .ptr b off => some (.ptr b off, hp)
    | .fn f a b => some (.fn f a b, hp)
    | _ => none
  | .bin op x y => match Qg op (ev env x) (ev env y) with
    | some v => some (v, hp)
    | none => none
  | .un op x => match aun op (ev env x) with
    | some v => some (v, hp)
    | none => none
  | .conv k x => match ev env x with
    | .int _ n => some (.int k (qu k n), hp)
    | _ => none
  | .qg7 f first caps => chk ((first.all fun x => match ev env x with | .top => false | _ => true) = true ∧ (caps.all fun x => match ev env x with | .top => false | _ => true) = true)
      (some (.fn f (first.map (ev env)) (caps.map (ev env)), hp))
  | .ym off x => match ev env x with
    | .ptr b o => some (.ptr b (o + off), hp)
    | _ => none
  | .field off n agg x => match ev env x with
    | .agg l => cond agg (chk (off + n ≤ l.length) (some (.agg ((l.drop off).take n), hp)))
        (match l[off]? with | some v => some (v, hp) | none => none)
    | _ => none
  | .xp len size x i => match ev env x, ev env i with
    | .ptr b o, .int _ n => chk (0 ≤ n ∧ n < len) (some (.ptr b (o + n.toNat * size), hp))
    | _, _ => none
  | .qd0 len size agg x i => match ev env x, ev env i with
    | .agg l, .int _ n => chk (0 ≤ n ∧ n < len) (cond agg (chk (n.toNat * size + size ≤ l.length) (some (.agg ((l.drop (n.toNat * size)).take size), hp)))
        (match l[n.toNat * size]? with | some v => some (v, hp) | none => none))
    | _, _ => none
  | .qd3 x i => match ev env x, ev env i with
    | .str s, .int _ n => chk (0 ≤ n ∧ n < s.length) (some (.int .u8 (s.getD n.toNat 0).toNat, hp))
    | _, _ => none
  | .ext i x => match ev env x with
    | .tup l => match l[i]? with
      | some v => some (v, hp)
      | none => none
    | _ => none
  | .Xj isMin x y => match ev env x, ev env y with
    | .int k a, .int k' b => chk (k = k') (some (.int k (cond isMin (if b < a then b else a) (if b > a then b else a)), hp))
    | _, _ => none
  | .Q9 size x i => match ev env x, ev env i with
    | .slc b off len _ _, .int _ n => match rd hp b with
      | some l => chk ((0 ≤ n ∧ n < len) ∧ off + n.toNat * size < l.length) (some (.ptr b (off + n.toNat * size), hp))
      | none => none
    | _, _ => none
  | .len .str x => match ev env x with
    | .str s => some (.int .i64 s.length, hp)
    | _ => none
  | .len .slc x => match ev env x with
    | .slc _ _ n _ _ => some (.int .i64 n, hp)
    | .v (.slice _ n _) => some (.int .i64 n, hp)
    | _ => none
  | .len .map x => match ev env x with
    | .map b => match hp[b]? with
      | some (.map es _) => some (.int .i64 es.length, hp)
      | _ => none
    | _ => none
  | .substr x lo hi => match ev env x with
    | .str s => match lim (lo.map (ev env)) (hi.map (ev env)) s.length s.length with
      | some (l, h) => some (.str ((s.take h).drop l), hp)
      | none => none
    | _ => none
  | .qcz size x lo hi => match ev env x with
    | .slc b off len ex c => match rd hp b with
      | some r => match lim (lo.map (ev env)) (hi.map (ev env)) len len with
        | some (l, h) => chk (off + len * size ≤ r.length ∧ Zk hp b off len ex c size = true) (if l = 0 ∨ l < h then some (.slc b (off + l * size) (h - l) ex (cond ex (c - l) (c + l)), hp) else some (.slc hp.length 0 0 false 0, hp ++ [.dead]))
        | none => none
      | none => none
    | _ => none
  | .b2s x => match ev env x with
    | .slc b off len _ _ => match rd hp b with
      | some l => chk (off + len ≤ l.length) (match k8 ((l.drop off).take len) with | some s => some (.str s, hp) | none => none)
      | none => none
    | .v (.slice none _ _) => some (.str [], hp)
    | _ => none
  | .qc3 x => match ev env x with
    | .str s => some (.str s, hp)
    | _ => none
  | .eqs neg ks x y => match ev env x, ev env y with
    | .agg l, .agg l' => match j6 ks l l' with
      | some r => some (.bool (cond neg (!r) r), hp)
      | none => none
    | _, _ => none
  | .eqb neg x y => match ev env x, ev env y with
    | .bool u, .bool u' => some (.bool (cond neg (!(u == u')) (u == u')), hp)
    | _, _ => none
  | .lookup ks agg z ok m k => match ev env m with
    | .map b => match hp[b]? with
      | some (.map es _) => chk (kok ks agg (ev env k) = true) (match uf ks agg (ev env k) es 0 with
        | some (some (_, e)) => some (cond ok (.tup [e.val, .bool true]) e.val, hp)
        | some none => some (cond ok (.tup [z, .bool false]) z, hp)
        | none => none)
      | _ => none
    | _ => none
  | .Uy ks agg m k v => match ev env m, ev env v with
    | _, .top => none
    | .map b, x => match hp[b]? with
      | some (.map es ck) => chk (kok ks agg (ev env k) = true) (match uf ks agg (ev env k) es 0 with
        | some (some (i, e)) => some (xg, hp.set b (.map (es.set i ⟨ev env k, x, e.born⟩) ck))
        | some none => some (xg, hp.set b (.map (es ++ [⟨ev env k, x, ck⟩]) (ck + 1)))
        | none => none)
      | _ => none
    | _, _ => none
  | .qcg ks agg z m k => match ev env m with
    | .map b => match hp[b]? with
      | some (.map es ck) => chk (kok ks agg (ev env k) = true) (match uf ks agg (ev env k) es 0 with
        | some (some (i, e)) => some (.tup [e.val, .int .i64 e.born], hp.set b (.map (es.set i ⟨ev env k, e.val, e.born⟩) ck))
        | some none => some (.tup [z, .int .i64 ck], hp.set b (.map (es ++ [⟨ev env k, z, ck⟩]) (ck + 1)))
        | none => none)
      | _ => none
    | _ => none
  | .qhw m s v => match ev env m, ev env s, ev env v with
    | _, _, .top => none
    | .map b, .int _ n, x => match hp[b]? with
      | some (.map es ck) => match es.findIdx? (fun e => (e.born : Int) == n) with
        | some i => some (xg, hp.set b (.map (es.modify i fun e => ⟨e.key, x, e.born⟩) ck))
        | none => none
      | _ => none
    | _, _, _ => none
  | .qdo neg x => match ev env x with
    | .ptr _ _ => some (.bool neg, hp)
    | .v (.pointer none) => some (.bool (!neg), hp)
    | _ => none
  | .qag => some (.map hp.length, hp ++ [.map [] 0])
  | .kx size bytes z len cap => match ev env len, ev env cap with
    | .int _ l, .int _ c => chk (0 ≤ l ∧ l ≤ c ∧ c * bytes ≤ 281474976710656 ∧ 1 ≤ bytes ∧ z.length = size ∧ 1 ≤ size) (some (.slc hp.length 0 l.toNat true c.toNat, hp ++ [.cells (rep c.toNat z)]))
    | _, _ => none
  | .append size bytes x y => match src hp size (ev env y) with
    | some (n, ys) => match ev env x with
      | .slc b 0 len ex c => match hp[b]? with
        | some (.vec sz l) => chk (ex = false ∧ c = 0 ∧ sz = size ∧ len * size ≤ l.length ∧ ys.all AV.one = true ∧ (len + n) * bytes ≤ 1099511627776 ∧ (1 ≤ bytes ∧ bytes ≤ 65536) ∧ 1 ≤ size)
            (some (.slc hp.length 0 (len + n) false 0, hp.set b .dead ++ [.vec size (l.take (len * size) ++ ys)]))
        | some (.cells l) => chk (ex = true ∧ c = len ∧ l.length = len * size ∧ ys.all AV.one = true ∧ (len + n) * bytes ≤ 1099511627776 ∧ (1 ≤ bytes ∧ bytes ≤ 65536) ∧ 1 ≤ size)
            (some (.slc hp.length 0 (len + n) false 0, hp.set b .dead ++ [.vec size (l ++ ys)]))
        | _ => none
      | .v (.slice none 0 0) => chk (ys.all AV.one = true ∧ n * bytes ≤ 1099511627776 ∧ (1 ≤ bytes ∧ bytes ≤ 65536) ∧ 1 ≤ size) (some (.slc hp.length 0 n false 0, hp ++ [.vec size ys]))
      | _ => none
    | none => none
  | .Bf m => match ev env m with
    | .map b => match hp[b]? with
      | some (.map _ clock) => some (.ptr hp.length 0, hp ++ [.x6 (some b) clock [] clock])
      | _ => none
    | _ => none
  | .entry it => match ev env it with
    | .ptr r 0 => match hp[r]? with
      | some (.x6 (some m) _ seen last) => match hp[m]?, seen.getLast? with
        | some (.map es clock), some stamp => chk (clock = last) (match es.find? (fun e => e.born == stamp) with
          | some e => some (.tup [e.key, e.val], hp)
          | none => none)
        | _, _ => none
      | _ => none
    | _ => none
  | _ => none
def xz (P : Program) (t : TypeId) : Option Nat := (P.info? t).map (·.size)
def Yc (P : Program) (t : TypeId) : Option Nat := (P.info? t).map (·.bytes)
def Jt (P : Program) (t : TypeId) : Option (List AV) := ((P.info? t).bind (·.zero)).map fun z => z.cells.toList.map ofConst
def q3v : TypeDesc → Bool
  | .int _ => true
  | _ => false
def q8 : TypeDesc → Bool
  | .struct _ | .array _ _ => true
  | _ => false
def Yt (g : TypeId → Option (List LT)) (P : Program) : List Field → Nat → Option (List LT)
  | [], _ => some []
  | f :: fs, off => match g f.type, xz P f.type with
    | some k, some n => if f.name ≠ "_" ∧ f.offset = off ∧ k.length = n then (match Yt g P fs (off + n) with | some r => some (k ++ r) | none => none) else none
    | _, _ => none
def qnv : Nat → List LT → List LT
  | 0, _ => []
  | n + 1, z => z ++ qnv n z
def leaves (P : Program) : Nat → TypeId → Option (List LT)
  | 0, _ => none
  | d + 1, t => match P.underlying t with
    | some (.int _) => some [.int]
    | some .bool => some [.bool]
    | some .string => some [.str]
    | some (.struct fs) => if P.stoodInHeld t then none else Yt (leaves P d) P fs.toList 0
    | some (.array n e) => match leaves P d e, xz P e with
      | some k, some m => if k.length = m then some (qnv n k) else none
      | _, _ => none
    | _ => none
def partsOf (P : Program) (fs : Array Field) : List (Nat × Operand) → Option (List (Nat × Nat × Opd))
  | [] => some []
  | (i, x) :: r => match fs[i]? with
    | some f => match xz P f.type, partsOf P fs r with
      | some n, some l => some ((f.offset, n, Opd.of x) :: l)
      | _, _ => none
    | none => none
def cOp (P : Program) (o : Oper) : Option AOp :=
  match o.op with
  | .move x | .assign x => some (.mov (Opd.of x))
  | .pick c a b => some (.pick (Opd.of c) (Opd.of a) (Opd.of b))
  | .alloc t => (Jt P t).map .alloc
  | .box _ x => some (.box (Opd.of x))
  | .build t parts => match Jt P t, P.underlying t with
    | some z, some (.struct fs) => if fs.toList.all (fun f => (xz P f.type).isSome) then (partsOf P fs parts.toList).map (.build z) else none
    | some z, some (.array _ e) => match xz P e with
      | some n => some (.build z (parts.toList.map fun (i, x) => (i * n, n, Opd.of x)))
      | none => none
    | _, _ => none
  | .buildSlice t len parts => match P.underlying t with
    | some (.slice e) => match xz P e, Jt P e with
      | some n, some z => if z.length = n ∧ 1 ≤ n ∧ len * n ≤ 16777216 then some (.ga len (rep len z) (parts.toList.map fun (i, x) => (i * n, n, Opd.of x))) else none
      | _, _ => none
    | _ => none
  | .load t a => match P.underlying t with
    | some d => if q8 d then (xz P t).map fun n => .Qq n (Opd.of a) else some (.wy (Opd.of a))
    | none => none
  | .store t a x => match P.underlying t, xz P t with
    | some d, some n => if q8 d then some (.Kk n (Opd.of a) (Opd.of x)) else if n = 1 then some (.Qz (Opd.of a) (Opd.of x)) else none
    | _, _ => none
  | .nilCheck x => some (.ju (Opd.of x))
  | .binOp op t x y _ => match P.underlying t with
    | some d => match d with
      | .int _ => some (.bin op (Opd.of x) (Opd.of y))
      | .string => some (.bin op (Opd.of x) (Opd.of y))
      | .bool => match op with
        | .eql => some (.eqb false (Opd.of x) (Opd.of y))
        | .neq => some (.eqb true (Opd.of x) (Opd.of y))
        | _ => none
      | .struct _ | .array _ _ => if P.eqGuardType P.depth t then none else match leaves P 20 t, op with
        | some ks, .eql => some (.eqs false ks (Opd.of x) (Opd.of y))
        | some ks, .neq => some (.eqs true ks (Opd.of x) (Opd.of y))
        | _, _ => none
      | .pointer _ => match y, op with
        | .const (.pointer none), .eql => some (.qdo false (Opd.of x))
        | .const (.pointer none), .neq => some (.qdo true (Opd.of x))
        | _, _ => none
      | _ => none
    | none => none
  | .unOp op _ x => some (.un op (Opd.of x))
  | .convert src dst x => match P.underlying src, P.underlying dst with
    | some (.int _), some (.int k) => some (.conv k (Opd.of x))
    | some .string, some .string => some (.qc3 (Opd.of x))
    | some (.slice e), some .string => match P.underlying e with
      | some (.int .u8) => some (.b2s (Opd.of x))
      | _ => none
    | _, _ => none
  | .makeFunc (.func f) first caps => some (.qg7 f (first.toList.map Opd.of) (caps.toList.map Opd.of))
  | .makeMap t none => match P.underlying t with
    | some (.map _ _) => some .qag
    | _ => none
  | .makeSlice t l c => match P.underlying t with
    | some (.slice e) => match xz P e, Yc P e, Jt P e with
      | some n, some b, some z => some (.kx n b z (Opd.of l) (Opd.of c))
      | _, _, _ => none
    | _ => none
  | .slice t x lo hi none => match P.underlying t with
    | some .string => some (.substr (Opd.of x) (lo.map Opd.of) (hi.map Opd.of))
    | some (.slice e) => (xz P e).map fun n => .qcz n (Opd.of x) (lo.map Opd.of) (hi.map Opd.of)
    | _ => none
  | .fieldAddr t x i => match P.underlying t with
    | some (.struct fs) => match fs[i]? with
      | some f => match xz P f.type with
        | some n => if n ≠ 0 then some (.ym f.offset (Opd.of x)) else none
        | none => none
      | none => none
    | _ => none
  | .field t x i => match P.underlying t with
    | some (.struct fs) => match fs[i]? with
      | some f => match xz P f.type, P.underlying f.type with
        | some n, some d => some (.field f.offset n (q8 d) (Opd.of x))
        | _, _ => none
      | none => none
    | _ => none
  | .indexAddr t x i => match P.underlying t with
    | some (.array len e) => (xz P e).map fun n => .xp len n (Opd.of x) (Opd.of i)
    | some (.slice e) => (xz P e).map fun n => .Q9 n (Opd.of x) (Opd.of i)
    | _ => none
  | .index t x i => match P.underlying t with
    | some (.array len e) => match xz P e, P.underlying e with
      | some n, some d => some (.qd0 len n (q8 d) (Opd.of x) (Opd.of i))
      | _, _ => none
    | some .string => some (.qd3 (Opd.of x) (Opd.of i))
    | _ => none
  | .lookup t m k ok => match P.underlying t with
    | some (.map kt e) => match leaves P 20 kt, P.underlying kt, (P.info? e).bind (·.zero) with
      | some ks, some d, some z => some (.lookup ks (q8 d) (Qu z) ok (Opd.of m) (Opd.of k))
      | _, _, _ => none
    | _ => none
  | .mapUpdate t m k x | .insert t m k x => match P.underlying t with
    | some (.map kt _) => match leaves P 20 kt, P.underlying kt with
      | some ks, some d => some (.Uy ks (q8 d) (Opd.of m) (Opd.of k) (Opd.of x))
      | _, _ => none
    | _ => none
  | .mapEntry t m k => match P.underlying t with
    | some (.map kt e) => match leaves P 20 kt, P.underlying kt, (P.info? e).bind (·.zero) with
      | some ks, some d, some z => some (.qcg ks (q8 d) (Qu z) (Opd.of m) (Opd.of k))
      | _, _, _ => none
    | _ => none
  | .entryStore _ m s x => some (.qhw (Opd.of m) (Opd.of s) (Opd.of x))
  | .range t m => match P.underlying t with
    | some (.map _ _) => some (.Bf (Opd.of m))
    | _ => none
  | .next it false => some (.qyg (Opd.of it))
  | .entry it => some (.entry (Opd.of it))
  | .extract x i => some (.ext i (Opd.of x))
  | .call { callee := .builtin .len, args, argTypes } => match args.toList, argTypes.toList with
    | [x], [t] => match P.underlying t with
      | some .string => some (.len .str (Opd.of x))
      | some (.slice _) => some (.len .slc (Opd.of x))
      | some (.map _ _) => some (.len .map (Opd.of x))
      | some (.array n _) => some (.mov (.c (.int .i64 n)))
      | _ => none
    | _, _ => none
  | .call { callee := .builtin .append, args, argTypes } => match args.toList, argTypes.toList with
    | [x, y], [st, yt] => match P.underlying st, P.underlying yt with
      | some (.slice e), some d => if q3v d = true then none else match xz P e, Yc P e, Jt P e with
        | some n, some b, some z => if z.length = n then some (.append n b (Opd.of x) (Opd.of y)) else none
        | _, _, _ => none
      | _, _ => none
    | _, _ => none
  | .call { callee := .builtin .min, args, .. } => match args.toList with
    | [x, y] => some (.Xj true (Opd.of x) (Opd.of y))
    | _ => none
  | .call { callee := .builtin .max, args, .. } => match args.toList with
    | [x, y] => some (.Xj false (Opd.of x) (Opd.of y))
    | _ => none
  | _ => none
end Go.Am
namespace Go.Am
set_option linter.unusedVariables false
section
variable {P : Program} {w : World} {t : TypeId}
theorem qp {d : TypeDesc} (h : P.underlying t = some d) : (underlying t).run P w = .ok d w := by simp [underlying, h]
theorem j9 {n : Nat} (h : xz P t = some n) : (sizeOf t).run P w = .ok n w := by
  unfold xz at h
  cases hi : P.info? t with
  | none => rw [hi] at h; cases h
  | some i => rw [hi] at h; simp only [Option.map_some, Option.some.injEq] at h; simp [sizeOf, typeInfo, hi, h]
theorem q1r {n : Nat} (h : Yc P t = some n) : ∃ i, (typeInfo t).run P w = .ok i w ∧ i.bytes = n := by
  unfold Yc at h
  cases hi : P.info? t with
  | none => rw [hi] at h; cases h
  | some i => rw [hi] at h; simp only [Option.map_some, Option.some.injEq] at h; exact ⟨i, by simp [typeInfo, hi], h⟩
theorem U8 {z : Value} (h : (P.info? t).bind (·.zero) = some z) : (zeroValue t).run P w = .ok z w := by
  cases hi : P.info? t with
  | none => rw [hi] at h; cases h
  | some i => rw [hi] at h; simp only [Option.bind_some] at h; simp [zeroValue, typeInfo, hi, h]
theorem qej {d : TypeDesc} (h : P.underlying t = some d) : (isAgg t).run P w = .ok (q8 d) w := by
  simp only [isAgg, Sem.run_bind, qp h, Result.andThen_ok]
  cases d <;> rfl
theorem qrd {d : TypeDesc} {ad : Addr} {v : Value} (h : P.underlying t = some d) (hd : q8 d = false) (hc : w.cell? ad = some v) : (loadVar t ad).run P w = .ok v w := by
  simp only [loadVar, Sem.run_bind, qej h, hd, Result.andThen_ok, Bool.false_eq_true, if_false, run_load, hc]
theorem qzn {d : TypeDesc} {ad : Addr} {vs : List Value} (h : P.underlying t = some d) (hd : q8 d = true) (hn : xz P t = some vs.length)
    (hc : ∀ j v, vs[j]? = some v → w.cell? (ad.add j) = some v) : (loadVar t ad).run P w = .ok (.agg vs.toArray) w := by
  simp only [loadVar, Sem.run_bind, qej h, hd, Result.andThen_ok, if_true, j9 hn, run_loadCells hc, Sem.run_pure]
end
def Res (X : Ctx) (s : St) (a : Act) (r : Result Next) (v : AV) (hp' : List AO) : Prop :=
  ∃ ι' w' v', (r = .ok (.value v') w' ∨ (r = .ok .skip w' ∧ v' = undef)) ∧ (v ≠ .top → v.under hp'.length ∧ v' = gam ι' v) ∧ Ok X ι' ⟨s.env, hp'⟩ a w'
section
variable {P : Program} {X : Ctx} {ι : Nat → Loc} {s : St} {a : Act} {w : World} {o : Oper} {v : AV} {hp' : List AO}
theorem J6 (hok : Ok X ι s a w) (x : Operand) (ht : ev s.env (Opd.of x) ≠ .top) :
    (ev s.env (Opd.of x)).under s.hp.length ∧ a.eval x = gam ι (ev s.env (Opd.of x)) := by
  cases x with
  | tmp n =>
    obtain ⟨hb, he⟩ := hok.env n ht
    refine ⟨hb, ?_⟩
    simp only [ev, Opd.of]
    simp [Act.eval, Array.getD_eq_getD_getElem?, he]
  | const c => exact ⟨gm _ _, (Q2 _ _).symm⟩
  | global g => exact ⟨trivial, rfl⟩
  | func f => exact ⟨⟨trivial, trivial⟩, rfl⟩
theorem z7 (hok : Ok X ι s a w) {x : Operand} {v : AV} (h : ev s.env (Opd.of x) = v) (ht : v ≠ .top) : v.under s.hp.length ∧ a.eval x = gam ι v := by
  subst h; exact J6 hok x ht
theorem Res.same (hok : Ok X ι s a w) {v' : Value} (hv : v ≠ .top → v.under s.hp.length ∧ v' = gam ι v) : Res X s a (.ok (.value v') w) v s.hp :=
  ⟨ι, w, v', .inl rfl, hv, hok⟩
theorem qxx (hok : Ok X ι s a w) {x : Operand} (ho : o.op = .move x ∨ o.op = .assign x) (hs : qf s.env s.hp (.mov (Opd.of x)) = some (v, hp')) :
    Res X s a ((execOp a.eval o).run P w) v hp' := by
  simp only [qf, Option.some.injEq, Prod.mk.injEq] at hs
  obtain ⟨rfl, rfl⟩ := hs
  have : (execOp a.eval o).run P w = .ok (.value (a.eval x)) w := by
    unfold execOp; rcases ho with ho | ho <;> rw [ho] <;> rfl
  rw [this]
  exact Res.same hok (J6 hok x)
theorem q0x (hok : Ok X ι s a w) {c x y : Operand} (ho : o.op = .pick c x y) (hs : qf s.env s.hp (.pick (Opd.of c) (Opd.of x) (Opd.of y)) = some (v, hp')) :
    Res X s a ((execOp a.eval o).run P w) v hp' := by
  simp only [qf] at hs
  split at hs
  · rename_i t hc
    simp only [Option.some.injEq, Prod.mk.injEq] at hs
    obtain ⟨rfl, rfl⟩ := hs
    have h1 := (z7 hok hc (by simp)).2
    have : (execOp a.eval o).run P w = .ok (.value (if t then a.eval x else a.eval y)) w := by
      unfold execOp; rw [ho]; simp only [h1, gam, asBool]; rfl
    rw [this]
    cases t
    · exact Res.same hok (J6 hok y)
    · exact Res.same hok (J6 hok x)
  · cases hs
theorem qtu {l : List AV} {ty : TypeId} (hl : AV.qy s.hp.length l) :
    Xb (put ι s.hp.length ⟨⟨w.heap.size, 0, none⟩, false, 0⟩) (w.alloc (.cells (qv ι l).toArray ty)).heap ⟨⟨w.heap.size, 0, none⟩, false, 0⟩ (.cells l) := by
  refine ⟨rfl, w.heap.size, (qv ι l).toArray, ty, (0, 0), rfl, ?_, ?_, ?_⟩
  · show (w.heap.push _)[w.heap.size]? = _; simp
  · exact (vd vw l hl)
  · intro i _ h; exact absurd h.2 (by simp)
theorem Res.alloc (hok : Ok X ι s a w) {l : List AV} {ty : TypeId} {av : AV} {v' : Value} (hl : AV.qy s.hp.length l) (hu : av.under (s.hp.length + 1))
    (hv : v' = gam (put ι s.hp.length ⟨⟨w.heap.size, 0, none⟩, false, 0⟩) av) :
    Res X s a (.ok (.value v') (w.alloc (.cells (qv ι l).toArray ty))) av (s.hp ++ [.cells l]) :=
  ⟨_, _, v', .inl rfl, fun _ => ⟨by simpa using hu, hv⟩, hok.alloc (.cells l) _ 0 (j4 (by omega) l hl) (qtu hl)⟩
theorem qx6 (hok : Ok X ι s a w) {t : TypeId} {z : List AV} (ho : o.op = .alloc t) (hz : Jt P t = some z) (hs : qf s.env s.hp (.alloc z) = some (v, hp')) :
    Res X s a ((execOp a.eval o).run P w) v hp' := by
  simp only [qf, Option.some.injEq, Prod.mk.injEq] at hs
  obtain ⟨rfl, rfl⟩ := hs
  unfold Jt at hz
  cases hz0 : (P.info? t).bind (·.zero) with
  | none => rw [hz0] at hz; cases hz
  | some zv =>
    rw [hz0] at hz
    simp only [Option.map_some, Option.some.injEq] at hz
    subst hz
    have e : zv.cells = (qv ι (zv.cells.toList.map ofConst)).toArray := by rw [X7]
    have : (execOp a.eval o).run P w = .ok (.value (.pointer (some ⟨w.heap.size, 0, none⟩))) (w.alloc (.cells (qv ι (zv.cells.toList.map ofConst)).toArray t)) := by
      unfold execOp; rw [ho, ← e]
      simp only [Instr.alloc, newVar, newRow, Sem.run_bind, U8 hz0, Result.andThen_ok, Sem.run_pure, run_newObj]
      rfl
    rw [this]
    exact Res.alloc hok (uh _ _) (by simp [AV.under]) (by simp [gam, jw, Addr.uk])
theorem q21 (hok : Ok X ι s a w) {t : TypeId} {x : Operand} (ho : o.op = .box t x) (hs : qf s.env s.hp (.box (Opd.of x)) = some (v, hp')) :
    Res X s a ((execOp a.eval o).run P w) v hp' := by
  simp only [qf] at hs
  split at hs
  · rename_i l hl
    simp only [Option.some.injEq, Prod.mk.injEq] at hs
    obtain ⟨rfl, rfl⟩ := hs
    obtain ⟨ht, hu, hc⟩ := AV.qmy hl
    obtain ⟨h1, h2⟩ := J6 hok x ht
    have e : (a.eval x).cells = (qv ι l).toArray := by rw [h2, ← hc ι]
    have : (execOp a.eval o).run P w = .ok (.value (.pointer (some ⟨w.heap.size, 0, none⟩))) (w.alloc (.cells (qv ι l).toArray t)) := by
      unfold execOp; rw [ho, ← e]
      simp only [Instr.box, newVar, newRow, Sem.run_bind, Result.andThen_ok, Sem.run_pure, run_newObj]
      rfl
    rw [this]
    exact Res.alloc hok (hu _ h1) (by simp [AV.under]) (by simp [gam, jw, Addr.uk])
  · cases hs
theorem qu5 (hok : Ok X ι s a w) {t : TypeId} {d : TypeDesc} {x : Operand} (ho : o.op = .load t x) (hd : P.underlying t = some d) (hg : q8 d = false)
    (hs : qf s.env s.hp (.wy (Opd.of x)) = some (v, hp')) : Res X s a ((execOp a.eval o).run P w) v hp' := by
  simp only [qf] at hs
  split at hs
  · rename_i b off hx
    split at hs
    · rename_i l hl
      split at hs
      · rename_i u hu
        simp only [Option.some.injEq, Prod.mk.injEq] at hs
        obtain ⟨rfl, rfl⟩ := hs
        obtain ⟨_, hun, hc⟩ := Yn hok.heap hl hu
        have h2 := (z7 hok hx (by simp)).2
        have : (execOp a.eval o).run P w = .ok (.value (gam ι u)) w := by
          unfold execOp; rw [ho]
          simp only [h2, gam, Instr.loadAt, Instr.sureAddr, Sem.run_bind, Sem.run_pure, Result.andThen_ok, qrd hd hg hc]
        rw [this]
        exact Res.same hok fun _ => ⟨hun, rfl⟩
      · cases hs
    · cases hs
  · cases hs
theorem qhk (hok : Ok X ι s a w) {t : TypeId} {d : TypeDesc} (hd : P.underlying t = some d) (hg : q8 d = true) {n b off : Nat} (hn : xz P t = some n) {l : List AV}
    (hl : rd s.hp b = some l) (hlen : off + n ≤ l.length) : (loadVar t ((ι b).addr.add off)).run P w = .ok (.agg (qv ι ((l.drop off).take n)).toArray) w := by
  have hlen' : (qv ι ((l.drop off).take n)).length = n := by rw [q6, List.length_take, List.length_drop]; omega
  refine qzn hd hg (by rw [hlen']; exact hn) fun j u hu => ?_
  rw [Q0] at hu
  cases hq : ((l.drop off).take n)[j]? with
  | none => rw [hq] at hu; cases hu
  | some q =>
    rw [hq] at hu
    simp only [Option.map_some, Option.some.injEq] at hu
    subst hu
    rw [Addr.add_add]
    refine (Yn hok.heap hl (i := off + j) ?_).2.2
    rw [List.getElem?_take] at hq
    split at hq
    · rw [List.getElem?_drop] at hq; exact hq
    · cases hq
theorem qu4 (hok : Ok X ι s a w) {t : TypeId} {d : TypeDesc} {n : Nat} {x : Operand} (ho : o.op = .load t x) (hd : P.underlying t = some d) (hg : q8 d = true) (hn : xz P t = some n)
    (hs : qf s.env s.hp (.Qq n (Opd.of x)) = some (v, hp')) : Res X s a ((execOp a.eval o).run P w) v hp' := by
  simp only [qf] at hs
  split at hs
  · rename_i b off hx
    split at hs
    · rename_i l hl
      obtain ⟨hlen, hs⟩ := ql hs
      simp only [Option.some.injEq, Prod.mk.injEq] at hs
      obtain ⟨rfl, rfl⟩ := hs
      have h2 := (z7 hok hx (by simp)).2
      have : (execOp a.eval o).run P w = .ok (.value (.agg (qv ι ((l.drop off).take n)).toArray)) w := by
        unfold execOp; rw [ho]
        simp only [h2, gam, Instr.loadAt, Instr.sureAddr, Sem.run_bind, Sem.run_pure, Result.andThen_ok, qhk hok hd hg hn hl hlen]
      rw [this]
      exact Res.same hok fun _ => ⟨gp (Xh (qfl hok.heap hl)), rfl⟩
    · cases hs
  · cases hs
theorem qhs (hok : Ok X ι s a w) {b off : Nat} {l vs : List AV} (hl : wrt s.hp b = some l) (hlen : off + vs.length ≤ l.length) (hone : vs.all AV.one = true)
    (hu : AV.qy s.hp.length vs) (hne : vs ≠ []) :
    ∃ w', (storeCells ((ι b).addr.add off) (qv ι vs)).run P w = .ok () w' ∧ Ok X ι ⟨s.env, wrl s.hp b (over l off vs)⟩ a w' := by
  have hne' : qv ι vs ≠ [] := by cases vs <;> simp_all [qv]
  have hone' : ∀ v ∈ qv ι vs, v.oneCell' = true := by
    rw [gw]; intro v hv
    obtain ⟨q, hq, rfl⟩ := List.mem_map.1 hv
    exact AV.qeh (List.all_eq_true.1 hone q hq)
  have hpos : 0 < l.length := by cases vs <;> simp_all <;> omega
  unfold wrt at hl
  split at hl <;> simp only [Option.some.injEq, reduceCtorEq] at hl <;> subst hl <;> rename_i l hb
  · obtain ⟨hun, hn, blk, c, ty, fz, ha, hh, hc, hcalm⟩ := hok.heap.rel _ _ hb
    have hsz : c.size = l.length := by rw [← Array.length_toList, hc, q6]
    rw [ha, Addr.uk, Za (qv ι vs) w c off 0 hh hcalm hone' (by rw [q6]; omega), if_neg hne']
    refine ⟨_, rfl, ?_⟩
    have := hok.set (j := b) (o := .cells l) (o' := .cells (over l off vs)) (ob := .cells (c.toList.take (off + 0) ++ qv ι vs ++ c.toList.drop (off + 0 + (qv ι vs).length)).toArray ty fz)
      hb rfl hn (Uo hun hu) ?_
    · simp only [wrl, hb, AO.b8]; rw [ha] at this; exact this
    · refine ⟨hn, blk, _, ty, fz, ha, (by rw [ha]; exact bb hh), ?_, ?_⟩
      · rw [qcb, hc, Nat.add_zero]
      · intro i hi; refine hcalm i ?_
        simp only [List.size_toArray, List.length_append, List.length_take, List.length_drop, q6, Array.length_toList] at hi; omega
  · rename_i sz
    obtain ⟨hun, h2⟩ := hok.heap.rel _ _ hb
    rcases h2 with ⟨_, _, rfl⟩ | ⟨hn, blk, c, ty, fz, ex, ha, hh, hc, hcalm, hcap⟩
    · simp at hpos
    have hsz : c.size = l.length + ex.length := by rw [← Array.length_toList, hc, List.length_append, q6]
    rw [ha, Addr.uk, Za (qv ι vs) w c off 0 hh hcalm hone' (by rw [q6]; omega), if_neg hne']
    refine ⟨_, rfl, ?_⟩
    have hszn : (c.toList.take (off + 0) ++ qv ι vs ++ c.toList.drop (off + 0 + (qv ι vs).length)).toArray.size = c.size := by
      simp only [List.size_toArray, List.length_append, List.length_take, List.length_drop, q6, Array.length_toList]; omega
    have := hok.set (j := b) (o := .vec sz l) (o' := .vec sz (over l off vs)) (ob := .cells (c.toList.take (off + 0) ++ qv ι vs ++ c.toList.drop (off + 0 + (qv ι vs).length)).toArray ty fz)
      hb rfl hn (Uo hun hu) ?_
    · simp only [wrl, hb, AO.b8]; rw [ha] at this; exact this
    · refine .inr ⟨hn, blk, _, ty, fz, ex, ha, (by rw [ha]; exact bb hh), ?_, ?_, ?_⟩
      · simp only [Nat.add_zero]
        rw [qcb, hc, List.take_append_of_le_length (by rw [q6]; omega), List.drop_append_of_le_length (by simp only [q6]; omega)]
        simp only [List.append_assoc]
      · intro i hi; exact hcalm i (by rw [hszn] at hi; exact hi)
      · rw [hszn]; exact hcap
end
end Go.Am
namespace Go.Am
set_option linter.unusedVariables false
section
variable {P : Program} {X : Ctx} {ι : Nat → Loc} {s : St} {a : Act} {w : World} {o : Oper} {v : AV} {hp' : List AO}
theorem qvw {l : List AV} {off : Nat} {x : AV} (h : off < l.length) : over l off [x] = l.set off x := by
  unfold over
  rw [List.set_eq_take_append_cons_drop, if_pos h]
  simp
theorem Ke {α : Type} {l : List α} {i : Nat} {x : α} (h : l[i]? = some x) : l.set i x = l := by
  apply List.ext_getElem?
  intro j
  rw [List.getElem?_set]
  split
  · rename_i e; subst e
    split
    · exact h.symm
    · rename_i hj; rw [List.getElem?_eq_none (by omega)] at h; cases h
  · rfl
theorem Value.qek {v : Value} (h : v.oneCell' = true) : v.cells = #[v] := by
  cases v <;> simp_all [Value.cells, Value.oneCell']
theorem qt6 (hok : Ok X ι s a w) {t : TypeId} {x y : Operand} (ho : o.op = .store t x y) (hn : xz P t = some 1)
    (hs : qf s.env s.hp (.Qz (Opd.of x) (Opd.of y)) = some (v, hp')) : Res X s a ((execOp a.eval o).run P w) v hp' := by
  simp only [qf] at hs
  split at hs
  · rename_i b off hx
    split at hs
    · rename_i l hl
      obtain ⟨⟨hlen, hone⟩, hs⟩ := ql hs
      simp only [Option.some.injEq, Prod.mk.injEq] at hs
      obtain ⟨rfl, rfl⟩ := hs
      have h2 := (z7 hok hx (by simp)).2
      have hyt : ev s.env (Opd.of y) ≠ .top := by intro h; rw [h] at hone; cases hone
      obtain ⟨hyu, hy⟩ := J6 hok y hyt
      obtain ⟨w', hr, hok'⟩ := qhs (P := P) hok (vs := [ev s.env (Opd.of y)]) (off := off) hl (by simp; omega) (by simp [hone]) ⟨hyu, trivial⟩ (by simp)
      rw [qvw hlen] at hok'
      have hcs : (a.eval y).cells = #[gam ι (ev s.env (Opd.of y))] := by rw [hy, Value.qek (AV.qeh hone)]
      have : (execOp a.eval o).run P w = .ok .skip w' := by
        unfold execOp; rw [ho]
        simp only [h2, gam, Instr.storeAt, Instr.sureAddr, storeVar, Sem.run_bind, Sem.run_pure, Result.andThen_ok, j9 hn, hcs, List.size_toArray, List.length_singleton, ne_eq, not_true, if_false]
        simp only [qv] at hr
        rw [hr]; rfl
      rw [this]
      exact ⟨ι, w', undef, .inr ⟨rfl, rfl⟩, fun _ => ⟨trivial, rfl⟩, hok'⟩
    · cases hs
  · cases hs
theorem qs9 (hok : Ok X ι s a w) {t : TypeId} {n : Nat} {x y : Operand} (ho : o.op = .store t x y) (hn : xz P t = some n)
    (hs : qf s.env s.hp (.Kk n (Opd.of x) (Opd.of y)) = some (v, hp')) : Res X s a ((execOp a.eval o).run P w) v hp' := by
  simp only [qf] at hs
  split at hs
  · rename_i b off vs hx hy
    split at hs
    · rename_i l hl
      obtain ⟨⟨hlen, hvl, hone⟩, hs⟩ := ql hs
      simp only [Option.some.injEq, Prod.mk.injEq] at hs
      obtain ⟨rfl, rfl⟩ := hs
      have h2 := (z7 hok hx (by simp)).2
      obtain ⟨hyu, h3⟩ := z7 hok hy (by simp)
      have hcs : (a.eval y).cells = (qv ι vs).toArray := by rw [h3]; rfl
      have run : ∀ (r : Result Unit), (storeCells ((ι b).addr.add off) (qv ι vs)).run P w = r →
          (execOp a.eval o).run P w = r.andThen fun _ w' => .ok .skip w' := by
        intro r hr
        unfold execOp; rw [ho]
        simp only [h2, gam, Instr.storeAt, Instr.sureAddr, storeVar, Sem.run_bind, Sem.run_pure, Result.andThen_ok, j9 hn, hcs, List.size_toArray, q6, hvl, ne_eq, not_true, if_false]
        rw [← hr]
      by_cases hne : vs = []
      · subst hne
        rw [run (.ok () w) rfl]
        refine ⟨ι, w, undef, .inr ⟨rfl, rfl⟩, fun _ => ⟨trivial, rfl⟩, ?_⟩
        have : wrl s.hp b (over l off []) = s.hp := by
          have e : over l off [] = l := by simp [over]
          rw [e]
          unfold wrl wrt at *
          split at hl <;> simp only [Option.some.injEq, reduceCtorEq] at hl <;> subst hl <;> rename_i hb <;> simp only [hb, AO.b8]
          · exact Ke hb
          · exact Ke hb
        rw [this]; exact hok
      · obtain ⟨w', hr, hok'⟩ := qhs (P := P) hok (vs := vs) (off := off) hl (by omega) hone hyu hne
        rw [run _ hr]
        exact ⟨ι, w', undef, .inr ⟨rfl, rfl⟩, fun _ => ⟨trivial, rfl⟩, hok'⟩
    · cases hs
  · cases hs
theorem qtx (hok : Ok X ι s a w) {x : Operand} (ho : o.op = .nilCheck x) (hs : qf s.env s.hp (.ju (Opd.of x)) = some (v, hp')) :
    Res X s a ((execOp a.eval o).run P w) v hp' := by
  simp only [qf] at hs
  split at hs
  · rename_i b off hx
    simp only [Option.some.injEq, Prod.mk.injEq] at hs
    obtain ⟨rfl, rfl⟩ := hs
    obtain ⟨h1, h2⟩ := z7 hok hx (by simp)
    have : (execOp a.eval o).run P w = .ok (.value (a.eval x)) w := by
      unfold execOp; rw [ho]; simp only [h2, gam]; rfl
    rw [this]
    exact Res.same hok fun _ => ⟨h1, h2⟩
  · rename_i f l1 l2 hx
    simp only [Option.some.injEq, Prod.mk.injEq] at hs
    obtain ⟨rfl, rfl⟩ := hs
    obtain ⟨h1, h2⟩ := z7 hok hx (by simp)
    have : (execOp a.eval o).run P w = .ok (.value (a.eval x)) w := by
      unfold execOp; rw [ho]; simp only [h2, gam]; rfl
    rw [this]
    exact Res.same hok fun _ => ⟨h1, h2⟩
  · cases hs
theorem qzu (ι : Nat → Loc) {op : BinOp} {x y v : AV} (h : Qg op x y = some v) (t : TypeId) (P : Program) (w : World) :
    (binOp op t (gam ι x) (gam ι y)).run P w = .ok (gam ι v) w ∧ v ≠ .top ∧ ∀ n, v.under n := by
  unfold Qg at h
  split at h
  all_goals try simp only [chk] at h
  all_goals (repeat (split at h))
  all_goals cases h
  all_goals refine ⟨?_, by simp, fun _ => trivial⟩
  all_goals subst_vars
  all_goals simp only [gam, binOp]
  all_goals first
    | (simp [Op.intArith, qu]; done)
    | (simp [Op.intDiv, qu, *]; done)
    | (simp [Op.intBits, qu]; done)
    | (simp [Op.intCmp]; done)
    | (simp [Op.shift, qu, Int.not_lt.2 ‹_›]; done)
    | (simp [Op.stringOp]; done)
    | skip
  · rename_i hk
    have e : (⟨(‹List UInt8›.toArray : Array UInt8)⟩ : ByteArray) = ⟨(‹List UInt8›.toArray : Array UInt8)⟩ := rfl
    simp only [Op.stringOp]
    rw [if_neg]
    · simp only [Sem.run_pure, Result.ok.injEq, Value.string.injEq, and_true]
      apply ByteArray.ext
      simp
    · simp only [ByteArray.size, List.size_toArray]
      have : IntKind.i64.max = 9223372036854775807 := rfl
      rw [this]; omega
  all_goals simp [Op.stringOp, ByteArray.toList_mk]
theorem U7 {op : BinOp} {t : TypeId} {x y : Operand} {u v : Value} (h1 : ∀ l, u ≠ .agg l) (h2 : u ≠ .nilIface) : (eqGuard op t x y u v).run P w = .ok () w := by
  unfold eqGuard
  cases op <;> simp <;> (cases u <;> simp_all)
theorem qxc (hok : Ok X ι s a w) {op : BinOp} {t t' : TypeId} {x y : Operand} (ho : o.op = .binOp op t x y t')
    (hs : qf s.env s.hp (.bin op (Opd.of x) (Opd.of y)) = some (v, hp')) : Res X s a ((execOp a.eval o).run P w) v hp' := by
  simp only [qf] at hs
  split at hs
  · rename_i u hu
    simp only [Option.some.injEq, Prod.mk.injEq] at hs
    obtain ⟨rfl, rfl⟩ := hs
    obtain ⟨hr, ht, hun⟩ := qzu ι hu t P w
    have hx : ev s.env (Opd.of x) ≠ .top := by
      intro h; rw [h] at hu; unfold Qg at hu; split at hu <;> simp_all
    have hy : ev s.env (Opd.of y) ≠ .top := by
      intro h; rw [h] at hu; unfold Qg at hu; split at hu <;> simp_all
    have h1 := (J6 hok x hx).2
    have h2 := (J6 hok y hy).2
    have hg : (eqGuard op t x y (a.eval x) (a.eval y)).run P w = .ok () w := by
      rw [h1]
      apply U7
      · intro l h; unfold Qg at hu; split at hu <;> simp_all [gam]
      · intro h; unfold Qg at hu; split at hu <;> simp_all [gam]
    have : (execOp a.eval o).run P w = .ok (.value (gam ι u)) w := by
      unfold execOp; rw [ho]
      simp only [Sem.run_bind, hg, Result.andThen_ok]
      rw [h1, h2, hr]; rfl
    rw [this]
    exact Res.same hok fun _ => ⟨hun _, rfl⟩
  · cases hs
theorem q5y (hok : Ok X ι s a w) {op : UnOp} {t : TypeId} {x : Operand} (ho : o.op = .unOp op t x)
    (hs : qf s.env s.hp (.un op (Opd.of x)) = some (v, hp')) : Res X s a ((execOp a.eval o).run P w) v hp' := by
  simp only [qf] at hs
  split at hs
  · rename_i u hu
    simp only [Option.some.injEq, Prod.mk.injEq] at hs
    obtain ⟨rfl, rfl⟩ := hs
    unfold aun at hu
    split at hu
    · rename_i k n hx
      cases hu
      have h1 := (z7 hok hx (by simp)).2
      have : (execOp a.eval o).run P w = .ok (.value (gam ι (.int k (qu k (0 - n))))) w := by
        unfold execOp; rw [ho]; simp only [h1, gam, Op.unary, Op.intArith]; rfl
      rw [this]
      exact Res.same hok fun _ => ⟨trivial, rfl⟩
    · rename_i b hx
      cases hu
      have h1 := (z7 hok hx (by simp)).2
      have : (execOp a.eval o).run P w = .ok (.value (gam ι (.bool (!b)))) w := by
        unfold execOp; rw [ho]; simp only [h1, gam, Op.unary]; rfl
      rw [this]
      exact Res.same hok fun _ => ⟨trivial, rfl⟩
    · cases hu
  · cases hs
theorem qzd (hok : Ok X ι s a w) {t u : TypeId} {j k : IntKind} {x : Operand} (ho : o.op = .convert t u x) (ht : P.underlying t = some (.int j)) (hu : P.underlying u = some (.int k))
    (hs : qf s.env s.hp (.conv k (Opd.of x)) = some (v, hp')) : Res X s a ((execOp a.eval o).run P w) v hp' := by
  simp only [qf] at hs
  split at hs
  · rename_i k' n hx
    simp only [Option.some.injEq, Prod.mk.injEq] at hs
    obtain ⟨rfl, rfl⟩ := hs
    have h1 := (z7 hok hx (by simp)).2
    have : (execOp a.eval o).run P w = .ok (.value (gam ι (.int k (qu k n)))) w := by
      unfold execOp; rw [ho]
      simp only [h1, gam, convert, Sem.run_bind, qp ht, qp hu, Result.andThen_ok, Conv.intToInt, Sem.run_pure]; rfl
    rw [this]
    exact Res.same hok fun _ => ⟨trivial, rfl⟩
  · cases hs
theorem qx7 (hok : Ok X ι s a w) {t u : TypeId} {x : Operand} (ho : o.op = .convert t u x) (ht : P.underlying t = some .string) (hu : P.underlying u = some .string)
    (hs : qf s.env s.hp (.qc3 (Opd.of x)) = some (v, hp')) : Res X s a ((execOp a.eval o).run P w) v hp' := by
  simp only [qf] at hs
  split at hs
  · rename_i l hl
    simp only [Option.some.injEq, Prod.mk.injEq] at hs
    obtain ⟨rfl, rfl⟩ := hs
    have h1 := (z7 hok hl (by simp)).2
    have : (execOp a.eval o).run P w = .ok (.value (gam ι (.str l))) w := by
      unfold execOp; rw [ho]
      simp only [h1, gam, convert, Sem.run_bind, qp ht, qp hu, Result.andThen_ok, Sem.run_pure]
    rw [this]
    exact Res.same hok fun _ => ⟨trivial, rfl⟩
  · cases hs
theorem qjg (hok : Ok X ι s a w) : ∀ (l : List Operand), (l.all fun x => match ev s.env (Opd.of x) with | .top => false | _ => true) = true →
    AV.qy s.hp.length (l.map fun x => ev s.env (Opd.of x)) ∧ l.map a.eval = qv ι (l.map fun x => ev s.env (Opd.of x))
  | [], _ => ⟨trivial, rfl⟩
  | x :: l, h => by
    simp only [List.all_cons, Bool.and_eq_true] at h
    obtain ⟨h1, h2⟩ := qjg hok l h.2
    have hx : ev s.env (Opd.of x) ≠ .top := by intro e; rw [e] at h; cases h.1
    obtain ⟨h3, h4⟩ := J6 hok x hx
    exact ⟨⟨h3, h1⟩, by simp only [List.map_cons, qv, h2, h4]⟩
theorem q0m (hok : Ok X ι s a w) {f : FuncId} {first caps : Array Operand} (ho : o.op = .makeFunc (.func f) first caps)
    (hs : qf s.env s.hp (.qg7 f (first.toList.map Opd.of) (caps.toList.map Opd.of)) = some (v, hp')) : Res X s a ((execOp a.eval o).run P w) v hp' := by
  simp only [qf] at hs
  obtain ⟨⟨h1, h2⟩, hs⟩ := ql hs
  simp only [Option.some.injEq, Prod.mk.injEq] at hs
  obtain ⟨rfl, rfl⟩ := hs
  simp only [List.all_map] at h1 h2
  obtain ⟨h3, h4⟩ := qjg hok first.toList h1
  obtain ⟨h5, h6⟩ := qjg hok caps.toList h2
  simp only [List.map_map]
  have : (execOp a.eval o).run P w = .ok (.value (.func (.func f) (first.map a.eval) (caps.map a.eval))) w := by
    unfold execOp; rw [ho]; rfl
  rw [this]
  refine Res.same hok fun _ => ⟨⟨h3, h5⟩, ?_⟩
  simp only [gam]
  have e1 : first.map a.eval = (qv ι (first.toList.map fun x => ev s.env (Opd.of x))).toArray := by rw [← h4, ← Array.toList_map]
  have e2 : caps.map a.eval = (qv ι (caps.toList.map fun x => ev s.env (Opd.of x))).toArray := by rw [← h6, ← Array.toList_map]
  rw [e1, e2]; rfl
theorem qu2 (hok : Ok X ι s a w) {t : TypeId} {fs : Array Field} {f : Field} {i n : Nat} {x : Operand} (ho : o.op = .fieldAddr t x i) (ht : P.underlying t = some (.struct fs))
    (hf : fs[i]? = some f) (hn : xz P f.type = some n) (hn0 : n ≠ 0) (hs : qf s.env s.hp (.ym f.offset (Opd.of x)) = some (v, hp')) :
    Res X s a ((execOp a.eval o).run P w) v hp' := by
  simp only [qf] at hs
  split at hs
  · rename_i b off hx
    simp only [Option.some.injEq, Prod.mk.injEq] at hs
    obtain ⟨rfl, rfl⟩ := hs
    obtain ⟨hu, h1⟩ := z7 hok hx (by simp)
    have : (execOp a.eval o).run P w = .ok (.value (gam ι (.ptr b (off + f.offset)))) w := by
      unfold execOp; rw [ho]
      simp only [h1, gam, Instr.fieldAt, Sem.run_bind, qp ht, Result.andThen_ok, hf, Instr.sureAddr, fieldPlace, Sem.run_pure, j9 hn, hn0, if_false, Addr.add_add]
    rw [this]
    exact Res.same hok fun _ => ⟨hu, rfl⟩
  · cases hs
end
end Go.Am
namespace Go.Am
set_option linter.unusedVariables false
section
variable {P : Program} {X : Ctx} {ι : Nat → Loc} {s : St} {a : Act} {w : World} {o : Oper} {v : AV} {hp' : List AO}
theorem bsize (l : List UInt8) : (⟨l.toArray⟩ : ByteArray).size = l.length := rfl
theorem qir {t : TypeId} {d : TypeDesc} {cs : Array Value} {off : Nat} {x : Value} (ht : P.underlying t = some d) (hd : q8 d = false) (hx : cs[off]? = some x) :
    (part t cs off).run P w = .ok x w := by
  simp only [part, Sem.run_bind, qej ht, hd, Result.andThen_ok, Bool.false_eq_true, if_false, hx, Sem.run_pure]
theorem Xg {t : TypeId} {d : TypeDesc} {cs : Array Value} {off n : Nat} (ht : P.underlying t = some d) (hd : q8 d = true) (hn : xz P t = some n) :
    (part t cs off).run P w = .ok (.agg (cs.extract off (off + n))) w := by
  simp only [part, Sem.run_bind, qej ht, hd, Result.andThen_ok, if_true, j9 hn, Sem.run_pure]
theorem u5 (l : List AV) (off n : Nat) : (qv ι l).toArray.extract off (off + n) = (qv ι ((l.drop off).take n)).toArray := by
  rw [qbr, qh5]; simp
theorem qla {t : TypeId} {d : TypeDesc} {l : List AV} {off n : Nat} (ht : P.underlying t = some d) (hn : xz P t = some n) {r : AV}
    (h : cond (q8 d) (chk (off + n ≤ l.length) (some (.agg ((l.drop off).take n), s.hp))) (match l[off]? with | some v => some (v, s.hp) | none => none) = some (r, hp')) :
    hp' = s.hp ∧ (part t (qv ι l).toArray off).run P w = .ok (gam ι r) w ∧ ∀ k, AV.qy k l → r.under k := by
  cases hd : q8 d with
  | true =>
    rw [hd] at h
    obtain ⟨_, h⟩ := ql h
    simp only [Option.some.injEq, Prod.mk.injEq] at h
    obtain ⟨rfl, rfl⟩ := h
    refine ⟨rfl, ?_, fun k hk => gp (Xh hk)⟩
    rw [Xg ht hd hn, u5]; rfl
  | false =>
    rw [hd] at h
    simp only [cond_false] at h
    split at h
    · rename_i x hx
      simp only [Option.some.injEq, Prod.mk.injEq] at h
      obtain ⟨rfl, rfl⟩ := h
      refine ⟨rfl, ?_, fun k hk => Zs hk hx⟩
      exact qir ht hd (by rw [List.getElem?_toArray, Q0, hx]; rfl)
    · cases h
theorem qxv (hok : Ok X ι s a w) {t : TypeId} {fs : Array Field} {f : Field} {i n : Nat} {d : TypeDesc} {x : Operand} (ho : o.op = .field t x i) (ht : P.underlying t = some (.struct fs))
    (hf : fs[i]? = some f) (hn : xz P f.type = some n) (hd : P.underlying f.type = some d) (hs : qf s.env s.hp (.field f.offset n (q8 d) (Opd.of x)) = some (v, hp')) :
    Res X s a ((execOp a.eval o).run P w) v hp' := by
  simp only [qf] at hs
  split at hs
  · rename_i l hx
    obtain ⟨hu, h1⟩ := z7 hok hx (by simp)
    obtain ⟨rfl, hr, hun⟩ := qla (P := P) (w := w) (ι := ι) hd hn hs
    have : (execOp a.eval o).run P w = .ok (.value (gam ι v)) w := by
      unfold execOp; rw [ho]
      simp only [h1, gam, Instr.field, Sem.run_bind, qp ht, Result.andThen_ok, hf, asAgg, Sem.run_pure, hr]
    rw [this]
    exact Res.same hok fun _ => ⟨hun _ hu, rfl⟩
  · cases hs
theorem qts (hok : Ok X ι s a w) {t e : TypeId} {len n : Nat} {x i : Operand} (ho : o.op = .indexAddr t x i) (ht : P.underlying t = some (.array len e)) (hn : xz P e = some n)
    (hs : qf s.env s.hp (.xp len n (Opd.of x) (Opd.of i)) = some (v, hp')) : Res X s a ((execOp a.eval o).run P w) v hp' := by
  simp only [qf] at hs
  split at hs
  · rename_i b off k j hx hi
    obtain ⟨hj, hs⟩ := ql hs
    simp only [Option.some.injEq, Prod.mk.injEq] at hs
    obtain ⟨rfl, rfl⟩ := hs
    obtain ⟨hu, h1⟩ := z7 hok hx (by simp)
    have h2 := (z7 hok hi (by simp)).2
    have : (execOp a.eval o).run P w = .ok (.value (gam ι (.ptr b (off + j.toNat * n)))) w := by
      unfold execOp; rw [ho]
      simp only [h1, h2, gam, Instr.indexAt, asIntOf, Sem.run_bind, qp ht, Result.andThen_ok, Instr.sureAddr, Sem.run_pure, Sem.run_ite, hj, and_self, if_true, j9 hn, Addr.add_add]
    rw [this]
    exact Res.same hok fun _ => ⟨hu, rfl⟩
  · cases hs
theorem qfa (hok : Ok X ι s a w) {b : Nat} {l : List AV} (hl : rd s.hp b = some l) {i : Nat} (hi : i < l.length) : (ι b).null = false :=
  (Yn hok.heap hl (List.getElem?_eq_getElem hi)).1
theorem qr9 (hok : Ok X ι s a w) {t e : TypeId} {n : Nat} {x i : Operand} (ho : o.op = .indexAddr t x i) (ht : P.underlying t = some (.slice e)) (hn : xz P e = some n)
    (hs : qf s.env s.hp (.Q9 n (Opd.of x) (Opd.of i)) = some (v, hp')) : Res X s a ((execOp a.eval o).run P w) v hp' := by
  simp only [qf] at hs
  split at hs
  · rename_i b off len ex c k j hx hi
    split at hs
    · rename_i l hl
      obtain ⟨⟨hj, hlt⟩, hs⟩ := ql hs
      simp only [Option.some.injEq, Prod.mk.injEq] at hs
      obtain ⟨rfl, rfl⟩ := hs
      obtain ⟨hu, h1⟩ := z7 hok hx (by simp)
      have h2 := (z7 hok hi (by simp)).2
      have hnull := qfa hok hl hlt
      have : (execOp a.eval o).run P w = .ok (.value (gam ι (.ptr b (off + j.toNat * n)))) w := by
        unfold execOp; rw [ho]
        simp only [h1, h2, gam, hnull, cond_false, Instr.indexAt, asIntOf, Sem.run_bind, qp ht, Result.andThen_ok, Sem.run_pure, Sem.run_ite, hj, and_self, if_true, j9 hn, Addr.add_add]
      rw [this]
      exact Res.same hok fun _ => ⟨hu, rfl⟩
    · cases hs
  · cases hs
theorem qzq (hok : Ok X ι s a w) {t e : TypeId} {len n : Nat} {d : TypeDesc} {x i : Operand} (ho : o.op = .index t x i) (ht : P.underlying t = some (.array len e)) (hn : xz P e = some n)
    (hd : P.underlying e = some d) (hs : qf s.env s.hp (.qd0 len n (q8 d) (Opd.of x) (Opd.of i)) = some (v, hp')) : Res X s a ((execOp a.eval o).run P w) v hp' := by
  simp only [qf] at hs
  split at hs
  · rename_i l k j hx hi
    obtain ⟨hj, hs⟩ := ql hs
    obtain ⟨hu, h1⟩ := z7 hok hx (by simp)
    have h2 := (z7 hok hi (by simp)).2
    obtain ⟨rfl, hr, hun⟩ := qla (P := P) (w := w) (ι := ι) hd hn hs
    have : (execOp a.eval o).run P w = .ok (.value (gam ι v)) w := by
      unfold execOp; rw [ho]
      simp only [h1, h2, gam, Instr.index, asIntOf, Sem.run_bind, qp ht, Result.andThen_ok, Sem.run_pure, Sem.run_ite, hj, and_self, if_true, j9 hn, hr]
    rw [this]
    exact Res.same hok fun _ => ⟨hun _ hu, rfl⟩
  · cases hs
theorem qz4 (hok : Ok X ι s a w) {t : TypeId} {x i : Operand} (ho : o.op = .index t x i) (ht : P.underlying t = some .string)
    (hs : qf s.env s.hp (.qd3 (Opd.of x) (Opd.of i)) = some (v, hp')) : Res X s a ((execOp a.eval o).run P w) v hp' := by
  simp only [qf] at hs
  split at hs
  · rename_i l k j hx hi
    obtain ⟨hj, hs⟩ := ql hs
    simp only [Option.some.injEq, Prod.mk.injEq] at hs
    obtain ⟨rfl, rfl⟩ := hs
    have h1 := (z7 hok hx (by simp)).2
    have h2 := (z7 hok hi (by simp)).2
    have hlt : j.toNat < l.length := by omega
    have hg : (⟨l.toArray⟩ : ByteArray)[j.toNat]? = some (l.getD j.toNat 0) := by
      have : j.toNat < (⟨l.toArray⟩ : ByteArray).size := by simpa [ByteArray.size] using hlt
      rw [getElem?_pos (⟨l.toArray⟩ : ByteArray) j.toNat this]
      congr 1
      rw [List.getD_eq_getElem?_getD, List.getElem?_eq_getElem hlt]
      rfl
    have : (execOp a.eval o).run P w = .ok (.value (gam ι (.int .u8 (l.getD j.toNat 0).toNat))) w := by
      unfold execOp; rw [ho]
      simp only [h1, h2, gam, Instr.index, asIntOf, Sem.run_bind, qp ht, Result.andThen_ok, Sem.run_pure, hj.1, if_true, hg]
    rw [this]
    exact Res.same hok fun _ => ⟨trivial, rfl⟩
  · cases hs
theorem q2b (hok : Ok X ι s a w) {i : Nat} {x : Operand} (ho : o.op = .extract x i)
    (hs : qf s.env s.hp (.ext i (Opd.of x)) = some (v, hp')) : Res X s a ((execOp a.eval o).run P w) v hp' := by
  simp only [qf] at hs
  split at hs
  · rename_i l hx
    split at hs
    · rename_i u hu
      simp only [Option.some.injEq, Prod.mk.injEq] at hs
      obtain ⟨rfl, rfl⟩ := hs
      obtain ⟨h0, h1⟩ := z7 hok hx (by simp)
      have : (execOp a.eval o).run P w = .ok (.value (gam ι u)) w := by
        unfold execOp; rw [ho]
        simp only [h1, gam, Instr.extract, List.getElem?_toArray, Q0, hu, Option.map_some]; rfl
      rw [this]
      exact Res.same hok fun _ => ⟨Zs h0 hu, rfl⟩
    · cases hs
  · cases hs
theorem q3l (hok : Ok X ι s a w) {x y : Operand} {ats : Array TypeId} (ho : o.op = .call { callee := .builtin .min, args := #[x, y], argTypes := ats })
    (hs : qf s.env s.hp (.Xj true (Opd.of x) (Opd.of y)) = some (v, hp')) : Res X s a ((execOp a.eval o).run P w) v hp' := by
  simp only [qf] at hs
  split at hs
  · rename_i k i k' j hx hy
    obtain ⟨hk, hs2⟩ := ql hs
    clear hs
    subst hk
    simp only [Option.some.injEq, Prod.mk.injEq] at hs2
    obtain ⟨rfl, rfl⟩ := hs2
    have h1 := (z7 hok hx (by simp)).2
    have h2 := (z7 hok hy (by simp)).2
    have : (execOp a.eval o).run P w = .ok (.value (gam ι (.int k (if j < i then j else i)))) w := by
      unfold execOp; rw [ho]
      simp only [resolve, List.map_toArray, List.map_cons, List.map_nil, h1, h2, gam, Sem.run_bind, Sem.run_pure, Result.andThen_ok, invoke, builtin, Builtin.min_, List.foldlM, Builtin.min2]
    rw [this]
    exact Res.same hok fun _ => ⟨trivial, rfl⟩
  · cases hs
theorem q20 (hok : Ok X ι s a w) {x y : Operand} {ats : Array TypeId} (ho : o.op = .call { callee := .builtin .max, args := #[x, y], argTypes := ats })
    (hs : qf s.env s.hp (.Xj false (Opd.of x) (Opd.of y)) = some (v, hp')) : Res X s a ((execOp a.eval o).run P w) v hp' := by
  simp only [qf] at hs
  split at hs
  · rename_i k i k' j hx hy
    obtain ⟨hk, hs2⟩ := ql hs
    clear hs
    subst hk
    simp only [Option.some.injEq, Prod.mk.injEq] at hs2
    obtain ⟨rfl, rfl⟩ := hs2
    have h1 := (z7 hok hx (by simp)).2
    have h2 := (z7 hok hy (by simp)).2
    have : (execOp a.eval o).run P w = .ok (.value (gam ι (.int k (if j > i then j else i)))) w := by
      unfold execOp; rw [ho]
      simp only [resolve, List.map_toArray, List.map_cons, List.map_nil, h1, h2, gam, Sem.run_bind, Sem.run_pure, Result.andThen_ok, invoke, builtin, Builtin.max_, List.foldlM, Builtin.max2]
    rw [this]
    exact Res.same hok fun _ => ⟨trivial, rfl⟩
  · cases hs
theorem qz0 (hok : Ok X ι s a w) {x : Operand} {t : TypeId} (ho : o.op = .call { callee := .builtin .len, args := #[x], argTypes := #[t] }) (ht : P.underlying t = some .string)
    (hs : qf s.env s.hp (.len .str (Opd.of x)) = some (v, hp')) : Res X s a ((execOp a.eval o).run P w) v hp' := by
  simp only [qf] at hs
  split at hs
  · rename_i l hx
    simp only [Option.some.injEq, Prod.mk.injEq] at hs
    obtain ⟨rfl, rfl⟩ := hs
    have h1 := (z7 hok hx (by simp)).2
    have : (execOp a.eval o).run P w = .ok (.value (gam ι (.int .i64 l.length))) w := by
      unfold execOp; rw [ho]
      simp only [resolve, List.map_toArray, List.map_cons, List.map_nil, h1, gam, Sem.run_bind, Sem.run_pure, Result.andThen_ok, invoke, builtin, Builtin.len_]
      simp [qp ht, goInt, bsize]
    rw [this]
    exact Res.same hok fun _ => ⟨trivial, rfl⟩
  · cases hs
theorem qyx (hok : Ok X ι s a w) {x : Operand} {t e : TypeId} (ho : o.op = .call { callee := .builtin .len, args := #[x], argTypes := #[t] }) (ht : P.underlying t = some (.slice e))
    (hs : qf s.env s.hp (.len .slc (Opd.of x)) = some (v, hp')) : Res X s a ((execOp a.eval o).run P w) v hp' := by
  have key : ∀ (ad : Option Addr) (n c : Nat), a.eval x = .slice ad n c → (execOp a.eval o).run P w = .ok (.value (.int .i64 n)) w := by
    intro ad n c h1
    unfold execOp; rw [ho]
    simp only [resolve, List.map_toArray, List.map_cons, List.map_nil, h1, Sem.run_bind, Sem.run_pure, Result.andThen_ok, invoke, builtin, Builtin.len_]
    simp [qp ht, goInt]
  simp only [qf] at hs
  split at hs
  · rename_i hx
    simp only [Option.some.injEq, Prod.mk.injEq] at hs
    obtain ⟨rfl, rfl⟩ := hs
    rw [key _ _ _ (z7 hok hx (by simp)).2]
    exact Res.same hok fun _ => ⟨trivial, rfl⟩
  · rename_i hx
    simp only [Option.some.injEq, Prod.mk.injEq] at hs
    obtain ⟨rfl, rfl⟩ := hs
    rw [key _ _ _ (z7 hok hx (by simp)).2]
    exact Res.same hok fun _ => ⟨trivial, rfl⟩
  · cases hs
theorem q1k (hok : Ok X ι s a w) {x : Operand} {t k e : TypeId} (ho : o.op = .call { callee := .builtin .len, args := #[x], argTypes := #[t] }) (ht : P.underlying t = some (.map k e))
    (hs : qf s.env s.hp (.len .map (Opd.of x)) = some (v, hp')) : Res X s a ((execOp a.eval o).run P w) v hp' := by
  simp only [qf] at hs
  split at hs
  · rename_i b hx
    split at hs
    · rename_i es ck hb
      simp only [Option.some.injEq, Prod.mk.injEq] at hs
      obtain ⟨rfl, rfl⟩ := hs
      have h1 := (z7 hok hx (by simp)).2
      obtain ⟨_, hn, blk, ha, hh⟩ := hok.heap.rel _ _ hb
      have hg : (getObj (ι b).addr.block).run P w = .ok (.map (es.map (jq ι)).toArray ck) w := by
        rw [ha]; simp [getObj, Sem.run, hh]
      have : (execOp a.eval o).run P w = .ok (.value (gam ι (.int .i64 es.length))) w := by
        unfold execOp; rw [ho]
        simp only [resolve, List.map_toArray, List.map_cons, List.map_nil, h1, gam, Sem.run_bind, Sem.run_pure, Result.andThen_ok, invoke, builtin, Builtin.len_]
        simp [qp ht, goInt, hg]
      rw [this]
      exact Res.same hok fun _ => ⟨trivial, rfl⟩
    · cases hs
  · cases hs
end
end Go.Am
namespace Go.Am
set_option linter.unusedVariables false
section
variable {P : Program} {X : Ctx} {ι : Nat → Loc} {s : St} {a : Act} {w : World} {o : Oper} {v : AV} {hp' : List AO}
theorem Z1 {k : IntKind} {i : Int} {y : Nat} {c : BoundsCode} (h : 0 ≤ i ∧ i ≤ y) : (Instr.sliceBound (.int k i) y c).run P w = .ok i.toNat w := by
  simp only [Instr.sliceBound, asIntOf, Sem.run_bind, Sem.run_pure, Result.andThen_ok, Sem.run_ite, h, and_self, if_true]
theorem qp5 (hok : Ok X ι s a w) (isS : Bool) {lo hi : Option Operand} {len cap cap' : Nat} {l h : Nat} (hc : cap ≤ cap')
    (hl : lim ((lo.map Opd.of).map (ev s.env)) ((hi.map Opd.of).map (ev s.env)) len cap = some (l, h)) (hlc : len ≤ cap) :
    (Instr.sliceBounds isS len cap' (lo.map a.eval) (hi.map a.eval) none).run P w = .ok (l, h, cap') w ∧ l ≤ h ∧ h ≤ cap ∧ (hi = none → h = len) := by
  unfold lim at hl
  split at hl
  · rename_i e1 e2
    have : hi = none := by cases hi <;> simp_all
    have : lo = none := by cases lo <;> simp_all
    subst hi; subst lo
    cases hl
    exact ⟨by simp [Instr.sliceBounds], by omega, hlc, fun _ => rfl⟩
  · rename_i k i e1 e2
    have : hi = none := by cases hi <;> simp_all
    subst hi
    cases lo with
    | none => simp at e2
    | some x =>
      simp only [Option.map_some, Option.some.injEq] at e2
      obtain ⟨h1, hl⟩ := ql hl
      cases hl
      have h2 := (z7 hok e2 (by simp)).2
      refine ⟨?_, by omega, hlc, fun _ => rfl⟩
      simp only [Option.map_some, Option.map_none, h2, gam, Instr.sliceBounds, Sem.run_bind, Sem.run_pure, Result.andThen_ok, Option.isSome_none, Bool.false_eq_true, if_false, Z1 h1]
  · rename_i k i e1 e2
    have : lo = none := by cases lo <;> simp_all
    subst lo
    cases hi with
    | none => simp at e1
    | some x =>
      simp only [Option.map_some, Option.some.injEq] at e1
      obtain ⟨h1, hl⟩ := ql hl
      cases hl
      have h2 := (z7 hok e1 (by simp)).2
      have h1' : 0 ≤ i ∧ i ≤ (cap' : Int) := by omega
      refine ⟨?_, by omega, by omega, fun e => by cases e⟩
      simp only [Option.map_some, Option.map_none, h2, gam, Instr.sliceBounds, Sem.run_bind, Sem.run_pure, Result.andThen_ok, Z1 h1']
  · rename_i k i k' j e1 e2
    cases hi with
    | none => simp at e1
    | some x =>
      cases lo with
      | none => simp at e2
      | some y =>
        simp only [Option.map_some, Option.some.injEq] at e1 e2
        obtain ⟨h1, hl⟩ := ql hl
        obtain ⟨h3, hl⟩ := ql hl
        cases hl
        have h2 := (z7 hok e1 (by simp)).2
        have h4 := (z7 hok e2 (by simp)).2
        have h1' : 0 ≤ i ∧ i ≤ (cap' : Int) := by omega
        have h3' : 0 ≤ j ∧ j ≤ (i.toNat : Int) := by omega
        refine ⟨?_, by omega, by omega, fun e => by cases e⟩
        simp only [Option.map_some, h2, h4, gam, Instr.sliceBounds, Sem.run_bind, Sem.run_pure, Result.andThen_ok, Z1 h1', Option.isSome_none, Bool.false_eq_true, if_false, Z1 h3']
  · cases hl
theorem qt8 (hok : Ok X ι s a w) {t : TypeId} {x : Operand} {lo hi : Option Operand} (ho : o.op = .slice t x lo hi none) (ht : P.underlying t = some .string)
    (hs : qf s.env s.hp (.substr (Opd.of x) (lo.map Opd.of) (hi.map Opd.of)) = some (v, hp')) : Res X s a ((execOp a.eval o).run P w) v hp' := by
  simp only [qf] at hs
  split at hs
  · rename_i r hx
    split at hs
    · rename_i l h hl
      simp only [Option.some.injEq, Prod.mk.injEq] at hs
      obtain ⟨rfl, rfl⟩ := hs
      obtain ⟨hr, hlh, hh, _⟩ := qp5 (P := P) hok false (Nat.le_refl _) hl (Nat.le_refl _)
      have h1 := (z7 hok hx (by simp)).2
      have : (execOp a.eval o).run P w = .ok (.value (gam ι (.str ((r.take h).drop l)))) w := by
        unfold execOp; rw [ho]
        simp only [h1, gam, Instr.sliceAt, Sem.run_bind, qp ht, Result.andThen_ok, Instr.slice, Option.map_none, Option.isSome_none, Bool.false_eq_true, if_false, bsize, hr, Sem.run_pure]
        simp only [Result.ok.injEq, Next.value.injEq, Value.string.injEq, and_true]
        apply ByteArray.ext
        simp [ByteArray.data_extract, List.drop_take]
      rw [this]
      exact Res.same hok fun _ => ⟨trivial, rfl⟩
    · cases hs
  · cases hs
theorem q3u (hok : Ok X ι s a w) {t u e : TypeId} {x : Operand} (ho : o.op = .convert t u x) (ht : P.underlying t = some (.slice e)) (hu : P.underlying u = some .string)
    (he : P.underlying e = some (.int .u8)) (hs : qf s.env s.hp (.b2s (Opd.of x)) = some (v, hp')) : Res X s a ((execOp a.eval o).run P w) v hp' := by
  have start : ∀ (ad : Option Addr) (n c : Nat) (r : ByteArray), a.eval x = .slice ad n c → (Conv.bytesToString (.slice ad n c)).run P w = .ok (.string r) w →
      (execOp a.eval o).run P w = .ok (.value (.string r)) w := by
    intro ad n c r h1 h2
    unfold execOp; rw [ho]
    simp only [convert, Sem.run_bind, qp ht, qp hu, Result.andThen_ok, h1, qp he, h2, Sem.run_pure]
  simp only [qf] at hs
  split at hs
  · rename_i b off len ex c hx
    split at hs
    · rename_i l hl
      obtain ⟨hlen, hs⟩ := ql hs
      split at hs
      · rename_i r hr
        simp only [Option.some.injEq, Prod.mk.injEq] at hs
        obtain ⟨rfl, rfl⟩ := hs
        have h1 := (z7 hok hx (by simp)).2
        rw [start _ _ _ ⟨r.toArray⟩ h1]
        · exact Res.same hok fun _ => ⟨trivial, rfl⟩
        cases hnull : (ι b).null with
        | true =>
          have hll : l.length = 0 := by
            rcases Nat.eq_zero_or_pos l.length with h | h
            · exact h
            · rw [qfa hok hl h] at hnull; cases hnull
          have : len = 0 := by omega
          subst this
          simp only [List.take_zero, k8, Option.some.injEq] at hr
          subst hr
          simp only [cond_true, Conv.bytesToString, Sem.run_pure]; rfl
        | false =>
          simp only [cond_false, Conv.bytesToString, Sem.run_bind]
          have hlen' : (qv ι ((l.drop off).take len)).length = len := by rw [q6, List.length_take, List.length_drop]; omega
          have hc : ∀ j v, (qv ι ((l.drop off).take len))[j]? = some v → w.cell? (((ι b).addr.add off).add j) = some v := by
            intro j u hu
            rw [Q0] at hu
            cases hq : ((l.drop off).take len)[j]? with
            | none => rw [hq] at hu; cases hu
            | some q =>
              rw [hq] at hu
              simp only [Option.map_some, Option.some.injEq] at hu
              subst hu
              rw [Addr.add_add]
              refine (Yn hok.heap hl (i := off + j) ?_).2.2
              rw [List.getElem?_take] at hq
              split at hq
              · rw [List.getElem?_drop] at hq; exact hq
              · cases hq
          have := run_loadCells (P := P) hc
          rw [hlen'] at this
          rw [this]
          simp only [Result.andThen_ok]
          generalize (l.drop off).take len = q at hr
          clear this hc hlen' hlen hl
          have key : ∀ (f : Value → ByteArray → Sem (ForInStep ByteArray)) (hf : ∀ n r, (f (.int .u8 n) r).run P w = .ok (.yield (r.push (UInt8.ofNat n.toNat))) w)
              (q : List AV) (r : List UInt8) (acc : ByteArray), k8 q = some r → (forIn (qv ι q).toArray acc f).run P w = .ok ⟨acc.data ++ r.toArray⟩ w := by
            intro f hf q
            induction q with
            | nil => intro r acc h; simp only [k8, Option.some.injEq] at h; subst h; simp [qv]
            | cons x q ih =>
              intro r acc h
              unfold k8 at h
              split at h
              · simp_all
              · rename_i n r' he
                simp only [List.cons.injEq] at he
                obtain ⟨rfl, rfl⟩ := he
                split at h
                · rename_i r2 hr2
                  simp only [Option.some.injEq] at h
                  subst h
                  have := ih r2 (acc.push (UInt8.ofNat n.toNat)) hr2
                  simp only [qv, gam, List.forIn_toArray, List.forIn_cons, Sem.run_bind, hf, Result.andThen_ok] at this ⊢
                  rw [this]
                  congr 1
                  apply ByteArray.ext
                  simp [ByteArray.push]
                · cases h
              · cases h
          rw [key _ (fun n r => rfl) q r _ hr]
          simp [Result.andThen, ByteArray.empty, ByteArray.emptyWithCapacity]
          rfl
      · cases hs
    · cases hs
  · rename_i n c hx
    simp only [Option.some.injEq, Prod.mk.injEq] at hs
    obtain ⟨rfl, rfl⟩ := hs
    have h1 := (z7 hok hx (by simp)).2
    rw [start none _ _ ⟨#[]⟩ h1 (by simp only [Conv.bytesToString, Sem.run_pure]; rfl)]
    exact Res.same hok fun _ => ⟨trivial, rfl⟩
  · cases hs
end
end Go.Am
namespace Go.Am
set_option linter.unusedVariables false
set_option linter.unusedSimpArgs false
section
variable {P : Program} {X : Ctx} {ι : Nat → Loc} {s : St} {a : Act} {w : World} {o : Oper} {v : AV} {hp' : List AO}
theorem qyp (hok : Ok X ι s a w) {t : TypeId} (ho : o.op = .makeMap t none) (hs : qf s.env s.hp .qag = some (v, hp')) : Res X s a ((execOp a.eval o).run P w) v hp' := by
  simp only [qf, Option.some.injEq, Prod.mk.injEq] at hs
  obtain ⟨rfl, rfl⟩ := hs
  have : (execOp a.eval o).run P w = .ok (.value (.map (some w.heap.size))) (w.alloc (.map #[] 0)) := by
    unfold execOp; rw [ho]; rfl
  rw [this]
  refine ⟨_, _, _, .inl rfl, fun _ => ⟨by simp [AV.under], ?_⟩, hok.alloc (.map [] 0) _ 0 (fun e he => by cases he) ?_⟩
  · simp [gam, jw]
  · exact ⟨rfl, w.heap.size, rfl, by show (w.heap.push _)[w.heap.size]? = _; simp⟩
theorem qug (hok : Ok X ι s a w) {t k e : TypeId} {x : Operand} (ho : o.op = .range t x) (ht : P.underlying t = some (.map k e))
    (hs : qf s.env s.hp (.Bf (Opd.of x)) = some (v, hp')) : Res X s a ((execOp a.eval o).run P w) v hp' := by
  simp only [qf] at hs
  split at hs
  · rename_i b hx
    split at hs
    · rename_i es ck hb
      simp only [Option.some.injEq, Prod.mk.injEq] at hs
      obtain ⟨rfl, rfl⟩ := hs
      obtain ⟨hu, h1⟩ := z7 hok hx (by simp)
      obtain ⟨_, hn, blk, ha, hh⟩ := hok.heap.rel _ _ hb
      have hg : (getObj (ι b).addr.block).run P w = .ok (.map (es.map (jq ι)).toArray ck) w := by
        rw [ha]; simp [getObj, Sem.run, hh]
      have : (execOp a.eval o).run P w = .ok (.value (.pointer (some ⟨w.heap.size, 0, none⟩))) (w.alloc (.mapIter (some (ι b).addr.block) ck #[] ck)) := by
        unfold execOp; rw [ho]
        simp only [h1, gam, Instr.range, Sem.run_bind, qp ht, Result.andThen_ok, hg, Sem.run_pure, run_newObj]
        rfl
      rw [this]
      refine ⟨_, _, _, .inl rfl, fun _ => ⟨by simp [AV.under], ?_⟩, hok.alloc (.x6 (some b) ck [] ck) _ 0 (fun b' hb' => by cases hb'; exact Nat.lt_succ_of_lt hu) ?_⟩
      · simp [gam, jw, Addr.uk]
      · refine ⟨rfl, w.heap.size, rfl, ?_⟩
        rw [show (w.alloc (.mapIter (some (ι b).addr.block) ck #[] ck)).heap[w.heap.size]? = some (.mapIter (some (ι b).addr.block) ck #[] ck) from by show (w.heap.push _)[w.heap.size]? = _; simp]
        simp only [Option.map_some, ← vw b hu]
    · cases hs
  · cases hs
theorem qwh (hok : Ok X ι s a w) {x : Operand} (ho : o.op = .entry x) (hs : qf s.env s.hp (.entry (Opd.of x)) = some (v, hp')) : Res X s a ((execOp a.eval o).run P w) v hp' := by
  simp only [qf] at hs
  split at hs
  · rename_i r hx
    split at hs
    · rename_i m since seen last hr
      split at hs
      · rename_i es ck stamp hm hst
        obtain ⟨hck, hs2⟩ := ql hs
        clear hs
        subst hck
        split at hs2
        · rename_i e he
          simp only [Option.some.injEq, Prod.mk.injEq] at hs2
          obtain ⟨rfl, rfl⟩ := hs2
          obtain ⟨hu, h1⟩ := z7 hok hx (by simp)
          obtain ⟨hmu, hn, blk, ha, hh⟩ := hok.heap.rel _ _ hr
          obtain ⟨heu, hn2, blk2, ha2, hh2⟩ := hok.heap.rel _ _ hm
          have hg : (getObj blk).run P w = .ok (.mapIter (some (ι m).addr.block) since seen.toArray ck) w := by
            simp [getObj, Sem.run, hh]
          have hg2 : (getObj (ι m).addr.block).run P w = .ok (.map (es.map (jq ι)).toArray ck) w := by
            rw [ha2]; simp [getObj, Sem.run, hh2]
          have hback : seen.toArray.back? = some stamp := by simpa using hst
          have hfind : (es.map (jq ι)).toArray.find? (fun e => e.born == stamp) = some (jq ι e) := by
            have : ((fun e : MapEntry => e.born == stamp) ∘ jq ι) = fun e => e.born == stamp := rfl
            rw [List.find?_toArray, List.find?_map, this, he]; rfl
          have : (execOp a.eval o).run P w = .ok (.value (gam ι (.tup [e.key, e.val]))) w := by
            unfold execOp; rw [ho]
            simp only [h1, gam, ha, Addr.uk, Instr.entry, Sem.run_bind, hg, Result.andThen_ok, hback, hg2, bne_self_eq_false, Bool.false_eq_true, if_false, hfind, Sem.run_pure, qv, jq]
          rw [this]
          have hmem := List.mem_of_find?_eq_some he
          exact Res.same hok fun _ => ⟨⟨(heu e hmem).1, (heu e hmem).2, trivial⟩, rfl⟩
        · cases hs2
      · cases hs
    · cases hs
  · cases hs
theorem qtz (vs : List Value) : ∀ (k : Nat) (cs : Array Value) (off : Nat), off + k + vs.length ≤ cs.size →
    (vs.zipIdx k).foldl (fun (cs : Array Value) (p : Value × Nat) => cs.setIfInBounds (off + p.2) p.1) cs = (cs.toList.take (off + k) ++ vs ++ cs.toList.drop (off + k + vs.length)).toArray := by
  induction vs with
  | nil => intro k cs off h; simp
  | cons v vs ih =>
    intro k cs off h
    simp only [List.length_cons] at h
    have hlt : off + k < cs.size := by omega
    simp only [List.zipIdx_cons, List.foldl_cons]
    rw [ih (k + 1) _ off (by simp; omega)]
    have e : (cs.setIfInBounds (off + k) v).toList = cs.toList.take (off + k) ++ v :: cs.toList.drop (off + k + 1) := by
      rw [Array.toList_setIfInBounds, List.set_eq_take_append_cons_drop, if_pos (by simpa using hlt)]
    rw [e]
    have hlen : (cs.toList.take (off + k)).length = off + k := by simp; omega
    have t1 : (cs.toList.take (off + k) ++ v :: cs.toList.drop (off + k + 1)).take (off + (k + 1)) = cs.toList.take (off + k) ++ [v] := by
      rw [show off + (k + 1) = (cs.toList.take (off + k)).length + 1 from by rw [hlen]; omega, List.take_length_add_append]; rfl
    have t2 : (cs.toList.take (off + k) ++ v :: cs.toList.drop (off + k + 1)).drop (off + (k + 1) + vs.length) = cs.toList.drop (off + k + (v :: vs).length) := by
      rw [show off + (k + 1) + vs.length = (cs.toList.take (off + k)).length + (vs.length + 1) from by rw [hlen]; omega, List.drop_length_add_append]
      simp only [List.drop_succ_cons, List.drop_drop, List.length_cons]
      congr 1; omega
    rw [t1, t2]
    simp only [List.append_assoc, List.cons_append, List.nil_append]
def qjv (pl : Nat → Option (Nat × Nat)) : List (Nat × Operand) → List (Nat × Nat × Opd) → Prop
  | [], [] => True
  | (i, x) :: r, (off, n, y) :: r' => pl i = some (off, n) ∧ y = Opd.of x ∧ qjv pl r r'
  | _, _ => False
theorem qef (hok : Ok X ι s a w) {pl : Nat → Option (Nat × Nat)} : ∀ (ps : List (Nat × Operand)) (qs : List (Nat × Nat × Opd)) (l l' : List AV), qjv pl ps qs →
    AV.qy s.hp.length l → vx s.env qs l = some l' →
    Instr.fill pl (qv ι l).toArray (ps.map fun (i, x) => (i, a.eval x)) = some (qv ι l').toArray ∧ AV.qy s.hp.length l'
  | [], [], l, l', _, hu, h => by simp only [vx, Option.some.injEq] at h; subst h; exact ⟨rfl, hu⟩
  | [], _ :: _, _, _, h, _, _ => h.elim
  | _ :: _, [], _, _, h, _, _ => h.elim
  | (i, x) :: ps, (off, n, y) :: qs, l, l', ⟨h1, h2, h3⟩, hu, h => by
    subst h2
    simp only [vx] at h
    split at h
    · rename_i c hc
      split at h
      · rename_i hcond
        obtain ⟨ht, hcu, hcc⟩ := AV.qmy hc
        obtain ⟨h4, h5⟩ := J6 hok x ht
        have e : (a.eval x).cells = (qv ι c).toArray := by rw [h5, ← hcc ι]
        have hsz : (a.eval x).cells.size = n := by rw [e]; simp [q6, hcond.1]
        obtain ⟨h6, h7⟩ := qef hok ps qs (over l off c) l' h3 (Uo hu (hcu _ h4)) h
        refine ⟨?_, h7⟩
        simp only [List.map_cons, Instr.fill, h1]
        rw [if_neg]
        · rw [← h6]
          congr 1
          rw [← Array.foldl_toList, Array.toList_zipIdx, e]
          have := qtz (qv ι c) 0 (qv ι l).toArray off (by simp [q6]; omega)
          rw [this, qcb]
          rfl
        · simp only [hsz, bne_self_eq_false, Bool.false_or, decide_eq_true_eq, Nat.not_lt, List.size_toArray, q6]
          simp only [ne_eq, not_true_eq_false, decide_false, Bool.false_or, decide_eq_true_eq]; omega
      · cases h
    · cases h
theorem qel {P : Program} {fs : Array Field} {pl : Nat → Option (Nat × Nat)} (hpl : ∀ i f n, fs[i]? = some f → xz P f.type = some n → pl i = some (f.offset, n)) :
    ∀ (ps : List (Nat × Operand)) (qs : List (Nat × Nat × Opd)), partsOf P fs ps = some qs → qjv pl ps qs
  | [], qs, h => by simp only [partsOf, Option.some.injEq] at h; subst h; trivial
  | (i, x) :: ps, qs, h => by
    simp only [partsOf] at h
    split at h
    · rename_i f hf
      split at h
      · rename_i n l hn hl
        simp only [Option.some.injEq] at h
        subst h
        exact ⟨hpl i f n hf hn, rfl, qel hpl ps l hl⟩
      · cases h
    · cases h
theorem qnp {α β : Type} {P : Program} {w : World} {g : α → Sem β} {h : α → β} : ∀ (l : List α), (∀ x ∈ l, (g x).run P w = .ok (h x) w) → (l.mapM g).run P w = .ok (l.map h) w
  | [], _ => by simp
  | x :: l, hx => by
    rw [List.mapM_cons]
    simp only [Sem.run_bind, hx x (by simp), Result.andThen_ok, qnp l (fun y hy => hx y (by simp [hy])), Sem.run_pure, List.map_cons]
theorem J5 {P : Program} {t : TypeId} {z : List AV} (h : Jt P t = some z) : ∃ zv, (P.info? t).bind (·.zero) = some zv ∧ z = zv.cells.toList.map ofConst := by
  unfold Jt at h
  cases hz : (P.info? t).bind (·.zero) with
  | none => rw [hz] at h; cases h
  | some zv => rw [hz] at h; simp only [Option.map_some, Option.some.injEq] at h; exact ⟨zv, rfl, h.symm⟩
theorem qub (hok : Ok X ι s a w) {t : TypeId} {fs : Array Field} {z : List AV} {parts : Array (Nat × Operand)} {qs : List (Nat × Nat × Opd)} (ho : o.op = .build t parts)
    (ht : P.underlying t = some (.struct fs)) (hz : Jt P t = some z) (hall : fs.toList.all (fun f => (xz P f.type).isSome) = true) (hq : partsOf P fs parts.toList = some qs)
    (hs : qf s.env s.hp (.build z qs) = some (v, hp')) : Res X s a ((execOp a.eval o).run P w) v hp' := by
  simp only [qf] at hs
  split at hs
  · rename_i l hl
    simp only [Option.some.injEq, Prod.mk.injEq] at hs
    obtain ⟨rfl, rfl⟩ := hs
    obtain ⟨zv, hzv, rfl⟩ := J5 hz
    have hm : (fs.mapM (m := Sem) fun f => do pure (f.offset, ← sizeOf f.type)).run P w = .ok (fs.map fun f => (f.offset, (xz P f.type).getD 0)) w := by
      rw [Array.mapM_eq_mapM_toList]
      rw [Sem.run_map, qnp (h := fun f : Field => (f.offset, (xz P f.type).getD 0)) fs.toList]
      · simp only [Result.andThen_ok, ← Array.toList_map]
      · intro f hf
        have := List.all_eq_true.1 hall f hf
        cases hn : xz P f.type with
        | none => rw [hn] at this; cases this
        | some n => simp only [Sem.run_bind, j9 hn, Result.andThen_ok, Sem.run_pure, Option.getD_some]
    obtain ⟨h1, h2⟩ := qef hok parts.toList qs _ l (qel (pl := fun i => (fs.map fun f => (f.offset, (xz P f.type).getD 0))[i]?) (fun i f n hf hn => by simp [hf, hn]) _ _ hq) (uh _ _) hl
    rw [X7] at h1
    have : (execOp a.eval o).run P w = .ok (.value (gam ι (.agg l))) w := by
      unfold execOp; rw [ho]
      simp only [Instr.build, Sem.run_bind, U8 hzv, Result.andThen_ok, Sem.run_pure, qp ht, hm]
      have e : (parts.map fun (x : Nat × Operand) => match x with | (i, x) => (i, a.eval x)).toList = parts.toList.map fun (i, x) => (i, a.eval x) := by simp
      rw [e]
      simp only [Array.toArray_toList] at h1
      rw [h1]; rfl
    rw [this]
    exact Res.same hok fun _ => ⟨h2, rfl⟩
  · cases hs
theorem K3 {n : Nat} : ∀ (ps : List (Nat × Operand)), qjv (fun i => some (i * n, n)) ps (ps.map fun (i, x) => (i * n, n, Opd.of x))
  | [] => trivial
  | (i, x) :: ps => ⟨rfl, rfl, K3 ps⟩
theorem qtd (hok : Ok X ι s a w) {t e : TypeId} {len n : Nat} {z : List AV} {parts : Array (Nat × Operand)} (ho : o.op = .build t parts)
    (ht : P.underlying t = some (.array len e)) (hz : Jt P t = some z) (hn : xz P e = some n)
    (hs : qf s.env s.hp (.build z (parts.toList.map fun (i, x) => (i * n, n, Opd.of x))) = some (v, hp')) : Res X s a ((execOp a.eval o).run P w) v hp' := by
  simp only [qf] at hs
  split at hs
  · rename_i l hl
    simp only [Option.some.injEq, Prod.mk.injEq] at hs
    obtain ⟨rfl, rfl⟩ := hs
    obtain ⟨zv, hzv, rfl⟩ := J5 hz
    obtain ⟨h1, h2⟩ := qef hok parts.toList _ _ l (K3 parts.toList) (uh _ _) hl
    rw [X7] at h1
    have : (execOp a.eval o).run P w = .ok (.value (gam ι (.agg l))) w := by
      unfold execOp; rw [ho]
      simp only [Instr.build, Sem.run_bind, U8 hzv, Result.andThen_ok, Sem.run_pure, qp ht, j9 hn]
      have e : (parts.map fun (x : Nat × Operand) => match x with | (i, x) => (i, a.eval x)).toList = parts.toList.map fun (i, x) => (i, a.eval x) := by simp
      rw [e]
      simp only [Array.toArray_toList] at h1
      rw [h1]; rfl
    rw [this]
    exact Res.same hok fun _ => ⟨h2, rfl⟩
  · cases hs
theorem qfi (k : Nat) (z : List AV) : (rep k z).length = k * z.length := by
  induction k with
  | zero => simp [rep]
  | succ k ih => simp only [rep, List.length_append, ih, Nat.add_mul, Nat.one_mul]; omega
theorem qrf (z : List AV) : ∀ (k i : Nat), i < k * z.length → (rep k z)[i]? = z[i % z.length]?
  | 0, i, h => by omega
  | k + 1, i, h => by
    simp only [rep]
    rcases Nat.lt_or_ge i z.length with hi | hi
    · rw [List.getElem?_append_left hi, Nat.mod_eq_of_lt hi]
    · rw [List.getElem?_append_right hi, qrf z k (i - z.length) (by rw [Nat.add_mul, Nat.one_mul] at h; omega), Nat.mod_eq_sub_mod hi]
theorem Kl {n : Nat} {z : List AV} (h : AV.qy n z) : ∀ k, AV.qy n (rep k z)
  | 0 => trivial
  | k + 1 => kp.2 ⟨h, Kl h k⟩
theorem qe3 {f g : Nat → Value} : (Array.range 0).map f = (Array.range 0).map g := by simp
theorem qgg {zv : Value} {z : List AV} {n k : Nat} (hz : z = zv.cells.toList.map ofConst) (hn : z.length = n) (hn1 : 1 ≤ n) :
    (Array.range (k * n)).map (fun i => zv.cells[i % zv.cells.size]!) = (qv ι (rep k z)).toArray := by
  have hl : zv.cells.size = n := by rw [← hn, hz]; simp
  apply Array.ext_getElem?
  intro i
  have e0 : (qv ι (rep k z)).toArray[i]? = (qv ι (rep k z))[i]? := by simp
  rw [Array.getElem?_map, e0, Q0]
  rcases Nat.lt_or_ge i (k * n) with hi | hi
  · rw [Array.getElem?_range, if_pos hi, qrf z k i (by rw [hn]; exact hi), hn, hz, List.getElem?_map]
    have hm : i % n < zv.cells.size := by rw [hl]; exact Nat.mod_lt _ (by omega)
    simp only [Option.map_some, hl]
    rw [Array.getElem?_toList, Array.getElem?_eq_getElem hm]
    simp only [Option.map_some, qdj]
    rw [getElem!_pos zv.cells (i % n) hm]
  · rw [Array.getElem?_eq_none (by simpa using hi), List.getElem?_eq_none (by rw [qfi, hn]; exact hi)]
    rfl
theorem qw4 (hok : Ok X ι s a w) {t e : TypeId} {len n : Nat} {z : List AV} {parts : Array (Nat × Operand)} (ho : o.op = .buildSlice t len parts)
    (ht : P.underlying t = some (.slice e)) (hz : Jt P e = some z) (hn : xz P e = some n) (hc : z.length = n ∧ 1 ≤ n ∧ len * n ≤ 16777216)
    (hs : qf s.env s.hp (.ga len (rep len z) (parts.toList.map fun (i, x) => (i * n, n, Opd.of x))) = some (v, hp')) : Res X s a ((execOp a.eval o).run P w) v hp' := by
  simp only [qf] at hs
  split at hs
  · rename_i l hl
    simp only [Option.some.injEq, Prod.mk.injEq] at hs
    obtain ⟨rfl, rfl⟩ := hs
    obtain ⟨zv, hzv, hze⟩ := J5 hz
    have hzu : AV.qy s.hp.length z := by rw [hze]; exact uh _ _
    obtain ⟨h1, h2⟩ := qef hok parts.toList _ _ l (K3 parts.toList) (Kl hzu len) hl
    rw [← qgg (ι := ι) hze hc.1 hc.2.1] at h1
    have : (execOp a.eval o).run P w = .ok (.value (.slice (some ⟨w.heap.size, 0, none⟩) len len)) (w.alloc (.cells (qv ι l).toArray e)) := by
      unfold execOp; rw [ho]
      have e0 : (parts.map fun (x : Nat × Operand) => match x with | (i, x) => (i, a.eval x)).toList = parts.toList.map fun (i, x) => (i, a.eval x) := by simp
      have hlim : ¬ (len * n > 2 ^ 24) := by have := hc.2.2; omega
      simp only [Instr.buildSlice, Sem.run_bind, Result.andThen_ok, qp ht, j9 hn, hlim, if_false]
      by_cases h0 : len * n = 0
      · have hlen0 : len = 0 := by rcases Nat.mul_eq_zero.1 h0 with h | h <;> omega
        subst hlen0
        simp only [Nat.zero_mul, if_true, Sem.run_bind, Sem.run_pure, Result.andThen_ok, e0]
        simp only [Nat.zero_mul] at h1
        have er : (Array.range 0).map (fun i => (#[] : Array Value)[i % (#[] : Array Value).size]!) = (Array.range 0).map (fun i => zv.cells[i % zv.cells.size]!) := qe3
        rw [er, h1]
        simp only [newRow, Sem.run_bind, run_newObj, Result.andThen_ok, Sem.run_pure]
        rfl
      · simp only [h0, if_false, Sem.run_bind, U8 hzv, Result.andThen_ok, Sem.run_pure, e0, h1, newRow, run_newObj]
        rfl
    rw [this]
    exact Res.alloc hok h2 (by simp [AV.under]) (by simp [gam, jw, Addr.uk])
  · cases hs
theorem qhn {x : Int} (h0 : -9223372036854775808 ≤ x) (h1 : x ≤ 9223372036854775807) : IntKind.i64.wrap x = x := by
  unfold IntKind.wrap
  simp [IntKind.bits, IntKind.signed]
  omega
theorem qn4 (hok : Ok X ι s a w) {t e : TypeId} {n b : Nat} {z : List AV} {x y : Operand} (ho : o.op = .makeSlice t x y)
    (ht : P.underlying t = some (.slice e)) (hz : Jt P e = some z) (hn : xz P e = some n) (hb : Yc P e = some b)
    (hs : qf s.env s.hp (.kx n b z (Opd.of x) (Opd.of y)) = some (v, hp')) : Res X s a ((execOp a.eval o).run P w) v hp' := by
  simp only [qf] at hs
  split at hs
  · rename_i k l k' c hx hy
    obtain ⟨⟨h0, h1, h2, h3, h4, h5⟩, hs⟩ := ql hs
    simp only [Option.some.injEq, Prod.mk.injEq] at hs
    obtain ⟨rfl, rfl⟩ := hs
    have hx1 := (z7 hok hx (by simp)).2
    have hy1 := (z7 hok hy (by simp)).2
    obtain ⟨zv, hzv, hze⟩ := J5 hz
    obtain ⟨i, hi, hib⟩ := q1r (P := P) (w := w) hb
    have hzu : AV.qy s.hp.length z := by rw [hze]; exact uh _ _
    have hcb : c ≤ 281474976710656 := by
      have : c * 1 ≤ c * b := Int.mul_le_mul_of_nonneg_left (by omega) (by omega)
      omega
    have w1 : IntKind.i64.wrap c = c := qhn (by omega) (by omega)
    have w2 : IntKind.i64.wrap l = l := qhn (by omega) (by omega)
    have hbc : ¬ ((b : Int) * c > 2 ^ 48) := by rw [Int.mul_comm]; omega
    have : (execOp a.eval o).run P w = .ok (.value (.slice (some ⟨w.heap.size, 0, none⟩) l.toNat c.toNat)) (w.alloc (.cells (qv ι (rep c.toNat z)).toArray e)) := by
      unfold execOp; rw [ho]
      have g1 : ¬ c < 0 := by omega
      have g2 : ¬ l < 0 := by omega
      have g3 : ¬ l > c := by omega
      simp only [hx1, hy1, gam, Instr.makeSlice, Sem.run_bind, qp ht, Result.andThen_ok, asInt, asIntOf, Sem.run_pure, hi, w1, w2, hib, g1, g2, g3, hbc, decide_false, Bool.or_false, Bool.false_or, Bool.false_eq_true, if_false, run_askRoom, j9 hn]
      rw [← qgg (ι := ι) hze h4 h5]
      by_cases hc0 : c.toNat * n = 0
      · have hcz : c.toNat = 0 := by rcases Nat.mul_eq_zero.1 hc0 with h | h <;> omega
        rw [hcz, Nat.zero_mul, qe3 (f := fun i => zv.cells[i % zv.cells.size]!) (g := fun i => (#[] : Array Value)[i % (#[] : Array Value).size]!)]
        simp only [hcz, Nat.zero_mul, if_true, Sem.run_pure, Result.andThen_ok, newRow, Sem.run_bind, run_newObj]
        rfl
      · simp only [hc0, if_false, Sem.run_bind, U8 hzv, Result.andThen_ok, Sem.run_pure, newRow, run_newObj]
        rfl
    rw [this]
    exact Res.alloc hok (Kl hzu _) (by simp [AV.under]) (by simp [gam, jw, Addr.uk])
  · cases hs
end
end Go.Am
namespace Go.Am
set_option linter.unusedVariables false
set_option linter.unusedSimpArgs false
section
variable {P : Program} {X : Ctx} {ι : Nat → Loc} {s : St} {a : Act} {w : World} {o : Oper} {v : AV} {hp' : List AO}
theorem qb0 {w1 : World} (hh : HOk ι s.hp w1.heap) {b off n : Nat} {l : List AV} (hl : rd s.hp b = some l) (hlen : off + n ≤ l.length) :
    (loadCells ((ι b).addr.add off) n).run P w1 = .ok (qv ι ((l.drop off).take n)).toArray w1 := by
  have hlen' : (qv ι ((l.drop off).take n)).length = n := by rw [q6, List.length_take, List.length_drop]; omega
  have hc : ∀ j v, (qv ι ((l.drop off).take n))[j]? = some v → w1.cell? (((ι b).addr.add off).add j) = some v := by
    intro j u hu
    rw [Q0] at hu
    cases hq : ((l.drop off).take n)[j]? with
    | none => rw [hq] at hu; cases hu
    | some q =>
      rw [hq] at hu
      simp only [Option.map_some, Option.some.injEq] at hu
      subst hu
      rw [Addr.add_add]
      refine (Yn hh hl (i := off + j) ?_).2.2
      rw [List.getElem?_take] at hq
      split at hq
      · rw [List.getElem?_drop] at hq; exact hq
      · cases hq
  have := run_loadCells (P := P) hc
  rwa [hlen'] at this
theorem qm0 {w1 : World} (hh : HOk ι s.hp w1.heap) {b : Nat} {l : List AV} (hl : rd s.hp b = some l) (hn : (ι b).null = true) : l = [] := by
  rcases Nat.eq_zero_or_pos l.length with h | h
  · exact List.length_eq_zero_iff.1 h
  · have := (Yn hh hl (List.getElem?_eq_getElem h)).1
    rw [this] at hn; cases hn
theorem q27 (hok : Ok X ι s a w) {size n : Nat} {ys : List AV} {y : Operand} (h : src s.hp size (ev s.env (Opd.of y)) = some (n, ys)) :
    (∀ w1, (Builtin.lenOf (a.eval y)).run P w1 = .ok n w1) ∧ (∀ w1 : World, w1.heap = w.heap → (Builtin.firstCells size n (a.eval y)).run P w1 = .ok (qv ι ys).toArray w1) ∧
      ys.length = n * size ∧ AV.qy s.hp.length ys := by
  unfold src at h
  split at h
  · rename_i b off n' ex c hy
    split at h
    · rename_i l hl
      obtain ⟨hlen, h⟩ := ql h
      simp only [Option.some.injEq, Prod.mk.injEq] at h
      obtain ⟨rfl, rfl⟩ := h
      have h1 := (z7 hok hy (by simp)).2
      refine ⟨fun w1 => by rw [h1]; rfl, fun w1 hw => ?_, by rw [List.length_take, List.length_drop]; omega, gp (Xh (qfl hok.heap hl))⟩
      rw [h1]
      simp only [gam]
      cases hn : (ι b).null with
      | true =>
        have := qm0 hok.heap hl hn
        subst this
        simp only [cond_true, Builtin.firstCells, List.drop_nil, List.take_nil, qv]; rfl
      | false =>
        simp only [cond_false, Builtin.firstCells]
        exact qb0 (by rw [hw]; exact hok.heap) hl hlen
    · obtain ⟨hz, h⟩ := ql h
      simp only [Option.some.injEq, Prod.mk.injEq] at h
      obtain ⟨rfl, rfl⟩ := h
      have h1 := (z7 hok hy (by simp)).2
      subst hz
      refine ⟨fun w1 => by rw [h1]; rfl, fun w1 hw => ?_, by simp, trivial⟩
      rw [h1]
      simp only [gam]
      cases hn : (ι b).null with
      | true => simp only [cond_true, Builtin.firstCells, qv]; rfl
      | false =>
        simp only [cond_false, Builtin.firstCells, Nat.zero_mul]
        have := run_loadCells (P := P) (vs := []) (a := (ι b).addr.add off) (w := w1) (fun j v h => by simp at h)
        simpa [qv] using this
  · rename_i n' c hy
    obtain ⟨hz, h⟩ := ql h
    simp only [Option.some.injEq, Prod.mk.injEq] at h
    obtain ⟨rfl, rfl⟩ := h
    have h1 := (z7 hok hy (by simp)).2
    subst hz
    exact ⟨fun w1 => by rw [h1]; rfl, fun w1 _ => by rw [h1]; rfl, by simp, trivial⟩
  · rename_i l hy
    obtain ⟨hz, h⟩ := ql h
    simp only [Option.some.injEq, Prod.mk.injEq] at h
    obtain ⟨rfl, rfl⟩ := h
    have h1 := (z7 hok hy (by simp)).2
    subst hz
    refine ⟨fun w1 => by rw [h1]; rfl, fun w1 _ => ?_, by simp, ?_⟩
    · rw [h1]
      simp only [gam, Builtin.firstCells, Sem.run_pure]
      congr 1
      apply Array.ext'
      simp only [gw, List.map_map, Array.toList_map, ByteArray.data_extract, Array.toList_extract, List.extract_eq_take_drop, List.drop_zero, Nat.sub_zero, List.take_length]
      rfl
    · rw [Qh]; intro q hq; obtain ⟨c, _, rfl⟩ := List.mem_map.1 hq; trivial
  · cases h
theorem qsu (need : Nat) : ∀ (r c : Nat), Builtin.growBy need r c ≤ max c (2 * need + 768) := by
  intro r
  induction r with
  | zero => intro c; simp only [Builtin.growBy]; omega
  | succ r ih =>
    intro c
    simp only [Builtin.growBy]
    split
    · omega
    · have h1 := ih (c + (c + 768) / 4); omega
theorem qn8 {need cap : Nat} (h : cap < need) : Builtin.nextslicecap need cap ≤ 2 * need + 768 := by
  unfold Builtin.nextslicecap
  split
  · omega
  · split
    · omega
    · have := qsu need 4 cap; omega
theorem q0d {need cap bytes : Nat} (h : cap < need) (hb : need * bytes ≤ 1099511627776) (hb1 : bytes ≤ 65536) : ¬ (Builtin.nextslicecap need cap * bytes > 281474976710656) := by
  have h1 := qn8 h
  have h2 : Builtin.nextslicecap need cap * bytes ≤ (2 * need + 768) * bytes := Nat.mul_le_mul_right _ h1
  have h3 : (2 * need + 768) * bytes = 2 * (need * bytes) + 768 * bytes := by rw [Nat.add_mul, Nat.mul_assoc]
  omega
theorem qkx {e : TypeId} {b : Nat} (h : Yc P e = some b) : ∃ i, P.info? e = some i ∧ i.bytes = b := by
  unfold Yc at h
  cases hi : P.info? e with
  | none => rw [hi] at h; cases h
  | some i => rw [hi] at h; simp only [Option.map_some, Option.some.injEq] at h; exact ⟨i, rfl, h⟩
theorem Vt {base : Option Addr} {yv : Value} {sLen sCap n size : Nat} {st yt e : TypeId} {d : TypeDesc} {new : Array Value} {ty : TypeId} {w' : World}
    (hst : P.underlying st = some (.slice e)) (hyt : P.underlying yt = some d) (hd : ∀ k, d ≠ .int k) (hn : xz P e = some size)
    (hlen : (Builtin.lenOf yv).run P w = .ok n w) (hnew : (Builtin.firstCells size n yv).run P w = .ok new w) (hroom : sLen + n ≤ sCap)
    (hstore : ∀ ad, base = some ad → (storeCells (ad.add (sLen * size)) new.toList).run P w = .ok () w') (hnil : base = none → w' = w) :
    (Builtin.append_ #[st, yt] ty #[.slice base sLen sCap, yv]).run P w = .ok (.slice base (sLen + n) sCap) w' := by
  cases d
  case int k => exact absurd rfl (hd k)
  all_goals
    unfold Builtin.append_
    simp only [List.getElem?_toArray, List.getElem?_cons_zero, List.getElem?_cons_succ, Sem.run_bind, qp hst, Result.andThen_ok, j9 hn, qp hyt, Sem.run_pure,
      Bool.false_eq_true, if_false, hlen, hroom, if_true, Bool.not_false, hnew]
    cases base with
    | none => simp only [hnil rfl, Sem.run_pure, Result.andThen_ok]
    | some ad => simp only [Sem.run_bind, hstore ad rfl, Sem.run_pure, Result.andThen_ok]
theorem Uu {yv : Value} {base : Option Addr} {sLen sCap n size bytes : Nat} {st yt e : TypeId} {d : TypeDesc} {old new : Array Value} {ty : TypeId} {z : List AV}
    (hst : P.underlying st = some (.slice e)) (hyt : P.underlying yt = some d) (hd : ∀ k, d ≠ .int k) (hn : xz P e = some size)
    (hby : Yc P e = some bytes) (hz : Jt P e = some z) (hzl : z.length = size) (hs1 : 1 ≤ size)
    (hlen : (Builtin.lenOf yv).run P w = .ok n w) (hold : (Builtin.firstCells size sLen (.slice base sLen sCap)).run P w.drew = .ok old w.drew)
    (hnew : (Builtin.firstCells size n yv).run P w.drew = .ok new w.drew) (hroom : ¬ sLen + n ≤ sCap)
    (hb : (sLen + n) * bytes ≤ 1099511627776) (hb0 : 1 ≤ bytes) (hb1 : bytes ≤ 65536) :
    ∃ cap, sLen + n ≤ cap ∧ (Builtin.append_ #[st, yt] ty #[.slice base sLen sCap, yv]).run P w =
      .ok (.slice (some ⟨w.heap.size, 0, none⟩) (sLen + n) cap) (w.drew.alloc (.cells (old ++ new ++ (qv ι (rep (cap - (sLen + n)) z)).toArray) e)) := by
  obtain ⟨i, hi, hib⟩ := qkx hby
  obtain ⟨zv, hzv, hze⟩ := J5 hz
  have hg : ¬ (Builtin.nextslicecap (sLen + n) sCap * bytes > 2 ^ 48) := q0d (need := sLen + n) (cap := sCap) (bytes := bytes) (by omega) hb hb1
  have hmax : ¬ (((sLen + n : Nat) : Int) > IntKind.i64.max ∧ (False ∨ bytes = 0)) := by
    rintro ⟨_, h | h⟩
    · cases h
    · omega
  refine ⟨(sLen + n) + w.tape w.drawn (.appendCap (sLen + n) sCap e) % (2 ^ 63 - (sLen + n)), by omega, ?_⟩
  have hrest : ∀ k, Builtin.zeroCells zv.cells k = (qv ι (rep k z)).toArray := by
    intro k
    have hl : zv.cells.size = size := by rw [← hzl, hze]; simp
    rw [Builtin.zeroCells, hl]
    have := qgg (ι := ι) (k := k) hze hzl hs1
    rw [hl] at this; exact this
  cases d
  case int k => exact absurd rfl (hd k)
  all_goals
    unfold Builtin.append_
    simp only [List.getElem?_toArray, List.getElem?_cons_zero, List.getElem?_cons_succ, Sem.run_bind, qp hst, Result.andThen_ok, j9 hn, qp hyt, Sem.run_pure,
      Bool.false_eq_true, if_false, hlen, hroom, Bool.not_false, typeInfo, run_program, hi, hib, hmax, if_true]
    rw [if_neg hg]
    simp only [Sem.run_bind, run_choose, Question.forced, Question.cut, Bool.false_eq_true, if_false, Result.andThen_ok, run_askRoom, Sem.run_pure, run_program, hi]
    rw [show ({ heap := w.heap, tape := w.tape, drawn := w.drawn + 1, os := w.os, output := w.output } : World) = w.drew from rfl]
    simp only [hold, Result.andThen_ok, hnew, U8 hzv, hrest, newRow, Sem.run_bind, run_newObj, Sem.run_pure]
    rfl
theorem qk9 {w : World} {b : Nat} {o : Obj} (h : w.heap[b]? = some o) : jh w b o = w := by
  have : w.heap.setIfInBounds b o = w.heap := by
    apply Array.ext_getElem?
    intro i
    rw [Array.getElem?_setIfInBounds]
    split
    · rename_i e; subst e
      split
      · exact h.symm
      · rename_i hlt; exact absurd (Array.getElem?_eq_some_iff.1 h).1 hlt
    · rfl
  unfold jh
  rw [this]
theorem qsj (n : Nat) : calm (0, 0) n := fun i _ h => absurd h.2 (by simp)
theorem qeo (hok : Ok X ι s a w) {hp1 : List AO} (h1 : Ok X ι ⟨s.env, hp1⟩ a w) (hl1 : hp1.length = s.hp.length) {L ys z : List AV} {size need cap : Nat} {e : TypeId} (hL : AV.qy s.hp.length L)
    (hys : AV.qy s.hp.length ys) (hsz : L.length + ys.length = need * size) (hz : z.length = size) (hcap : need ≤ cap) :
    Res X s a (.ok (.value (.slice (some ⟨w.heap.size, 0, none⟩) need cap)) (w.drew.alloc (.cells ((qv ι L).toArray ++ (qv ι ys).toArray ++ (qv ι (rep (cap - need) z)).toArray) e)))
      (.slc s.hp.length 0 need false 0) (hp1 ++ [.vec size (L ++ ys)]) := by
  have hu : AV.qy hp1.length (L ++ ys) := by rw [hl1]; exact kp.2 ⟨hL, hys⟩
  have h2 := h1.drew.alloc (.vec size (L ++ ys)) (.cells ((qv ι L).toArray ++ (qv ι ys).toArray ++ (qv ι (rep (cap - need) z)).toArray) e) cap
    (j4 (by simp) _ hu) (.inr ⟨rfl, w.heap.size, ((qv ι L).toArray ++ (qv ι ys).toArray ++ (qv ι (rep (cap - need) z)).toArray), e, (0, 0), qv ι (rep (cap - need) z), rfl, by show (w.heap.push _)[w.heap.size]? = _; simp, ?_, qsj _, ?_⟩)
  · refine ⟨_, _, _, .inl rfl, fun _ => ⟨by simp [AV.under, hl1], ?_⟩, h2⟩
    rw [← hl1]
    simp [gam, jw, Addr.uk]
  · rw [← vd (vw (ι := ι)) _ hu, wi]
    simp
  · simp only [Array.size_append, List.size_toArray, q6, qfi, hz]
    rw [hsz, ← Nat.add_mul]; congr 1; omega
theorem qso (hok : Ok X ι s a w) {st yt e : TypeId} {d : TypeDesc} {x y : Operand} {size bytes : Nat} {z : List AV} (ho : o.op = .call { callee := .builtin .append, args := #[x, y], argTypes := #[st, yt] })
    (hst : P.underlying st = some (.slice e)) (hyt : P.underlying yt = some d) (hd : ∀ k, d ≠ .int k) (hn : xz P e = some size) (hby : Yc P e = some bytes)
    (hz : Jt P e = some z) (hzl : z.length = size)
    (hs : qf s.env s.hp (.append size bytes (Opd.of x) (Opd.of y)) = some (v, hp')) : Res X s a ((execOp a.eval o).run P w) v hp' := by
  have start : ∀ r : Result Value, (Builtin.append_ #[st, yt] o.type #[a.eval x, a.eval y]).run P w = r → (execOp a.eval o).run P w = r.andThen fun v w' => .ok (.value v) w' := by
    intro r hr
    unfold execOp; rw [ho]
    simp only [resolve, List.map_toArray, List.map_cons, List.map_nil, Sem.run_bind, Sem.run_pure, Result.andThen_ok, invoke, builtin]
    rw [hr]
  simp only [qf] at hs
  split at hs
  · rename_i n ys hsrc
    obtain ⟨hlen, hfirst, hyl, hyu⟩ := q27 (P := P) hok hsrc
    split at hs
    · rename_i b len ex c hx
      obtain ⟨hbu, h1⟩ := z7 hok hx (by simp)
      split at hs
      ·
        rename_i sz l hb
        obtain ⟨⟨hq1, hq2, hq3, hll, hone, hroomb, hb1, hs1⟩, hs2⟩ := ql hs
        clear hs
        subst hq1 hq2 hq3
        simp only [Option.some.injEq, Prod.mk.injEq] at hs2
        obtain ⟨rfl, rfl⟩ := hs2
        obtain ⟨hlu, hrel⟩ := hok.heap.rel _ _ hb
        have hrd : rd s.hp b = some l := by simp [rd, hb]
        have htl : (l.take (len * sz)).length = len * sz := by rw [List.length_take]; omega
        simp only [gam, Nat.sub_zero, Addr.add_zero, cond_false] at h1
        by_cases hroom : len + n ≤ (ι b).cap
        · rcases hrel with ⟨hnull, hcap, hl0⟩ | ⟨hnull, blk, cc, ty, fz, exx, ha, hh, hc, hcalm, hcs⟩
          ·
            subst hl0
            have hz0 : len = 0 ∧ n = 0 := by omega
            obtain ⟨rfl, rfl⟩ := hz0
            have hy0 : ys = [] := List.length_eq_zero_iff.1 (by omega)
            subst hy0
            have hr := Vt (P := P) (w := w) (w' := w) (ty := o.type) (base := none) (yv := a.eval y) (sLen := 0) (sCap := (ι b).cap) hst hyt hd hn (hlen w) (hfirst w rfl) hroom (fun ad h => by cases h) (fun _ => rfl)
            have e : a.eval x = .slice none 0 (ι b).cap := by rw [h1, hnull]; rfl
            rw [← e] at hr
            rw [start _ hr, show List.take (0 * sz) ([] : List AV) ++ [] = [] from by simp]
            refine ⟨_, _, _, .inl rfl, fun _ => ⟨by simp [AV.under], ?_⟩, hok.move (l := ι b) (o' := .vec sz []) hb rfl trivial rfl rfl (.inl ⟨hnull, hcap, rfl⟩)⟩
            simp [gam, jw, hnull, e]
          ·
            have hcl : cc.size = l.length + exx.length := by rw [← Array.length_toList, hc, List.length_append, q6]
            have hfit : len * sz + ys.length ≤ cc.size := by
              rw [hyl, ← Nat.add_mul, ← hcs]; exact Nat.mul_le_mul_right _ hroom
            have hone' : ∀ v ∈ qv ι ys, v.oneCell' = true := by
              rw [gw]; intro v hv
              obtain ⟨q, hq, rfl⟩ := List.mem_map.1 hv
              exact AV.qeh (List.all_eq_true.1 hone q hq)
            have hst0 := Za (P := P) (qv ι ys) w cc (len * sz) 0 hh hcalm hone' (by rw [q6]; omega)
            have hr := Vt (P := P) (w := w) (ty := o.type) (base := some (ι b).addr) (yv := a.eval y) (sLen := len) (sCap := (ι b).cap) hst hyt hd hn (hlen w) (hfirst w rfl) hroom
              (fun ad h => by cases h; rw [ha, Addr.uk]; exact hst0) (fun h => by cases h)
            have e : a.eval x = .slice (some (ι b).addr) len (ι b).cap := by rw [h1, hnull]; rfl
            rw [← e] at hr
            rw [start _ hr]
            have hset : Ok X ι ⟨s.env, s.hp.set b (.vec sz (l.take (len * sz) ++ ys))⟩ a
                (if qv ι ys = [] then w else jh w blk (.cells (cc.toList.take (len * sz + 0) ++ qv ι ys ++ cc.toList.drop (len * sz + 0 + (qv ι ys).length)).toArray ty fz)) := by
              have hnew : qv ι (l.take (len * sz) ++ ys) = cc.toList.take (len * sz) ++ qv ι ys := by
                rw [wi, qbr, hc, List.take_append_of_le_length (by rw [q6]; exact hll)]
              have hu : AV.qy s.hp.length (l.take (len * sz) ++ ys) := kp.2 ⟨gp hlu, hyu⟩
              by_cases hy0 : qv ι ys = []
              · rw [if_pos hy0]
                have e0 : jh w (ι b).addr.block (.cells cc ty fz) = w := by
                  rw [ha]; exact qk9 hh
                have := hok.set (j := b) (o' := .vec sz (l.take (len * sz) ++ ys)) (ob := .cells cc ty fz) hb rfl hnull hu
                  (.inr ⟨hnull, blk, cc, ty, fz, cc.toList.drop (len * sz), ha, by rw [ha]; exact bb hh, by rw [hnew, hy0, List.append_nil, List.take_append_drop], hcalm, hcs⟩)
                rwa [e0] at this
              · rw [if_neg hy0]
                have := hok.set (j := b) (o' := .vec sz (l.take (len * sz) ++ ys))
                  (ob := .cells (cc.toList.take (len * sz + 0) ++ qv ι ys ++ cc.toList.drop (len * sz + 0 + (qv ι ys).length)).toArray ty fz) hb rfl hnull hu
                  (.inr ⟨hnull, blk, _, ty, fz, cc.toList.drop (len * sz + 0 + (qv ι ys).length), ha, by rw [ha]; exact bb hh, by simp only [Nat.add_zero]; rw [hnew], ?_, ?_⟩)
                · rw [ha] at this; exact this
                · intro i hi; refine hcalm i ?_
                  simp only [List.size_toArray, List.length_append, List.length_take, List.length_drop, q6, Array.length_toList] at hi; omega
                · simp only [List.size_toArray, List.length_append, List.length_take, List.length_drop, q6, Array.length_toList]; omega
            have hbl : b < s.hp.length := (List.getElem?_eq_some_iff.1 hb).1
            have hget : (s.hp.set b (.vec sz (l.take (len * sz) ++ ys)))[b]? = some (.vec sz (l.take (len * sz) ++ ys)) := List.getElem?_set_self hbl
            have hrl := (hset.heap.rel b _ hget)
            try simp only [List.length_set] at hrl
            have hmv := hset.move (l := ι b) (o' := .vec sz (l.take (len * sz) ++ ys)) hget rfl (AO.jf (by simp) _ hrl.1) rfl rfl
              (hrl.2.ve (n := s.hp.length) (AO.jf (by simp) _ hrl.1) (by simp only [List.length_set]; exact vw) fun _ _ => rfl)
            simp only [List.length_set, List.set_set] at hmv
            refine ⟨_, _, _, .inl rfl, fun _ => ⟨by simp [AV.under], ?_⟩, hmv⟩
            simp [gam, jw, hnull, Addr.add_zero]
        ·
          have hold : (Builtin.firstCells sz len (.slice (cond (ι b).null none (some (ι b).addr)) len (ι b).cap)).run P w.drew = .ok (qv ι (l.take (len * sz))).toArray w.drew := by
            cases hnull : (ι b).null with
            | true =>
              have := qm0 hok.heap hrd hnull
              subst this
              simp only [cond_true, Builtin.firstCells, List.take_nil, qv, Sem.run_pure]
            | false =>
              simp only [cond_false, Builtin.firstCells]
              have := qb0 (P := P) (w1 := w.drew) (off := 0) hok.drew.heap hrd (n := len * sz) (by omega)
              rwa [Addr.add_zero, List.drop_zero] at this
          obtain ⟨cap, hcap, hr⟩ := Uu (P := P) (ι := ι) (w := w) (ty := o.type) (yv := a.eval y) hst hyt hd hn hby hz hzl hs1 (hlen w) hold (hfirst w.drew rfl) hroom hroomb hb1.1 hb1.2
          rw [← h1] at hr
          rw [start _ hr]
          exact qeo hok (hok.kill b) (by simp) (gp hlu) hyu (by rw [htl, hyl, ← Nat.add_mul]) hzl hcap
      ·
        rename_i l hb
        obtain ⟨⟨hq1, hq2, hll, hone, hroomb, hb1, hs1⟩, hs2⟩ := ql hs
        clear hs
        subst hq1 hq2
        simp only [Option.some.injEq, Prod.mk.injEq] at hs2
        obtain ⟨rfl, rfl⟩ := hs2
        obtain ⟨hlu, hnull, blk, cc, ty, fz, ha, hh, hc, hcalm⟩ := hok.heap.rel _ _ hb
        have hrd : rd s.hp b = some l := by simp [rd, hb]
        simp only [gam, Addr.add_zero, cond_true, hnull, cond_false] at h1
        by_cases hroom : c + n ≤ c
        · have hn0 : n = 0 := by omega
          subst hn0
          have hy0 : ys = [] := List.length_eq_zero_iff.1 (by omega)
          subst hy0
          have hr := Vt (P := P) (w := w) (w' := w) (ty := o.type) (base := some (ι b).addr) (yv := a.eval y) (sLen := c) (sCap := c) hst hyt hd hn (hlen w) (hfirst w rfl) hroom
            (fun ad h => rfl) (fun h => rfl)
          rw [← h1] at hr
          rw [start _ hr]
          refine ⟨_, _, _, .inl rfl, fun _ => ⟨by simp [AV.under], ?_⟩, hok.move (l := ⟨(ι b).addr, false, c⟩) (o' := .vec size (l ++ [])) hb rfl (by rw [List.append_nil]; exact j4 (by omega) _ hlu) rfl hnull.symm
            (.inr ⟨rfl, blk, cc, ty, fz, [], ha, hh, by rw [hc, List.append_nil, List.append_nil]; exact vd vw l hlu, hcalm, ?_⟩)⟩
          · simp [gam, jw, Addr.add_zero]
          · rw [← Array.length_toList, hc, q6, hll]
        · have hold : (Builtin.firstCells size c (.slice (some (ι b).addr) c c)).run P w.drew = .ok (qv ι l).toArray w.drew := by
            simp only [Builtin.firstCells]
            have := qb0 (P := P) (w1 := w.drew) (off := 0) hok.drew.heap hrd (n := c * size) (by omega)
            rwa [Addr.add_zero, List.drop_zero, List.take_of_length_le (by omega)] at this
          obtain ⟨cap, hcap, hr⟩ := Uu (P := P) (ι := ι) (w := w) (ty := o.type) (yv := a.eval y) hst hyt hd hn hby hz hzl hs1 (hlen w) hold (hfirst w.drew rfl) hroom hroomb hb1.1 hb1.2
          rw [← h1] at hr
          rw [start _ hr]
          exact qeo hok (hok.kill b) (by simp) hlu hyu (by rw [hll, hyl, ← Nat.add_mul]) hzl hcap
      · cases hs
    · rename_i hx
      obtain ⟨⟨hone, hroomb, hb1, hs1⟩, hs⟩ := ql hs
      simp only [Option.some.injEq, Prod.mk.injEq] at hs
      obtain ⟨rfl, rfl⟩ := hs
      have h1 := (z7 hok hx (by simp)).2
      simp only [gam] at h1
      by_cases hroom : 0 + n ≤ 0
      · have hn0 : n = 0 := by omega
        subst hn0
        have hy0 : ys = [] := List.length_eq_zero_iff.1 (by omega)
        subst hy0
        have hr := Vt (P := P) (w := w) (w' := w) (ty := o.type) (base := none) (yv := a.eval y) (sLen := 0) (sCap := 0) hst hyt hd hn (hlen w) (hfirst w rfl) hroom (fun ad h => by cases h) (fun _ => rfl)
        rw [← h1] at hr
        rw [start _ hr]
        refine ⟨_, _, _, .inl rfl, fun _ => ⟨by simp [AV.under], ?_⟩, hok.null size⟩
        simp [h1, gam, jw, Loc.nil]
      · obtain ⟨cap, hcap, hr⟩ := Uu (P := P) (ι := ι) (w := w) (ty := o.type) (yv := a.eval y) (base := none) (sLen := 0) (sCap := 0) (old := #[]) hst hyt hd hn hby hz hzl hs1 (hlen w) rfl (hfirst w.drew rfl) hroom (by rw [Nat.zero_add]; exact hroomb) hb1.1 hb1.2
        rw [← h1] at hr
        rw [start _ hr]
        have := qeo (e := e) (z := z) (L := []) hok hok rfl trivial hyu (need := 0 + n) (size := size) (cap := cap) (by rw [hyl]; simp) hzl hcap
        simpa [qv] using this
    · cases hs
  · cases hs
end
end Go.Am
namespace Go.Am
set_option linter.unusedVariables false
set_option linter.unusedSimpArgs false
section
variable {P : Program} {X : Ctx} {ι : Nat → Loc} {s : St} {a : Act} {w : World} {o : Oper} {v : AV} {hp' : List AO}
theorem Ok.dead (h : Ok X ι s a w) (l : Loc) : Ok X (Am.put ι s.hp.length l) ⟨s.env, s.hp ++ [.dead]⟩ a w := by
  have old : ∀ {j c}, At (Am.put ι s.hp.length l) (s.hp ++ [.dead]) j c → j < s.hp.length := by
    rintro j c ⟨x, hx, hl, _⟩
    rcases Nat.lt_or_ge j s.hp.length with hj | hj
    · exact hj
    · have : j = s.hp.length := by
        have := (List.getElem?_eq_some_iff.1 hx).1
        simp at this; omega
      subst this
      rw [List.getElem?_concat_length] at hx
      cases hx; cases hl
  refine h.mem vw (by simp) ⟨fun j x hx => ?_, fun i j c hi hj => ?_⟩ ?_ h.world
  · rw [List.length_append, List.length_singleton]
    rcases Nat.lt_or_ge j s.hp.length with hj | hj
    · rw [List.getElem?_append_left hj] at hx
      obtain ⟨h1, h2⟩ := h.heap.rel j x hx
      rw [← vw j hj]
      exact ⟨AO.jf (by omega) _ h1, h2.ve h1 vw fun _ _ => rfl⟩
    · have : j = s.hp.length := by
        have := (List.getElem?_eq_some_iff.1 hx).1
        simp at this; omega
      subst this
      rw [List.getElem?_concat_length] at hx
      cases hx
      exact ⟨trivial, trivial⟩
  · have h1 := old hi.at_
    have h2 := old hj
    obtain ⟨x, hx, hw, hn, hb⟩ := hi
    obtain ⟨y, hy, hw2, hn2, hb2⟩ := hj
    rw [List.getElem?_append_left h1] at hx
    rw [List.getElem?_append_left h2] at hy
    rw [← vw i h1] at hn hb
    rw [← vw j h2] at hn2 hb2
    exact h.heap.inj i j c ⟨x, hx, hw, hn, hb⟩ ⟨y, hy, hw2, hn2, hb2⟩
  · rintro j c hj
    have h1 := old hj.at_
    obtain ⟨x, hx, hw, hn, hb⟩ := hj
    rw [List.getElem?_append_left h1] at hx
    rw [← vw j h1] at hn hb
    exact h.dom j c ⟨x, hx, hw, hn, hb⟩
theorem q29 (hok : Ok X ι s a w) {b off len c size : Nat} {ex : Bool} {r : List AV} (hr : rd s.hp b = some r) (hlen : off + len * size ≤ r.length) (h : Zk s.hp b off len ex c size = true) :
    len ≤ cond ex c ((ι b).cap - c) := by
  cases ex with
  | true => simpa [Zk] using h
  | false =>
    simp only [Zk, cond_false] at h ⊢
    split at h
    · rename_i sz l hb
      simp only [decide_eq_true_eq] at h
      obtain ⟨rfl, rfl, h1⟩ := h
      obtain ⟨_, h2⟩ := hok.heap.rel _ _ hb
      simp only [rd, hb, Option.some.injEq] at hr
      subst hr
      rcases h2 with ⟨_, hc0, rfl⟩ | ⟨_, blk, cc, ty, fz, exx, _, _, hc, _, hcs⟩
      · simp only [List.length_nil, Nat.le_zero, Nat.add_eq_zero_iff, Nat.mul_eq_zero] at hlen
        omega
      · have hcl : cc.size = l.length + exx.length := by rw [← Array.length_toList, hc, List.length_append, q6]
        have : (c + len) * sz ≤ (ι b).cap * sz := by rw [Nat.add_mul, hcs]; omega
        have := Nat.le_of_mul_le_mul_right this (by omega)
        omega
    · cases h
theorem qx3 (hok : Ok X ι s a w) {t e : TypeId} {n : Nat} {x : Operand} {lo hi : Option Operand} (ho : o.op = .slice t x lo hi none) (ht : P.underlying t = some (.slice e)) (hn : xz P e = some n)
    (hs : qf s.env s.hp (.qcz n (Opd.of x) (lo.map Opd.of) (hi.map Opd.of)) = some (v, hp')) : Res X s a ((execOp a.eval o).run P w) v hp' := by
  simp only [qf] at hs
  split at hs
  · rename_i b off len ex c hx
    split at hs
    · rename_i r hr
      split at hs
      · rename_i l h hl
        obtain ⟨⟨hlen, hcap⟩, hs⟩ := ql hs
        obtain ⟨hbu, h1⟩ := z7 hok hx (by simp)
        have hcl := q29 hok hr hlen hcap
        obtain ⟨hlim, hlh, hh, _⟩ := qp5 (P := P) (cap' := cond ex c ((ι b).cap - c)) hok true hcl hl (Nat.le_refl _)
        have run : (execOp a.eval o).run P w = .ok (.value (.slice (if cond ex c ((ι b).cap - c) = l then cond (ι b).null none (some ((ι b).addr.add off)) else (cond (ι b).null none (some ((ι b).addr.add off))).map (·.add (l * n))) (h - l) (cond ex c ((ι b).cap - c) - l))) w := by
          unfold execOp; rw [ho]
          simp only [h1, gam, Instr.sliceAt, Sem.run_bind, qp ht, Result.andThen_ok, Instr.slice, Option.map_none, hlim, j9 hn, Sem.run_pure]
        split at hs
        · rename_i hc
          simp only [Option.some.injEq, Prod.mk.injEq] at hs
          obtain ⟨rfl, rfl⟩ := hs
          rw [run]
          refine Res.same hok fun _ => ⟨hbu, ?_⟩
          simp only [gam]
          congr 1
          · rcases hc with rfl | hc
            · cases (ι b).null <;> simp [Addr.add_zero]
            · rw [if_neg (by omega)]
              cases (ι b).null <;> simp [Addr.add_add]
          · cases ex <;> simp only [cond_true, cond_false]; omega
        · rename_i hc
          simp only [Option.some.injEq, Prod.mk.injEq] at hs
          obtain ⟨rfl, rfl⟩ := hs
          rw [run]
          refine ⟨_, _, _, .inl rfl, fun _ => ⟨by simp [AV.under], ?_⟩, hok.dead ⟨if cond ex c ((ι b).cap - c) = l then (ι b).addr.add off else ((ι b).addr.add off).add (l * n), (ι b).null, cond ex c ((ι b).cap - c) - l⟩⟩
          have e0 : h - l = 0 := by omega
          simp only [gam, jw, e0, Nat.sub_zero, cond_false, Addr.add_zero]
          congr 1
          cases (ι b).null <;> simp
          split <;> rfl
      · cases hs
    · cases hs
  · cases hs
end
end Go.Am
namespace Go.Am
set_option linter.unusedVariables false
set_option linter.unusedSimpArgs false
theorem Jz : ∀ (ks ks' : List LT) (a b : List AV) (r : Bool), j6 (ks ++ ks') a b = some r →
    ∃ r1 r2, j6 ks (a.take ks.length) (b.take ks.length) = some r1 ∧ j6 ks' (a.drop ks.length) (b.drop ks.length) = some r2 ∧ r = (r1 && r2) ∧ ks.length ≤ a.length ∧ ks.length ≤ b.length
  | [], ks', a, b, r, h => ⟨true, r, by simp [j6], by simpa using h, by simp, by simp, by simp⟩
  | k :: ks, ks', [], b, r, h => by simp [j6] at h
  | k :: ks, ks', _ :: _, [], r, h => by simp [j6] at h
  | k :: ks, ks', x :: a, y :: b, r, h => by
    simp only [List.cons_append, j6] at h
    split at h
    · rename_i u v hu hv
      simp only [Option.some.injEq] at h
      obtain ⟨r1, r2, h1, h2, h3, h4, h5⟩ := Jz ks ks' a b v hv
      refine ⟨u && r1, r2, ?_, h2, ?_, by simpa using h4, by simpa using h5⟩
      · simp only [List.length_cons, List.take_succ_cons, j6, hu, h1]
      · rw [← h, h3, Bool.and_assoc]
    · cases h
theorem Xe : ∀ (ks : List LT) (a b : List AV) (r : Bool), j6 ks a b = some r → a.length = ks.length ∧ b.length = ks.length
  | [], [], [], _, _ => ⟨rfl, rfl⟩
  | [], [], _ :: _, _, h => by simp [j6] at h
  | [], _ :: _, _, _, h => by simp [j6] at h
  | _ :: _, [], _, _, h => by simp [j6] at h
  | _ :: _, _ :: _, [], _, h => by simp [j6] at h
  | k :: ks, x :: a, y :: b, r, h => by
    simp only [j6] at h
    split at h
    · rename_i u v hu hv
      have := Xe ks a b v hv
      simp [this.1, this.2]
    · cases h
section
variable {P : Program} {w : World} {ι : Nat → Loc}
def mkv (ι : Nat → Loc) (agg : Bool) (l : List AV) : Value := cond agg (.agg (qv ι l).toArray) (gam ι (l.headD .top))
theorem Wm {t : TypeId} {d : TypeDesc} {l : List AV} {off n : Nat} (ht : P.underlying t = some d) (hn : xz P t = some n) (hlen : off + n ≤ l.length) (h1 : q8 d = false → n = 1) :
    (part t (qv ι l).toArray off).run P w = .ok (mkv ι (q8 d) ((l.drop off).take n)) w := by
  cases hd : q8 d with
  | true => rw [Xg ht hd hn, u5]; rfl
  | false =>
    have hn1 := h1 hd
    subst hn1
    have hlt : off < l.length := by omega
    rw [qir ht hd (x := gam ι l[off]) (by rw [List.getElem?_toArray, Q0, List.getElem?_eq_getElem hlt]; rfl)]
    simp only [mkv, cond_false]
    rw [List.drop_eq_getElem_cons hlt]
    rfl
theorem ke {d : Nat} {t : TypeId} {ks : List LT} (h : leaves P d t = some ks) : ∃ td, P.underlying t = some td ∧ (q8 td = false → ks.length = 1) := by
  cases d with
  | zero => simp [leaves] at h
  | succ d =>
    simp only [leaves] at h
    split at h <;> first
      | (cases h; exact ⟨_, ‹_›, fun _ => rfl⟩)
      | (exact ⟨_, ‹_›, fun hh => by simp [q8] at hh⟩)
      | cases h
theorem Bt {d D : Nat} {l1 l2 : List AV}
    (ih : ∀ t ks td l1 l2 r, leaves P d t = some ks → P.underlying t = some td → j6 ks l1 l2 = some r → (Op.equalIn (D + d) t (mkv ι (q8 td) l1) (mkv ι (q8 td) l2)).run P w = .ok r w) :
    ∀ (fs : List Field) (off : Nat) (ks : List LT) (r : Bool), Yt (leaves P d) P fs off = some ks → j6 ks (l1.drop off) (l2.drop off) = some r →
      (Op.eqFields (D + d) (qv ι l1).toArray (qv ι l2).toArray fs).run P w = .ok r w
  | [], off, ks, r, h, hr => by
    simp only [Yt, Option.some.injEq] at h
    subst h
    have := Xe _ _ _ _ hr
    have h1 : l1.drop off = [] := List.length_eq_zero_iff.1 this.1
    have h2 : l2.drop off = [] := List.length_eq_zero_iff.1 this.2
    rw [h1, h2] at hr
    simp only [j6, Option.some.injEq] at hr
    subst hr; rfl
  | f :: fs, off, ks, r, h, hr => by
    simp only [Yt] at h
    split at h
    · rename_i k n hk hn
      split at h
      · rename_i hc
        obtain ⟨hname, hoff, hkl⟩ := hc
        split at h
        · rename_i rest hrest
          simp only [Option.some.injEq] at h
          subst h
          obtain ⟨r1, r2, h1, h2, h3, h4, h5⟩ := Jz k rest _ _ r hr
          rw [List.length_drop] at h4 h5
          obtain ⟨td, htd, hag⟩ := ke hk
          subst hkl
          have hone : q8 td = false → k.length = 1 := hag
          simp only [Op.eqFields, hname, ne_eq, not_false_eq_true, if_true, Sem.run_bind]
          by_cases hk0 : k.length = 0
          · have hag' : q8 td = true := by cases hq : q8 td with | true => rfl | false => have := hone hq; omega
            rw [hoff, Xg htd hag' hn, Result.andThen_ok, Xg htd hag' hn]
            simp only [Result.andThen_ok, u5]
            have e1 := ih f.type k td _ _ r1 hk htd h1
            rw [hag'] at e1
            simp only [mkv, cond_true] at e1
            rw [e1]
            simp only [Result.andThen_ok]
            cases r1 with
            | false => simp only [Bool.not_false, if_true, Sem.run_pure, h3, Bool.false_and]
            | true =>
              simp only [Bool.not_true, Bool.false_eq_true, if_false, h3, Bool.true_and]
              exact Bt ih fs _ rest r2 hrest (by rw [List.drop_drop, List.drop_drop] at h2; exact h2)
          · rw [hoff, Wm htd hn (by omega) hone, Result.andThen_ok, Wm htd hn (by omega) hone, Result.andThen_ok, ih f.type k td _ _ r1 hk htd h1, Result.andThen_ok]
            cases r1 with
            | false => simp only [Bool.not_false, if_true, Sem.run_pure, h3, Bool.false_and]
            | true =>
              simp only [Bool.not_true, Bool.false_eq_true, if_false, h3, Bool.true_and]
              exact Bt ih fs _ rest r2 hrest (by rw [List.drop_drop, List.drop_drop] at h2; exact h2)
        · cases h
      · cases h
    · cases h
theorem qee {a b : AV} {r : Bool} (h : leq .int a b = some r) : ∃ k x y, a = .int k x ∧ b = .int k y ∧ r = (x == y) := by
  cases a <;> simp only [leq, reduceCtorEq] at h
  cases b <;> simp only [reduceCtorEq] at h
  split at h
  · rename_i hk; subst hk; cases h; exact ⟨_, _, _, rfl, rfl, rfl⟩
  · cases h
theorem qba {a b : AV} {r : Bool} (h : leq .bool a b = some r) : ∃ x y, a = .bool x ∧ b = .bool y ∧ r = (x == y) := by
  cases a <;> simp only [leq, reduceCtorEq] at h
  cases b <;> simp only [reduceCtorEq] at h
  cases h; exact ⟨_, _, rfl, rfl, rfl⟩
theorem qec {a b : AV} {r : Bool} (h : leq .str a b = some r) : ∃ x y, a = .str x ∧ b = .str y ∧ r = (x == y) := by
  cases a <;> simp only [leq, reduceCtorEq] at h
  cases b <;> simp only [reduceCtorEq] at h
  cases h; exact ⟨_, _, rfl, rfl, rfl⟩
theorem qax {k : LT} {a b : AV} {r : Bool} (h : j6 [k] [a] [b] = some r) : leq k a b = some r := by
  simp only [j6] at h
  split at h
  · rename_i x y hx hy
    simp only [Option.some.injEq] at hy h
    subst hy
    rw [hx, ← h, Bool.and_true]
  · cases h
theorem qfm {k : LT} {l l' : List AV} {r : Bool} (h : j6 [k] l l' = some r) : ∃ a b, l = [a] ∧ l' = [b] ∧ leq k a b = some r := by
  obtain ⟨h1, h2⟩ := Xe _ _ _ _ h
  match l, l', h1, h2 with
  | [a], [b], _, _ => exact ⟨a, b, rfl, rfl, qax h⟩
theorem qeq {d D n : Nat} {e : TypeId} {td : TypeDesc} {k : List LT} {l1 l2 : List AV} (hk : leaves P d e = some k) (hn : xz P e = some n) (hkl : k.length = n) (htd : P.underlying e = some td)
    (ih : ∀ t ks td l1 l2 r, leaves P d t = some ks → P.underlying t = some td → j6 ks l1 l2 = some r → (Op.equalIn (D + d) t (mkv ι (q8 td) l1) (mkv ι (q8 td) l2)).run P w = .ok r w)
    {β : Type} (f : Nat → β → Sem (ForInStep β)) (b0 bF : β) (g : β → Bool) (hg0 : g b0 = true) (hgF : g bF = false)
    (hf : ∀ i b, (f i b).run P w = ((part e (qv ι l1).toArray (i * n)).run P w).andThen fun x w1 => ((part e (qv ι l2).toArray (i * n)).run P w1).andThen fun y w2 =>
        ((Op.equalIn (D + d) e x y).run P w2).andThen fun r w3 => if (!r) = true then .ok (.done bF) w3 else .ok (.yield b0) w3) :
    ∀ (m i : Nat) (r : Bool), j6 (qnv m k) (l1.drop (i * n)) (l2.drop (i * n)) = some r → ∃ b, (forIn (List.range' i m) b0 f).run P w = .ok b w ∧ g b = r
  | 0, i, r, hr => by
    have := Xe _ _ _ _ hr
    simp only [qnv, List.length_nil] at this
    have h1 : l1.drop (i * n) = [] := List.length_eq_zero_iff.1 this.1
    have h2 : l2.drop (i * n) = [] := List.length_eq_zero_iff.1 this.2
    rw [h1, h2] at hr
    simp only [qnv, j6, Option.some.injEq] at hr
    exact ⟨b0, by simp, by rw [hg0, hr]⟩
  | m + 1, i, r, hr => by
    simp only [qnv] at hr
    obtain ⟨r1, r2, h1, h2, h3, h4, h5⟩ := Jz k _ _ _ r hr
    rw [List.length_drop] at h4 h5
    obtain ⟨td', htd', hag⟩ := ke hk
    rw [htd] at htd'; cases htd'
    have e1 := ih e k td _ _ r1 hk htd h1
    have hrun : (f i b0).run P w = if (!r1) = true then .ok (.done bF) w else .ok (.yield b0) w := by
      rw [hf]
      by_cases hk0 : k.length = 0
      · have hag' : q8 td = true := by cases hq : q8 td with | true => rfl | false => have := hag hq; omega
        rw [Xg htd hag' hn, Result.andThen_ok, Xg htd hag' hn, Result.andThen_ok, u5, u5]
        rw [hag', hkl] at e1
        simp only [mkv, cond_true] at e1
        rw [e1, Result.andThen_ok]
      · rw [Wm htd hn (by omega) (by rw [← hkl]; exact hag), Result.andThen_ok, Wm htd hn (by omega) (by rw [← hkl]; exact hag), Result.andThen_ok]
        rw [hkl] at e1
        rw [e1, Result.andThen_ok]
    simp only [List.range'_succ, List.forIn_cons, Sem.run_bind, hrun]
    cases r1 with
    | false => exact ⟨bF, by simp, by rw [hgF, h3]; rfl⟩
    | true =>
      simp only [Bool.not_true, Bool.false_eq_true, if_false, Result.andThen_ok]
      obtain ⟨b, hb, hgb⟩ := qeq hk hn hkl htd ih f b0 bF g hg0 hgF hf m (i + 1) r2 (by
        rw [List.drop_drop, List.drop_drop] at h2
        rw [Nat.add_mul, Nat.one_mul, ← hkl]; rw [← hkl] at h2; exact h2)
      exact ⟨b, hb, by rw [hgb, h3]; rfl⟩
theorem qa6 : ∀ (d D : Nat) (t : TypeId) (ks : List LT) (td : TypeDesc) (l1 l2 : List AV) (r : Bool), leaves P d t = some ks → P.underlying t = some td → j6 ks l1 l2 = some r →
    (Op.equalIn (D + d) t (mkv ι (q8 td) l1) (mkv ι (q8 td) l2)).run P w = .ok r w
  | 0, _, _, _, _, _, _, _, h, _, _ => by simp [leaves] at h
  | d + 1, D, t, ks, td, l1, l2, r, h, htd, hr => by
    simp only [leaves] at h
    rw [htd] at h
    cases td <;> simp only [reduceCtorEq] at h
    case int k =>
      cases h
      obtain ⟨a, b, rfl, rfl, hl⟩ := qfm hr
      obtain ⟨k1, x, y, rfl, rfl, rfl⟩ := qee hl
      simp only [q8, mkv, cond_false, List.headD_cons, gam]
      exact run_equalIn_int w (D + d) t _ _ _ _ htd
    case bool =>
      cases h
      obtain ⟨a, b, rfl, rfl, hl⟩ := qfm hr
      obtain ⟨x, y, rfl, rfl, rfl⟩ := qba hl
      simp only [q8, mkv, cond_false, List.headD_cons, gam]
      exact run_equalIn_bool' w (D + d) t _ _ htd
    case string =>
      cases h
      obtain ⟨a, b, rfl, rfl, hl⟩ := qfm hr
      obtain ⟨x, y, rfl, rfl, rfl⟩ := qec hl
      simp only [q8, mkv, cond_false, List.headD_cons, gam]
      rw [show D + (d + 1) = (D + d) + 1 from rfl, run_equalIn_string w (D + d) t _ _ htd, ByteArray.toList_mk, ByteArray.toList_mk]
    case struct fs =>
      split at h
      · cases h
      · rename_i hst
        have hfo : P.fieldsOf t = fs := by simp [Program.fieldsOf, htd]
        simp only [q8, mkv, cond_true]
        rw [show D + (d + 1) = (D + d) + 1 from rfl, run_equalIn_struct w (D + d) t _ _ (by rw [hfo]; exact htd) (by simpa using hst), hfo]
        exact Bt (qa6 d D) fs.toList 0 ks r h (by simpa using hr)
    case array n e =>
      split at h
      · rename_i k m hk hm
        split at h
        · rename_i hkl
          simp only [Option.some.injEq] at h
          subst h
          obtain ⟨tde, htde, _⟩ := ke hk
          simp only [q8, mkv, cond_true]
          rw [show D + (d + 1) = (D + d) + 1 from rfl]
          simp only [Op.equalIn, Sem.run_bind, qp htd, Result.andThen_ok, j9 hm]
          rw [Std.Legacy.Range.forIn_eq_forIn_range']
          simp only [Std.Legacy.Range.size, Nat.sub_zero, Nat.add_sub_cancel, Nat.div_one]
          obtain ⟨b, hb, hg⟩ := qeq (P := P) (w := w) (ι := ι) hk hm hkl htde (qa6 d D)
            (fun i (__s : Option Bool × Unit) => do
              let __do_lift ← part e (qv ι l1).toArray (i * m)
              let __do_lift_1 ← part e (qv ι l2).toArray (i * m)
              let __do_lift ← Op.equalIn (D + d) e __do_lift __do_lift_1
              if (!__do_lift) = true then pure (ForInStep.done (some false, ())) else pure (ForInStep.yield (none, ())))
            (none, ()) (some false, ()) (fun b => match b.1 with | some r => r | none => true) rfl rfl
            (fun i b => by
              simp only [Sem.run_bind]
              generalize (part e (qv ι l1).toArray (i * m)).run P w = q1
              cases q1 with
              | halt h w' => rfl
              | ok x w1 =>
                simp only [Result.andThen_ok]
                generalize (part e (qv ι l2).toArray (i * m)).run P w1 = q2
                cases q2 with
                | halt h w' => rfl
                | ok y w2 =>
                  simp only [Result.andThen_ok]
                  generalize (Op.equalIn (D + d) e x y).run P w2 = q3
                  cases q3 with
                  | halt h w' => rfl
                  | ok z w3 => cases z <;> rfl) n 0 r (by simpa using hr)
          rw [hb]
          simp only [Result.andThen_ok]
          obtain ⟨b1, b2⟩ := b
          cases b1 <;> (simp only at hg; subst hg; rfl)
        · cases h
      · cases h
theorem qa9 {d D : Nat} {emp : Bool} {l : List AV}
    (ih : ∀ t ks td l, leaves P d t = some ks → P.underlying t = some td → j6 ks l l = some true → (Instr.checkKey emp (D + d) t (mkv ι (q8 td) l)).run P w = .ok () w)
    {β : Type} (f : Field → β → Sem (ForInStep β)) (b0 : β)
    (hf : ∀ fl b, fl.name ≠ "_" → (f fl b).run P w = ((part fl.type (qv ι l).toArray fl.offset).run P w).andThen fun x w1 => ((Instr.checkKey emp (D + d) fl.type x).run P w1).andThen fun _ w3 => .ok (.yield b0) w3) :
    ∀ (fs : List Field) (off : Nat) (ks : List LT), Yt (leaves P d) P fs off = some ks → j6 ks (l.drop off) (l.drop off) = some true →
      (forIn fs b0 f).run P w = .ok b0 w
  | [], off, ks, h, hr => by simp
  | fl :: fs, off, ks, h, hr => by
    simp only [Yt] at h
    split at h
    · rename_i k n hk hn
      split at h
      · rename_i hc
        obtain ⟨hname, hoff, hkl⟩ := hc
        split at h
        · rename_i rest hrest
          simp only [Option.some.injEq] at h
          subst h
          obtain ⟨r1, r2, h1, h2, h3, h4, h5⟩ := Jz k rest _ _ true hr
          have hr12 : r1 = true ∧ r2 = true := Bool.and_eq_true_iff.1 h3.symm
          obtain ⟨rfl, rfl⟩ := hr12
          rw [List.length_drop] at h4
          obtain ⟨td, htd, hag⟩ := ke hk
          subst hkl
          have hrun : (f fl b0).run P w = .ok (.yield b0) w := by
            rw [hf fl b0 hname]
            by_cases hk0 : k.length = 0
            · have hag' : q8 td = true := by cases hq : q8 td with | true => rfl | false => have := hag hq; omega
              rw [hoff, Xg htd hag' hn, Result.andThen_ok, u5]
              have e1 := ih fl.type k td _ hk htd h1
              rw [hag'] at e1
              simp only [mkv, cond_true] at e1
              rw [e1]; rfl
            · rw [hoff, Wm htd hn (by omega) hag, Result.andThen_ok, ih fl.type k td _ hk htd h1]; rfl
          simp only [List.forIn_cons, Sem.run_bind, hrun, Result.andThen_ok]
          exact qa9 ih f b0 hf fs _ rest hrest (by rw [List.drop_drop] at h2; exact h2)
        · cases h
      · cases h
    · cases h
theorem qdm {d D n : Nat} {emp : Bool} {e : TypeId} {td : TypeDesc} {k : List LT} {l : List AV} (hk : leaves P d e = some k) (hn : xz P e = some n) (hkl : k.length = n) (htd : P.underlying e = some td)
    (ih : ∀ t ks td l, leaves P d t = some ks → P.underlying t = some td → j6 ks l l = some true → (Instr.checkKey emp (D + d) t (mkv ι (q8 td) l)).run P w = .ok () w)
    {β : Type} (f : Nat → β → Sem (ForInStep β)) (b0 : β)
    (hf : ∀ i b, (f i b).run P w = ((part e (qv ι l).toArray (i * n)).run P w).andThen fun x w1 => ((Instr.checkKey emp (D + d) e x).run P w1).andThen fun _ w3 => .ok (.yield b0) w3) :
    ∀ (m i : Nat), j6 (qnv m k) (l.drop (i * n)) (l.drop (i * n)) = some true → (forIn (List.range' i m) b0 f).run P w = .ok b0 w
  | 0, i, hr => by simp
  | m + 1, i, hr => by
    simp only [qnv] at hr
    obtain ⟨r1, r2, h1, h2, h3, h4, h5⟩ := Jz k _ _ _ true hr
    have hr12 : r1 = true ∧ r2 = true := Bool.and_eq_true_iff.1 h3.symm
    obtain ⟨rfl, rfl⟩ := hr12
    rw [List.length_drop] at h4
    obtain ⟨td', htd', hag⟩ := ke hk
    rw [htd] at htd'; cases htd'
    have e1 := ih e k td _ hk htd h1
    have hrun : (f i b0).run P w = .ok (.yield b0) w := by
      rw [hf]
      by_cases hk0 : k.length = 0
      · have hag' : q8 td = true := by cases hq : q8 td with | true => rfl | false => have := hag hq; omega
        rw [Xg htd hag' hn, Result.andThen_ok, u5]
        rw [hag', hkl] at e1
        simp only [mkv, cond_true] at e1
        rw [e1]; rfl
      · rw [Wm htd hn (by omega) (by rw [← hkl]; exact hag), Result.andThen_ok]
        rw [hkl] at e1
        rw [e1]; rfl
    simp only [List.range'_succ, List.forIn_cons, Sem.run_bind, hrun, Result.andThen_ok]
    exact qdm hk hn hkl htd ih f b0 hf m (i + 1) (by
      rw [List.drop_drop] at h2
      rw [Nat.add_mul, Nat.one_mul, ← hkl]; rw [← hkl] at h2; exact h2)
theorem Bk {emp : Bool} : ∀ (d D : Nat) (t : TypeId) (ks : List LT) (td : TypeDesc) (l : List AV), leaves P d t = some ks → P.underlying t = some td → j6 ks l l = some true →
    (Instr.checkKey emp (D + d) t (mkv ι (q8 td) l)).run P w = .ok () w
  | 0, _, _, _, _, _, h, _, _ => by simp [leaves] at h
  | d + 1, D, t, ks, td, l, h, htd, hr => by
    simp only [leaves] at h
    rw [htd] at h
    rw [show D + (d + 1) = (D + d) + 1 from rfl]
    cases td <;> simp only [reduceCtorEq] at h
    case int k => simp only [Instr.checkKey, Sem.run_bind, qp htd, Result.andThen_ok, q8, mkv, cond_false]; cases gam ι (l.headD .top) <;> rfl
    case bool => simp only [Instr.checkKey, Sem.run_bind, qp htd, Result.andThen_ok, q8, mkv, cond_false]; cases gam ι (l.headD .top) <;> rfl
    case string => simp only [Instr.checkKey, Sem.run_bind, qp htd, Result.andThen_ok, q8, mkv, cond_false]; cases gam ι (l.headD .top) <;> rfl
    case struct fs =>
      split at h
      · cases h
      · simp only [Instr.checkKey, Sem.run_bind, qp htd, Result.andThen_ok, q8, mkv, cond_true]
        rw [← Array.forIn_toList]
        have := qa9 (P := P) (w := w) (ι := ι) (emp := emp) (l := l) (Bk d D)
          (fun f (__s : PUnit) =>
            if f.name ≠ "_" then do
              let __do_lift ← part f.type (qv ι l).toArray f.offset
              Instr.checkKey emp (D + d) f.type __do_lift
              pure (ForInStep.yield PUnit.unit)
            else pure (ForInStep.yield PUnit.unit)) PUnit.unit
          (fun fl b hn => by
            simp only [hn, ne_eq, not_false_eq_true, if_true, Sem.run_bind]
            generalize (part fl.type (qv ι l).toArray fl.offset).run P w = q
            cases q with
            | ok x w1 =>
              simp only [Result.andThen_ok]
              generalize (Instr.checkKey emp (D + d) fl.type x).run P w1 = q2
              cases q2 <;> rfl
            | halt _ _ => rfl) fs.toList 0 ks h (by simpa using hr)
        rw [this]; rfl
    case array n e =>
      split at h
      · rename_i k m hk hm
        split at h
        · rename_i hkl
          simp only [Option.some.injEq] at h
          subst h
          obtain ⟨tde, htde, _⟩ := ke hk
          simp only [Instr.checkKey, Sem.run_bind, qp htd, Result.andThen_ok, q8, mkv, cond_true, j9 hm]
          rw [Std.Legacy.Range.forIn_eq_forIn_range']
          simp only [Std.Legacy.Range.size, Nat.sub_zero, Nat.add_sub_cancel, Nat.div_one]
          have := qdm (P := P) (w := w) (ι := ι) (emp := emp) (l := l) hk hm hkl htde (Bk d D)
            (fun i (__s : PUnit) => do
              let __do_lift ← sizeOf e
              let __do_lift ← part e (qv ι l).toArray (i * __do_lift)
              Instr.checkKey emp (D + d) e __do_lift
              pure (ForInStep.yield PUnit.unit)) PUnit.unit
            (fun i b => by
              simp only [Sem.run_bind, j9 hm, Result.andThen_ok]
              generalize (part e (qv ι l).toArray (i * m)).run P w = q
              cases q with
              | ok x w1 =>
                simp only [Result.andThen_ok]
                generalize (Instr.checkKey emp (D + d) e x).run P w1 = q2
                cases q2 <;> rfl
              | halt _ _ => rfl) n 0 (by simpa using hr)
          rw [this]; rfl
        · cases h
      · cases h
theorem qb2 {ks : List LT} {agg : Bool} {x y : AV} {r : Bool} (h : keq ks agg x y = some r) :
    ∃ l1 l2, j6 ks l1 l2 = some r ∧ (∀ ι, mkv ι agg l1 = gam ι x) ∧ (∀ ι, mkv ι agg l2 = gam ι y) := by
  unfold keq at h
  split at h
  · rename_i l l' e1 e2 e3; exact ⟨_, _, h, fun _ => rfl, fun _ => rfl⟩
  · exact ⟨_, _, h, fun _ => rfl, fun _ => rfl⟩
  · cases h
theorem qik {ks : List LT} {td : TypeDesc} {t : TypeId} {x y : AV} {r : Bool} (hk : leaves P 20 t = some ks) (ht : P.underlying t = some td) (h : keq ks (q8 td) x y = some r) :
    (Op.equal t (gam ι x) (gam ι y)).run P w = .ok r w := by
  obtain ⟨l1, l2, hl, e1, e2⟩ := qb2 h
  rw [← e1 ι, ← e2 ι]
  exact qa6 20 9980 t ks td l1 l2 r hk ht hl
theorem quw {k : LT} {a b : AV} (h : leq k a b = some true) : a = b ∧ ∀ n, Instr.sameBits n (gam ι a) (gam ι a) = true := by
  cases k
  · obtain ⟨k, x, y, rfl, rfl, e⟩ := qee h
    have := eq_of_beq e.symm; subst this
    exact ⟨rfl, fun n => by cases n <;> simp [gam, Instr.sameBits]⟩
  · obtain ⟨x, y, rfl, rfl, e⟩ := qba h
    have := eq_of_beq e.symm; subst this
    exact ⟨rfl, fun n => by cases n <;> simp [gam, Instr.sameBits]⟩
  · obtain ⟨x, y, rfl, rfl, e⟩ := qec h
    have := eq_of_beq e.symm; subst this
    exact ⟨rfl, fun n => by cases n <;> simp [gam, Instr.sameBits, beq_toListBytes]⟩
theorem Gj : ∀ {ks : List LT} {a b : List AV}, j6 ks a b = some true → a = b ∧ ∀ n, ∀ x ∈ a, Instr.sameBits n (gam ι x) (gam ι x) = true
  | [], [], [], _ => ⟨rfl, fun _ _ h => by cases h⟩
  | [], [], _ :: _, h => by simp [j6] at h
  | [], _ :: _, _, h => by simp [j6] at h
  | _ :: _, [], _, h => by simp [j6] at h
  | _ :: _, _ :: _, [], h => by simp [j6] at h
  | k :: ks, x :: a, y :: b, h => by
    simp only [j6] at h
    split at h
    · rename_i u v hu hv
      simp only [Option.some.injEq] at h
      obtain ⟨rfl, rfl⟩ := Bool.and_eq_true_iff.1 h
      obtain ⟨rfl, h1⟩ := quw (ι := ι) hu
      obtain ⟨rfl, h2⟩ := Gj hv
      refine ⟨rfl, fun n z hz => ?_⟩
      rcases List.mem_cons.1 hz with rfl | hz
      · exact h1 n
      · exact h2 n z hz
    · cases h
theorem qma {ks : List LT} {agg : Bool} {x y : AV} (h : keq ks agg x y = some true) : x = y ∧ ∀ n, Instr.sameBits (n + 1) (gam ι x) (gam ι x) = true := by
  unfold keq at h
  split at h
  · rename_i l l'
    obtain ⟨rfl, h2⟩ := Gj (ι := ι) h
    refine ⟨rfl, fun n => ?_⟩
    simp only [gam, Instr.sameBits, beq_self_eq_true, Bool.true_and, List.all_eq_true]
    rintro ⟨p, q⟩ hpq
    have : p = q ∧ p ∈ qv ι l := by
      rw [gw] at hpq ⊢
      have := List.of_mem_zip hpq
      have hz : ∀ (L : List Value) (p q : Value), (p, q) ∈ L.zip L → p = q := by
        intro L; induction L with
        | nil => intro p q h; cases h
        | cons a L ih => intro p q h; rcases List.mem_cons.1 h with h | h; cases h; rfl; exact ih p q h
      exact ⟨hz _ p q hpq, this.1⟩
    obtain ⟨rfl, hp⟩ := this
    rw [gw] at hp
    obtain ⟨z, hz, rfl⟩ := List.mem_map.1 hp
    exact h2 n z hz
  · obtain ⟨e, h2⟩ := Gj (ι := ι) h
    simp only [List.cons.injEq, and_true] at e
    exact ⟨e, fun n => h2 _ _ (by simp)⟩
  · cases h
theorem qm4 {d : Nat} {ks : List LT} {td : TypeDesc} {t : TypeId} (hk : leaves P d t = some ks) (ht : P.underlying t = some td) (hag : q8 td = false) :
    ((∃ k, td = .int k) ∧ ks = [.int]) ∨ (td = .bool ∧ ks = [.bool]) ∨ (td = .string ∧ ks = [.str]) := by
  cases d with
  | zero => simp [leaves] at hk
  | succ d =>
    simp only [leaves] at hk
    rw [ht] at hk
    cases td <;> simp only [reduceCtorEq, Option.some.injEq] at hk
    case int k => exact .inl ⟨⟨k, rfl⟩, hk.symm⟩
    case bool => exact .inr (.inl ⟨rfl, hk.symm⟩)
    case string => exact .inr (.inr ⟨rfl, hk.symm⟩)
    case struct => simp [q8] at hag
    case array => simp [q8] at hag
theorem G0 {ks : List LT} {td : TypeDesc} {t : TypeId} {k : AV} (hk : leaves P 20 t = some ks) (ht : P.underlying t = some td) :
    ∀ (es : List AE) (i : Nat) (r : Option (Nat × AE)), uf ks (q8 td) k es i = some r →
      (Instr.findAsking t (gam ι k) (es.map (jq ι)) i).run P w = .ok (r.map fun p => (p.1, gam ι p.2.val)) w
  | [], i, r, h => by simp only [uf, Option.some.injEq] at h; subst h; rfl
  | e :: es, i, r, h => by
    simp only [uf] at h
    simp only [List.map_cons, Instr.findAsking, Sem.run_bind]
    split at h
    · rename_i hq
      simp only [Option.some.injEq] at h
      subst h
      have : (Op.equal t (gam ι k) (jq ι e).key).run P w = .ok true w := qik hk ht hq
      rw [this]; rfl
    · rename_i hq
      have : (Op.equal t (gam ι k) (jq ι e).key).run P w = .ok false w := qik hk ht hq
      rw [this]
      exact G0 hk ht es (i + 1) r h
    · cases h
theorem qf3 {ks : List LT} {td : TypeDesc} {t : TypeId} {k : AV} (hk : leaves P 20 t = some ks) (ht : P.underlying t = some td) (hag : q8 td = false) :
    ∀ (es : List AE) (i : Nat) (r : Option (Nat × AE)), uf ks (q8 td) k es i = some r →
      Instr.findNow td (gam ι k) (es.map (jq ι)) i = some (r.map fun p => (p.1, gam ι p.2.val))
  | [], i, r, h => by simp only [uf, Option.some.injEq] at h; subst h; rfl
  | e :: es, i, r, h => by
    simp only [uf] at h
    simp only [List.map_cons, Instr.findNow]
    have key : ∀ b, keq ks (q8 td) k e.key = some b → Instr.sameNow td (gam ι k) (jq ι e).key = some b := by
      intro b hb
      rw [hag] at hb
      simp only [keq] at hb
      rcases qm4 hk ht hag with ⟨⟨k0, rfl⟩, rfl⟩ | ⟨rfl, rfl⟩ | ⟨rfl, rfl⟩
      · obtain ⟨k', x, y, e1, e2, rfl⟩ := qee (qax hb); simp [jq, e1, e2, gam, Instr.sameNow]
      · obtain ⟨x, y, e1, e2, rfl⟩ := qba (qax hb); simp [jq, e1, e2, gam, Instr.sameNow]
      · obtain ⟨x, y, e1, e2, rfl⟩ := qec (qax hb); simp [jq, e1, e2, gam, Instr.sameNow, beq_toListBytes]
    split at h
    · rename_i hq
      simp only [Option.some.injEq] at h
      subst h
      rw [key _ hq]; rfl
    · rename_i hq
      rw [key _ hq]
      exact qf3 hk ht hag es (i + 1) r h
    · cases h
theorem Vb {ks : List LT} {td : TypeDesc} {t : TypeId} {k : AV} (hk : leaves P 20 t = some ks) (ht : P.underlying t = some td) {es : List AE} {r : Option (Nat × AE)}
    (h : uf ks (q8 td) k es 0 = some r) : (Instr.findKey t (gam ι k) (es.map (jq ι))).run P w = .ok (r.map fun p => (p.1, gam ι p.2.val)) w := by
  simp only [Instr.findKey, Sem.run_bind, qp ht, Result.andThen_ok]
  cases hag : q8 td with
  | false => rw [qf3 hk ht hag es 0 r h]; rfl
  | true =>
    cases es with
    | nil => simp only [uf, Option.some.injEq] at h; subst h; rfl
    | cons e es =>
      have : Instr.findNow td (gam ι k) ((e :: es).map (jq ι)) 0 = none := by
        simp only [List.map_cons, Instr.findNow]
        have : Instr.sameNow td (gam ι k) (jq ι e).key = none := by cases td <;> simp [q8] at hag <;> rfl
        rw [this]
      rw [this]
      exact G0 hk ht (e :: es) 0 r h
theorem Yk {ks : List LT} {agg : Bool} {k : AV} : ∀ (es : List AE) (i : Nat) (j : Nat) (e : AE), uf ks agg k es i = some (some (j, e)) → i ≤ j ∧ es[j - i]? = some e ∧ keq ks agg k e.key = some true
  | [], i, j, e, h => by simp [uf] at h
  | x :: es, i, j, e, h => by
    simp only [uf] at h
    split at h
    · rename_i hq
      simp only [Option.some.injEq, Prod.mk.injEq] at h
      obtain ⟨rfl, rfl⟩ := h
      exact ⟨Nat.le_refl _, by simp, hq⟩
    · obtain ⟨h1, h2, h3⟩ := Yk es (i + 1) j e h
      refine ⟨by omega, ?_, h3⟩
      rw [show j - i = (j - (i + 1)) + 1 from by omega]
      simpa using h2
    · cases h
end
end Go.Am
namespace Go.Am
set_option linter.unusedVariables false
set_option linter.unusedSimpArgs false
section
variable {P : Program} {X : Ctx} {ι : Nat → Loc} {s : St} {a : Act} {w : World} {o : Oper} {v : AV} {hp' : List AO}
theorem qiv (hok : Ok X ι s a w) {neg : Bool} {t t' : TypeId} {td : TypeDesc} {ks : List LT} {x y : Operand} (ho : o.op = .binOp (cond neg .neq .eql) t x y t') (ht : P.underlying t = some td)
    (hk : leaves P 20 t = some ks) (hag : q8 td = true) (hg : P.eqGuardType P.depth t = false)
    (hs : qf s.env s.hp (.eqs neg ks (Opd.of x) (Opd.of y)) = some (v, hp')) : Res X s a ((execOp a.eval o).run P w) v hp' := by
  simp only [qf] at hs
  split at hs
  · rename_i l l' hx hy
    split at hs
    · rename_i r hr
      simp only [Option.some.injEq, Prod.mk.injEq] at hs
      obtain ⟨rfl, rfl⟩ := hs
      have h1 := (z7 hok hx (by simp)).2
      have h2 := (z7 hok hy (by simp)).2
      have hq := qa6 (P := P) (w := w) (ι := ι) 20 9980 t ks td l l' r hk ht hr
      rw [hag] at hq
      simp only [mkv, cond_true] at hq
      have : (execOp a.eval o).run P w = .ok (.value (gam ι (.bool (cond neg (!r) r)))) w := by
        unfold execOp; rw [ho]
        simp only [h1, h2, gam, Sem.run_bind]
        rw [run_eqGuard_agg w _ t x y _ _ hg]
        cases neg
        · simp only [cond_false, Result.andThen_ok]; rw [run_eql_struct, hq]; rfl
        · simp only [cond_true, Result.andThen_ok]; rw [run_neq_struct, hq]; rfl
      rw [this]
      exact Res.same hok fun _ => ⟨trivial, rfl⟩
    · cases hs
  · cases hs
theorem qwk (hok : Ok X ι s a w) {neg : Bool} {t t' : TypeId} {x y : Operand} (ho : o.op = .binOp (cond neg .neq .eql) t x y t') (ht : P.underlying t = some .bool)
    (hs : qf s.env s.hp (.eqb neg (Opd.of x) (Opd.of y)) = some (v, hp')) : Res X s a ((execOp a.eval o).run P w) v hp' := by
  simp only [qf] at hs
  split at hs
  · rename_i u u' hx hy
    simp only [Option.some.injEq, Prod.mk.injEq] at hs
    obtain ⟨rfl, rfl⟩ := hs
    have h1 := (z7 hok hx (by simp)).2
    have h2 := (z7 hok hy (by simp)).2
    have : (execOp a.eval o).run P w = .ok (.value (gam ι (.bool (cond neg (!(u == u')) (u == u'))))) w := by
      unfold execOp; rw [ho]
      simp only [h1, h2, gam, Sem.run_bind]
      have hg0 : (eqGuard (cond neg .neq .eql) t x y (.bool u) (.bool u')).run P w = .ok () w := U7 (fun l h => by cases h) (by simp)
      rw [hg0]
      simp only [Result.andThen_ok]
      have hq : (Op.equal t (.bool u) (.bool u')).run P w = .ok (u == u') w := run_equalIn_bool' w 9999 t u u' ht
      cases neg
      · simp only [cond_false, binOp, Sem.run_bind, hq, Result.andThen_ok, Sem.run_pure]
      · simp only [cond_true, binOp, Sem.run_bind, hq, Result.andThen_ok, Sem.run_pure]
    rw [this]
    exact Res.same hok fun _ => ⟨trivial, rfl⟩
  · cases hs
theorem qmj (hok : Ok X ι s a w) {neg : Bool} {t t' e : TypeId} {x y : Operand} (ho : o.op = .binOp (cond neg .neq .eql) t x y t') (hy : y = .const (.pointer none)) (ht : P.underlying t = some (.pointer e))
    (hs : qf s.env s.hp (.qdo neg (Opd.of x)) = some (v, hp')) : Res X s a ((execOp a.eval o).run P w) v hp' := by
  subst hy
  have run : ∀ (p : Option Addr), a.eval x = .pointer p → (execOp a.eval o).run P w = .ok (.value (.bool (cond neg (!p.isNone) p.isNone))) w := by
    intro p hp
    unfold execOp; rw [ho]
    have hg0 : (eqGuard (cond neg .neq .eql) t x (.const (.pointer none)) (.pointer p) (.pointer none)).run P w = .ok () w := U7 (fun l h => by cases h) (by simp)
    have hqd : ∀ d, (Op.equalIn (d + 1) t (.pointer p) (.pointer none)).run P w = .ok p.isNone w := fun d => by
      simp only [Op.equalIn, Sem.run_bind, qp ht, Result.andThen_ok]
      cases p <;> rfl
    have hq : (Op.equal t (.pointer p) (.pointer none)).run P w = .ok p.isNone w := hqd 9999
    have he : a.eval (.const (.pointer none)) = .pointer none := rfl
    simp only [hp, he, Sem.run_bind, hg0, Result.andThen_ok]
    cases neg
    · simp only [cond_false, binOp, Sem.run_bind, hq, Result.andThen_ok, Sem.run_pure]
    · simp only [cond_true, binOp, Sem.run_bind, hq, Result.andThen_ok, Sem.run_pure]
  simp only [qf] at hs
  split at hs
  · rename_i b off hx
    simp only [Option.some.injEq, Prod.mk.injEq] at hs
    obtain ⟨rfl, rfl⟩ := hs
    rw [run _ (z7 hok hx (by simp)).2]
    exact Res.same hok fun _ => ⟨trivial, by cases neg <;> rfl⟩
  · rename_i hx
    simp only [Option.some.injEq, Prod.mk.injEq] at hs
    obtain ⟨rfl, rfl⟩ := hs
    rw [run _ (z7 hok hx (by simp)).2]
    exact Res.same hok fun _ => ⟨trivial, by cases neg <;> rfl⟩
  · cases hs
theorem W8 (hok : Ok X ι s a w) {b : Nat} {es : List AE} {ck : Nat} (hb : s.hp[b]? = some (.map es ck)) : (getObj (ι b).addr.block).run P w = .ok (.map (es.map (jq ι)).toArray ck) w := by
  obtain ⟨_, hn, blk, ha, hh⟩ := hok.heap.rel _ _ hb
  rw [ha]; simp [getObj, Sem.run, hh]
theorem qjd {ks : List LT} {agg : Bool} {x : AV} (h : kok ks agg x = true) : x ≠ .top ∧ keq ks agg x x = some true := by
  unfold kok at h
  have h1 : ∃ r, keq ks agg x x = some r := by
    cases hq : keq ks agg x x with
    | none => rw [hq] at h; cases h
    | some r => exact ⟨r, rfl⟩
  obtain ⟨r, hr⟩ := h1
  have self : ∀ (ks : List LT) (l : List AV) (r : Bool), j6 ks l l = some r → r = true := by
    intro ks
    induction ks with
    | nil => intro l r h; cases l <;> simp_all [j6]
    | cons k ks ih =>
      intro l r h
      cases l with
      | nil => simp [j6] at h
      | cons x l =>
        simp only [j6] at h
        split at h
        · rename_i u v hu hv
          have hv' := ih l v hv
          have hu' : u = true := by
            cases k
            · obtain ⟨k', x', y', e1, e2, e3⟩ := qee hu; rw [e1] at e2; cases e2; simpa using e3
            · obtain ⟨x', y', e1, e2, e3⟩ := qba hu; rw [e1] at e2; cases e2; simpa using e3
            · obtain ⟨x', y', e1, e2, e3⟩ := qec hu; rw [e1] at e2; cases e2; simpa using e3
          simp only [Option.some.injEq] at h
          rw [← h, hu', hv']; rfl
        · cases h
  obtain ⟨l1, l2, hl, e1, e2⟩ := qb2 hr
  refine ⟨?_, ?_⟩
  · rintro rfl
    unfold keq at hr
    split at hr
    · rename_i e _ ; cases e
    · have := Xe _ _ _ _ hr
      match ks, this.1, hr with
      | [k], _, hr => have := qax hr; cases k <;> simp [leq] at this
    · cases hr
  · unfold keq at hr ⊢
    split at hr
    · rw [self _ _ _ hr] at hr; exact hr
    · rw [self _ _ _ hr] at hr; exact hr
    · cases hr
theorem Yf {ks : List LT} {td : TypeDesc} {t : TypeId} {x : AV} {emp : Bool} (hk : leaves P 20 t = some ks) (ht : P.underlying t = some td) (h : keq ks (q8 td) x x = some true) :
    (Instr.checkKey emp 10000 t (gam ι x)).run P w = .ok () w := by
  obtain ⟨l1, l2, hl, e1, e2⟩ := qb2 h
  have e12 := (Gj (ι := ι) hl).1
  subst e12
  rw [← e1 ι]
  exact Bk (P := P) (w := w) (ι := ι) (emp := emp) 20 9980 t ks td l1 hk ht hl
theorem qtc (hok : Ok X ι s a w) {t kt e : TypeId} {td : TypeDesc} {ks : List LT} {z : Value} {ok : Bool} {m k : Operand} (ho : o.op = .lookup t m k ok) (ht : P.underlying t = some (.map kt e))
    (hk : leaves P 20 kt = some ks) (htd : P.underlying kt = some td) (hz : (P.info? e).bind (·.zero) = some z)
    (hs : qf s.env s.hp (.lookup ks (q8 td) (Qu z) ok (Opd.of m) (Opd.of k)) = some (v, hp')) : Res X s a ((execOp a.eval o).run P w) v hp' := by
  simp only [qf] at hs
  split at hs
  · rename_i b hm
    split at hs
    · rename_i es ck hb
      obtain ⟨hkok, hs⟩ := ql hs
      obtain ⟨hkt, hkk⟩ := qjd hkok
      obtain ⟨hku, h1⟩ := J6 hok k hkt
      have h2 := (z7 hok hm (by simp)).2
      have hck : ∀ emp, (Instr.checkKey emp 10000 kt (a.eval k)).run P w = .ok () w := fun emp => by rw [h1]; exact Yf hk htd hkk
      have run : ∀ r, uf ks (q8 td) (ev s.env (Opd.of k)) es 0 = some r → (execOp a.eval o).run P w =
          .ok (.value (cond ok (.tuple #[(r.map fun p => gam ι p.2.val).getD z, .bool r.isSome]) ((r.map fun p => gam ι p.2.val).getD z))) w := by
        intro r hr
        have hf := Vb (P := P) (w := w) (ι := ι) hk htd hr
        rw [← h1] at hf
        unfold execOp; rw [ho]
        simp only [h2, gam, Instr.lookup, Sem.run_bind, qp ht, Result.andThen_ok, W8 (P := P) hok hb, Sem.run_pure, hck, hf]
        cases r with
        | none => simp only [Option.map_none, Sem.run_bind, U8 hz, Result.andThen_ok, Sem.run_pure]; cases ok <;> rfl
        | some p => simp only [Option.map_some, Sem.run_pure, Result.andThen_ok]; cases ok <;> rfl
      split at hs
      · rename_i i e0 hf
        simp only [Option.some.injEq, Prod.mk.injEq] at hs
        obtain ⟨rfl, rfl⟩ := hs
        rw [run _ hf]
        obtain ⟨_, hg, _⟩ := Yk _ _ _ _ hf
        have hu := ((hok.heap.rel _ _ hb).1 e0 (List.mem_of_getElem? hg)).2
        refine Res.same hok fun _ => ?_
        cases ok
        · exact ⟨hu, rfl⟩
        · exact ⟨⟨hu, trivial, trivial⟩, rfl⟩
      · rename_i hf
        simp only [Option.some.injEq, Prod.mk.injEq] at hs
        obtain ⟨rfl, rfl⟩ := hs
        rw [run _ hf]
        refine Res.same hok fun _ => ?_
        cases ok
        · exact ⟨gm _ _, (Q2 ι z).symm⟩
        · refine ⟨⟨gm _ _, trivial, trivial⟩, ?_⟩
          simp only [Option.map_none, Option.getD_none, cond_true, gam, qv, Q2]; rfl
      · cases hs
    · cases hs
  · cases hs
theorem qhr (hok : Ok X ι s a w) {t kt e : TypeId} {td : TypeDesc} {ks : List LT} {m k x : Operand} (ho : o.op = .mapUpdate t m k x ∨ o.op = .insert t m k x) (ht : P.underlying t = some (.map kt e))
    (hk : leaves P 20 kt = some ks) (htd : P.underlying kt = some td)
    (hs : qf s.env s.hp (.Uy ks (q8 td) (Opd.of m) (Opd.of k) (Opd.of x)) = some (v, hp')) : Res X s a ((execOp a.eval o).run P w) v hp' := by
  simp only [qf] at hs
  split at hs
  · cases hs
  · rename_i b hm hxt
    have hxt' : ev s.env (Opd.of x) ≠ .top := fun h => hxt h
    split at hs
    · rename_i es ck hb
      obtain ⟨hkok, hs⟩ := ql hs
      obtain ⟨hkt, hkk⟩ := qjd hkok
      obtain ⟨hku, h1⟩ := J6 hok k hkt
      obtain ⟨hxu, h3⟩ := J6 hok x hxt'
      have h2 := (z7 hok hm (by simp)).2
      have hck : ∀ emp, (Instr.checkKey emp 10000 kt (a.eval k)).run P w = .ok () w := fun emp => by rw [h1]; exact Yf hk htd hkk
      obtain ⟨hesu, hnull, blk, ha, hh⟩ := hok.heap.rel _ _ hb
      have hset : ∀ ob, (setObj (ι b).addr.block ob).run P w = .ok () (jh w (ι b).addr.block ob) := by
        intro ob; rw [ha]; simp [setObj, Sem.run, hh, jh]
      have hsb2 : ∀ ob, (jh w (ι b).addr.block ob).heap[blk]? = some ob := fun ob => by rw [ha]; exact bb hh
      have start : (execOp a.eval o).run P w = ((Instr.mapUpdate t (a.eval m) (a.eval k) (a.eval x)).run P w).andThen fun _ w' => .ok .skip w' := by
        unfold execOp; rcases ho with ho | ho <;> rw [ho] <;> simp only [Sem.run_bind, Sem.run_pure]
      rw [start]
      split at hs
      · rename_i i e0 hf
        simp only [Option.some.injEq, Prod.mk.injEq] at hs
        obtain ⟨rfl, rfl⟩ := hs
        obtain ⟨_, hg, hkeq⟩ := Yk _ _ _ _ hf
        rw [Nat.sub_zero] at hg
        obtain ⟨hke, hsb⟩ := qma (ι := ι) hkeq
        have hfk := Vb (P := P) (w := w) (ι := ι) hk htd hf
        rw [← h1] at hfk
        have hkey : ((es.map (jq ι)).toArray[i]?).map (·.key) = some (a.eval k) := by
          simp [hg, jq, h1, hke]
        have hst : Instr.sameBits 10000 (a.eval k) (a.eval k) = true := by rw [h1]; exact hsb 9999
        simp only [h2, gam, Instr.mapUpdate, Sem.run_bind, qp ht, Result.andThen_ok, W8 (P := P) hok hb, hck, hfk, Option.map_some]
        have hkts : (Instr.keyThatStays (((((es.map (jq ι)).toArray[i]?).map (·.key))).getD (a.eval k)) (a.eval k)).run P w = .ok (a.eval k) w := by
          rw [hkey]; simp only [Option.getD_some, Instr.keyThatStays, hst, if_true, Sem.run_pure]
        rw [hkts]
        simp only [Result.andThen_ok, hset]
        refine ⟨ι, _, undef, .inr ⟨rfl, rfl⟩, fun _ => ⟨trivial, rfl⟩, hok.set hb rfl hnull ?_ ⟨hnull, blk, ha, (hsb2 _).trans ?_⟩⟩
        · intro e1 he1
          rcases List.mem_or_eq_of_mem_set he1 with h | h
          · exact hesu e1 h
          · subst h; exact ⟨hku, hxu⟩
        · congr 2
          apply Array.ext_getElem?
          intro j
          simp only [Array.getElem?_modify, List.getElem?_toArray, List.getElem?_map, List.getElem?_set]
          by_cases hij : i = j
          · subst hij
            have hlt : i < es.length := (List.getElem?_eq_some_iff.1 hg).1
            simp only [if_true, hg, Option.map_some, hlt, jq, h1, h3]
          · simp only [hij, if_false]
      · rename_i hf
        simp only [Option.some.injEq, Prod.mk.injEq] at hs
        obtain ⟨rfl, rfl⟩ := hs
        have hfk := Vb (P := P) (w := w) (ι := ι) hk htd hf
        rw [← h1] at hfk
        simp only [h2, gam, Instr.mapUpdate, Sem.run_bind, qp ht, Result.andThen_ok, W8 (P := P) hok hb, hck, hfk, Option.map_none, hset]
        refine ⟨ι, _, undef, .inr ⟨rfl, rfl⟩, fun _ => ⟨trivial, rfl⟩, hok.set hb rfl hnull ?_ ⟨hnull, blk, ha, (hsb2 _).trans ?_⟩⟩
        · intro e1 he1
          rcases List.mem_append.1 he1 with h | h
          · exact hesu e1 h
          · rw [List.mem_singleton] at h; subst h; exact ⟨hku, hxu⟩
        · simp only [List.map_append, List.map_cons, List.map_nil, jq, h1, h3, List.push_toArray]
      · cases hs
    · cases hs
  · cases hs
theorem qss (hok : Ok X ι s a w) {t kt e : TypeId} {td : TypeDesc} {z : Value} {ks : List LT} {m k : Operand} (ho : o.op = .mapEntry t m k) (ht : P.underlying t = some (.map kt e))
    (hk : leaves P 20 kt = some ks) (htd : P.underlying kt = some td) (hz : (P.info? e).bind (·.zero) = some z)
    (hs : qf s.env s.hp (.qcg ks (q8 td) (Qu z) (Opd.of m) (Opd.of k)) = some (v, hp')) : Res X s a ((execOp a.eval o).run P w) v hp' := by
  simp only [qf] at hs
  split at hs
  · rename_i b hm
    split at hs
    · rename_i es ck hb
      obtain ⟨hkok, hs⟩ := ql hs
      obtain ⟨hkt, hkk⟩ := qjd hkok
      obtain ⟨hku, h1⟩ := J6 hok k hkt
      have h2 := (z7 hok hm (by simp)).2
      have hck : ∀ emp, (Instr.checkKey emp 10000 kt (a.eval k)).run P w = .ok () w := fun emp => by rw [h1]; exact Yf hk htd hkk
      obtain ⟨hesu, hnull, blk, ha, hh⟩ := hok.heap.rel _ _ hb
      have hset : ∀ ob, (setObj (ι b).addr.block ob).run P w = .ok () (jh w (ι b).addr.block ob) := by
        intro ob; rw [ha]; simp [setObj, Sem.run, hh, jh]
      have hsb2 : ∀ ob, (jh w (ι b).addr.block ob).heap[blk]? = some ob := fun ob => by rw [ha]; exact bb hh
      have start : (execOp a.eval o).run P w = ((Instr.mapEntry t (a.eval m) (a.eval k)).run P w).andThen fun r w' => .ok (.value r) w' := by
        unfold execOp; rw [ho]; simp only [Sem.run_bind, Sem.run_pure]
      rw [start]
      split at hs
      · rename_i i e0 hf
        simp only [Option.some.injEq, Prod.mk.injEq] at hs
        obtain ⟨rfl, rfl⟩ := hs
        obtain ⟨_, hg, hkeq⟩ := Yk _ _ _ _ hf
        rw [Nat.sub_zero] at hg
        obtain ⟨hke, hsb⟩ := qma (ι := ι) hkeq
        have hfk := Vb (P := P) (w := w) (ι := ι) hk htd hf
        rw [← h1] at hfk
        have hkey : ((es.map (jq ι)).toArray[i]?).map (·.key) = some (a.eval k) := by
          simp [hg, jq, h1, hke]
        have hborn : ((es.map (jq ι)).toArray[i]?).map (fun e => (e.born : Int)) = some (e0.born : Int) := by
          simp [hg, jq]
        have hst : Instr.sameBits 10000 (a.eval k) (a.eval k) = true := by rw [h1]; exact hsb 9999
        simp only [h2, gam, Instr.mapEntry, Sem.run_bind, qp ht, Result.andThen_ok, W8 (P := P) hok hb, hck, hfk, Option.map_some]
        have hkts : (Instr.keyThatStays (((((es.map (jq ι)).toArray[i]?).map (·.key))).getD (a.eval k)) (a.eval k)).run P w = .ok (a.eval k) w := by
          rw [hkey]; simp only [Option.getD_some, Instr.keyThatStays, hst, if_true, Sem.run_pure]
        rw [hkts]
        simp only [Result.andThen_ok, hset, Sem.run_bind, Sem.run_pure, hborn, Option.getD_some]
        have hu0 := (hesu e0 (List.mem_of_getElem? hg)).2
        refine ⟨ι, _, _, .inl rfl, fun _ => ⟨⟨by rw [List.length_set]; exact hu0, trivial, trivial⟩, rfl⟩, hok.set hb rfl hnull ?_ ⟨hnull, blk, ha, (hsb2 _).trans ?_⟩⟩
        · intro e1 he1
          rcases List.mem_or_eq_of_mem_set he1 with h | h
          · exact hesu e1 h
          · subst h; exact ⟨hku, hu0⟩
        · congr 2
          apply Array.ext_getElem?
          intro j
          simp only [Array.getElem?_modify, List.getElem?_toArray, List.getElem?_map, List.getElem?_set]
          by_cases hij : i = j
          · subst hij
            have hlt : i < es.length := (List.getElem?_eq_some_iff.1 hg).1
            simp only [if_true, hg, Option.map_some, hlt, jq, h1]
          · simp only [hij, if_false]
      · rename_i hf
        simp only [Option.some.injEq, Prod.mk.injEq] at hs
        obtain ⟨rfl, rfl⟩ := hs
        have hfk := Vb (P := P) (w := w) (ι := ι) hk htd hf
        rw [← h1] at hfk
        simp only [h2, gam, Instr.mapEntry, Sem.run_bind, qp ht, Result.andThen_ok, W8 (P := P) hok hb, hck, hfk, Option.map_none, U8 hz, hset, Sem.run_pure]
        refine ⟨ι, _, _, .inl rfl, fun _ => ⟨⟨gm _ _, trivial, trivial⟩, ?_⟩, hok.set hb rfl hnull ?_ ⟨hnull, blk, ha, (hsb2 _).trans ?_⟩⟩
        · simp only [gam, qv, Q2]; rfl
        · intro e1 he1
          rcases List.mem_append.1 he1 with h | h
          · exact hesu e1 h
          · rw [List.mem_singleton] at h; subst h; exact ⟨hku, gm _ _⟩
        · simp only [List.map_append, List.map_cons, List.map_nil, jq, h1, Q2, List.push_toArray]
      · cases hs
    · cases hs
  · cases hs
theorem qyt (hok : Ok X ι s a w) {t : TypeId} {m st x : Operand} (ho : o.op = .entryStore t m st x)
    (hs : qf s.env s.hp (.qhw (Opd.of m) (Opd.of st) (Opd.of x)) = some (v, hp')) : Res X s a ((execOp a.eval o).run P w) v hp' := by
  simp only [qf] at hs
  split at hs
  · cases hs
  · rename_i b ik n hm hst hxt
    have hxt' : ev s.env (Opd.of x) ≠ .top := fun h => hxt h
    split at hs
    · rename_i es ck hb
      split at hs
      · rename_i i hi
        simp only [Option.some.injEq, Prod.mk.injEq] at hs
        obtain ⟨rfl, rfl⟩ := hs
        obtain ⟨hxu, h3⟩ := J6 hok x hxt'
        have h2 := (z7 hok hm (by simp)).2
        have h4 := (z7 hok hst (by simp)).2
        obtain ⟨hesu, hnull, blk, ha, hh⟩ := hok.heap.rel _ _ hb
        have hset : ∀ ob, (setObj (ι b).addr.block ob).run P w = .ok () (jh w (ι b).addr.block ob) := by
          intro ob; rw [ha]; simp [setObj, Sem.run, hh, jh]
        have hsb2 : ∀ ob, (jh w (ι b).addr.block ob).heap[blk]? = some ob := fun ob => by rw [ha]; exact bb hh
        have hfi : (es.map (jq ι)).toArray.findIdx? (fun e => (e.born : Int) == n) = some i := by
          rw [List.findIdx?_toArray, List.findIdx?_map, ← hi]; rfl
        unfold execOp; rw [ho]
        simp only [h2, h4, gam, Instr.entryStore, Sem.run_bind, Result.andThen_ok, W8 (P := P) hok hb, asInt, asIntOf, Sem.run_pure, hfi, hset]
        refine ⟨ι, _, undef, .inr ⟨rfl, rfl⟩, fun _ => ⟨trivial, rfl⟩, hok.set hb rfl hnull ?_ ⟨hnull, blk, ha, (hsb2 _).trans ?_⟩⟩
        · intro e1 he1
          rw [List.mem_iff_getElem?] at he1
          obtain ⟨j, hj⟩ := he1
          rw [List.getElem?_modify] at hj
          split at hj
          · obtain ⟨e2, h5, rfl⟩ := Option.map_eq_some_iff.1 hj
            exact ⟨(hesu e2 (List.mem_of_getElem? h5)).1, hxu⟩
          · exact hesu e1 (List.mem_of_getElem? (by simpa using hj))
        · congr 2
          apply Array.ext_getElem?
          intro j
          simp only [Array.getElem?_modify, List.getElem?_toArray, List.getElem?_map, List.getElem?_modify]
          by_cases hij : i = j
          · subst hij
            cases es[i]? <;> simp [jq, h3]
          · simp [hij]
      · cases hs
    · cases hs
  · cases hs
end
end Go.Am
namespace Go.Am
set_option linter.unusedVariables false
set_option linter.unusedSimpArgs false
section
variable {P : Program} {X : Ctx} {ι : Nat → Loc} {s : St} {a : Act} {w : World} {o : Oper} {v : AV} {hp' : List AO}
theorem xd {α β : Type} {x : Option α} {f : α → β} {y : β} (h : x.map f = some y) : ∃ z, x = some z ∧ f z = y := by
  cases x with
  | none => cases h
  | some z => exact ⟨z, rfl, by simpa using h⟩
theorem q5o {α : Type} {a : Array α} {x : α} (h : a.toList = [x]) : a = #[x] := by cases a; simp_all
theorem qy6 {α : Type} {a : Array α} {x y : α} (h : a.toList = [x, y]) : a = #[x, y] := by cases a; simp_all
theorem q1f (hok : Ok X ι s a w) {x : Operand} {t e : TypeId} {n : Nat} (ho : o.op = .call { callee := .builtin .len, args := #[x], argTypes := #[t] }) (ht : P.underlying t = some (.array n e))
    (hs : qf s.env s.hp (.mov (.c (.int .i64 n))) = some (v, hp')) : Res X s a ((execOp a.eval o).run P w) v hp' := by
  simp only [qf, ev, Option.some.injEq, Prod.mk.injEq] at hs
  obtain ⟨rfl, rfl⟩ := hs
  have : (execOp a.eval o).run P w = .ok (.value (gam ι (.int .i64 n))) w := by
    unfold execOp; rw [ho]
    simp only [resolve, List.map_toArray, List.map_cons, List.map_nil, Sem.run_bind, Sem.run_pure, Result.andThen_ok, invoke, builtin, Builtin.len_]
    simp [qp ht, goInt, gam]
  rw [this]
  exact Res.same hok fun _ => ⟨trivial, rfl⟩
set_option maxHeartbeats 1600000 in
theorem qv4 (hok : Ok X ι s a w) {ao : AOp} (hc : cOp P o = some ao) (hs : qf s.env s.hp ao = some (v, hp')) : Res X s a ((execOp a.eval o).run P w) v hp' := by
  unfold cOp at hc
  split at hc
  · rename_i x ho; cases hc; exact qxx hok (.inl ho) hs
  · rename_i x ho; cases hc; exact qxx hok (.inr ho) hs
  · rename_i ho; cases hc; exact q0x hok ho hs
  · rename_i ho; obtain ⟨z, hz, rfl⟩ := xd hc; exact qx6 hok ho hz hs
  · rename_i ho; cases hc; exact q21 hok ho hs
  · rename_i ho
    split at hc
    · rename_i z fs hz ht
      split at hc
      · rename_i hall
        obtain ⟨qs, hq, rfl⟩ := xd hc
        exact qub hok ho ht hz hall hq hs
      · cases hc
    · rename_i z len e hz ht
      split at hc
      · rename_i n hn; cases hc; exact qtd hok ho ht hz hn hs
      · cases hc
    · cases hc
  · rename_i ho
    split at hc
    · rename_i e ht
      split at hc
      · rename_i n z hn hz
        split at hc
        · rename_i hcond; cases hc; exact qw4 hok ho ht hz hn hcond hs
        · cases hc
      · cases hc
    · cases hc
  · rename_i ho
    split at hc
    · rename_i d hd
      split at hc
      · rename_i hag; obtain ⟨n, hn, rfl⟩ := xd hc; exact qu4 hok ho hd hag hn hs
      · rename_i hag; cases hc; exact qu5 hok ho hd (by simpa using hag) hs
    · cases hc
  · rename_i ho
    split at hc
    · rename_i d n hd hn
      split at hc
      · cases hc; exact qs9 hok ho hn hs
      · split at hc
        · rename_i h1; subst h1; cases hc; exact qt6 hok ho hn hs
        · cases hc
    · cases hc
  · rename_i ho; cases hc; exact qtx hok ho hs
  · rename_i op t x y t' ho
    split at hc
    · rename_i d hd
      split at hc
      · cases hc; exact qxc hok ho hs
      · cases hc; exact qxc hok ho hs
      · split at hc
        · cases hc; exact qwk (neg := false) hok ho hd hs
        · cases hc; exact qwk (neg := true) hok ho hd hs
        · cases hc
      · split at hc
        · cases hc
        · rename_i hg
          split at hc
          · rename_i hk; cases hc; exact qiv (neg := false) hok ho hd hk rfl (by simpa using hg) hs
          · rename_i hk; cases hc; exact qiv (neg := true) hok ho hd hk rfl (by simpa using hg) hs
          · cases hc
      · split at hc
        · cases hc
        · rename_i hg
          split at hc
          · rename_i hk; cases hc; exact qiv (neg := false) hok ho hd hk rfl (by simpa using hg) hs
          · rename_i hk; cases hc; exact qiv (neg := true) hok ho hd hk rfl (by simpa using hg) hs
          · cases hc
      · split at hc
        · cases hc; exact qmj (neg := false) hok ho rfl hd hs
        · cases hc; exact qmj (neg := true) hok ho rfl hd hs
        · cases hc
      · cases hc
    · cases hc
  · rename_i ho; cases hc; exact q5y hok ho hs
  · rename_i ho
    split at hc
    · rename_i h1 h2; cases hc; exact qzd hok ho h1 h2 hs
    · rename_i h1 h2; cases hc; exact qx7 hok ho h1 h2 hs
    · rename_i h1 h2
      split at hc
      · rename_i h3; cases hc; exact q3u hok ho h1 h2 h3 hs
      · cases hc
    · cases hc
  · rename_i ho; cases hc; exact q0m hok ho hs
  · rename_i ho
    split at hc
    · cases hc; exact qyp hok ho hs
    · cases hc
  · rename_i ho
    split at hc
    · rename_i e ht
      split at hc
      · rename_i h1 h2 h3; cases hc; exact qn4 hok ho ht h3 h1 h2 hs
      · cases hc
    · cases hc
  · rename_i ho
    split at hc
    · rename_i ht; cases hc; exact qt8 hok ho ht hs
    · rename_i ht; obtain ⟨n, hn, rfl⟩ := xd hc; exact qx3 hok ho ht hn hs
    · cases hc
  · rename_i ho
    split at hc
    · rename_i fs ht
      split at hc
      · rename_i f hf
        split at hc
        · rename_i n hn
          split at hc
          · rename_i hn0; cases hc; exact qu2 hok ho ht hf hn hn0 hs
          · cases hc
        · cases hc
      · cases hc
    · cases hc
  · rename_i ho
    split at hc
    · rename_i fs ht
      split at hc
      · rename_i f hf
        split at hc
        · rename_i n d hn hd; cases hc; exact qxv hok ho ht hf hn hd hs
        · cases hc
      · cases hc
    · cases hc
  · rename_i ho
    split at hc
    · rename_i ht; obtain ⟨n, hn, rfl⟩ := xd hc; exact qts hok ho ht hn hs
    · rename_i ht; obtain ⟨n, hn, rfl⟩ := xd hc; exact qr9 hok ho ht hn hs
    · cases hc
  · rename_i ho
    split at hc
    · rename_i ht
      split at hc
      · rename_i hn hd; cases hc; exact qzq hok ho ht hn hd hs
      · cases hc
    · rename_i ht; cases hc; exact qz4 hok ho ht hs
    · cases hc
  · rename_i ho
    split at hc
    · rename_i ht
      split at hc
      · rename_i hk htd hz; cases hc; exact qtc hok ho ht hk htd hz hs
      · cases hc
    · cases hc
  · rename_i ho
    split at hc
    · rename_i ht
      split at hc
      · rename_i hk htd; cases hc; exact qhr hok (.inl ho) ht hk htd hs
      · cases hc
    · cases hc
  · rename_i ho
    split at hc
    · rename_i ht
      split at hc
      · rename_i hk htd; cases hc; exact qhr hok (.inr ho) ht hk htd hs
      · cases hc
    · cases hc
  · rename_i ho
    split at hc
    · rename_i ht
      split at hc
      · rename_i hk htd hz; cases hc; exact qss hok ho ht hk htd hz hs
      · cases hc
    · cases hc
  · rename_i ho; cases hc; exact qyt hok ho hs
  · rename_i ho
    split at hc
    · rename_i ht; cases hc; exact qug hok ho ht hs
    · cases hc
  · rename_i ho; cases hc; simp [qf] at hs
  · rename_i ho; cases hc; exact qwh hok ho hs
  · rename_i ho; cases hc; exact q2b hok ho hs
  · rename_i args ats ho
    split at hc
    · rename_i x t h1 h2
      have := q5o h1; have := q5o h2; subst args; subst ats
      split at hc
      · rename_i ht; cases hc; exact qz0 hok ho ht hs
      · rename_i ht; cases hc; exact qyx hok ho ht hs
      · rename_i ht; cases hc; exact q1k hok ho ht hs
      · rename_i ht; cases hc; exact q1f hok ho ht hs
      · cases hc
    · cases hc
  · rename_i args ats ho
    split at hc
    · rename_i x y st yt h1 h2
      have := qy6 h1; have := qy6 h2; subst args; subst ats
      split at hc
      · rename_i e d ht hd
        split at hc
        · cases hc
        · rename_i hnd
          split at hc
          · rename_i h3 h4 h5
            split at hc
            · rename_i h6; cases hc; exact qso hok ho ht hd (by rintro k rfl; exact hnd rfl) h3 h4 h5 h6 hs
            · cases hc
          · cases hc
      · cases hc
    · cases hc
  · rename_i args ats ho
    split at hc
    · rename_i x y h1
      have := qy6 h1; subst args
      cases hc; exact q3l hok ho hs
    · cases hc
  · rename_i args ats ho
    split at hc
    · rename_i x y h1
      have := qy6 h1; subst args
      cases hc; exact q20 hok ho hs
    · cases hc
  · cases hc
end
end Go.Am
namespace Go.Am
set_option linter.unusedVariables false
set_option linter.unusedSimpArgs false
inductive AK where
  | op (o : AOp)
  | call (f : Opd) (args : List Opd)
  | next (it : Opd)
structure AI where
  dst : Option Nat
  guard : Option (Nat × Bool)
  k : AK
def qk3 (P : Program) (f : FuncId) : Prop := ∃ fn, P.funcs[f]? = some fn ∧ fn.body.isSome = true ∧ (fn.name == "runtime.NumGoroutine") = false
def q2n (ι : Nat → Loc) (H : List AO) (w : World) (R : AV → List AO → Prop) (e : Ending) (w' : World) : Prop :=
  ∃ v H' ι', e = .returned (gam ι' v) ∧ R v H' ∧ v ≠ .top ∧ v.under H'.length ∧ HOk ι' H' w'.heap ∧ H.length ≤ H'.length ∧ (∀ j, j < H.length → ι' j = ι j) ∧
    (∀ j b, AtW ι' H' j b → (∃ i, AtW ι H i b) ∨ w.heap.size ≤ b) ∧ (∀ (j : Nat) (l : List AV), H'[j]? = some (AO.ro l) → ∃ l', H[j]? = some (AO.ro l')) ∧
    (∀ b, b < w.heap.size → (¬ ∃ i, AtW ι H i b) → w'.heap[b]? = w.heap[b]?) ∧ w.heap.size ≤ w'.heap.size ∧ w'.os = w.os ∧ w'.output = w.output ∧ Vc w w'
def Fn (P : Program) (f : FuncId) (args : List AV) (H : List AO) (R : AV → List AO → Prop) : Prop :=
  qk3 P f ∧ ∀ ι w, HOk ι H w.heap → AV.qy H.length args → Calls P f (qv ι args).toArray w (q2n ι H w R)
theorem Fn.mono {P : Program} {f : FuncId} {args : List AV} {H : List AO} {R R' : AV → List AO → Prop} (h : Fn P f args H R) (hr : ∀ v H', R v H' → R' v H') : Fn P f args H R' :=
  ⟨h.1, fun ι w hh hu => (h.2 ι w hh hu).mono fun e w' ⟨v, H', ι', h1, h2, h3⟩ => ⟨v, H', ι', h1, hr _ _ h2, h3⟩⟩
def xu (d : Option Nat) (v : AV) (env : Env) : Env :=
  match d with
  | some d => (d, v) :: env
  | none => env
def qnd (nt : Nat) : Option Nat → Bool
  | some d => decide (d < nt)
  | none => true
def grd (ops : Array Oper) : Option (Nat × Bool) → Option (Option (Nat × Bool))
  | none => some none
  | some (j, b) => match (ops[j]?).bind (·.dst) with
    | some d => some (some (d, b))
    | none => none
def kindOf (P : Program) (o : Oper) : Option AK :=
  match o.op with
  | .call { callee := .value f, args, .. } => some (.call (Opd.of f) (args.toList.map Opd.of))
  | .next it false => some (.next (Opd.of it))
  | _ => (cOp P o).map .op
def cAI (P : Program) (nt : Nat) (ops : Array Oper) (o : Oper) : Option AI :=
  match qnd nt o.dst, grd ops o.guard, kindOf P o with
  | true, some g, some k => some ⟨o.dst, g, k⟩
  | _, _, _ => none
def Qi (P : Program) (nt : Nat) (ops : Array Oper) : List Oper → Option (List AI)
  | [] => some []
  | o :: r => match cAI P nt ops o, Qi P nt ops r with
    | some i, some l => some (i :: l)
    | _, _ => none
def WR (P : Program) (n0 nt : Nat) (l : List AI) (K : St → Prop) (s : St) : Prop :=
  ∀ lo ops, Qi P nt ops lo = some l → ∀ X : Ctx, X.n0 = n0 → X.nt = nt → ∀ ι a w, Ok X ι s a w → wpList P ops (lift X fun x s => x = .normal ∧ K s) lo a w
section
variable {P : Program} {n0 nt : Nat} {l : List AI} {K : St → Prop} {s : St}
theorem WR.nil (h : K s) : WR P n0 nt [] K s := by
  intro lo ops hc X h0 h1 ι a w hok
  cases lo with
  | nil => exact wpList_nil ⟨_, ι, s, rfl, hok, rfl, h⟩
  | cons o r =>
    simp only [Qi] at hc
    split at hc <;> cases hc
theorem WR.mono {K' : St → Prop} (h : WR P n0 nt l K s) (hk : ∀ s, K s → K' s) : WR P n0 nt l K' s := by
  intro lo ops hc X h0 h1 ι a w hok
  have := h lo ops hc X h0 h1 ι a w hok
  revert this
  have key : ∀ (lo : List Oper) (a : Act) (w : World), wpList P ops (lift X fun x s => x = .normal ∧ K s) lo a w → wpList P ops (lift X fun x s => x = .normal ∧ K' s) lo a w := by
    have hq : ∀ e a w, lift X (fun x s => x = .normal ∧ K s) e a w → lift X (fun x s => x = .normal ∧ K' s) e a w :=
      fun e a w ⟨x, ι, s, hx, ho, h1, h2⟩ => ⟨x, ι, s, hx, ho, h1, hk s h2⟩
    intro lo
    induction lo with
    | nil => intro a w h; exact hq _ _ _ h
    | cons o r ih =>
      intro a w h
      unfold wpList at h ⊢
      split at h
      · rename_i hw
        rw [if_pos hw]
        rcases h with h | ⟨h1, a0, w0, h2⟩
        · refine .inl ?_
          unfold Oper.wp at h ⊢
          revert h
          generalize (execOp a.eval o).run P w = r0
          intro h
          cases r0 with
          | ok n w1 =>
            cases n with
            | value v => exact ih _ _ h
            | skip => exact ih _ _ h
            | defer d => exact ih _ _ h
            | enter f args =>
              refine Calls.mono h fun e w2 he => ?_
              cases e with
              | returned v => exact ih _ _ he
              | panicked c => exact hq _ _ _ he
              | outgrown => obtain ⟨a1, w1, h3⟩ := he; exact ⟨a1, w1, hq _ _ _ h3⟩
            | row row args => exact Rows.mono h fun v w2 he => ih _ _ he
            | _ => exact h.elim
          | halt x w1 =>
            cases x with
            | panic v => exact hq _ _ _ h
            | _ => exact h.elim
        · exact .inr ⟨h1, a0, w0, hq _ _ _ h2⟩
      · rename_i hw
        rw [if_neg hw]
        exact ih _ _ h
  exact key lo a w
theorem J7 {ops : Array Oper} {lo : List Oper} {i : AI} (h : Qi P nt ops lo = some (i :: l)) : ∃ o r, lo = o :: r ∧ cAI P nt ops o = some i ∧ Qi P nt ops r = some l := by
  cases lo with
  | nil => simp [Qi] at h
  | cons o r =>
    simp only [Qi] at h
    split at h
    · rename_i i' l' h1 h2
      simp only [Option.some.injEq, List.cons.injEq] at h
      obtain ⟨rfl, rfl⟩ := h
      exact ⟨o, r, rfl, h1, h2⟩
    · cases h
theorem Ur {ops : Array Oper} {o : Oper} {dst : Option Nat} {g : Option (Nat × Bool)} {k : AK} (h : cAI P nt ops o = some ⟨dst, g, k⟩) :
    o.dst = dst ∧ qnd nt dst = true ∧ grd ops o.guard = some g ∧ kindOf P o = some k := by
  unfold cAI at h
  split at h
  · rename_i h1 h2 h3
    simp only [Option.some.injEq, AI.mk.injEq] at h
    obtain ⟨rfl, rfl, rfl⟩ := h
    exact ⟨rfl, h1, h2, h3⟩
  · cases h
theorem qe2 {ops : Array Oper} {g : Option (Nat × Bool)} (h : grd ops g = some none) : g = none := by
  cases g with
  | none => rfl
  | some p =>
    obtain ⟨j, b⟩ := p
    simp only [grd] at h
    split at h <;> cases h
theorem qmt {ops : Array Oper} {g : Option (Nat × Bool)} {d : Nat} {b : Bool} (h : grd ops g = some (some (d, b))) : ∃ j, g = some (j, b) ∧ (ops[j]?).bind (·.dst) = some d := by
  cases g with
  | none => cases h
  | some p =>
    obtain ⟨j, b'⟩ := p
    simp only [grd] at h
    split at h
    · rename_i d' hd; cases h; exact ⟨j, rfl, hd⟩
    · cases h
theorem qs5 {o : Oper} {ao : AOp} (h : kindOf P o = some (.op ao)) : cOp P o = some ao := by
  unfold kindOf at h
  split at h
  · cases h
  · cases h
  · obtain ⟨z, h1, h2⟩ := xd h; cases h2; exact h1
theorem qlv {o : Oper} {f : Opd} {args : List Opd} (h : kindOf P o = some (.call f args)) :
    ∃ f' args' ats, o.op = .call { callee := .value f', args := args', argTypes := ats } ∧ f = Opd.of f' ∧ args = args'.toList.map Opd.of := by
  unfold kindOf at h
  split at h
  · rename_i e; cases h; exact ⟨_, _, _, e, rfl, rfl⟩
  · cases h
  · obtain ⟨z, h1, h2⟩ := xd h; cases h2
theorem qkr {o : Oper} {it : Opd} (h : kindOf P o = some (.next it)) : ∃ it', o.op = .next it' false ∧ it = Opd.of it' := by
  unfold kindOf at h
  split at h
  · cases h
  · rename_i e; cases h; exact ⟨_, e, rfl⟩
  · obtain ⟨z, h1, h2⟩ := xd h; cases h2
theorem qge {d : Nat} (h : qnd nt (some d) = true) : d < nt := by simpa [qnd] using h
theorem qms {o : Oper} {y : Nat → Option Bool} (h : o.guard = none) : Region.wanted o y = true := by simp [Region.wanted, h]
theorem WR.op {dst : Option Nat} {ao : AOp} {v : AV} {hp' : List AO} (hs : qf s.env s.hp ao = some (v, hp')) (h : WR P n0 nt l K ⟨xu dst v s.env, hp'⟩) :
    WR P n0 nt (⟨dst, none, .op ao⟩ :: l) K s := by
  intro lo ops hc X h0 h1 ι a w hok
  obtain ⟨o, r, rfl, hi, hr⟩ := J7 hc
  obtain ⟨hd, hdl, hg, hk⟩ := Ur hi
  refine wpList_plain (qe2 hg) fun K' hK' => ?_
  obtain ⟨ι', w', v', hrun, hv, hok'⟩ := qv4 hok (qs5 hk) hs
  have hput : Ok X ι' ⟨xu dst v s.env, hp'⟩ (a.put o.dst v') w' := by
    rw [hd]
    cases dst with
    | none => exact hok'
    | some d => exact hok'.put (by rw [h1]; exact qge hdl) hv
  have := hK' _ _ (h r ops hr X h0 h1 ι' _ w' hput)
  unfold Oper.wp
  rcases hrun with e | ⟨e, rfl⟩
  · rw [e]; exact this
  · rw [e]; exact this
theorem WR.skip {dst : Option Nat} {d : Nat} {b : Bool} {k : AK} (hg : get s.env d = .bool (!b) ∨ get s.env d = xg) (h : WR P n0 nt l K ⟨xu dst xg s.env, s.hp⟩) :
    WR P n0 nt (⟨dst, some (d, b), k⟩ :: l) K s := by
  intro lo ops hc X h0 h1 ι a w hok
  obtain ⟨o, r, rfl, hi, hr⟩ := J7 hc
  obtain ⟨hd, hdl, hgd, _⟩ := Ur hi
  have hput : Ok X ι ⟨xu dst xg s.env, s.hp⟩ (a.put o.dst undef) w := by
    rw [hd]
    cases dst with
    | none => exact hok
    | some d => exact hok.put (by rw [h1]; exact qge hdl) fun _ => ⟨trivial, rfl⟩
  obtain ⟨j, hq, hd'⟩ := qmt hgd
  have hw : Region.wanted o (yielded ops a.tmps) = false := by
    simp only [Region.wanted, hq, yielded, hd', Option.bind_some]
    rcases hg with hg | hg
    · have := (hok.env d (by rw [hg]; simp)).2
      rw [hg] at this
      rw [this]; simp only [gam]
      cases b <;> rfl
    · have := (hok.env d (by rw [hg]; simp [xg])).2
      rw [hg] at this
      rw [this]; rfl
  unfold wpList
  rw [hw]
  exact h r ops hr X h0 h1 ι _ w hput
theorem WR.take {dst : Option Nat} {d : Nat} {b : Bool} {k : AK} (hg : get s.env d = .bool b) (h : WR P n0 nt (⟨dst, none, k⟩ :: l) K s) :
    WR P n0 nt (⟨dst, some (d, b), k⟩ :: l) K s := by
  intro lo ops hc X h0 h1 ι a w hok
  obtain ⟨o, r, rfl, hi, hr⟩ := J7 hc
  obtain ⟨hd, hdl, hgd, hk⟩ := Ur hi
  obtain ⟨j, hq, hd'⟩ := qmt hgd
  have hw : Region.wanted o (yielded ops a.tmps) = true := by
    simp only [Region.wanted, hq, yielded, hd', Option.bind_some]
    have := (hok.env d (by rw [hg]; simp)).2
    rw [hg] at this
    rw [this]; simp only [gam]
    cases b <;> rfl
  let o' : Oper := { o with guard := none }
  have hi' : cAI P nt ops o' = some ⟨dst, none, k⟩ := by
    have h1' : qnd nt o'.dst = true := by rw [show o'.dst = dst from hd]; exact hdl
    have h2' : grd ops o'.guard = some none := rfl
    have h3' : kindOf P o' = some k := hk
    unfold cAI
    rw [h1', h2', h3', show o'.dst = dst from hd]
  have := h (o' :: r) ops (by simp only [Qi, hi', hr]) X h0 h1 ι a w hok
  unfold wpList at this ⊢
  rw [if_pos hw]
  rw [if_pos (qms rfl)] at this
  exact this
theorem WR.guard {dst : Option Nat} {d : Nat} {b t : Bool} {k : AK} (hg : get s.env d = .bool t) (hd : d < nt)
    (h1 : t = b → WR P n0 nt (⟨dst, none, k⟩ :: l) K ⟨(d, .bool b) :: s.env, s.hp⟩)
    (h2 : t = !b → WR P n0 nt l K ⟨xu dst xg ((d, .bool (!b)) :: s.env), s.hp⟩) : WR P n0 nt (⟨dst, some (d, b), k⟩ :: l) K s := by
  have up : ∀ {X : Ctx} {ι a w}, Ok X ι s a w → Ok X ι ⟨(d, .bool t) :: s.env, s.hp⟩ a w := by
    intro X ι a w hok
    refine ⟨hok.size, hok.defers, fun u hu => ?_, hok.heap, hok.dom, hok.base, hok.len, hok.fresh, hok.world⟩
    simp only [zj] at hu ⊢
    by_cases e : d = u
    · subst e
      simp only [if_true] at hu ⊢
      have := hok.env d (by rw [hg]; simp)
      rw [hg] at this; exact this
    · simp only [e, if_false] at hu ⊢; exact hok.env u hu
  intro lo ops hc X h0 hn ι a w hok
  by_cases e : t = b
  · subst e
    exact WR.take (s := ⟨(d, .bool t) :: s.env, s.hp⟩) (by simp [zj]) (h1 rfl) lo ops hc X h0 hn ι a w (up hok)
  · have e' : t = !b := by cases t <;> cases b <;> simp_all
    subst e'
    exact WR.skip (s := ⟨(d, .bool (!b)) :: s.env, s.hp⟩) (.inl (by simp [zj])) (h2 rfl) lo ops hc X h0 hn ι a w (up hok)
theorem WC.region {id : Nat} {ops : Array Oper} {Q : AX → St → Prop} {l : List AI} (hc : Qi P nt ops ops.toList = some l) (h : WR P n0 nt l (Q .normal) s) :
    WC P n0 nt (.region id ops false) Q s := by
  intro X h0 h1 ι a w hok
  refine wp_region_list ?_
  have := h ops.toList ops hc X h0 h1 ι a w hok
  have hq : ∀ e a w, lift X (fun x s => x = .normal ∧ Q .normal s) e a w → lift X Q e a w :=
    fun e a w ⟨x, ι, s, hx, ho, h1, h2⟩ => ⟨x, ι, s, hx, ho, by rw [h1]; exact h2⟩
  have key : ∀ (lo : List Oper) (a : Act) (w : World), wpList P ops (lift X fun x s => x = .normal ∧ Q .normal s) lo a w → wpList P ops (lift X Q) lo a w := by
    intro lo
    induction lo with
    | nil => intro a w h; exact hq _ _ _ h
    | cons o r ih =>
      intro a w h
      unfold wpList at h ⊢
      split at h
      · rename_i hw
        rw [if_pos hw]
        rcases h with h | ⟨h1, a0, w0, h2⟩
        · refine .inl ?_
          unfold Oper.wp at h ⊢
          revert h
          generalize (execOp a.eval o).run P w = r0
          intro h
          cases r0 with
          | ok n w1 =>
            cases n with
            | value v => exact ih _ _ h
            | skip => exact ih _ _ h
            | defer d => exact ih _ _ h
            | enter f args =>
              refine Calls.mono h fun e w2 he => ?_
              cases e with
              | returned v => exact ih _ _ he
              | panicked c => exact hq _ _ _ he
              | outgrown => obtain ⟨a1, w1, h3⟩ := he; exact ⟨a1, w1, hq _ _ _ h3⟩
            | row row args => exact Rows.mono h fun v w2 he => ih _ _ he
            | _ => exact h.elim
          | halt x w1 =>
            cases x with
            | panic v => exact hq _ _ _ h
            | _ => exact h.elim
        · exact .inr ⟨h1, a0, w0, hq _ _ _ h2⟩
      · rename_i hw
        rw [if_neg hw]
        exact ih _ _ h
  exact key _ _ _ this
end
end Go.Am
namespace Go.Am
set_option linter.unusedVariables false
set_option linter.unusedSimpArgs false
def Ren.ext (ρ : Ren) (n m : Nat) : Ren := fun j => if j < n then ρ j else some (m + (j - n), 0)
def upd (ρ' : Ren) : List AO → List (Nat × Nat) → List AO → List AO → List AO
  | hp, (b, _) :: bs, o :: H, o' :: H' => upd ρ' (if o.wr = true then hp.set b (o'.ren ρ') else hp) bs H H'
  | hp, _, _, _ => hp
def Fits (hp : List AO) (ρ : Ren) (b off : Nat) (o : AO) : Prop :=
  match o with
  | .dead => b < hp.length
  | .ro l => ∃ L, rd hp b = some L ∧ off + l.length ≤ L.length ∧ (L.drop off).take l.length = AV.zh ρ l
  | o => off = 0 ∧ hp[b]? = some (o.ren ρ)
mutual
theorem Ji {ρ : Ren} {n m : Nat} (h : ∀ j, j < n → ∃ b o, ρ j = some (b, o) ∧ b < m) : (a : AV) → a.under n → (a.ren ρ).under m
  | .top, _ => trivial
  | .int _ _, _ => trivial
  | .bool _, _ => trivial
  | .str _, _ => trivial
  | .v _, _ => trivial
  | .ptr b _, hb => by obtain ⟨b', o, h1, h2⟩ := h b hb; simp only [AV.ren, h1]; exact h2
  | .slc b _ _ _ _, hb => by obtain ⟨b', o, h1, h2⟩ := h b hb; simp only [AV.ren, h1]; exact h2
  | .map b, hb => by obtain ⟨b', o, h1, h2⟩ := h b hb; simp only [AV.ren, h1]; exact h2
  | .fn _ a b, hb => ⟨g9 h a hb.1, g9 h b hb.2⟩
  | .agg l, hb => g9 h l hb
  | .tup l, hb => g9 h l hb
theorem g9 {ρ : Ren} {n m : Nat} (h : ∀ j, j < n → ∃ b o, ρ j = some (b, o) ∧ b < m) : (l : List AV) → AV.qy n l → AV.qy m (AV.zh ρ l)
  | [], _ => trivial
  | a :: l, hb => ⟨Ji h a hb.1, g9 h l hb.2⟩
end
theorem AO.Ji {ρ : Ren} {n m : Nat} (h : ∀ j, j < n → ∃ b o, ρ j = some (b, o) ∧ b < m) (o : AO) (hu : o.under n) : (o.ren ρ).under m := by
  cases o with
  | cells l => exact g9 h l hu
  | vec s l => exact g9 h l hu
  | ro l => exact g9 h l hu
  | map es c =>
    intro e he
    obtain ⟨e', he', rfl⟩ := List.mem_map.1 he
    exact ⟨Am.Ji h _ (hu e' he').1, Am.Ji h _ (hu e' he').2⟩
  | x6 m' a b c =>
    intro b' hb'
    cases m' with
    | none => simp [AO.ren] at hb'
    | some j =>
      obtain ⟨b2, o2, h1, h2⟩ := h j (hu j rfl)
      simp only [Option.bind_some, h1, Option.map_some, Option.some.injEq] at hb'
      omega
  | bg _ _ => trivial
  | dead => trivial
theorem Xb.q3a {ι : Nat → Loc} {ρ : Ren} {heap : Array Obj} {loc : Loc} {o : AO} {n : Nat} (h : Xb (ρ.loc ι) heap loc o) (hu : o.under n) (hn : ∀ j, j < n → ∃ b o, ρ j = some (b, o)) : Xb ι heap loc (o.ren ρ) := by
  cases o with
  | cells l => obtain ⟨hn, blk, c, ty, fz, ha, h1, h2, h3⟩ := h; exact ⟨hn, blk, c, ty, fz, ha, h1, by rw [h2, yy], h3⟩
  | vec sz l =>
    rcases h with ⟨h1, h2, rfl⟩ | ⟨hn, blk, c, ty, fz, ex, ha, h1, h2, h3, h4⟩
    · exact .inl ⟨h1, h2, rfl⟩
    · exact .inr ⟨hn, blk, c, ty, fz, ex, ha, h1, by rw [h2, yy], h3, h4⟩
  | ro l =>
    rcases h with ⟨h1, rfl⟩ | ⟨hn, blk, o, c, ty, fz, pre, ex, ha, h1, h2, h3⟩
    · exact .inl ⟨h1, rfl⟩
    · exact .inr ⟨hn, blk, o, c, ty, fz, pre, ex, ha, h1, h2, by rw [h3, yy]⟩
  | map es ck =>
    obtain ⟨hn, blk, ha, h1⟩ := h
    refine ⟨hn, blk, ha, h1.trans ?_⟩
    have : (es.map (AE.ren ρ)).map (jq ι) = es.map (jq (ρ.loc ι)) := by
      rw [List.map_map]
      apply List.map_congr_left
      intro e _
      simp only [Function.comp, jq, AE.ren, Gi]
    rw [this]
  | x6 m a b c =>
    obtain ⟨hn', blk, ha, h1⟩ := h
    refine ⟨hn', blk, ha, h1.trans ?_⟩
    cases m with
    | none => rfl
    | some j =>
      obtain ⟨b', o', hj⟩ := hn j (hu j rfl)
      simp only [Option.bind_some, hj, Option.map_some, Ren.loc, Loc.shift, Addr.Gb]
  | bg s p => exact h
  | dead => trivial
theorem J2 (ρ' : Ren) : ∀ (bs : List (Nat × Nat)) (H H' hp : List AO), (upd ρ' hp bs H H').length = hp.length
  | [], H, H', hp => by cases H <;> cases H' <;> rfl
  | _ :: _, [], _, _ => rfl
  | _ :: _, _ :: _, [], _ => rfl
  | (b, o) :: bs, x :: H, y :: H', hp => by
    simp only [upd]
    rw [J2 ρ' bs H H']
    split
    · simp
    · rfl
theorem qru (ρ' : Ren) : ∀ (bs : List (Nat × Nat)) (H H' hp : List AO) (i : Nat), bs.length = H.length → H.length ≤ H'.length →
    (∀ (j k : Nat) (bj bk : Nat × Nat) (oj ok : AO), bs[j]? = some bj → bs[k]? = some bk → H[j]? = some oj → H[k]? = some ok → oj.wr = true → ok.wr = true → bj.1 = bk.1 → j = k) → (∀ (j : Nat) (b : Nat × Nat), bs[j]? = some b → b.1 < hp.length) →
    (∃ (j : Nat) (b : Nat × Nat) (o o' : AO), bs[j]? = some b ∧ b.1 = i ∧ H[j]? = some o ∧ o.wr = true ∧ H'[j]? = some o' ∧ (upd ρ' hp bs H H')[i]? = some (o'.ren ρ')) ∨
      ((upd ρ' hp bs H H')[i]? = hp[i]? ∧ ∀ (j : Nat) (b : Nat × Nat) (o : AO), bs[j]? = some b → H[j]? = some o → o.wr = true → b.1 ≠ i)
  | [], [], H', hp, i, _, _, _, _ => .inr ⟨by cases H' <;> rfl, fun j b o h => by simp at h⟩
  | [], _ :: _, _, _, _, h, _, _, _ => by simp at h
  | _ :: _, [], _, _, _, h, _, _, _ => by simp at h
  | _ :: _, _ :: _, [], _, _, _, h, _, _ => by simp at h
  | (b, off) :: bs, o :: H, o' :: H', hp, i, hl, hl', hinj, hlt => by
    simp only [upd]
    have hb : b < hp.length := hlt 0 (b, off) rfl
    have hinj' : ∀ (j k : Nat) (bj bk : Nat × Nat) (oj ok : AO), bs[j]? = some bj → bs[k]? = some bk → H[j]? = some oj → H[k]? = some ok → oj.wr = true → ok.wr = true → bj.1 = bk.1 → j = k := by
      intro j k bj bk oj ok h1 h2 h3 h4 h5 h6 h7
      have := hinj (j + 1) (k + 1) bj bk oj ok (by simpa using h1) (by simpa using h2) (by simpa using h3) (by simpa using h4) h5 h6 h7
      omega
    generalize hhp : (if o.wr = true then hp.set b (o'.ren ρ') else hp) = hp1
    have hlen1 : hp1.length = hp.length := by rw [← hhp]; split <;> simp
    rcases qru ρ' bs H H' hp1 i (by simpa using hl) (by simpa using hl') hinj' (fun j b' h => by rw [hlen1]; exact hlt (j + 1) b' (by simpa using h)) with ⟨j, b1, o1, o2, h1, h2, h3, h4, h5, h6⟩ | ⟨h1, h2⟩
    · exact .inl ⟨j + 1, b1, o1, o2, by simpa using h1, h2, by simpa using h3, h4, by simpa using h5, h6⟩
    · by_cases hw : o.wr = true
      · by_cases hi : b = i
        · refine .inl ⟨0, (b, off), o, o', rfl, hi, rfl, hw, rfl, ?_⟩
          rw [h1, ← hhp, if_pos hw, ← hi, List.getElem?_set_self hb]
        · refine .inr ⟨?_, ?_⟩
          · rw [h1, ← hhp, if_pos hw, List.getElem?_set_ne hi]
          · intro j b2 o2 h3 h4 h5
            cases j with
            | zero => simp at h3 h4; rw [← h3]; exact hi
            | succ j => exact h2 j b2 o2 (by simpa using h3) (by simpa using h4) h5
      · refine .inr ⟨?_, ?_⟩
        · rw [h1, ← hhp, if_neg hw]
        · intro j b2 o2 h3 h4 h5
          cases j with
          | zero => simp at h3 h4; rw [← h4] at h5; exact absurd h5 hw
          | succ j => exact h2 j b2 o2 (by simpa using h3) (by simpa using h4) h5
structure qg4 (hp : List AO) (ρ : Ren) (bs : List (Nat × Nat)) (H : List AO) : Prop where
  ren : ∀ j, j < H.length → ρ j = bs[j]?
  len : bs.length = H.length
  fits : ∀ (j : Nat) (o : AO) (b : Nat × Nat), H[j]? = some o → bs[j]? = some b → Fits hp ρ b.1 b.2 o
  inj : ∀ (j k : Nat) (bj bk : Nat × Nat) (oj ok : AO), bs[j]? = some bj → bs[k]? = some bk → H[j]? = some oj → H[k]? = some ok → oj.wr = true → ok.live = true → bj.1 = bk.1 → j = k
section
variable {P : Program} {X : Ctx} {ι : Nat → Loc} {s : St} {a : Act} {w : World}
theorem qg4.lt {hp : List AO} {ρ : Ren} {bs : List (Nat × Nat)} {H : List AO} (h : qg4 hp ρ bs H) {j : Nat} {b : Nat × Nat} (hb : bs[j]? = some b) : b.1 < hp.length := by
  have hj : j < H.length := by rw [← h.len]; exact (List.getElem?_eq_some_iff.1 hb).1
  have := h.fits j _ b (List.getElem?_eq_getElem hj) hb
  revert this
  generalize H[j] = o
  intro hf
  cases o with
  | dead => exact hf
  | ro l =>
    obtain ⟨L, hL, _⟩ := hf
    unfold rd at hL
    split at hL
    · rename_i e; exact (List.getElem?_eq_some_iff.1 e).1
    · rename_i e; exact (List.getElem?_eq_some_iff.1 e).1
    · rename_i e; exact (List.getElem?_eq_some_iff.1 e).1
    · cases hL
  | cells l => exact (List.getElem?_eq_some_iff.1 hf.2).1
  | vec s l => exact (List.getElem?_eq_some_iff.1 hf.2).1
  | map s l => exact (List.getElem?_eq_some_iff.1 hf.2).1
  | x6 m a b c => exact (List.getElem?_eq_some_iff.1 hf.2).1
  | bg a b => exact (List.getElem?_eq_some_iff.1 hf.2).1
theorem q15 {ι : Nat → Loc} {hp : List AO} {heap : Array Obj} (h : HOk ι hp heap) {b : Nat} {L : List AV} (hL : rd hp b = some L) :
    ((ι b).null = true ∧ L = []) ∨ ((ι b).null = false ∧ ∃ o blk off c ty fz pre ex, hp[b]? = some o ∧ o.live = true ∧ (ι b).addr = ⟨blk, off, none⟩ ∧ heap[blk]? = some (.cells c ty fz) ∧ pre.length = off ∧ c.toList = pre ++ qv ι L ++ ex) := by
  unfold rd at hL
  split at hL <;> simp only [Option.some.injEq, reduceCtorEq] at hL <;> subst hL <;> rename_i hb
  · obtain ⟨_, hn, blk, c, ty, fz, ha, hh, hc, _⟩ := h.rel _ _ hb
    exact .inr ⟨hn, _, blk, 0, c, ty, fz, [], [], hb, rfl, ha, hh, rfl, by simp [hc]⟩
  · rcases (h.rel _ _ hb).2 with ⟨h1, _, h2⟩ | ⟨hn, blk, c, ty, fz, ex, ha, hh, hc, _⟩
    · exact .inl ⟨h1, h2⟩
    · exact .inr ⟨hn, _, blk, 0, c, ty, fz, [], ex, hb, rfl, ha, hh, rfl, by simp [hc]⟩
  · rcases (h.rel _ _ hb).2 with ⟨h1, h2⟩ | ⟨hn, blk, o, c, ty, fz, pre, ex, ha, hh, hp, hc⟩
    · exact .inl ⟨h1, h2⟩
    · exact .inr ⟨hn, _, blk, o, c, ty, fz, pre, ex, hb, rfl, ha, hh, hp, hc⟩
theorem qg4.hok (hok : Ok X ι s a w) {ρ : Ren} {bs : List (Nat × Nat)} {H : List AO} (h : qg4 s.hp ρ bs H) (hu : ∀ (j : Nat) (o : AO), H[j]? = some o → o.under H.length) :
    HOk (ρ.loc ι) H w.heap ∧ ∀ j b, At (ρ.loc ι) H j b → ∃ p, bs[j]? = some p ∧ At ι s.hp p.1 b ∧ (∀ (o : AO), H[j]? = some o → o.wr = true → AtW ι s.hp p.1 b) := by
  have get : ∀ (j : Nat) (o : AO), H[j]? = some o → ∃ p, bs[j]? = some p ∧ ρ j = some p := by
    intro j o ho
    have hj := (List.getElem?_eq_some_iff.1 ho).1
    have hb : bs[j]? = some (bs[j]'(by rw [h.len]; exact hj)) := List.getElem?_eq_getElem _
    exact ⟨_, hb, by rw [h.ren j hj, hb]⟩
  have all : ∀ j, j < H.length → ∃ b o, ρ j = some (b, o) := by
    intro j hj
    obtain ⟨p, _, h2⟩ := get j _ (List.getElem?_eq_getElem hj)
    exact ⟨p.1, p.2, h2⟩
  have atd : ∀ j b, At (ρ.loc ι) H j b → ∃ p, bs[j]? = some p ∧ At ι s.hp p.1 b ∧ (∀ (o : AO), H[j]? = some o → o.wr = true → AtW ι s.hp p.1 b) := by
    rintro j b ⟨o, ho, hl, hn, hb⟩
    obtain ⟨p, hp, hr⟩ := get j o ho
    refine ⟨p, hp, ?_⟩
    have hf := h.fits j o p ho hp
    simp only [Ren.loc, hr, Loc.shift, Addr.Gb] at hn hb
    have wcase : ∀ (hw : o.wr = true), p.2 = 0 ∧ s.hp[p.1]? = some (o.ren ρ) → At ι s.hp p.1 b ∧ (∀ (o : AO), H[j]? = some o → o.wr = true → AtW ι s.hp p.1 b) := by
      intro hw hq
      have : AtW ι s.hp p.1 b := ⟨_, hq.2, by rw [AO.qpk]; exact hw, hn, hb⟩
      exact ⟨this.at_, fun _ _ _ => this⟩
    cases o with
    | dead => cases hl
    | ro l =>
      obtain ⟨L, hL, h1, h2⟩ := hf
      rcases q15 hok.heap hL with ⟨hnn, _⟩ | ⟨_, o2, blk, off, c, ty, fz, pre, ex, ho2, hl2, _⟩
      · rw [hnn] at hn; cases hn
      · refine ⟨⟨o2, ho2, hl2, hn, hb⟩, fun o' ho' hw => ?_⟩
        rw [ho] at ho'; cases ho'; cases hw
    | cells l => exact wcase rfl hf
    | vec sz l => exact wcase rfl hf
    | map es c => exact wcase rfl hf
    | x6 m a b c => exact wcase rfl hf
    | bg x y => exact wcase rfl hf
  refine ⟨⟨fun j o ho => ⟨hu j o ho, ?_⟩, fun i j b hi hj => ?_⟩, atd⟩
  · obtain ⟨p, hp, hr⟩ := get j o ho
    have hf := h.fits j o p ho hp
    have loc : ρ.loc ι j = (ι p.1).shift p.2 := by simp [Ren.loc, hr]
    have wcase : (∀ (m a : Nat) (b : List Nat) (c : Nat), o = AO.x6 (some m) a b c → ∃ j, ρ m = some (j, 0)) → p.2 = 0 ∧ s.hp[p.1]? = some (o.ren ρ) → Xb (ρ.loc ι) w.heap (ρ.loc ι j) o := by
      intro hm hq
      rw [loc, hq.1, Loc.u3]
      exact Xb.ren (hok.heap.rel _ _ hq.2).2 hm
    cases o with
    | dead => trivial
    | ro l =>
      obtain ⟨L, hL, h1, h2⟩ := hf
      rcases q15 hok.heap hL with ⟨hn, rfl⟩ | ⟨hn, o2, blk, off, c, ty, fz, pre, ex, ho2, hl2, ha, hh, hpre, hc⟩
      · refine .inl ⟨by rw [loc]; exact hn, ?_⟩
        simp only [List.length_nil] at h1
        exact List.length_eq_zero_iff.1 (by omega)
      · refine .inr ⟨by rw [loc]; exact hn, blk, off + p.2, c, ty, fz, pre ++ qv ι (L.take p.2), qv ι ((L.drop p.2).drop l.length) ++ ex, ?_, hh, ?_, ?_⟩
        · rw [loc]; simp only [Loc.shift, ha, Addr.add_plain]
        · rw [List.length_append, q6, List.length_take, hpre]; omega
        · rw [hc, ← yy, ← h2]
          have : qv ι L = qv ι (L.take p.2) ++ qv ι ((L.drop p.2).take l.length) ++ qv ι ((L.drop p.2).drop l.length) := by
            rw [List.append_assoc, ← wi, List.take_append_drop, ← wi, List.take_append_drop]
          rw [this]
          simp only [List.append_assoc]
    | cells l => exact wcase (fun _ _ _ _ h => by cases h) hf
    | vec sz l => exact wcase (fun _ _ _ _ h => by cases h) hf
    | map es c => exact wcase (fun _ _ _ _ h => by cases h) hf
    | x6 m x y z =>
      have hq := hf
      rw [loc, hq.1, Loc.u3]
      obtain ⟨hn, blk, ha, h1⟩ := (hok.heap.rel _ _ hq.2).2
      refine ⟨hn, blk, ha, h1.trans ?_⟩
      cases m with
      | none => rfl
      | some m =>
        obtain ⟨b', o', hm⟩ := all m (hu j _ ho m rfl)
        simp only [Option.bind_some, hm, Option.map_some, Ren.loc, Loc.shift, Addr.Gb]
    | bg x y => exact wcase (fun _ _ _ _ h => by cases h) hf
  · obtain ⟨p, hp, hpi, hpw⟩ := atd i b hi.at_
    obtain ⟨q, hq, hqj, _⟩ := atd j b hj
    obtain ⟨o, ho, hw, _⟩ := hi
    obtain ⟨o2, ho2, hl2, _⟩ := hj
    have := hok.heap.inj p.1 q.1 b (hpw o ho hw) hqj
    exact h.inj i j p q o o2 hp hq ho ho2 hw hl2 this
def after (s : St) (ρ : Ren) (bs : List (Nat × Nat)) (H H' : List AO) : List AO :=
  upd (ρ.ext H.length s.hp.length) s.hp bs H H' ++ (H'.drop H.length).map (AO.ren (ρ.ext H.length s.hp.length))
theorem qg4.back (hok : Ok X ι s a w) {ρ : Ren} {bs : List (Nat × Nat)} {H : List AO} (h : qg4 s.hp ρ bs H) (hu : ∀ (j : Nat) (o : AO), H[j]? = some o → o.under H.length)
    {w' : World} {R : AV → List AO → Prop} {e : Ending} (hp : q2n (ρ.loc ι) H w R e w') :
    ∃ v H' ι', e = .returned (gam ι' (v.ren (ρ.ext H.length s.hp.length))) ∧ R v H' ∧ v ≠ .top ∧ (v.ren (ρ.ext H.length s.hp.length)).under (after s ρ bs H H').length ∧ Ok X ι' ⟨s.env, after s ρ bs H H'⟩ a w' := by
  obtain ⟨v, H', ι', he, hR, hvt, hvu, hh', hlen, hag, hdom, hro, hfr, hgrow, hos, hout, htape⟩ := hp
  obtain ⟨hh, hat⟩ := h.hok hok hu
  refine ⟨v, H', fun i => if i < s.hp.length then ι i else ι' (H.length + (i - s.hp.length)), ?_⟩
  generalize hρ' : ρ.ext H.length s.hp.length = ρ'
  generalize hιn : (fun i => if i < s.hp.length then ι i else ι' (H.length + (i - s.hp.length))) = ιn
  have hιlt : ∀ i, i < s.hp.length → ι i = ιn i := fun i hi => by rw [← hιn]; simp [hi]
  have hafter : after s ρ bs H H' = upd ρ' s.hp bs H H' ++ (H'.drop H.length).map (AO.ren ρ') := by rw [after, hρ']
  have hal : (after s ρ bs H H').length = s.hp.length + (H'.length - H.length) := by rw [hafter, List.length_append, J2, List.length_map, List.length_drop]
  have all : ∀ j, j < H'.length → ∃ b o, ρ' j = some (b, o) ∧ b < (after s ρ bs H H').length ∧ ρ'.loc ιn j = ι' j := by
    intro j hj
    by_cases hjl : j < H.length
    · obtain ⟨p, hbj⟩ : ∃ p, bs[j]? = some p := ⟨_, List.getElem?_eq_getElem (by rw [h.len]; exact hjl)⟩
      have hr : ρ j = some p := by rw [h.ren j hjl, hbj]
      have hlt := h.lt hbj
      refine ⟨_, _, by rw [← hρ', Ren.ext, if_pos hjl]; exact hr, by rw [hal]; omega, ?_⟩
      rw [hag j hjl]
      have e1 : ρ' j = some p := by rw [← hρ', Ren.ext, if_pos hjl]; exact hr
      simp only [Ren.loc, e1, hr, hιlt _ hlt]
    · have e1 : ρ' j = some (s.hp.length + (j - H.length), 0) := by rw [← hρ', Ren.ext, if_neg hjl]
      refine ⟨_, _, e1, by rw [hal]; omega, ?_⟩
      simp only [Ren.loc, e1, Loc.u3, ← hιn]
      rw [if_neg (by omega)]
      congr 1; omega
  have all2 : ∀ j, j < H'.length → ∃ b o, ρ' j = some (b, o) ∧ b < (after s ρ bs H H').length := fun j hj => let ⟨b, o, h1, h2, _⟩ := all j hj; ⟨b, o, h1, h2⟩
  have all3 : ∀ j, j < H'.length → ∃ b o, ρ' j = some (b, o) := fun j hj => let ⟨b, o, h1, _⟩ := all j hj; ⟨b, o, h1⟩
  have hloc : ∀ j, j < H'.length → ι' j = ρ'.loc ιn j := fun j hj => let ⟨_, _, _, _, h3⟩ := all j hj; h3.symm
  have hgam : ∀ a : AV, a.under H'.length → gam ιn (a.ren ρ') = gam ι' a := fun a ha => by rw [Gi]; exact (Jg hloc a ha).symm
  have orel : ∀ j o, H'[j]? = some o → ∀ i, ιn i = ι' j → (o.ren ρ').under (after s ρ bs H H').length ∧ Xb ιn w'.heap (ιn i) (o.ren ρ') := by
    intro j o ho i hi
    obtain ⟨h1, h2⟩ := hh'.rel j o ho
    refine ⟨AO.Ji all2 o h1, ?_⟩
    rw [hi]
    exact Xb.q3a (h2.ve h1 hloc fun _ _ => rfl) h1 all3
  have injw : ∀ (j k : Nat) (bj bk : Nat × Nat) (oj ok : AO), bs[j]? = some bj → bs[k]? = some bk → H[j]? = some oj → H[k]? = some ok → oj.wr = true → ok.wr = true → bj.1 = bk.1 → j = k :=
    fun j k bj bk oj ok h1 h2 h3 h4 h5 h6 h7 => h.inj j k bj bk oj ok h1 h2 h3 h4 h5 (AO.Qb h6) h7
  have kinds : ∀ i, (∃ (j : Nat) (o' : AO), H'[j]? = some o' ∧ (after s ρ bs H H')[i]? = some (o'.ren ρ') ∧ ιn i = ι' j ∧ ρ' j = some (i, 0) ∧ ((∃ o, H[j]? = some o ∧ o.wr = true) ∨ H.length ≤ j)) ∨
      (i < s.hp.length ∧ (after s ρ bs H H')[i]? = s.hp[i]? ∧ ∀ (j : Nat) (b : Nat × Nat) (o : AO), bs[j]? = some b → H[j]? = some o → o.wr = true → b.1 ≠ i) ∨ (after s ρ bs H H')[i]? = none := by
    intro i
    rcases Nat.lt_or_ge i s.hp.length with hi | hi
    · have e0 : (after s ρ bs H H')[i]? = (upd ρ' s.hp bs H H')[i]? := by rw [hafter, List.getElem?_append_left (by rw [J2]; exact hi)]
      rcases qru ρ' bs H H' s.hp i h.len hlen injw (fun j b hb => h.lt hb) with ⟨j, b, o, o', h1, h2, h3, h4, h5, h6⟩ | ⟨h1, h2⟩
      · have hjl := (List.getElem?_eq_some_iff.1 h3).1
        have hf := h.fits j o b h3 h1
        have hoff : b.2 = 0 := by cases o <;> first | exact hf.1 | cases h4
        have hr : ρ j = some b := by rw [h.ren j hjl, h1]
        refine .inl ⟨j, o', h5, e0.trans h6, ?_, ?_, .inl ⟨o, h3, h4⟩⟩
        · rw [← hιlt i hi, hag j hjl]
          simp only [Ren.loc, hr, hoff, Loc.u3, h2]
        · rw [← hρ', Ren.ext, if_pos hjl, hr, ← h2, ← hoff]
      · exact .inr (.inl ⟨hi, e0.trans h1, h2⟩)
    · have e0 : (after s ρ bs H H')[i]? = ((H'.drop H.length).map (AO.ren ρ'))[i - s.hp.length]? := by
        rw [hafter, List.getElem?_append_right (by rw [J2]; exact hi), J2]
      rw [List.getElem?_map, List.getElem?_drop] at e0
      cases hq : H'[H.length + (i - s.hp.length)]? with
      | none => rw [hq] at e0; exact .inr (.inr e0)
      | some o' =>
        rw [hq] at e0
        refine .inl ⟨_, o', hq, e0, ?_, ?_, .inr (by omega)⟩
        · rw [← hιn]; simp only; rw [if_neg (by omega)]
        · rw [← hρ', Ren.ext, if_neg (by omega)]; congr 2; omega
  have callee_wr : ∀ j o', H'[j]? = some o' → ((∃ o, H[j]? = some o ∧ o.wr = true) ∨ H.length ≤ j) → o'.live = true → o'.wr = true := by
    intro j o' ho' hj hl
    cases o' <;> first | rfl | cases hl | skip
    obtain ⟨l', hl'⟩ := hro j _ ho'
    rcases hj with ⟨o, ho, hw⟩ | hj
    · rw [hl'] at ho; cases ho; cases hw
    · have := (List.getElem?_eq_some_iff.1 hl').1; omega
  have lives : ∀ i b, At ιn (after s ρ bs H H') i b → (∃ j o', H'[j]? = some o' ∧ o'.wr = true ∧ AtW ι' H' j b ∧ ρ' j = some (i, 0)) ∨
      (i < s.hp.length ∧ At ι s.hp i b ∧ (AtW ιn (after s ρ bs H H') i b → AtW ι s.hp i b) ∧ ∀ (j : Nat) (b : Nat × Nat) (o : AO), bs[j]? = some b → H[j]? = some o → o.wr = true → b.1 ≠ i) := by
    rintro i b ⟨o, ho, hl, hn, hb⟩
    rcases kinds i with ⟨j, o', h1, h2, h3, h4, h5⟩ | ⟨h1, h2, h3⟩ | h1
    · rw [h2] at ho; cases ho
      rw [AO.qm7] at hl
      have hw := callee_wr j o' h1 h5 hl
      exact .inl ⟨j, o', h1, hw, ⟨o', h1, hw, by rw [← h3]; exact hn, by rw [← h3]; exact hb⟩, h4⟩
    · rw [h2] at ho
      rw [← hιlt i h1] at hn hb
      refine .inr ⟨h1, ⟨o, ho, hl, hn, hb⟩, ?_, h3⟩
      rintro ⟨o2, ho2, hw, _, _⟩
      rw [h2, ho] at ho2; cases ho2
      exact ⟨o, ho, hw, hn, hb⟩
    · rw [h1] at ho; cases ho
  have apart : ∀ {i j b : Nat}, AtW ι' H' j b → At ι s.hp i b → (∀ (j : Nat) (b : Nat × Nat) (o : AO), bs[j]? = some b → H[j]? = some o → o.wr = true → b.1 ≠ i) → False := by
    intro i j b hj hi hne
    rcases hdom j b hj with ⟨k, hk⟩ | hk
    · obtain ⟨p, hp1, _, hp3⟩ := hat k b hk.at_
      obtain ⟨o, ho, hw, _⟩ := hk
      exact hne k p o hp1 ho hw (hok.heap.inj p.1 i b (hp3 o ho hw) hi)
    · have := hok.heap.lt hi; omega
  have frame : ∀ b, b < w.heap.size → (∀ i, AtW ι s.hp i b → False) → w'.heap[b]? = w.heap[b]? := by
    intro b hb hno
    refine hfr b hb ?_
    rintro ⟨k, hk⟩
    obtain ⟨p, _, _, hp3⟩ := hat k b hk.at_
    obtain ⟨o, ho, hw, _⟩ := hk
    exact hno p.1 (hp3 o ho hw)
  refine ⟨by rw [hgam v hvu]; exact he, hR, hvt, Ji all2 v hvu, ?_⟩
  refine hok.mem hιlt (by rw [hal]; omega) ⟨fun i o ho => ?_, fun i k b hi hk => ?_⟩ ?_ (hok.world.step ?_ hgrow hos hout htape)
  · rcases kinds i with ⟨j, o', h1, h2, h3, _, _⟩ | ⟨h1, h2, h3⟩ | h1
    · rw [h2] at ho; cases ho
      exact orel j o' h1 i h3
    · rw [h2] at ho
      obtain ⟨h4, h5⟩ := hok.heap.rel i o ho
      rw [← hιlt i h1]
      refine ⟨AO.jf (by rw [hal]; omega) _ h4, h5.ve h4 hιlt fun hl hn => ?_⟩
      refine hfr _ (h5.lt hl hn) ?_
      rintro ⟨k, hk⟩
      obtain ⟨p, hp1, _, hp3⟩ := hat k _ hk.at_
      obtain ⟨o2, ho2, hw, _⟩ := hk
      exact h3 k p o2 hp1 ho2 hw (hok.heap.inj p.1 i _ (hp3 o2 ho2 hw) ⟨o, ho, hl, hn, rfl⟩)
    · rw [h1] at ho; cases ho
  · rcases lives i b hi.at_ with ⟨j, oj, h1, h2, h3, h4⟩ | ⟨h1, h2, h3, h4⟩ <;> rcases lives k b hk with ⟨j', oj', h5, h6, h7, h8⟩ | ⟨h5, h6, h7, h8⟩
    · have := hh'.inj j j' b h3 h7.at_
      subst this
      rw [h4] at h8; cases h8; rfl
    · exact (apart h3 h6 h8).elim
    · exact (apart h7 h2 h4).elim
    · exact hok.heap.inj i k b (h3 hi) h6
  · intro i b hi
    rcases lives i b hi.at_ with ⟨j, oj, h1, h2, h3, h4⟩ | ⟨h1, h2, h3, h4⟩
    · rcases hdom j b h3 with ⟨k, hk⟩ | hk
      · obtain ⟨p, hp1, _, hp3⟩ := hat k b hk.at_
        obtain ⟨o, ho, hw, _⟩ := hk
        exact hok.dom p.1 b (hp3 o ho hw)
      · exact hok.fresh b (Nat.le_trans hok.world.grow hk)
    · exact hok.dom i b (h3 hi)
  · intro b hb hd
    exact frame b hb fun i hi => hd (hok.dom i b hi)
end
section
variable {P : Program} {n0 nt : Nat} {l : List AI} {K : St → Prop} {s : St}
theorem qzl {ρ : Ren} {v : AV} (h : v ≠ .top) : v.ren ρ ≠ .top := by
  cases v <;> simp only [AV.ren, ne_eq, reduceCtorEq, not_false_eq_true] <;> first | (split <;> simp) | exact absurd rfl h
theorem WR.call {dst : Option Nat} {f : Opd} {args : List Opd} {fid : FuncId} {first caps : List AV} {as : List AV} {H : List AO} {R : AV → List AO → Prop} (ρ : Ren) (bs : List (Nat × Nat))
    (hf : ev s.env f = .fn fid first caps) (hfn : Fn P fid as H R) (hnt : (args.all fun x => match ev s.env x with | .top => false | _ => true) = true)
    (has : first ++ args.map (ev s.env) ++ caps = AV.zh ρ as) (hfoot : qg4 s.hp ρ bs H) (hu : ∀ (j : Nat) (o : AO), H[j]? = some o → o.under H.length) (hau : AV.qy H.length as)
    (h : ∀ v H', R v H' → WR P n0 nt l K ⟨xu dst (v.ren (ρ.ext H.length s.hp.length)) s.env, after s ρ bs H H'⟩) : WR P n0 nt (⟨dst, none, .call f args⟩ :: l) K s := by
  intro lo ops hc X h0 h1 ι a w hok
  obtain ⟨o, r, rfl, hi, hr⟩ := J7 hc
  obtain ⟨hd, hdl, hg, hk⟩ := Ur hi
  obtain ⟨f', args', ats, hop, rfl, rfl⟩ := qlv hk
  refine wpList_plain (qe2 hg) fun K' hK' => ?_
  obtain ⟨hfu, hfe⟩ := z7 hok hf (by simp)
  simp only [List.all_map] at hnt
  obtain ⟨hargu, harge⟩ := qjg hok args'.toList hnt
  obtain ⟨⟨fn, hfun, hbody, hname⟩, hcall⟩ := hfn
  have hargs : (qv ι first).toArray ++ args'.map a.eval ++ (qv ι caps).toArray = (qv (ρ.loc ι) as).toArray := by
    rw [← yy, ← has, wi, wi]
    simp only [List.map_map]
    rw [show (List.map ((ev s.env) ∘ Opd.of) args'.toList) = args'.toList.map fun x => ev s.env (Opd.of x) from rfl, ← harge, ← Array.toList_map]
    simp
  have hrun : (execOp a.eval o).run P w = .ok (.enter fid (qv (ρ.loc ι) as).toArray) w := by
    unfold execOp; rw [hop]
    have hbn : fn.body.isNone = false := by cases hq : fn.body <;> simp_all
    simp only [resolve, hfe, gam, Deferred.ofValue, Sem.run_bind, Sem.run_pure, Result.andThen_ok, invoke, callFunc, run_program, hfun, hname, hbn, Bool.false_eq_true, if_false, hargs]
  unfold Oper.wp
  rw [hrun, Oper.upon_enter]
  refine (hcall (ρ.loc ι) w (hfoot.hok hok hu).1 hau).mono fun e w' hp => ?_
  obtain ⟨v, H', ι', he, hR, hvt, hvu, hok'⟩ := hfoot.back hok hu hp
  rw [he]
  have hput : Ok X ι' ⟨xu dst (v.ren (ρ.ext H.length s.hp.length)) s.env, after s ρ bs H H'⟩ (a.put o.dst (gam ι' (v.ren (ρ.ext H.length s.hp.length)))) w' := by
    rw [hd]
    cases dst with
    | none => exact hok'
    | some d => exact hok'.put (by rw [h1]; exact qge hdl) fun _ => ⟨hvu, rfl⟩
  exact hK' _ _ (h v H' hR r ops hr X h0 h1 ι' _ w' hput)
inductive AR where
  | slot (t : Nat)
  | q11 (t : Nat)
  | Qj (t n : Nat)
def qd4 (P : Program) : List ResultVar → Option (List AR)
  | [] => some []
  | .tmp t :: r => (qd4 P r).map (.slot t :: ·)
  | .cell a t :: r => match P.underlying t with
    | some d => if q8 d = true then (match xz P t, qd4 P r with | some n, some l => some (.Qj a n :: l) | _, _ => none) else (qd4 P r).map (.q11 a :: ·)
    | none => none
def Vd (s : St) : List AR → Option (List AV)
  | [] => some []
  | .slot t :: r => match get s.env t, Vd s r with
    | .top, _ => none
    | v, some l => some (v :: l)
    | _, none => none
  | .q11 t :: r => match qf s.env s.hp (.wy (.t t)), Vd s r with
    | some (v, _), some l => some (v :: l)
    | _, _ => none
  | .Qj t n :: r => match qf s.env s.hp (.Qq n (.t t)), Vd s r with
    | some (v, _), some l => some (v :: l)
    | _, _ => none
def xw : List AV → AV
  | [v] => v
  | l => .tup l
end
end Go.Am

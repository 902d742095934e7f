/- An abstract machine over the model: values and memory blocks by their own small numbers, with the judgements that carry what is shown of it to the model. -/
import Derived.Tactics
import Derived.Laws.Sem
import Derived.Laws.World
import Derived.Laws.Alloc2
import Derived.Scope
namespace Go.Am
set_option linter.unusedVariables false

/-- Values: addresses name abstract blocks. -/
inductive AV where
  | top
  | int (k : IntKind) (n : Int)
  | bool (b : Bool)
  | str (s : List UInt8)
  | v (x : Value)
  | ptr (b off : Nat)
  | slc (b off len : Nat) (exact : Bool) (c : Nat)
  | map (b : Nat)
  | fn (f : FuncId) (first caps : List AV)
  | agg (l : List AV)
  | tup (l : List AV)

/-- Where a block lies: its first cell, whether it is none at all (behind a nil slice), and (of a grown slice) its capacity. -/
structure Loc where
  addr : Addr
  null : Bool
  cap : Nat

def Loc.shift (l : Loc) (o : Nat) : Loc := ⟨l.addr.add o, l.null, l.cap⟩
def Loc.nil : Loc := ⟨default, true, 0⟩

theorem Addr.add_add (a : Addr) (m n : Nat) : (a.add m).add n = a.add (m + n) := by
  unfold Addr.add
  by_cases hm : m = 0 <;> by_cases hn : n = 0 <;> simp [hm, hn, Nat.add_assoc]
theorem Addr.add_zero (a : Addr) : a.add 0 = a := rfl
theorem Addr.add_block (a : Addr) (m : Nat) : (a.add m).block = a.block := by unfold Addr.add; split <;> rfl
theorem Addr.add_base (b m : Nat) : (⟨b, 0, none⟩ : Addr).add m = ⟨b, m, none⟩ := by
  unfold Addr.add; split
  · rename_i h; rw [h]
  · simp
theorem Addr.add_plain (b o m : Nat) : (⟨b, o, none⟩ : Addr).add m = ⟨b, o + m, none⟩ := by
  unfold Addr.add; split
  · rename_i h; rw [h]; rfl
  · rfl

mutual
def gam (ι : Nat → Loc) : AV → Value
  | .top => undef
  | .int k n => .int k n
  | .bool b => .bool b
  | .str s => .string ⟨s.toArray⟩
  | .v x => x
  | .ptr b off => .pointer (some ((ι b).addr.add off))
  | .slc b off len ex c => .slice (cond (ι b).null none (some ((ι b).addr.add off))) len (cond ex c ((ι b).cap - c))
  | .map b => .map (some (ι b).addr.block)
  | .fn f first caps => .func (.func f) (gams ι first).toArray (gams ι caps).toArray
  | .agg l => .agg (gams ι l).toArray
  | .tup l => .tuple (gams ι l).toArray
def gams (ι : Nat → Loc) : List AV → List Value
  | [] => []
  | a :: l => gam ι a :: gams ι l
end

abbrev Ren := Nat → Option (Nat × Nat)

/-- The places of renamed blocks. -/
def Ren.loc (ρ : Ren) (ι : Nat → Loc) (j : Nat) : Loc :=
  match ρ j with
  | some (b, o) => (ι b).shift o
  | none => .nil

mutual
def AV.ren (ρ : Ren) : AV → AV
  | .top => .top
  | .int k n => .int k n
  | .bool b => .bool b
  | .str s => .str s
  | .v x => .v x
  | .ptr b off => match ρ b with | some (b', o) => .ptr b' (o + off) | none => .v (.pointer (some (Addr.add default off)))
  | .slc b off len ex c => match ρ b with | some (b', o) => .slc b' (o + off) len ex c | none => .v (.slice none len (cond ex c (0 - c)))
  | .map b => match ρ b with | some (b', _) => .map b' | none => .v (.map (some (default : Addr).block))
  | .fn f first caps => .fn f (AV.rens ρ first) (AV.rens ρ caps)
  | .agg l => .agg (AV.rens ρ l)
  | .tup l => .tup (AV.rens ρ l)
def AV.rens (ρ : Ren) : List AV → List AV
  | [] => []
  | a :: l => AV.ren ρ a :: AV.rens ρ l
end

/- All blocks that a value names lie under a number. -/
mutual
def AV.under (n : Nat) : AV → Prop
  | .ptr b _ => b < n
  | .slc b _ _ _ _ => b < n
  | .map b => b < n
  | .fn _ first caps => AV.unders n first ∧ AV.unders n caps
  | .agg l => AV.unders n l
  | .tup l => AV.unders n l
  | _ => True
def AV.unders (n : Nat) : List AV → Prop
  | [] => True
  | a :: l => AV.under n a ∧ AV.unders n l
end

theorem gams_map (ι : Nat → Loc) (l : List AV) : gams ι l = l.map (gam ι) := by
  induction l with
  | nil => rfl
  | cons a l ih => simp [gams, ih]

theorem rens_map (ρ : Ren) (l : List AV) : AV.rens ρ l = l.map (AV.ren ρ) := by
  induction l with
  | nil => rfl
  | cons a l ih => simp [AV.rens, ih]

theorem unders_iff (n : Nat) (l : List AV) : AV.unders n l ↔ ∀ a ∈ l, AV.under n a := by
  induction l with
  | nil => simp [AV.unders]
  | cons a l ih => simp [AV.unders, ih]

mutual
theorem gam_ren (ι : Nat → Loc) (ρ : Ren) : (a : AV) → gam ι (a.ren ρ) = gam (ρ.loc ι) a
  | .top => rfl
  | .int _ _ => rfl
  | .bool _ => rfl
  | .str _ => rfl
  | .v _ => rfl
  | .ptr b off => by
    simp only [AV.ren, gam, Ren.loc]
    cases h : ρ b with
    | none => rfl
    | some p => simp only [gam, Loc.shift, Addr.add_add]
  | .slc b off len ex c => by
    simp only [AV.ren, gam, Ren.loc]
    cases h : ρ b with
    | none => rfl
    | some p => simp only [gam, Loc.shift, Addr.add_add]
  | .map b => by
    simp only [AV.ren, gam, Ren.loc]
    cases h : ρ b with
    | none => rfl
    | some p => simp only [gam, Loc.shift, Addr.add_block]
  | .fn _ a b => by simp only [AV.ren, gam, gams_ren ι ρ a, gams_ren ι ρ b]
  | .agg l => by simp only [AV.ren, gam, gams_ren ι ρ l]
  | .tup l => by simp only [AV.ren, gam, gams_ren ι ρ l]
theorem gams_ren (ι : Nat → Loc) (ρ : Ren) : (l : List AV) → gams ι (AV.rens ρ l) = gams (ρ.loc ι) l
  | [] => rfl
  | a :: l => by simp only [AV.rens, gams, gam_ren ι ρ a, gams_ren ι ρ l]
end

mutual
theorem gam_agree {ι ι' : Nat → Loc} {n : Nat} (h : ∀ j, j < n → ι j = ι' j) : (a : AV) → a.under n → gam ι a = gam ι' a
  | .top, _ => rfl
  | .int _ _, _ => rfl
  | .bool _, _ => rfl
  | .str _, _ => rfl
  | .v _, _ => rfl
  | .ptr b _, hb => by simp only [gam, h b hb]
  | .slc b _ _ _ _, hb => by simp only [gam, h b hb]
  | .map b, hb => by simp only [gam, h b hb]
  | .fn _ a b, hb => by simp only [gam, gams_agree h a hb.1, gams_agree h b hb.2]
  | .agg l, hb => by simp only [gam, gams_agree h l hb]
  | .tup l, hb => by simp only [gam, gams_agree h l hb]
theorem gams_agree {ι ι' : Nat → Loc} {n : Nat} (h : ∀ j, j < n → ι j = ι' j) : (l : List AV) → AV.unders n l → gams ι l = gams ι' l
  | [], _ => rfl
  | a :: l, hb => by simp only [gams, gam_agree h a hb.1, gams_agree h l hb.2]
end

mutual
theorem under_mono {n m : Nat} (h : n ≤ m) : (a : AV) → a.under n → a.under m
  | .top, _ => trivial
  | .int _ _, _ => trivial
  | .bool _, _ => trivial
  | .str _, _ => trivial
  | .v _, _ => trivial
  | .ptr b _, hb => Nat.lt_of_lt_of_le hb h
  | .slc b _ _ _ _, hb => Nat.lt_of_lt_of_le hb h
  | .map b, hb => Nat.lt_of_lt_of_le hb h
  | .fn _ a b, hb => ⟨unders_mono h a hb.1, unders_mono h b hb.2⟩
  | .agg l, hb => unders_mono h l hb
  | .tup l, hb => unders_mono h l hb
theorem unders_mono {n m : Nat} (h : n ≤ m) : (l : List AV) → AV.unders n l → AV.unders m l
  | [], _ => trivial
  | a :: l, hb => ⟨under_mono h a hb.1, unders_mono h l hb.2⟩
end

/-- A value of one cell. -/
def AV.one : AV → Bool
  | .top | .agg _ | .tup _ => false
  | .v x => x.oneCell'
  | _ => true

theorem AV.one_gam {ι : Nat → Loc} {a : AV} (h : a.one = true) : (gam ι a).oneCell' = true := by
  cases a <;> simp_all [AV.one, gam, Value.oneCell']

structure AE where
  key : AV
  val : AV
  born : Nat

/-- Blocks of memory. 'vec': the row behind a slice that may have places to spare; 'ro': cells that are only read. -/
inductive AO where
  | cells (l : List AV)
  | vec (sz : Nat) (l : List AV)
  | ro (l : List AV)
  | map (es : List AE) (clock : Nat)
  | miter (m : Option Nat) (since : Nat) (seen : List Nat) (last : Nat)
  | siter (s : List UInt8) (pos : Nat)
  | dead

def AO.under (n : Nat) : AO → Prop
  | .cells l => AV.unders n l
  | .vec _ l => AV.unders n l
  | .ro l => AV.unders n l
  | .map es _ => ∀ e ∈ es, e.key.under n ∧ e.val.under n
  | .miter m _ _ _ => ∀ b, m = some b → b < n
  | _ => True

def AE.ren (ρ : Ren) (e : AE) : AE := ⟨e.key.ren ρ, e.val.ren ρ, e.born⟩

def AO.ren (ρ : Ren) : AO → AO
  | .cells l => .cells (AV.rens ρ l)
  | .vec sz l => .vec sz (AV.rens ρ l)
  | .ro l => .ro (AV.rens ρ l)
  | .map es c => .map (es.map (AE.ren ρ)) c
  | .miter m a b c => .miter (m.bind fun j => (ρ j).map (·.1)) a b c
  | .siter s p => .siter s p
  | .dead => .dead

/-- Whether something is known of a block, and whether it may be written. -/
def AO.live : AO → Bool
  | .dead => false
  | _ => true
def AO.wr : AO → Bool
  | .dead | .ro _ => false
  | _ => true

theorem AO.live_of_wr {o : AO} (h : o.wr = true) : o.live = true := by cases o <;> simp_all [AO.wr, AO.live]

theorem AO.under_mono {n m : Nat} (h : n ≤ m) (o : AO) (hb : o.under n) : o.under m := by
  cases o with
  | cells l => exact unders_mono h l hb
  | vec s l => exact unders_mono h l hb
  | ro l => exact unders_mono h l hb
  | map es c => exact fun e he => ⟨Am.under_mono h _ (hb e he).1, Am.under_mono h _ (hb e he).2⟩
  | miter m' _ _ _ => exact fun b hm => Nat.lt_of_lt_of_le (hb b hm) h
  | siter _ _ => trivial
  | dead => trivial

/-- The mark of a block touches no cell of it. -/
def calm (fz : Nat × Nat) (n : Nat) : Prop := ∀ i, i < n → ¬(fz.1 ≤ i ∧ i < fz.2)

def gamE (ι : Nat → Loc) (e : AE) : MapEntry := { key := gam ι e.key, val := gam ι e.val, born := e.born }

/-- What a block of the model holds, for an abstract one. -/
def ORel (ι : Nat → Loc) (heap : Array Obj) (loc : Loc) : AO → Prop
  | .cells l => loc.null = false ∧ ∃ blk c ty fz, loc.addr = ⟨blk, 0, none⟩ ∧ heap[blk]? = some (.cells c ty fz) ∧ c.toList = gams ι l ∧ calm fz c.size
  | .vec sz l => (loc.null = true ∧ loc.cap = 0 ∧ l = []) ∨ (loc.null = false ∧
      ∃ blk c ty fz ex, loc.addr = ⟨blk, 0, none⟩ ∧ heap[blk]? = some (.cells c ty fz) ∧ c.toList = gams ι l ++ ex ∧ calm fz c.size ∧ loc.cap * sz = c.size)
  | .ro l => (loc.null = true ∧ l = []) ∨ (loc.null = false ∧ ∃ blk o c ty fz pre ex, loc.addr = ⟨blk, o, none⟩ ∧ heap[blk]? = some (.cells c ty fz) ∧ pre.length = o ∧ c.toList = pre ++ gams ι l ++ ex)
  | .map es clock => loc.null = false ∧ ∃ blk, loc.addr = ⟨blk, 0, none⟩ ∧ heap[blk]? = some (.map (es.map (gamE ι)).toArray clock)
  | .miter m a b c => loc.null = false ∧ ∃ blk, loc.addr = ⟨blk, 0, none⟩ ∧ heap[blk]? = some (.mapIter (m.map fun j => (ι j).addr.block) a b.toArray c)
  | .siter s p => loc.null = false ∧ ∃ blk, loc.addr = ⟨blk, 0, none⟩ ∧ heap[blk]? = some (.stringIter ⟨s.toArray⟩ p)
  | .dead => True

/-- The block of the model behind a live abstract block (one that may be written). -/
def At (ι : Nat → Loc) (hp : List AO) (j b : Nat) : Prop :=
  ∃ o, hp[j]? = some o ∧ o.live = true ∧ (ι j).null = false ∧ (ι j).addr.block = b
def AtW (ι : Nat → Loc) (hp : List AO) (j b : Nat) : Prop :=
  ∃ o, hp[j]? = some o ∧ o.wr = true ∧ (ι j).null = false ∧ (ι j).addr.block = b

theorem AtW.at_ {ι : Nat → Loc} {hp : List AO} {j b : Nat} (h : AtW ι hp j b) : At ι hp j b :=
  let ⟨o, h1, h2, h3, h4⟩ := h; ⟨o, h1, AO.live_of_wr h2, h3, h4⟩

structure HOk (ι : Nat → Loc) (hp : List AO) (heap : Array Obj) : Prop where
  rel : ∀ j o, hp[j]? = some o → o.under hp.length ∧ ORel ι heap (ι j) o
  inj : ∀ i j b, AtW ι hp i b → At ι hp j b → i = j

theorem ORel.lt {ι : Nat → Loc} {heap : Array Obj} {loc : Loc} {o : AO} (h : ORel ι heap loc o) (hl : o.live = true) (hn : loc.null = false) :
    loc.addr.block < heap.size := by
  have key : ∀ {b : Nat} {x : Obj}, heap[b]? = some x → b < heap.size := fun hx => (Array.getElem?_eq_some_iff.1 hx).1
  cases o with
  | cells l => obtain ⟨_, blk, c, ty, fz, ha, hh, _⟩ := h; rw [ha]; exact key hh
  | vec sz l =>
    rcases h with h | ⟨_, blk, c, ty, fz, ex, ha, hh, _⟩
    · rw [h.1] at hn; cases hn
    · rw [ha]; exact key hh
  | ro l =>
    rcases h with h | ⟨_, blk, o, c, ty, fz, pre, ex, ha, hh, _⟩
    · rw [h.1] at hn; cases hn
    · rw [ha]; exact key hh
  | map es c => obtain ⟨_, blk, ha, hh⟩ := h; rw [ha]; exact key hh
  | miter m a b c => obtain ⟨_, blk, ha, hh⟩ := h; rw [ha]; exact key hh
  | siter s p => obtain ⟨_, blk, ha, hh⟩ := h; rw [ha]; exact key hh
  | dead => simp [AO.live] at hl

theorem HOk.lt {ι : Nat → Loc} {hp : List AO} {heap : Array Obj} (h : HOk ι hp heap) {j b : Nat} (ha : At ι hp j b) : b < heap.size := by
  obtain ⟨o, ho, hl, hn, rfl⟩ := ha
  exact (h.rel j o ho).2.lt hl hn

/-- A block's relation hangs on its own block alone, and on where the blocks lie that it names. -/
theorem ORel.keep {ι ι' : Nat → Loc} {heap heap' : Array Obj} {loc : Loc} {o : AO} {n : Nat} (h : ORel ι heap loc o) (hb : o.under n)
    (hι : ∀ j, j < n → ι j = ι' j) (hh : o.live = true → loc.null = false → heap'[loc.addr.block]? = heap[loc.addr.block]?) : ORel ι' heap' loc o := by
  cases o with
  | cells l =>
    obtain ⟨hn, blk, c, ty, fz, ha, h1, h2, h3⟩ := h
    have := hh rfl hn; rw [ha] at this
    exact ⟨hn, blk, c, ty, fz, ha, this.trans h1, by rw [h2, gams_agree hι l hb], h3⟩
  | vec sz l =>
    rcases h with h | ⟨hn, blk, c, ty, fz, ex, ha, h1, h2, h3, h4⟩
    · exact .inl h
    · have := hh rfl hn; rw [ha] at this
      exact .inr ⟨hn, blk, c, ty, fz, ex, ha, this.trans h1, by rw [h2, gams_agree hι l hb], h3, h4⟩
  | ro l =>
    rcases h with h | ⟨hn, blk, o, c, ty, fz, pre, ex, ha, h1, h2, h3⟩
    · exact .inl h
    · have := hh rfl hn; rw [ha] at this
      exact .inr ⟨hn, blk, o, c, ty, fz, pre, ex, ha, this.trans h1, h2, by rw [h3, gams_agree hι l hb]⟩
  | map es ck =>
    obtain ⟨hn, blk, ha, h1⟩ := h
    have := hh rfl hn; rw [ha] at this
    refine ⟨hn, blk, ha, this.trans (h1.trans ?_)⟩
    have : es.map (gamE ι) = es.map (gamE ι') := by
      apply List.map_congr_left
      intro e he
      simp only [gamE, gam_agree hι _ (hb e he).1, gam_agree hι _ (hb e he).2]
    rw [this]
  | miter m a b c =>
    obtain ⟨hn, blk, ha, h1⟩ := h
    have := hh rfl hn; rw [ha] at this
    refine ⟨hn, blk, ha, this.trans (h1.trans ?_)⟩
    cases m with
    | none => rfl
    | some j => simp only [Option.map_some, hι j (hb j rfl)]
  | siter s p =>
    obtain ⟨hn, blk, ha, h1⟩ := h
    have := hh rfl hn; rw [ha] at this
    exact ⟨hn, blk, ha, this.trans h1⟩
  | dead => trivial

abbrev Env := List (Nat × AV)

def get : Env → Nat → AV
  | [], _ => .top
  | (k, v) :: r, t => if k = t then v else get r t

structure St where
  env : Env
  hp : List AO

structure Ctx where
  w0 : World
  ι0 : Nat → Loc
  n0 : Nat
  D : Nat → Prop
  nt : Nat

structure WOk (X : Ctx) (w : World) : Prop where
  frame : ∀ b, b < X.w0.heap.size → ¬ X.D b → w.heap[b]? = X.w0.heap[b]?
  grow : X.w0.heap.size ≤ w.heap.size
  os : w.os = X.w0.os
  out : w.output = X.w0.output
  tape : w.tape = X.w0.tape

structure Ok (X : Ctx) (ι : Nat → Loc) (s : St) (a : Act) (w : World) : Prop where
  size : a.tmps.size = X.nt
  defers : a.defers = []
  env : ∀ t, get s.env t ≠ .top → (get s.env t).under s.hp.length ∧ a.tmps[t]? = some (gam ι (get s.env t))
  heap : HOk ι s.hp w.heap
  dom : ∀ j b, AtW ι s.hp j b → X.D b
  base : ∀ j, j < X.n0 → ι j = X.ι0 j
  len : X.n0 ≤ s.hp.length
  fresh : ∀ b, X.w0.heap.size ≤ b → X.D b
  world : WOk X w

inductive AX where
  | normal
  | exit (id : Nat)
  | ret

def AX.of : Exit → Option AX
  | .normal => some .normal
  | .exit id => some (.exit id)
  | .ret => some .ret
  | _ => none

def lift (X : Ctx) (Q : AX → St → Prop) (e : Exit) (a : Act) (w : World) : Prop :=
  ∃ x ι s, AX.of e = some x ∧ Ok X ι s a w ∧ Q x s

/-- From a state on, the code comes to what 'Q' tells. -/
def WC (P : Program) (n0 nt : Nat) (c : Code) (Q : AX → St → Prop) (s : St) : Prop :=
  ∀ X : Ctx, X.n0 = n0 → X.nt = nt → ∀ ι a w, Ok X ι s a w → c.wp P (lift X Q) a w

section rules
variable {P : Program} {n0 nt : Nat} {Q : AX → St → Prop} {s : St}

theorem WC.mono {c : Code} {Q' : AX → St → Prop} (h : WC P n0 nt c Q s) (hq : ∀ x s, Q x s → Q' x s) : WC P n0 nt c Q' s :=
  fun X h0 h1 ι a w hok => wp_mono (h X h0 h1 ι a w hok) fun e a w ⟨x, ι, s, hx, ho, hs⟩ => ⟨x, ι, s, hx, ho, hq _ _ hs⟩

theorem WC.skip (h : Q .normal s) : WC P n0 nt .skip Q s :=
  fun X _ _ ι a w hok => wp_skip ⟨_, ι, s, rfl, hok, h⟩
theorem WC.exit {id : Nat} (h : Q (.exit id) s) : WC P n0 nt (.exit id) Q s :=
  fun X _ _ ι a w hok => wp_exit ⟨_, ι, s, rfl, hok, h⟩
theorem WC.ret (h : Q .ret s) : WC P n0 nt .ret Q s :=
  fun X _ _ ι a w hok => wp_ret ⟨_, ι, s, rfl, hok, h⟩

def AX.then (K : St → Prop) (Q : AX → St → Prop) : AX → St → Prop
  | .normal, s => K s
  | x, s => Q x s

theorem WC.seq {x y : Code} (h : WC P n0 nt x (AX.then (WC P n0 nt y Q) Q) s) : WC P n0 nt (.seq x y) Q s := by
  intro X h0 h1 ι a w hok
  refine wp_seq (wp_mono (h X h0 h1 ι a w hok) ?_)
  rintro e a w ⟨x, ι, s, hx, ho, hs⟩
  cases e <;> simp only [AX.of, Option.some.injEq, reduceCtorEq] at hx <;> subst hx
  · exact hs X h0 h1 ι a w ho
  · exact ⟨_, ι, s, rfl, ho, hs⟩
  · exact ⟨_, ι, s, rfl, ho, hs⟩

def AX.inBlock (id : Nat) (Q : AX → St → Prop) : AX → St → Prop
  | .exit id', s => if id' = id then Q .normal s else Q (.exit id') s
  | x, s => Q x s

theorem WC.block {id : Nat} {c : Code} (h : WC P n0 nt c (AX.inBlock id Q) s) : WC P n0 nt (.block id c) Q s := by
  intro X h0 h1 ι a w hok
  refine wp_block (wp_mono (h X h0 h1 ι a w hok) ?_)
  rintro e a w ⟨x, ι, s, hx, ho, hs⟩
  cases e <;> simp only [AX.of, Option.some.injEq, reduceCtorEq] at hx <;> subst hx
  · exact ⟨_, ι, s, rfl, ho, hs⟩
  · rename_i id'
    simp only [AX.inBlock] at hs
    simp only [Exit.inBlock]
    by_cases hid : id' = id
    · rw [if_pos hid] at hs ⊢; exact ⟨_, ι, s, rfl, ho, hs⟩
    · rw [if_neg hid] at hs ⊢; exact ⟨_, ι, s, rfl, ho, hs⟩
  · exact ⟨_, ι, s, rfl, ho, hs⟩

/-- A state that tells less of the same: blocks renamed, values left out. -/
structure Sim (n0 : Nat) (s s' : St) (ρ : Ren) : Prop where
  env : ∀ t, get s'.env t ≠ .top → (get s'.env t).under s'.hp.length ∧ get s.env t = (get s'.env t).ren ρ
  heap : ∀ j o, s'.hp[j]? = some o → o.under s'.hp.length ∧
    (o.live = true → (∃ j', ρ j = some (j', 0) ∧ s.hp[j']? = some (o.ren ρ)) ∨ (ρ j = none ∧ ∃ sz, o = .vec sz []))
  inj : ∀ i j b, (∃ o, s'.hp[i]? = some o ∧ o.live = true) → (∃ o, s'.hp[j]? = some o ∧ o.live = true) → ρ i = some b → ρ j = some b → i = j
  base : ∀ j, j < n0 → ρ j = some (j, 0)
  len : n0 ≤ s'.hp.length
  it : ∀ (j m a : Nat) (b : List Nat) (c : Nat), s'.hp[j]? = some (AO.miter (some m) a b c) → ∃ j', ρ m = some (j', 0)

theorem Loc.shift_zero (l : Loc) : l.shift 0 = l := rfl

theorem AO.live_ren (ρ : Ren) (o : AO) : (o.ren ρ).live = o.live := by cases o <;> rfl
theorem AO.wr_ren (ρ : Ren) (o : AO) : (o.ren ρ).wr = o.wr := by cases o <;> rfl

theorem AO.below_ren_miter {ρ : Ren} {n : Nat} : True := trivial

/-- Renaming turns the relation into that over the renamed places. -/
theorem ORel.ren {ι : Nat → Loc} {ρ : Ren} {heap : Array Obj} {loc : Loc} {o : AO} (h : ORel ι heap loc (o.ren ρ))
    (hm : ∀ (m a : Nat) (b : List Nat) (c : Nat), o = AO.miter (some m) a b c → ∃ j, ρ m = some (j, 0)) : ORel (ρ.loc ι) heap loc o := by
  cases o with
  | cells l => obtain ⟨hn, blk, c, ty, fz, ha, h1, h2, h3⟩ := h; exact ⟨hn, blk, c, ty, fz, ha, h1, by rw [h2, gams_ren], h3⟩
  | vec sz l =>
    rcases h with ⟨h1, h2, h3⟩ | ⟨hn, blk, c, ty, fz, ex, ha, h1, h2, h3, h4⟩
    · refine .inl ⟨h1, h2, ?_⟩
      cases l with
      | nil => rfl
      | cons a l => simp [AV.rens] at h3
    · exact .inr ⟨hn, blk, c, ty, fz, ex, ha, h1, by rw [h2, gams_ren], h3, h4⟩
  | ro l =>
    rcases h with ⟨h1, h3⟩ | ⟨hn, blk, o, c, ty, fz, pre, ex, ha, h1, h2, h3⟩
    · refine .inl ⟨h1, ?_⟩
      cases l with
      | nil => rfl
      | cons a l => simp [AV.rens] at h3
    · exact .inr ⟨hn, blk, o, c, ty, fz, pre, ex, ha, h1, h2, by rw [h3, gams_ren]⟩
  | map es ck =>
    obtain ⟨hn, blk, ha, h1⟩ := h
    refine ⟨hn, blk, ha, h1.trans ?_⟩
    have : (es.map (AE.ren ρ)).map (gamE ι) = es.map (gamE (ρ.loc ι)) := by
      rw [List.map_map]
      apply List.map_congr_left
      intro e _
      simp only [Function.comp, gamE, AE.ren, gam_ren]
    rw [this]
  | miter m a b c =>
    obtain ⟨hn, blk, ha, h1⟩ := h
    refine ⟨hn, blk, ha, h1.trans ?_⟩
    cases m with
    | none => rfl
    | some j =>
      obtain ⟨j', hj⟩ := hm j a b c rfl
      simp only [Option.bind_some, hj, Option.map_some, Ren.loc, Loc.shift_zero]
  | siter s p => exact h
  | dead => trivial

theorem Ok.sim {X : Ctx} {ι : Nat → Loc} {s s' : St} {a : Act} {w : World} (h : Ok X ι s a w) {ρ : Ren} (hs : Sim X.n0 s s' ρ) : Ok X (ρ.loc ι) s' a w where
  size := h.size
  defers := h.defers
  env := fun t ht => by
    obtain ⟨hb, he⟩ := hs.env t ht
    refine ⟨hb, ?_⟩
    have h1 : get s.env t ≠ .top := by
      rw [he]; intro h0; apply ht
      cases hv : get s'.env t <;> rw [hv] at h0 <;> simp only [AV.ren, reduceCtorEq] at h0 <;> (try (split at h0 <;> cases h0))
    rw [(h.env t h1).2, he, gam_ren]
  heap := by
    have atd : ∀ j b, At (ρ.loc ι) s'.hp j b → ∃ j', ρ j = some (j', 0) ∧ At ι s.hp j' b ∧ (∀ o, s'.hp[j]? = some o → s.hp[j']? = some (o.ren ρ)) := by
      rintro j b ⟨o, ho, hl, hn, hb⟩
      rcases (hs.heap j o ho).2 hl with ⟨j', hj, hh⟩ | ⟨hj, sz, rfl⟩
      · simp only [Ren.loc, hj, Loc.shift_zero] at hn hb
        refine ⟨j', hj, ⟨_, hh, by rw [AO.live_ren]; exact hl, hn, hb⟩, ?_⟩
        intro o' ho'; rw [ho] at ho'; cases ho'; exact hh
      · simp [Ren.loc, hj, Loc.nil] at hn
    refine ⟨fun j o ho => ⟨(hs.heap j o ho).1, ?_⟩, ?_⟩
    · by_cases hl : o.live = true
      · rcases (hs.heap j o ho).2 hl with ⟨j', hj, hh⟩ | ⟨hj, sz, rfl⟩
        · have := (h.heap.rel j' _ hh).2
          have e : ρ.loc ι j = ι j' := by simp [Ren.loc, hj, Loc.shift_zero]
          rw [e]
          refine ORel.ren this ?_
          intro m a b c he; subst he
          exact hs.it j m a b c ho
        · refine .inl ⟨?_, ?_, rfl⟩ <;> simp [Ren.loc, hj, Loc.nil]
      · cases o <;> simp [AO.live] at hl
        trivial
    · intro i j b hi hj
      obtain ⟨i', hi', hai, hoi⟩ := atd i b hi.at_
      obtain ⟨j', hj', haj, hoj⟩ := atd j b hj
      obtain ⟨o, ho, hw, hn, hb⟩ := hi
      have hwi : AtW ι s.hp i' b := by
        obtain ⟨o', ho', _, hn', hb'⟩ := hai
        refine ⟨o.ren ρ, hoi o ho, by rw [AO.wr_ren]; exact hw, hn', hb'⟩
      have e := h.heap.inj i' j' b hwi haj
      subst e
      obtain ⟨o2, ho2, hl2, _⟩ := hj
      exact hs.inj i j _ ⟨o, ho, AO.live_of_wr hw⟩ ⟨o2, ho2, hl2⟩ hi' hj'
  dom := fun j b hj => by
    obtain ⟨o, ho, hw, hn, hb⟩ := hj
    rcases (hs.heap j o ho).2 (AO.live_of_wr hw) with ⟨j', hj, hh⟩ | ⟨hj, sz, rfl⟩
    · simp only [Ren.loc, hj, Loc.shift_zero] at hn hb
      exact h.dom j' b ⟨_, hh, by rw [AO.wr_ren]; exact hw, hn, hb⟩
    · simp [Ren.loc, hj, Loc.nil] at hn
  base := fun j hj => by simp only [Ren.loc, hs.base j hj, Loc.shift_zero]; exact h.base j hj
  len := hs.len
  fresh := h.fresh
  world := h.world

theorem WC.weak {c : Code} {s' : St} {ρ : Ren} (hs : Sim n0 s s' ρ) (h : WC P n0 nt c Q s') : WC P n0 nt c Q s :=
  fun X h0 h1 ι a w hok => h X h0 h1 _ a w (hok.sim (h0 ▸ hs))

theorem WC.loop {c : Code} (I : St → Prop) (μ : St → Nat) (h0 : I s)
    (round : ∀ s, I s → WC P n0 nt c (AX.then (fun s' => ∃ s'' ρ, Sim n0 s' s'' ρ ∧ I s'' ∧ μ s'' < μ s) Q) s) : WC P n0 nt (.loop c) Q s := by
  intro X hx0 hx1 ι a w hok
  intro b k cs
  have key : ∀ n s, μ s = n → I s → ∀ ι a w, Ok X ι s a w →
      ∃ e a' w', lift X Q e a' w' ∧ Arrives P (lone (b.at a (.code c :: .inLoop c :: k)) cs w) b k cs e a' w' := by
    intro n
    induction n using Nat.strongRecOn with
    | _ n ih =>
      intro s hn hI ι a w hok
      obtain ⟨e, a₁, w₁, ⟨x, ι₁, s₁, hx, ho, hs⟩, harr⟩ := round s hI X hx0 hx1 ι a w hok b (.inLoop c :: k) cs
      cases e <;> simp only [AX.of, Option.some.injEq, reduceCtorEq] at hx <;> subst hx
      · obtain ⟨s₂, ρ, hsim, hI₁, hlt⟩ := hs
        obtain ⟨e₂, a₂, w₂, hq₂, harr₂⟩ := ih (μ s₂) (hn ▸ hlt) s₂ rfl hI₁ _ a₁ w₁ (ho.sim (hx0 ▸ hsim))
        exact ⟨e₂, a₂, w₂, hq₂, .of_steps (Steps.trans harr (.one step_inLoop)) harr₂⟩
      · exact ⟨_, a₁, w₁, ⟨_, ι₁, s₁, rfl, ho, hs⟩, .pass (x := .inLoop c) rfl (fun _ _ => .inl (by simp)) harr⟩
      · exact ⟨_, a₁, w₁, ⟨_, ι₁, s₁, rfl, ho, hs⟩, .pass (x := .inLoop c) rfl (fun _ _ => .inl (by simp)) harr⟩
  obtain ⟨e, a', w', hq, harr⟩ := key _ s rfl h0 ι a w hok
  exact ⟨e, a', w', hq, .of_steps (.one step_loop) harr⟩

theorem WC.scope {c : Code} (h : WC P n0 nt c Q s) : WC P n0 nt (.scope c) Q s := by
  intro X h0 h1 ι a w hok
  refine wp_scope_straight (wp_mono (h X h0 h1 ι a w hok) ?_)
  rintro e a w ⟨x, ι, s, hx, ho, hs⟩
  cases e <;> simp only [AX.of, Option.some.injEq, reduceCtorEq] at hx <;> subst hx
  · exact ⟨_, ι, s, rfl, ho, hs⟩
  · exact ⟨_, ι, s, rfl, ho, hs⟩
  · exact ⟨_, ι, s, rfl, ho, hs⟩

theorem WC.cond_true {c : Nat} {x y : Code} (hc : get s.env c = .bool true) (h : WC P n0 nt x Q s) : WC P n0 nt (.cond (.tmp c) x y) Q s := by
  intro X h0 h1 ι a w hok
  have := (hok.env c (by rw [hc]; simp)).2
  rw [hc] at this
  exact wp_cond_true (by simp [Act.eval, Array.getD_eq_getD_getElem?, this, gam]) (h X h0 h1 ι a w hok)
theorem WC.cond_false {c : Nat} {x y : Code} (hc : get s.env c = .bool false) (h : WC P n0 nt y Q s) : WC P n0 nt (.cond (.tmp c) x y) Q s := by
  intro X h0 h1 ι a w hok
  have := (hok.env c (by rw [hc]; simp)).2
  rw [hc] at this
  exact wp_cond_false (by simp [Act.eval, Array.getD_eq_getD_getElem?, this, gam]) (h X h0 h1 ι a w hok)
theorem WC.cond {c : Nat} {x y : Code} {b : Bool} (hc : get s.env c = .bool b) (ht : b = true → WC P n0 nt x Q s) (hf : b = false → WC P n0 nt y Q s) :
    WC P n0 nt (.cond (.tmp c) x y) Q s := by
  cases b
  · exact WC.cond_false hc (hf rfl)
  · exact WC.cond_true hc (ht rfl)

end rules
end Go.Am

/- The abstract machine: its operations, and how the model's operations are read as these. -/
import Derived.Test.YtabenjpidndpeaaAmHeap
namespace Go.Am
set_option linter.unusedVariables false

/-- The leaves of a type whose values are compared leaf by leaf. -/
inductive LT where
  | int | bool | str

inductive Opd where
  | t (n : Nat)
  | c (a : AV)

inductive LK where
  | str | slc | map

inductive AOp where
  | mov (x : Opd)
  | pick (c a b : Opd)
  | alloc (zero : List AV)
  | box (x : Opd)
  | build (zero : List AV) (parts : List (Nat × Nat × Opd))
  | mkslc (len : Nat) (zero : List AV) (parts : List (Nat × Nat × Opd))
  | load1 (a : Opd)
  | loadN (n : Nat) (a : Opd)
  | store1 (a x : Opd)
  | storeN (n : Nat) (a x : Opd)
  | nilchk (x : Opd)
  | bin (op : BinOp) (x y : Opd)
  | eqs (neg : Bool) (ks : List LT) (x y : Opd)
  | eqnil (neg : Bool) (x : Opd)
  | eqb (neg : Bool) (x y : Opd)
  | un (op : UnOp) (x : Opd)
  | conv (k : IntKind) (x : Opd)
  | b2s (x : Opd)
  | strid (x : Opd)
  | mkfn (f : FuncId) (first caps : List Opd)
  | mkmap
  | mkslice (size bytes : Nat) (zero : List AV) (len cap : Opd)
  | faddr (off : Nat) (x : Opd)
  | field (off n : Nat) (agg : Bool) (x : Opd)
  | iaddrA (len size : Nat) (x i : Opd)
  | iaddrS (size : Nat) (x i : Opd)
  | idxA (len size : Nat) (agg : Bool) (x i : Opd)
  | idxS (x i : Opd)
  | substr (x : Opd) (lo hi : Option Opd)
  | reslc (size : Nat) (x : Opd) (lo hi : Option Opd)
  | ext (i : Nat) (x : Opd)
  | len (k : LK) (x : Opd)
  | append (size bytes : Nat) (x y : Opd)
  | minmax (isMin : Bool) (x y : Opd)
  | lookup (ks : List LT) (agg : Bool) (zero : AV) (ok : Bool) (m k : Opd)
  | mapupd (ks : List LT) (agg : Bool) (m k v : Opd)
  | rangeM (m : Opd)
  | nextM (it : Opd)
  | entry (it : Opd)

def ofConst : Value → AV
  | .int k n => .int k n
  | .bool b => .bool b
  | .string s => .str s.data.toList
  | x => .v x

def ofConst' : Value → AV
  | .agg l => .agg (l.toList.map ofConst)
  | x => ofConst x

def Opd.of : Operand → Opd
  | .tmp n => .t n
  | .const v => .c (ofConst' v)
  | .global g => .c (.v (.pointer (some ⟨g, 0, none⟩)))
  | .func f => .c (.fn f [] [])

def ev (env : Env) : Opd → AV
  | .t n => get env n
  | .c a => a

theorem gam_ofConst (ι : Nat → Loc) (v : Value) : gam ι (ofConst v) = v := by
  cases v <;> simp [ofConst, gam]
theorem gams_ofConst (ι : Nat → Loc) (l : List Value) : gams ι (l.map ofConst) = l := by
  induction l with
  | nil => rfl
  | cons a l ih => simp [gams, gam_ofConst, ih]
theorem under_ofConst (n : Nat) (v : Value) : (ofConst v).under n := by
  cases v <;> simp [ofConst, AV.under]
theorem unders_ofConst (n : Nat) (l : List Value) : AV.unders n (l.map ofConst) := by
  rw [unders_iff]; intro a ha; obtain ⟨v, _, rfl⟩ := List.mem_map.1 ha; exact under_ofConst n v
theorem gam_ofConst' (ι : Nat → Loc) (v : Value) : gam ι (ofConst' v) = v := by
  cases v <;> simp [ofConst', gam, ofConst, gams_ofConst]
theorem under_ofConst' (n : Nat) (v : Value) : (ofConst' v).under n := by
  cases v <;> simp [ofConst', AV.under, ofConst, unders_ofConst]

/-- The cells of a value. -/
def AV.cells : AV → Option (List AV)
  | .agg l => some l
  | .tup _ => none
  | .top => none
  | .v x => if x.oneCell' then some [.v x] else none
  | a => some [a]

theorem AV.cells_ok {a : AV} {l : List AV} (h : a.cells = some l) : a ≠ .top ∧ (∀ n, a.under n → AV.unders n l) ∧ ∀ ι, (gam ι a).cells.toList = gams ι l := by
  cases a with
  | v x =>
    simp only [AV.cells] at h
    split at h
    · rename_i hx
      cases h
      refine ⟨by simp, fun _ _ => ⟨trivial, trivial⟩, fun ι => ?_⟩
      cases x <;> simp_all [gam, gams, Value.cells, Value.oneCell']
    · cases h
  | agg l' => simp only [AV.cells, Option.some.injEq] at h; subst h; exact ⟨by simp, fun _ h => h, fun ι => by simp [gam, Value.cells]⟩
  | tup l' => simp [AV.cells] at h
  | top => simp [AV.cells] at h
  | int k n => simp only [AV.cells, Option.some.injEq] at h; subst h; exact ⟨by simp, fun _ _ => ⟨trivial, trivial⟩, fun ι => by simp [gam, gams, Value.cells]⟩
  | bool b => simp only [AV.cells, Option.some.injEq] at h; subst h; exact ⟨by simp, fun _ _ => ⟨trivial, trivial⟩, fun ι => by simp [gam, gams, Value.cells]⟩
  | str b => simp only [AV.cells, Option.some.injEq] at h; subst h; exact ⟨by simp, fun _ _ => ⟨trivial, trivial⟩, fun ι => by simp [gam, gams, Value.cells]⟩
  | ptr b o => simp only [AV.cells, Option.some.injEq] at h; subst h; exact ⟨by simp, fun _ h => ⟨h, trivial⟩, fun ι => by simp [gam, gams, Value.cells]⟩
  | slc b o n e c => simp only [AV.cells, Option.some.injEq] at h; subst h; exact ⟨by simp, fun _ h => ⟨h, trivial⟩, fun ι => by simp [gam, gams, Value.cells]⟩
  | map b => simp only [AV.cells, Option.some.injEq] at h; subst h; exact ⟨by simp, fun _ h => ⟨h, trivial⟩, fun ι => by simp [gam, gams, Value.cells]⟩
  | fn f a b => simp only [AV.cells, Option.some.injEq] at h; subst h; exact ⟨by simp, fun _ h => ⟨h, trivial⟩, fun ι => by simp [gam, gams, Value.cells]⟩

/-- A part of a row of cells written over. -/
def over (l : List AV) (off : Nat) (c : List AV) : List AV := l.take off ++ c ++ l.drop (off + c.length)

theorem over_length {l c : List AV} {off : Nat} (h : off + c.length ≤ l.length) : (over l off c).length = l.length := by
  simp only [over, List.length_append, List.length_take, List.length_drop]; omega
theorem gams_over (ι : Nat → Loc) (l c : List AV) (off : Nat) : gams ι (over l off c) = (gams ι l).take off ++ gams ι c ++ (gams ι l).drop (off + (gams ι c).length) := by
  simp only [over, gams_append, gams_take, gams_drop, gams_length]
theorem unders_over {n off : Nat} {l c : List AV} (h : AV.unders n l) (h' : AV.unders n c) : AV.unders n (over l off c) :=
  unders_append.2 ⟨unders_append.2 ⟨unders_take h, h'⟩, unders_drop h⟩

def fillA (env : Env) : List (Nat × Nat × Opd) → List AV → Option (List AV)
  | [], l => some l
  | (off, sz, x) :: r, l => match (ev env x).cells with
    | some c => if c.length = sz ∧ off + sz ≤ l.length then fillA env r (over l off c) else none
    | none => none

/-- A test on an index. -/
def chk {α : Type} (c : Prop) [Decidable c] (x : Option α) : Option α := if c then x else none
theorem chk_ok {α : Type} {c : Prop} [Decidable c] {x : Option α} (h : c) : chk c x = x := if_pos h
theorem chk_some {α : Type} {c : Prop} [Decidable c] {x : Option α} {y : α} (h : chk c x = some y) : c ∧ x = some y := by
  unfold chk at h; split at h
  · rename_i hc; exact ⟨hc, h⟩
  · cases h

def wrapK (k : IntKind) (n : Int) : Int := k.wrap n

def abin : BinOp → AV → AV → Option AV
  | .add, .int k x, .int k' y => chk (k = k') (some (.int k (wrapK k (x + y))))
  | .sub, .int k x, .int k' y => chk (k = k') (some (.int k (wrapK k (x - y))))
  | .mul, .int k x, .int k' y => chk (k = k') (some (.int k (wrapK k (x * y))))
  | .quo, .int k x, .int k' y => chk (k = k') (chk (y ≠ 0) (some (.int k (wrapK k (x.tdiv y)))))
  | .rem, .int k x, .int k' y => chk (k = k') (chk (y ≠ 0) (some (.int k (x.tmod y))))
  | .and, .int k x, .int k' y => chk (k = k') (some (.int k (wrapK k ((BitVec.ofInt k.bits x) &&& (BitVec.ofInt k.bits y)).toNat)))
  | .or, .int k x, .int k' y => chk (k = k') (some (.int k (wrapK k ((BitVec.ofInt k.bits x) ||| (BitVec.ofInt k.bits y)).toNat)))
  | .xor, .int k x, .int k' y => chk (k = k') (some (.int k (wrapK k ((BitVec.ofInt k.bits x) ^^^ (BitVec.ofInt k.bits y)).toNat)))
  | .shl, .int k x, .int _ y => chk (0 ≤ y) (some (.int k (wrapK k (x * 2 ^ min y.toNat k.bits))))
  | .shr, .int k x, .int _ y => chk (0 ≤ y) (some (.int k (x.fdiv (2 ^ min y.toNat k.bits))))
  | .eql, .int k x, .int k' y => chk (k = k') (some (.bool (x == y)))
  | .neq, .int k x, .int k' y => chk (k = k') (some (.bool (x != y)))
  | .lss, .int k x, .int k' y => chk (k = k') (some (.bool (decide (x < y))))
  | .leq, .int k x, .int k' y => chk (k = k') (some (.bool (decide (x ≤ y))))
  | .gtr, .int k x, .int k' y => chk (k = k') (some (.bool (decide (y < x))))
  | .geq, .int k x, .int k' y => chk (k = k') (some (.bool (decide (y ≤ x))))
  | .add, .str x, .str y => chk (x.length + y.length ≤ 9223372036854775807) (some (.str (x ++ y)))
  | .eql, .str x, .str y => some (.bool (x == y))
  | .neq, .str x, .str y => some (.bool (!(x == y)))
  | .lss, .str x, .str y => some (.bool (Op.bytesLess x y))
  | .geq, .str x, .str y => some (.bool (!(Op.bytesLess x y)))
  | _, _, _ => none

def aun : UnOp → AV → Option AV
  | .neg, .int k x => some (.int k (wrapK k (0 - x)))
  | .not, .bool b => some (.bool (!b))
  | _, _ => none

/-- The limits of a slice expression. -/
def lim (lo hi : Option AV) (len : Nat) (cap : Nat) : Option (Nat × Nat) :=
  match hi, lo with
  | none, none => some (0, len)
  | none, some (.int _ l) => chk (0 ≤ l ∧ l ≤ len) (some (l.toNat, len))
  | some (.int _ h), none => chk (0 ≤ h ∧ h ≤ cap) (some (0, h.toNat))
  | some (.int _ h), some (.int _ l) => chk (0 ≤ h ∧ h ≤ cap) (chk (0 ≤ l ∧ l ≤ h) (some (l.toNat, h.toNat)))
  | _, _ => none

def undefA : AV := .v undef

/-- A row repeated. -/
def rep : Nat → List AV → List AV
  | 0, _ => []
  | n + 1, z => z ++ rep n z

def toBytes : List AV → Option (List UInt8)
  | [] => some []
  | .int .u8 n :: r => match toBytes r with
    | some s => some (UInt8.ofNat n.toNat :: s)
    | none => none
  | _ => none

/-- A slice's capacity is no less than its length. -/
def capOk (hp : List AO) (b off len : Nat) (ex : Bool) (c size : Nat) : Bool :=
  cond ex (decide (len ≤ c)) (match hp[b]? with
    | some (.vec sz _) => decide (sz = size ∧ off = c * size ∧ 1 ≤ size)
    | _ => false)

/-- What is appended: how many, and their cells. -/
def src (hp : List AO) (size : Nat) : AV → Option (Nat × List AV)
  | .slc b off n _ _ => match rd hp b with
    | some l => chk (off + n * size ≤ l.length) (some (n, (l.drop off).take (n * size)))
    | none => none
  | .v (.slice none n _) => chk (n = 0) (some (0, []))
  | .str s => chk (size = 1) (some (s.length, s.map fun b => .int .u8 b.toNat))
  | _ => none

/-- Leaves that are comparable at once. -/
def leq : LT → AV → AV → Option Bool
  | .int, .int k a, .int k' b => if k = k' then some (a == b) else none
  | .bool, .bool a, .bool b => some (a == b)
  | .str, .str a, .str b => some (a == b)
  | _, _, _ => none

def leqs : List LT → List AV → List AV → Option Bool
  | [], [], [] => some true
  | k :: ks, a :: as, b :: bs => match leq k a b, leqs ks as bs with
    | some x, some y => some (x && y)
    | _, _ => none
  | _, _, _ => none

/-- Whether two values of a type are equal. -/
def keq (ks : List LT) (agg : Bool) (x y : AV) : Option Bool :=
  match agg, x, y with
  | true, .agg l, .agg l' => leqs ks l l'
  | false, x, y => leqs ks [x] [y]
  | _, _, _ => none

/-- A key's values are of its type. -/
def kok (ks : List LT) (agg : Bool) (x : AV) : Bool := keq ks agg x x matches some _

/-- The entry of a key. -/
def findK (ks : List LT) (agg : Bool) (k : AV) : List AE → Nat → Option (Option (Nat × AE))
  | [], _ => some none
  | e :: es, i => match keq ks agg k e.key with
    | some true => some (some (i, e))
    | some false => findK ks agg k es (i + 1)
    | none => none

/-- One operation: its result, and the blocks behind it. -/
def astep (env : Env) (hp : List AO) : AOp → Option (AV × List AO)
  | .mov x => some (ev env x, hp)
  | .pick c a b => match ev env c with
    | .bool t => some (cond t (ev env a) (ev env b), hp)
    | _ => none
  | .alloc z => some (.ptr hp.length 0, hp ++ [.cells z])
  | .box x => match (ev env x).cells with
    | some l => some (.ptr hp.length 0, hp ++ [.cells l])
    | none => none
  | .build z parts => match fillA env parts z with
    | some l => some (.agg l, hp)
    | none => none
  | .mkslc n z parts => match fillA env parts z with
    | some l => some (.slc hp.length 0 n true n, hp ++ [.cells l])
    | none => none
  | .load1 a => match ev env a with
    | .ptr b off => match rd hp b with
      | some l => match l[off]? with
        | some v => some (v, hp)
        | none => none
      | none => none
    | _ => none
  | .loadN n a => match ev env a with
    | .ptr b off => match rd hp b with
      | some l => chk (off + n ≤ l.length) (some (.agg ((l.drop off).take n), hp))
      | none => none
    | _ => none
  | .store1 a x => match ev env a with
    | .ptr b off => match wrt hp b with
      | some l => chk (off < l.length ∧ (ev env x).one = true) (some (undefA, wrl hp b (l.set off (ev env x))))
      | none => none
    | _ => none
  | .storeN n a x => match ev env a, ev env x with
    | .ptr b off, .agg vs => match wrt hp b with
      | some l => chk (off + n ≤ l.length ∧ vs.length = n ∧ vs.all AV.one = true) (some (undefA, wrl hp b (over l off vs)))
      | none => none
    | _, _ => none
  | .nilchk x => match ev env x with
    | .ptr b off => some (.ptr b off, hp)
    | .fn f a b => some (.fn f a b, hp)
    | _ => none
  | .bin op x y => match abin op (ev env x) (ev env y) with
    | some v => some (v, hp)
    | none => none
  | .un op x => match aun op (ev env x) with
    | some v => some (v, hp)
    | none => none
  | .conv k x => match ev env x with
    | .int _ n => some (.int k (wrapK k n), hp)
    | _ => none
  | .mkfn f first caps => chk ((first.all fun x => match ev env x with | .top => false | _ => true) = true ∧ (caps.all fun x => match ev env x with | .top => false | _ => true) = true)
      (some (.fn f (first.map (ev env)) (caps.map (ev env)), hp))
  | .faddr off x => match ev env x with
    | .ptr b o => some (.ptr b (o + off), hp)
    | _ => none
  | .field off n agg x => match ev env x with
    | .agg l => cond agg (chk (off + n ≤ l.length) (some (.agg ((l.drop off).take n), hp)))
        (match l[off]? with | some v => some (v, hp) | none => none)
    | _ => none
  | .iaddrA len size x i => match ev env x, ev env i with
    | .ptr b o, .int _ n => chk (0 ≤ n ∧ n < len) (some (.ptr b (o + n.toNat * size), hp))
    | _, _ => none
  | .idxA len size agg x i => match ev env x, ev env i with
    | .agg l, .int _ n => chk (0 ≤ n ∧ n < len) (cond agg (chk (n.toNat * size + size ≤ l.length) (some (.agg ((l.drop (n.toNat * size)).take size), hp)))
        (match l[n.toNat * size]? with | some v => some (v, hp) | none => none))
    | _, _ => none
  | .idxS x i => match ev env x, ev env i with
    | .str s, .int _ n => chk (0 ≤ n ∧ n < s.length) (some (.int .u8 (s.getD n.toNat 0).toNat, hp))
    | _, _ => none
  | .ext i x => match ev env x with
    | .tup l => match l[i]? with
      | some v => some (v, hp)
      | none => none
    | _ => none
  | .minmax isMin x y => match ev env x, ev env y with
    | .int k a, .int k' b => chk (k = k') (some (.int k (cond isMin (if b < a then b else a) (if b > a then b else a)), hp))
    | _, _ => none
  | .iaddrS size x i => match ev env x, ev env i with
    | .slc b off len _ _, .int _ n => match rd hp b with
      | some l => chk ((0 ≤ n ∧ n < len) ∧ off + n.toNat * size < l.length) (some (.ptr b (off + n.toNat * size), hp))
      | none => none
    | _, _ => none
  | .len .str x => match ev env x with
    | .str s => some (.int .i64 s.length, hp)
    | _ => none
  | .len .slc x => match ev env x with
    | .slc _ _ n _ _ => some (.int .i64 n, hp)
    | .v (.slice _ n _) => some (.int .i64 n, hp)
    | _ => none
  | .len .map x => match ev env x with
    | .map b => match hp[b]? with
      | some (.map es _) => some (.int .i64 es.length, hp)
      | _ => none
    | _ => none
  | .substr x lo hi => match ev env x with
    | .str s => match lim (lo.map (ev env)) (hi.map (ev env)) s.length s.length with
      | some (l, h) => some (.str ((s.take h).drop l), hp)
      | none => none
    | _ => none
  | .reslc size x lo hi => match ev env x with
    | .slc b off len ex c => match rd hp b with
      | some r => match lim (lo.map (ev env)) (hi.map (ev env)) len len with
        | some (l, h) => chk (off + len * size ≤ r.length ∧ capOk hp b off len ex c size = true) (if l = 0 ∨ l < h then some (.slc b (off + l * size) (h - l) ex (cond ex (c - l) (c + l)), hp) else some (.slc hp.length 0 0 false 0, hp ++ [.dead]))
        | none => none
      | none => none
    | _ => none
  | .b2s x => match ev env x with
    | .slc b off len _ _ => match rd hp b with
      | some l => chk (off + len ≤ l.length) (match toBytes ((l.drop off).take len) with | some s => some (.str s, hp) | none => none)
      | none => none
    | .v (.slice none _ _) => some (.str [], hp)
    | _ => none
  | .strid x => match ev env x with
    | .str s => some (.str s, hp)
    | _ => none
  | .eqs neg ks x y => match ev env x, ev env y with
    | .agg l, .agg l' => match leqs ks l l' with
      | some r => some (.bool (cond neg (!r) r), hp)
      | none => none
    | _, _ => none
  | .eqb neg x y => match ev env x, ev env y with
    | .bool u, .bool u' => some (.bool (cond neg (!(u == u')) (u == u')), hp)
    | _, _ => none
  | .lookup ks agg z ok m k => match ev env m with
    | .map b => match hp[b]? with
      | some (.map es _) => chk (kok ks agg (ev env k) = true) (match findK ks agg (ev env k) es 0 with
        | some (some (_, e)) => some (cond ok (.tup [e.val, .bool true]) e.val, hp)
        | some none => some (cond ok (.tup [z, .bool false]) z, hp)
        | none => none)
      | _ => none
    | _ => none
  | .mapupd ks agg m k v => match ev env m, ev env v with
    | _, .top => none
    | .map b, x => match hp[b]? with
      | some (.map es ck) => chk (kok ks agg (ev env k) = true) (match findK ks agg (ev env k) es 0 with
        | some (some (i, e)) => some (undefA, hp.set b (.map (es.set i ⟨ev env k, x, e.born⟩) ck))
        | some none => some (undefA, hp.set b (.map (es ++ [⟨ev env k, x, ck⟩]) (ck + 1)))
        | none => none)
      | _ => none
    | _, _ => none
  | .eqnil neg x => match ev env x with
    | .ptr _ _ => some (.bool neg, hp)
    | .v (.pointer none) => some (.bool (!neg), hp)
    | _ => none
  | .mkmap => some (.map hp.length, hp ++ [.map [] 0])
  | .mkslice size bytes z len cap => match ev env len, ev env cap with
    | .int _ l, .int _ c => chk (0 ≤ l ∧ l ≤ c ∧ c * bytes ≤ 281474976710656 ∧ 1 ≤ bytes ∧ z.length = size ∧ 1 ≤ size) (some (.slc hp.length 0 l.toNat true c.toNat, hp ++ [.cells (rep c.toNat z)]))
    | _, _ => none
  | .append size bytes x y => match src hp size (ev env y) with
    | some (n, ys) => match ev env x with
      | .slc b 0 len ex c => match hp[b]? with
        | some (.vec sz l) => chk (ex = false ∧ c = 0 ∧ sz = size ∧ len * size ≤ l.length ∧ ys.all AV.one = true ∧ (len + n) * bytes ≤ 1099511627776 ∧ (1 ≤ bytes ∧ bytes ≤ 65536) ∧ 1 ≤ size)
            (some (.slc hp.length 0 (len + n) false 0, hp.set b .dead ++ [.vec size (l.take (len * size) ++ ys)]))
        | some (.cells l) => chk (ex = true ∧ c = len ∧ l.length = len * size ∧ ys.all AV.one = true ∧ (len + n) * bytes ≤ 1099511627776 ∧ (1 ≤ bytes ∧ bytes ≤ 65536) ∧ 1 ≤ size)
            (some (.slc hp.length 0 (len + n) false 0, hp.set b .dead ++ [.vec size (l ++ ys)]))
        | _ => none
      | .v (.slice none 0 0) => chk (ys.all AV.one = true ∧ n * bytes ≤ 1099511627776 ∧ (1 ≤ bytes ∧ bytes ≤ 65536) ∧ 1 ≤ size) (some (.slc hp.length 0 n false 0, hp ++ [.vec size ys]))
      | _ => none
    | none => none
  | .rangeM m => match ev env m with
    | .map b => match hp[b]? with
      | some (.map _ clock) => some (.ptr hp.length 0, hp ++ [.miter (some b) clock [] clock])
      | _ => none
    | _ => none
  | .entry it => match ev env it with
    | .ptr r 0 => match hp[r]? with
      | some (.miter (some m) _ seen last) => match hp[m]?, seen.getLast? with
        | some (.map es clock), some stamp => chk (clock = last) (match es.find? (fun e => e.born == stamp) with
          | some e => some (.tup [e.key, e.val], hp)
          | none => none)
        | _, _ => none
      | _ => none
    | _ => none
  | _ => none

/-! ### How the model's operations are read -/

def tsize (P : Program) (t : TypeId) : Option Nat := (P.info? t).map (·.size)
def tbytes (P : Program) (t : TypeId) : Option Nat := (P.info? t).map (·.bytes)
def zeroC (P : Program) (t : TypeId) : Option (List AV) := ((P.info? t).bind (·.zero)).map fun z => z.cells.toList.map ofConst

def isIntD : TypeDesc → Bool
  | .int _ => true
  | _ => false

def isAggD : TypeDesc → Bool
  | .struct _ | .array _ _ => true
  | _ => false

/-- The leaves of a struct's fields. -/
def leavesF (g : TypeId → Option (List LT)) (P : Program) : List Field → Nat → Option (List LT)
  | [], _ => some []
  | f :: fs, off => match g f.type, tsize P f.type with
    | some k, some n => if f.name ≠ "_" ∧ f.offset = off ∧ k.length = n then (match leavesF g P fs (off + n) with | some r => some (k ++ r) | none => none) else none
    | _, _ => none

/-- A list of leaves repeated. -/
def repL : Nat → List LT → List LT
  | 0, _ => []
  | n + 1, z => z ++ repL n z

/-- The leaves of a type. -/
def leaves (P : Program) : Nat → TypeId → Option (List LT)
  | 0, _ => none
  | d + 1, t => match P.underlying t with
    | some (.int _) => some [.int]
    | some .bool => some [.bool]
    | some .string => some [.str]
    | some (.struct fs) => if P.stoodInHeld t then none else leavesF (leaves P d) P fs.toList 0
    | some (.array n e) => match leaves P d e, tsize P e with
      | some k, some m => if k.length = m then some (repL n k) else none
      | _, _ => none
    | _ => none

def partsOf (P : Program) (fs : Array Field) : List (Nat × Operand) → Option (List (Nat × Nat × Opd))
  | [] => some []
  | (i, x) :: r => match fs[i]? with
    | some f => match tsize P f.type, partsOf P fs r with
      | some n, some l => some ((f.offset, n, Opd.of x) :: l)
      | _, _ => none
    | none => none

def cOp (P : Program) (o : Oper) : Option AOp :=
  match o.op with
  | .move x | .assign x => some (.mov (Opd.of x))
  | .pick c a b => some (.pick (Opd.of c) (Opd.of a) (Opd.of b))
  | .alloc t => (zeroC P t).map .alloc
  | .box _ x => some (.box (Opd.of x))
  | .build t parts => match zeroC P t, P.underlying t with
    | some z, some (.struct fs) => if fs.toList.all (fun f => (tsize P f.type).isSome) then (partsOf P fs parts.toList).map (.build z) else none
    | some z, some (.array _ e) => match tsize P e with
      | some n => some (.build z (parts.toList.map fun (i, x) => (i * n, n, Opd.of x)))
      | none => none
    | _, _ => none
  | .buildSlice t len parts => match P.underlying t with
    | some (.slice e) => match tsize P e, zeroC P e with
      | some n, some z => if z.length = n ∧ 1 ≤ n ∧ len * n ≤ 16777216 then some (.mkslc len (rep len z) (parts.toList.map fun (i, x) => (i * n, n, Opd.of x))) else none
      | _, _ => none
    | _ => none
  | .load t a => match P.underlying t with
    | some d => if isAggD d then (tsize P t).map fun n => .loadN n (Opd.of a) else some (.load1 (Opd.of a))
    | none => none
  | .store t a x => match P.underlying t, tsize P t with
    | some d, some n => if isAggD d then some (.storeN n (Opd.of a) (Opd.of x)) else if n = 1 then some (.store1 (Opd.of a) (Opd.of x)) else none
    | _, _ => none
  | .nilCheck x => some (.nilchk (Opd.of x))
  | .binOp op t x y _ => match P.underlying t with
    | some d => match d with
      | .int _ => some (.bin op (Opd.of x) (Opd.of y))
      | .string => some (.bin op (Opd.of x) (Opd.of y))
      | .bool => match op with
        | .eql => some (.eqb false (Opd.of x) (Opd.of y))
        | .neq => some (.eqb true (Opd.of x) (Opd.of y))
        | _ => none
      | .struct _ | .array _ _ => if P.eqGuardType P.depth t then none else match leaves P 20 t, op with
        | some ks, .eql => some (.eqs false ks (Opd.of x) (Opd.of y))
        | some ks, .neq => some (.eqs true ks (Opd.of x) (Opd.of y))
        | _, _ => none
      | .pointer _ => match y, op with
        | .const (.pointer none), .eql => some (.eqnil false (Opd.of x))
        | .const (.pointer none), .neq => some (.eqnil true (Opd.of x))
        | _, _ => none
      | _ => none
    | none => none
  | .unOp op _ x => some (.un op (Opd.of x))
  | .convert src dst x => match P.underlying src, P.underlying dst with
    | some (.int _), some (.int k) => some (.conv k (Opd.of x))
    | some .string, some .string => some (.strid (Opd.of x))
    | some (.slice e), some .string => match P.underlying e with
      | some (.int .u8) => some (.b2s (Opd.of x))
      | _ => none
    | _, _ => none
  | .makeFunc (.func f) first caps => some (.mkfn f (first.toList.map Opd.of) (caps.toList.map Opd.of))
  | .makeMap t none => match P.underlying t with
    | some (.map _ _) => some .mkmap
    | _ => none
  | .makeSlice t l c => match P.underlying t with
    | some (.slice e) => match tsize P e, tbytes P e, zeroC P e with
      | some n, some b, some z => some (.mkslice n b z (Opd.of l) (Opd.of c))
      | _, _, _ => none
    | _ => none
  | .slice t x lo hi none => match P.underlying t with
    | some .string => some (.substr (Opd.of x) (lo.map Opd.of) (hi.map Opd.of))
    | some (.slice e) => (tsize P e).map fun n => .reslc n (Opd.of x) (lo.map Opd.of) (hi.map Opd.of)
    | _ => none
  | .fieldAddr t x i => match P.underlying t with
    | some (.struct fs) => match fs[i]? with
      | some f => match tsize P f.type with
        | some n => if n ≠ 0 then some (.faddr f.offset (Opd.of x)) else none
        | none => none
      | none => none
    | _ => none
  | .field t x i => match P.underlying t with
    | some (.struct fs) => match fs[i]? with
      | some f => match tsize P f.type, P.underlying f.type with
        | some n, some d => some (.field f.offset n (isAggD d) (Opd.of x))
        | _, _ => none
      | none => none
    | _ => none
  | .indexAddr t x i => match P.underlying t with
    | some (.array len e) => (tsize P e).map fun n => .iaddrA len n (Opd.of x) (Opd.of i)
    | some (.slice e) => (tsize P e).map fun n => .iaddrS n (Opd.of x) (Opd.of i)
    | _ => none
  | .index t x i => match P.underlying t with
    | some (.array len e) => match tsize P e, P.underlying e with
      | some n, some d => some (.idxA len n (isAggD d) (Opd.of x) (Opd.of i))
      | _, _ => none
    | some .string => some (.idxS (Opd.of x) (Opd.of i))
    | _ => none
  | .lookup t m k ok => match P.underlying t with
    | some (.map kt e) => match leaves P 20 kt, P.underlying kt, (P.info? e).bind (·.zero) with
      | some ks, some d, some z => some (.lookup ks (isAggD d) (ofConst' z) ok (Opd.of m) (Opd.of k))
      | _, _, _ => none
    | _ => none
  | .mapUpdate t m k x | .insert t m k x => match P.underlying t with
    | some (.map kt _) => match leaves P 20 kt, P.underlying kt with
      | some ks, some d => some (.mapupd ks (isAggD d) (Opd.of m) (Opd.of k) (Opd.of x))
      | _, _ => none
    | _ => none
  | .range t m => match P.underlying t with
    | some (.map _ _) => some (.rangeM (Opd.of m))
    | _ => none
  | .next it false => some (.nextM (Opd.of it))
  | .entry it => some (.entry (Opd.of it))
  | .extract x i => some (.ext i (Opd.of x))
  | .call { callee := .builtin .len, args, argTypes } => match args.toList, argTypes.toList with
    | [x], [t] => match P.underlying t with
      | some .string => some (.len .str (Opd.of x))
      | some (.slice _) => some (.len .slc (Opd.of x))
      | some (.map _ _) => some (.len .map (Opd.of x))
      | some (.array n _) => some (.mov (.c (.int .i64 n)))
      | _ => none
    | _, _ => none
  | .call { callee := .builtin .append, args, argTypes } => match args.toList, argTypes.toList with
    | [x, y], [st, yt] => match P.underlying st, P.underlying yt with
      | some (.slice e), some d => if isIntD d = true then none else match tsize P e, tbytes P e, zeroC P e with
        | some n, some b, some z => if z.length = n then some (.append n b (Opd.of x) (Opd.of y)) else none
        | _, _, _ => none
      | _, _ => none
    | _, _ => none
  | .call { callee := .builtin .min, args, .. } => match args.toList with
    | [x, y] => some (.minmax true (Opd.of x) (Opd.of y))
    | _ => none
  | .call { callee := .builtin .max, args, .. } => match args.toList with
    | [x, y] => some (.minmax false (Opd.of x) (Opd.of y))
    | _ => none
  | _ => none

end Go.Am

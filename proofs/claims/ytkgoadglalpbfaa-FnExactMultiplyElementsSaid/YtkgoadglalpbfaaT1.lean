/- Elements that a law is handed, off their readings. -/
import Derived.Test.YtkgoadglalpbfaaG1
import Derived.Test.YtkgoadglalpbfaaAmC
import Derived.OpenShut
namespace Go.Proofs.Ytkgoadglalpbfaa
open Go.Am Go.Dia Go.ChangeShapes
open Nat renaming reduceAdd → nA, reduceMul → nM, reduceSub → nS, reduceEqDiff → nE, reduceLT → nL, reduceLeDiff → nD, reduceBEq → nB
open Int renaming reduceEq → iE, reduceNe → iN, reduceBEq → iB, reduceBNe → iC, reduceLT → iL, reduceLE → iD, reduceAdd → iA, reduceSub → iS, reduceMul → iM
set_option linter.unusedSimpArgs false
set_option linter.unusedVariables false
set_option maxRecDepth 4000
set_option maxHeartbeats 1000000
section
variable {H : Type} {enc : TypeId × Value → H} {P : Program} {w : World} {base : Nat} {spare : Nat → Bool} {held : Bool}
theorem qta (ι : Nat → Am.Loc) {l : List AV} (h : AV.zs l = true) : q6 (fun _ => Am.Loc.nil) l = q6 ι l := by
  rw [va (ι' := ι) (n := 0) (fun j hj => by omega) l (qk _ _ h)]
structure qgs (P : Program) (tE tX tT tD t8 tM tI : TypeId) : Prop where
  e : ∃ f0 f1 f2 f3 : Field, P.underlying tE = some (.struct #[f0, f1, f2, f3]) ∧ f0.type = tI ∧ f1.type = tI ∧ f2.type = tI ∧ f3.type = tX ∧ f0.offset = 0 ∧ f1.offset = 1 ∧ f2.offset = 2 ∧ f3.offset = 3
  x : P.underlying tX = some (.slice tT)
  t : ∃ f0 f1 : Field, P.underlying tT = some (.struct #[f0, f1]) ∧ f0.type = tD ∧ f1.type = tI ∧ f0.offset = 0 ∧ f1.offset = 17
  d : ∃ f0 f1 : Field, P.underlying tD = some (.struct #[f0, f1]) ∧ f0.type = tI ∧ f1.type = tM ∧ f0.offset = 0 ∧ f1.offset = 1
  m : P.underlying tM = some (.array 16 t8)
  b : P.underlying t8 = some (.int .u8)
  i : P.underlying tI = some (.int .i64)
  ce : P.cellsOf tE = 4
  cx : P.cellsOf tX = 1
  ct : P.cellsOf tT = 18
  cd : P.cellsOf tD = 17
  cm : P.cellsOf tM = 16
  c8 : P.cellsOf t8 = 1
  ci : P.cellsOf tI = 1
theorem qpy {tE tX tT tD t8 tM tI : TypeId} (T : qgs P tE tX tT tD t8 tM tI) {fuel : Nat} {cs : List Value} {x : DataW H × List MemPlace} (h : DataW.trod enc P w base spare held fuel tT cs = some x) :
    ∃ t : Int × List Nat × Int, okD t.2.1 ∧ cs = q6 (fun _ => Am.Loc.nil) (trm t) := by
  obtain ⟨f0, f1, ht, e0, e1, o0, o1⟩ := T.t
  obtain ⟨g0, g1, hd, i0, i1, p0, p1⟩ := T.d
  obtain ⟨y0, y1, k, rfl, hl, a0, a1⟩ := trod_struct2 ht h
  rw [o0, e0, T.cd] at a0
  rw [o1, e1, T.ci] at a1
  rw [T.ct] at hl
  obtain ⟨n, m, hm, hb, hcs, _, _⟩ := qps hd (by rw [i0]; exact T.i) (by rw [i1]; exact T.m) T.b p0 p1 (by rw [i0]; exact T.ci) (by rw [i1]; exact T.cm) T.c8 T.cd a0
  obtain ⟨v, hv, _, _⟩ := DataW.trod_int T.i a1
  refine ⟨(n, m, v), ⟨hm, hb⟩, ?_⟩
  have e2 : (cs.drop 17).take 1 = cs.drop 17 := List.take_of_length_le (by simp; omega)
  rw [e2] at hv
  rw [List.drop_zero] at hcs
  conv => lhs; rw [← List.take_append_drop 17 cs, hcs, hv]
  rw [trm, wq]
  rfl
theorem qfs {ι : Nat → Am.Loc} : ∀ (ts : List (Int × List Nat × Int)) (L : List Value) (off : Nat), okT ts → (∀ i (hi : i < ts.length) j, j < 18 → L[off + i * 18 + j]? = (q6 ι (trm ts[i]))[j]?) →
    (L.drop off).take (ts.length * 18) = q6 ι (qq ts)
  | [], L, off, _, _ => by simp [qq, q6]
  | t :: ts, L, off, ho, h => by
    have ht := zx (ho t (List.mem_cons_self ..))
    have h0 : (L.drop off).take 18 = q6 ι (trm t) := by
      apply List.ext_getElem?
      intro j
      by_cases hj : j < 18
      · have := h 0 (by simp) j hj
        simp only [Nat.zero_mul, Nat.add_zero, List.getElem_cons_zero] at this
        rw [List.getElem?_take_of_lt hj, List.getElem?_drop, this]
      · rw [List.getElem?_eq_none (by simp; omega), List.getElem?_eq_none (by rw [zf]; omega)]
    have hl : 18 ≤ (L.drop off).length := by
      have := congrArg List.length h0
      rw [zf, ht, List.length_take] at this
      omega
    have ih := qfs ts L (off + 18) (fun u hu => ho u (List.mem_cons_of_mem _ hu)) fun i hi j hj => by
      have := h (i + 1) (by simpa using hi) j hj
      rw [show off + 18 + i * 18 + j = off + (i + 1) * 18 + j by omega]
      simpa using this
    rw [List.length_cons, show (ts.length + 1) * 18 = 18 + ts.length * 18 by omega, List.take_add, h0, List.drop_drop, ih]
    simp only [qq, List.flatMap_cons, wq]
theorem qma {tE tX tT tD t8 tM tI : TypeId} (T : qgs P tE tX tT tD t8 tM tI) {fuel : Nat} {cs : List Value} {x : DataW H × List MemPlace} (hs : ∀ b, spare b = true) (h : DataW.trod enc P w base spare held fuel tX cs = some x) :
    ∃ (X : AV) (Hp : List AO) (ts : List (Int × List Nat × Int)) (l : Am.Loc), K5 Hp X ts ∧ cs = [gam (fun _ => l) X] ∧ (∀ o ∈ Hp, kl (fun _ => l) w.heap l o ∧ o.wr = false) ∧ ts.length ≤ 9223372036854775807 := by
  have hts := T.x
  rcases DataW.trod_slice hts h with ⟨rfl, _⟩ | ⟨a, len, cap, elems, rest, n, rfl, rfl, rfl, hb, hlc, hcm, hel, hei, hrs, _⟩
  · exact ⟨.v (.slice none 0 0), [], [], Am.Loc.nil, ⟨(fun t h => by cases h), .inl ⟨rfl, rfl, rfl⟩⟩, rfl, (fun o h => by cases h), by simp⟩
  rw [T.ct] at hei hrs
  have hmax : len ≤ 9223372036854775807 := Nat.le_trans (Nat.le_trans hlc hcm) (by decide)
  have hget : ∀ i, i < len → ∃ t : Int × List Nat × Int, okD t.2.1 ∧ w.cells? base (a.add (i * 18)) 18 = some (q6 (fun _ => Am.Loc.nil) (trm t)) := fun i hi => by
    have h1 := hei i hi
    rw [List.getElem?_eq_getElem (by omega)] at h1
    simp only [Option.bind_eq_some_iff] at h1
    obtain ⟨cs', h2, h3⟩ := h1
    obtain ⟨t, ht, rfl⟩ := qpy T h3
    exact ⟨t, ht, h2⟩
  let f : Nat → Int × List Nat × Int := fun i => if hi : i < len then Classical.choose (hget i hi) else (0, [], 0)
  have hf : ∀ i, i < len → okD (f i).2.1 ∧ w.cells? base (a.add (i * 18)) 18 = some (q6 (fun _ => Am.Loc.nil) (trm (f i))) := fun i hi => by
    have := Classical.choose_spec (hget i hi)
    simp only [f, dif_pos hi]; exact this
  have hlen : ((List.range len).map f).length = len := by simp
  have hok : okT ((List.range len).map f) := fun t ht => by
    obtain ⟨i, hi, rfl⟩ := List.mem_map.1 ht
    exact (hf i (List.mem_range.1 hi)).1
  have hcell : ∀ i, i < len → ∀ j, j < 18 → w.cell? ((a.add (i * 18)).add j) = (q6 (fun _ => Am.Loc.nil) (trm (f i)))[j]? := fun i hi j hj => (World.cells?_some (hf i hi).2).2.2 j hj
  by_cases hc0 : cap = 0
  · obtain rfl : len = 0 := by omega
    subst hc0
    refine ⟨.slc 0 0 0 true 0, [.dead], [], ⟨a, false, 0⟩, ⟨(fun t h => by cases h), .inr (.inl ⟨rfl, rfl, rfl⟩)⟩, rfl, fun o h => ?_, by simp⟩
    rw [List.mem_singleton] at h; subst h; exact ⟨trivial, rfl⟩
  have h0 : ∃ v, w.cell? (a.add 0) = some v := by
    by_cases hl0 : len = 0
    · subst hl0
      obtain ⟨h1, h2⟩ := hrs (hs _)
      have h3 := h2 0 (by omega)
      rw [List.getElem?_eq_getElem (by omega)] at h3
      simp only [Option.bind_eq_some_iff] at h3
      obtain ⟨cs', h4, _⟩ := h3
      have h5 := World.cells?_some h4
      have h6 := h5.2.2 0 (by omega)
      have h7 : cs'.length = 18 := h5.2.1
      rw [List.getElem?_eq_getElem (by omega)] at h6
      simp only [Nat.zero_add, Nat.zero_mul, Addr.add_add] at h6
      exact ⟨_, h6⟩
    · have h6 := hcell 0 (by omega) 0 (by omega)
      rw [Addr.add_add] at h6
      have h7 : (q6 (fun _ => Am.Loc.nil) (trm (f 0))).length = 18 := by rw [zf]; exact zx (hf 0 (by omega)).1
      rw [List.getElem?_eq_getElem (by omega)] at h6
      exact ⟨_, h6⟩
  obtain ⟨v0, h0⟩ := h0
  obtain ⟨blk, off, spot⟩ := a
  have hspot : spot = none := by simpa [Addr.add] using World.cell?_spot h0
  subst hspot
  have hheap : ∃ c ty fz, w.heap[blk]? = some (.cells c ty fz) := by
    simp only [World.cell?, Addr.add_plain] at h0
    split at h0
    · rename_i c ty fz hh; exact ⟨c, ty, fz, hh⟩
    · cases h0
  obtain ⟨c, ty, fz, hh⟩ := hheap
  have hc : ∀ i, w.cell? ⟨blk, i, none⟩ = c.toList[i]? := fun i => by simp [World.cell?, hh]
  have hoff : off ≤ c.toList.length := by
    rw [Addr.add_plain, Nat.add_zero, hc] at h0
    have := (List.getElem?_eq_some_iff.1 h0).1
    omega
  have hscan := qfs (ι := fun _ => Am.Loc.nil) ((List.range len).map f) c.toList off hok fun i hi j hj => by
    rw [hlen] at hi
    have := hcell i hi j hj
    rw [Addr.add_add, Addr.add_plain, hc] at this
    rw [Nat.add_assoc, this]
    simp
  rw [hlen] at hscan
  refine ⟨.slc 0 0 ((List.range len).map f).length true cap, [.ro (qq ((List.range len).map f))], (List.range len).map f, ⟨⟨blk, off, none⟩, false, 0⟩, ⟨hok, .inr (.inr ⟨(List.range len).map f, cap, rfl, by rw [hlen]; exact hlc, rfl, hok, List.take_length, Nat.le_refl _⟩)⟩, ?_, fun o h => ?_, by rw [hlen]; exact hmax⟩
  · rw [hlen]; simp [gam, Addr.add_plain]
  · rw [List.mem_singleton] at h; subst h
    refine ⟨.inr ⟨rfl, blk, off, c, ty, fz, c.toList.take off, (c.toList.drop off).drop (len * 18), rfl, hh, by rw [List.length_take]; omega, ?_⟩, rfl⟩
    rw [← qta _ (qa _), ← hscan, List.append_assoc, List.take_append_drop, List.take_append_drop]
theorem K1 {tE tX tT tD t8 tM tI : TypeId} (T : qgs P tE tX tT tD t8 tM tI) {v : Value} {d : DataW H} {ps : List MemPlace} (hs : ∀ b, spare b = true) (h : DataW.Trod enc P w base spare held tE v d ps) :
    ∃ (p c n : Int) (X : AV) (Hp : List AO) (ts : List (Int × List Nat × Int)) (l : Am.Loc), K5 Hp X ts ∧ v = gam (fun _ => l) (.agg [.int .i64 p, .int .i64 c, .int .i64 n, X]) ∧ (∀ o ∈ Hp, kl (fun _ => l) w.heap l o ∧ o.wr = false) ∧ ts.length ≤ 9223372036854775807 ∧
      (-9223372036854775808 ≤ p ∧ p ≤ 9223372036854775807) ∧ (-9223372036854775808 ≤ c ∧ c ≤ 9223372036854775807) ∧ (-9223372036854775808 ≤ n ∧ n ≤ 9223372036854775807) := by
  obtain ⟨fuel, hf⟩ := h
  obtain ⟨f0, f1, f2, f3, he, e0, e1, e2, e3, o0, o1, o2, o3⟩ := T.e
  obtain ⟨xs, k, rfl, _, hl, hxl, hi⟩ := DataW.trod_struct he hf
  rw [T.ce] at hl
  have hxl4 : xs.length = 4 := hxl
  have a0 := hi 0 f0 rfl
  have a1 := hi 1 f1 rfl
  have a2 := hi 2 f2 rfl
  have a3 := hi 3 f3 rfl
  rw [List.getElem?_eq_getElem (by omega)] at a0 a1 a2 a3
  rw [o0, e0, T.ci] at a0
  rw [o1, e1, T.ci] at a1
  rw [o2, e2, T.ci] at a2
  rw [o3, e3, T.cx] at a3
  obtain ⟨p, hp, _, wp⟩ := DataW.trod_int T.i a0
  obtain ⟨c, hc, _, wc⟩ := DataW.trod_int T.i a1
  obtain ⟨n, hn, _, wn⟩ := DataW.trod_int T.i a2
  obtain ⟨X, Hp, ts, l, hX, hx, ho, hlen⟩ := qma T hs a3
  refine ⟨p, c, n, X, Hp, ts, l, hX, ?_, ho, hlen, bounds_i64 wp, bounds_i64 wc, bounds_i64 wn⟩
  generalize hcs : v.cells.toList = cs at *
  match cs, hl with
  | [x0, x1, x2, x3], _ =>
    simp only [List.drop_zero, List.drop_succ_cons, List.take_succ_cons, List.take_zero, List.cons.injEq, and_true] at hp hc hn hx
    subst hp; subst hc; subst hn; subst hx
    exact qqh hcs (by show (4 : Nat) ≠ 1; decide)
end
end Go.Proofs.Ytkgoadglalpbfaa

/- The abstract machine: code read at once; the rules over what is read. -/
import Derived.Test.YtabenjpidndpeaaAmDraw3
namespace Go.Am
set_option linter.unusedVariables false
set_option linter.unusedSimpArgs false

inductive AC where
  | skip
  | ret
  | exit (id : Nat)
  | region (l : List AI)
  | draw (cf : Bool) (l : List AI)
  | seq (a b : AC)
  | cond (c : Nat) (a b : AC)
  | condc (t : Bool) (a : AC)
  | block (id : Nat) (a : AC)
  | loop (a : AC)
  | scope (a : AC)

/-- The next that may go, the quiet ones first. -/
def pickN (ops : Array Oper) (l : List AI) (done : List Nat) : Option Nat :=
  let rs := (List.range ops.size).filter fun i => !done.contains i && (pre ops i).all done.contains
  match rs.find? (fun i => match l[i]? with | some a => a.quiet | none => false) with
  | some i => some i
  | none => rs.head?

def orderN (ops : Array Oper) (l : List AI) : Nat → List Nat → List Nat
  | 0, done => done.reverse
  | n + 1, done => match pickN ops l done with
    | some i => orderN ops l n (i :: done)
    | none => done.reverse

def cDraw (ops : Array Oper) (l : List AI) : Option (Bool × List AI) :=
  match cond (drawOk ops false l (orderN ops l ops.size [])) (some false) (cond (drawOk ops true l (orderN ops l ops.size [])) (some true) none), ((orderN ops l ops.size []).mapM fun i => l[i]?) with
  | some cf, some ai => some (cf, ai)
  | _, _ => none

def cCode (P : Program) (nt : Nat) : Code → Option AC
  | .skip => some .skip
  | .ret => some .ret
  | .exit id => some (.exit id)
  | .region _ ops d => match cList P nt ops ops.toList with
    | some l => cond d ((cDraw ops l).map fun p => .draw p.1 p.2) (some (.region l))
    | none => none
  | .seq a b => match cCode P nt a, cCode P nt b with
    | some a, some b => some (.seq a b)
    | _, _ => none
  | .cond (.tmp c) a b => match cCode P nt a, cCode P nt b with
    | some a, some b => some (.cond c a b)
    | _, _ => none
  | .cond (.const (.bool true)) a _ => (cCode P nt a).map (.condc true)
  | .cond (.const (.bool false)) _ b => (cCode P nt b).map (.condc false)
  | .block id a => (cCode P nt a).map (.block id)
  | .loop a => (cCode P nt a).map .loop
  | .scope a => (cCode P nt a).map .scope
  | _ => none

/-- From a state on, what is read comes to what 'Q' tells. -/
def WA (P : Program) (n0 nt : Nat) (c : AC) (Q : AX → St → Prop) (s : St) : Prop :=
  P.follows .mixedOrders = true → ∀ code, cCode P nt code = some c → WC P n0 nt code Q s

section
variable {P : Program} {n0 nt : Nat} {Q : AX → St → Prop} {s : St}

theorem cCode_cond_ne {c : Operand} {x y : Code} {r : AC} (h1 : ∀ t a b, r ≠ .cond t a b) (h2 : ∀ t a, r ≠ .condc t a) : cCode P nt (.cond c x y) ≠ some r := by
  intro h
  unfold cCode at h
  split at h <;> try (cases h; done)
  all_goals first
    | (rename_i e; cases e; done)
    | skip
  all_goals first
    | (split at h; · simp only [Option.some.injEq] at h; exact h1 _ _ _ h.symm
       · cases h)
    | (obtain ⟨z, _, h⟩ := map_some' h; exact h2 _ _ h.symm)

theorem cCode_region {l : List AI} {code : Code} (h : cCode P nt code = some (.region l)) : ∃ id ops, code = .region id ops false ∧ cList P nt ops ops.toList = some l := by
  cases code <;> (try simp only [cCode] at h) <;> try (first | (cases h; done) | (obtain ⟨_, _, h⟩ := map_some' h; cases h; done))
  case region id ops d =>
    split at h
    · rename_i l' hl
      cases d
      · simp only [cond_false, Option.some.injEq, AC.region.injEq] at h; subst h; exact ⟨id, ops, rfl, hl⟩
      · simp only [cond_true] at h; obtain ⟨_, _, h⟩ := map_some' h; cases h
    · cases h
  case seq => split at h <;> cases h
  case cond c a b => exact absurd h (cCode_cond_ne (by intros; simp) (by intros; simp))

theorem cCode_draw {cf : Bool} {ai : List AI} {code : Code} (h : cCode P nt code = some (.draw cf ai)) :
    ∃ id ops l idx, code = .region id ops true ∧ cList P nt ops ops.toList = some l ∧ drawOk ops cf l idx = true ∧ (idx.mapM fun i => l[i]?) = some ai := by
  cases code <;> (try simp only [cCode] at h) <;> try (first | (cases h; done) | (obtain ⟨_, _, h⟩ := map_some' h; cases h; done))
  case region id ops d =>
    split at h
    · rename_i l' hl
      cases d
      · simp only [cond_false] at h; cases h
      · simp only [cond_true] at h
        obtain ⟨⟨cf', ai'⟩, h1, h2⟩ := map_some' h
        cases h2
        unfold cDraw at h1
        split at h1
        · rename_i cf2 ai2 hcf hai
          cases h1
          refine ⟨id, ops, l', _, rfl, hl, ?_, hai⟩
          revert hcf
          cases h3 : drawOk ops false l' (orderN ops l' ops.size []) <;> cases h4 : drawOk ops true l' (orderN ops l' ops.size []) <;> intro hcf <;> simp only [cond_true, cond_false, Option.some.injEq, reduceCtorEq] at hcf
          all_goals subst hcf; first | exact h3 | exact h4
        · cases h1
    · cases h
  case seq => split at h <;> cases h
  case cond c a b => exact absurd h (cCode_cond_ne (by intros; simp) (by intros; simp))

theorem cCode_seq {a b : AC} {code : Code} (h : cCode P nt code = some (.seq a b)) : ∃ x y, code = .seq x y ∧ cCode P nt x = some a ∧ cCode P nt y = some b := by
  cases code <;> (try simp only [cCode] at h) <;> try (first | (cases h; done) | (obtain ⟨_, _, h⟩ := map_some' h; cases h; done))
  case region id ops d =>
    split at h
    · cases d
      · cases h
      · simp only [cond_true] at h; obtain ⟨_, _, h⟩ := map_some' h; cases h
    · cases h
  case seq x y =>
    split at h
    · rename_i a' b' h1 h2; cases h; exact ⟨x, y, rfl, h1, h2⟩
    · cases h
  case cond c a b => exact absurd h (cCode_cond_ne (by intros; simp) (by intros; simp))

theorem cCode_cond {c : Nat} {a b : AC} {code : Code} (h : cCode P nt code = some (.cond c a b)) : ∃ x y, code = .cond (.tmp c) x y ∧ cCode P nt x = some a ∧ cCode P nt y = some b := by
  cases code <;> (try simp only [cCode] at h) <;> try (first | (cases h; done) | (obtain ⟨_, _, h⟩ := map_some' h; cases h; done))
  case region id ops d =>
    split at h
    · cases d
      · cases h
      · simp only [cond_true] at h; obtain ⟨_, _, h⟩ := map_some' h; cases h
    · cases h
  case seq => split at h <;> cases h
  case cond c a b =>
    cases c with
    | tmp t =>
      simp only [cCode] at h
      split at h
      · rename_i h1 h2; cases h; exact ⟨_, _, rfl, h1, h2⟩
      · cases h
    | const v =>
      cases v with
      | bool t => cases t <;> simp only [cCode] at h <;> (obtain ⟨_, _, h⟩ := map_some' h; cases h)
      | _ => simp [cCode] at h
    | _ => simp [cCode] at h

theorem cCode_condc {t : Bool} {a : AC} {code : Code} (h : cCode P nt code = some (.condc t a)) : ∃ x y, code = .cond (.const (.bool t)) x y ∧ cCode P nt (cond t x y) = some a := by
  cases code <;> (try simp only [cCode] at h) <;> try (first | (cases h; done) | (obtain ⟨_, _, h⟩ := map_some' h; cases h; done))
  case region id ops d =>
    split at h
    · cases d
      · cases h
      · simp only [cond_true] at h; obtain ⟨_, _, h⟩ := map_some' h; cases h
    · cases h
  case seq => split at h <;> cases h
  case cond c x y =>
    cases c with
    | tmp t => simp only [cCode] at h; split at h <;> cases h
    | const v =>
      cases v with
      | bool t =>
        cases t <;> simp only [cCode] at h
        · obtain ⟨z, h1, h2⟩ := map_some' h; cases h2; exact ⟨x, y, rfl, h1⟩
        · obtain ⟨z, h1, h2⟩ := map_some' h; cases h2; exact ⟨x, y, rfl, h1⟩
      | _ => simp [cCode] at h
    | _ => simp [cCode] at h

theorem cCode_un {code : Code} {c : AC} (h : cCode P nt code = some c) : (∀ id a, c = .block id a → ∃ x, code = .block id x ∧ cCode P nt x = some a) ∧ (∀ a, c = .loop a → ∃ x, code = .loop x ∧ cCode P nt x = some a) ∧
    (∀ a, c = .scope a → ∃ x, code = .scope x ∧ cCode P nt x = some a) ∧ (c = .skip → code = .skip) ∧ (c = .ret → code = .ret) ∧ (∀ id, c = .exit id → code = .exit id) := by
  refine ⟨fun id a e => ?_, fun a e => ?_, fun a e => ?_, fun e => ?_, fun e => ?_, fun id e => ?_⟩ <;> subst e
  all_goals
    cases code <;> (try simp only [cCode] at h) <;> try (first | (cases h; done) | (obtain ⟨_, _, h⟩ := map_some' h; cases h; done))
    case region id ops d =>
      split at h
      · cases d
        · cases h
        · simp only [cond_true] at h; obtain ⟨_, _, h⟩ := map_some' h; cases h
      · cases h
    case seq => split at h <;> cases h
    case cond c a b => exact absurd h (cCode_cond_ne (by intros; simp) (by intros; simp))
    all_goals first
      | (obtain ⟨z, h1, h2⟩ := map_some' h; cases h2; exact ⟨_, rfl, h1⟩)
      | (cases h; rfl)
      | rfl

theorem WA.mono {c : AC} {Q' : AX → St → Prop} (h : WA P n0 nt c Q s) (hq : ∀ x s, Q x s → Q' x s) : WA P n0 nt c Q' s := fun hm code hc => (h hm code hc).mono hq
theorem WA.skip (h : Q .normal s) : WA P n0 nt .skip Q s := fun hm code hc => by cases (cCode_un hc).2.2.2.1 rfl; exact WC.skip h
theorem WA.ret (h : Q .ret s) : WA P n0 nt .ret Q s := fun hm code hc => by cases (cCode_un hc).2.2.2.2.1 rfl; exact WC.ret h
theorem WA.exit {id : Nat} (h : Q (.exit id) s) : WA P n0 nt (.exit id) Q s := fun hm code hc => by cases (cCode_un hc).2.2.2.2.2 id rfl; exact WC.exit h
theorem WA.region {l : List AI} (h : WR P n0 nt l (Q .normal) s) : WA P n0 nt (.region l) Q s := fun hm code hc => by
  obtain ⟨id, ops, rfl, hl⟩ := cCode_region hc; exact WC.region hl h
theorem WA.draw {cf : Bool} {l : List AI} (h : Tr P cf l (Q .normal) s) : WA P n0 nt (.draw cf l) Q s := fun hm code hc => by
  obtain ⟨id, ops, l', idx, rfl, hl, hB, hai⟩ := cCode_draw hc; exact WC.regionD idx cf hm hl hB hai h
theorem WA.seq {a b : AC} (h : WA P n0 nt a (AX.then (WA P n0 nt b Q) Q) s) : WA P n0 nt (.seq a b) Q s := fun hm code hc => by
  obtain ⟨x, y, rfl, hx, hy⟩ := cCode_seq hc
  refine WC.seq ((h hm x hx).mono fun e s hs => ?_)
  cases e
  · exact hs hm y hy
  · exact hs
  · exact hs
theorem WA.cond {c : Nat} {a b : AC} {t : Bool} (ht : get s.env c = .bool t) (h1 : t = true → WA P n0 nt a Q s) (h2 : t = false → WA P n0 nt b Q s) : WA P n0 nt (.cond c a b) Q s := fun hm code hc => by
  obtain ⟨x, y, rfl, hx, hy⟩ := cCode_cond hc
  exact WC.cond ht (fun e => h1 e hm x hx) (fun e => h2 e hm y hy)
theorem WA.condc {t : Bool} {a : AC} (h : WA P n0 nt a Q s) : WA P n0 nt (.condc t a) Q s := fun hm code hc => by
  obtain ⟨x, y, rfl, hx⟩ := cCode_condc hc
  intro X h0 h1 ι a' w hok
  cases t
  · exact wp_cond_false (by simp [Act.eval]) (h hm y hx X h0 h1 ι a' w hok)
  · exact wp_cond_true (by simp [Act.eval]) (h hm x hx X h0 h1 ι a' w hok)
theorem WA.block {id : Nat} {a : AC} (h : WA P n0 nt a (AX.inBlock id Q) s) : WA P n0 nt (.block id a) Q s := fun hm code hc => by
  obtain ⟨x, rfl, hx⟩ := (cCode_un hc).1 id a rfl; exact WC.block (h hm x hx)
theorem WA.scope {a : AC} (h : WA P n0 nt a Q s) : WA P n0 nt (.scope a) Q s := fun hm code hc => by
  obtain ⟨x, rfl, hx⟩ := (cCode_un hc).2.2.1 a rfl; exact WC.scope (h hm x hx)
theorem WA.weak {c : AC} {s' : St} {ρ : Ren} (hs : Sim n0 s s' ρ) (h : WA P n0 nt c Q s') : WA P n0 nt c Q s := fun hm code hc => (h hm code hc).weak hs
theorem WA.loop {a : AC} (I : St → Prop) (μ : St → Nat) (h0 : I s)
    (round : ∀ s, I s → WA P n0 nt a (AX.then (fun s' => ∃ s'' ρ, Sim n0 s' s'' ρ ∧ I s'' ∧ μ s'' < μ s) Q) s) : WA P n0 nt (.loop a) Q s := fun hm code hc => by
  obtain ⟨x, rfl, hx⟩ := (cCode_un hc).2.1 a rfl
  exact WC.loop I μ h0 fun s hs => round s hs hm x hx

/-- A function's contract, off what is read of its body. -/
theorem Fn.read {f : FuncId} {fn : Func} {code : Code} {c : AC} {args : List AV} {H : List AO} {R : AV → List AO → Prop} {ars : List AR} (hm : P.follows .mixedOrders = true)
    (hf : P.funcs[f]? = some fn) (hb : fn.body = some code) (hname : (fn.name == "runtime.NumGoroutine") = false) (hnt : fn.ntmps = nt) (hn : args.length ≤ nt) (hc : cCode P nt code = some c) (hr : cRes P fn.results.toList = some ars)
    (hu : ∀ (j : Nat) (o : AO), H[j]? = some o → o.under H.length) (h : WA P H.length nt c (fun x s => (x = .ret ∨ x = .normal) ∧ Ret ars H R s) ⟨enumE 0 args, H⟩) : Fn P f args H R := by
  subst hnt
  exact Fn.intro hf hb hname hn hr hu (h hm code hc)

end

/-! ### Runs of a drawing region -/
section
variable {P : Program} {cf : Bool} {l : List AI} {K : St → Prop} {s : St}

theorem Tr.op {dst : Option Nat} {ao : AOp} {v : AV} {hp' : List AO} (hs : astep s.env s.hp ao = some (v, hp')) (h : Tr P cf l K ⟨putE dst v s.env, hp'⟩) : Tr P cf (⟨dst, none, .op ao⟩ :: l) K s :=
  ⟨v, hp', hs, fun ha => adds_hp ha hs, h⟩
theorem Tr.skip {dst : Option Nat} {d : Nat} {b : Bool} {k : AK} (hg : get s.env d = .bool (!b) ∨ get s.env d = undefA) (h : Tr P cf l K ⟨putE dst undefA s.env, s.hp⟩) : Tr P cf (⟨dst, some (d, b), k⟩ :: l) K s :=
  .inr ⟨hg, fun _ => ⟨[], by simp⟩, h⟩
theorem Tr.take {dst : Option Nat} {d : Nat} {b : Bool} {k : AK} (hg : get s.env d = .bool b) (h : Tr P cf (⟨dst, none, k⟩ :: l) K s) : Tr P cf (⟨dst, some (d, b), k⟩ :: l) K s :=
  .inl ⟨hg, h⟩
theorem Tr.call {dst : Option Nat} {f : Opd} {args : List Opd} {fid : FuncId} {first caps : List AV} {as : List AV} {H : List AO} {R : AV → List AO → Prop} (ρ : Ren) (bs : List (Nat × Nat))
    (hf : ev s.env f = .fn fid first caps) (hfn : Fn P fid as H R) (hnt : (args.all fun x => match ev s.env x with | .top => false | _ => true) = true)
    (has : first ++ args.map (ev s.env) ++ caps = AV.rens ρ as) (hfoot : Foot s.hp ρ bs H) (hu : ∀ (j : Nat) (o : AO), H[j]? = some o → o.under H.length) (hau : AV.unders H.length as)
    (hadd : cf = true → ∀ v H', R v H' → ∃ x, after s ρ bs H H' = s.hp ++ x)
    (h : ∀ v H', R v H' → Tr P cf l K ⟨putE dst (v.ren (ρ.ext H.length s.hp.length)) s.env, after s ρ bs H H'⟩) : Tr P cf (⟨dst, none, .call f args⟩ :: l) K s :=
  ⟨fid, first, caps, as, H, R, ρ, bs, hf, hfn, hnt, has, hfoot, hu, hau, fun v H' hr => ⟨fun ha => hadd ha v H' hr, h v H' hr⟩⟩
theorem Tr.nil (h : K s) : Tr P cf [] K s := h

end
end Go.Am

/- Contracts: entries for the elements of diagrams. -/
import Derived.Test.YtkgoadglalpbfaaAmC
import Derived.Test.YtkgoadglalpbfaaF3
namespace Go.Proofs.Ytkgoadglalpbfaa
open Go.Am Go.Dia
set_option linter.unusedSimpArgs false
set_option linter.unusedVariables false
set_option maxRecDepth 4000
set_option maxHeartbeats 1000000

def g_elemOf : List AV → Option (AV × List AO)
  | [.int .i64 p, .int .i64 c, .agg l, .int .i64 k] => match diaOf l with
    | some (n, m) => some (.tup [elemV (elemOf p c n m k).1 (elemOf p c n m k).2.1 (elemOf p c n m k).2.2.1 0 (elemOf p c n m k).2.2.2.1.length, .int .i64 (elemOf p c n m k).2.2.2.2], [.vec 18 (trms (elemOf p c n m k).2.2.2.1)])
    | none => none
  | _ => none
theorem k_s_ElementOf : Am.Callee Try.prog 23 (newE g_elemOf) :=
  Am.Callee.new fun xs v H he => by
    unfold g_elemOf at he
    split at he
    · rename_i p c l k
      split at he
      · rename_i n m hd
        obtain ⟨rfl, hm⟩ := diaOf_some hd
        have e1 := congrArg Prod.fst (Option.some.inj he)
        have e2 := congrArg Prod.snd (Option.some.inj he)
        simp only at e1 e2
        subst e1; subst e2
        exact ⟨by simp only [AV.scals, AV.scal, scals_dia, Bool.and_self], c_s_ElementOf p c n m k hm⟩
      · cases he
    · cases he
def B24 : Book := (B23.put 23 (newE g_elemOf))
theorem B24_ok : BookOk Try.prog B24 := (B23_ok.put (k_s_ElementOf))

end Go.Proofs.Ytkgoadglalpbfaa

/- Contracts: the program's test of lists of diagrams. -/
import Derived.Test.YtkgoadglalpbfaaE9
namespace Go.Proofs.Ytkgoadglalpbfaa
open Go.Am Go.Dia
set_option linter.unusedSimpArgs false
set_option linter.unusedVariables false
set_option maxRecDepth 4000
set_option maxHeartbeats 1000000


/-- The program's test comes to the reference's. -/
theorem c_i_IsDiagram' (n : Int) (m : List Nat) (hm : okD m) : Am.Fn Try.prog 99 [.agg (dia n m)] [] (fun v H' => v = .bool (isS n.toNat m) ∧ H' = []) := by
  rw [isS_eq_isI _ _ hm.1]; exact c_i_IsDiagram n m hm
theorem k_i_IsDiagram : Am.Callee Try.prog 99 (plainE g_isS) :=
  Am.Callee.plain fun xs v he => by
    unfold g_isS at he
    split at he
    · split at he
      · rename_i n m hd
        cases he
        obtain ⟨rfl, hm⟩ := diaOf_some hd
        exact ⟨by simp only [AV.scals, AV.scal, scals_dia, Bool.and_self], rfl, c_i_IsDiagram' n m hm⟩
      · cases he
    · cases he
def B18 : Book := (B17.put 99 (plainE g_isS))

theorem B18_ok : BookOk Try.prog B18 := (B17_ok.put (k_i_IsDiagram))

def B19 : Book := B18

theorem B19_ok : BookOk Try.prog B19 := B18_ok

def B20 : Book := B19

theorem B20_ok : BookOk Try.prog B20 := B19_ok

def B21 : Book := B20

theorem B21_ok : BookOk Try.prog B21 := B20_ok

def B22 : Book := B21

theorem B22_ok : BookOk Try.prog B22 := B21_ok

end Go.Proofs.Ytkgoadglalpbfaa

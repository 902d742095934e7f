/- Contracts: entries for the elements of diagrams. -/
import Derived.Test.YtkgoadglalpbfaaAmC
import Derived.Test.YtkgoadglalpbfaaF3
namespace Go.Proofs.Ytkgoadglalpbfaa
open Go.Am Go.Dia
set_option linter.unusedSimpArgs false
set_option linter.unusedVariables false
set_option maxRecDepth 4000
set_option maxHeartbeats 1000000

def g_elemOf : List AV → Option (AV × List AO)
  | [.int .i64 p, .int .i64 c, .agg l, .int .i64 k] => match diaOf l with
    | some (n, m) => some (.tup [elemV (elemOf p c n m k).1 (elemOf p c n m k).2.1 (elemOf p c n m k).2.2.1 0 (elemOf p c n m k).2.2.2.1.length, .int .i64 (elemOf p c n m k).2.2.2.2], [.vec 18 (trms (elemOf p c n m k).2.2.2.1)])
    | none => none
  | _ => none
theorem k_s_ElementOf : Am.Callee Try.prog 23 (newE g_elemOf) :=
  Am.Callee.new fun xs v H he => by
    unfold g_elemOf at he
    split at he
    · rename_i p c l k
      split at he
      · rename_i n m hd
        obtain ⟨rfl, hm⟩ := diaOf_some hd
        have e1 := congrArg Prod.fst (Option.some.inj he)
        have e2 := congrArg Prod.snd (Option.some.inj he)
        simp only at e1 e2
        subst e1; subst e2
        exact ⟨by simp only [AV.scals, AV.scal, scals_dia, Bool.and_self], c_s_ElementOf p c n m k hm⟩
      · cases he
    · cases he
def B24 : Book := (B23.put 23 (newE g_elemOf))
theorem B24_ok : BookOk Try.prog B24 := (B23_ok.put (k_s_ElementOf))
theorem B24_g_ContainsFunc_SDiagram_Diagram : B24 110 = some (readS 0 17 g_contains) := rfl
theorem B24_g_IndexFunc_SDiagram_Diagram : B24 136 = some (readS 0 17 g_index) := rfl
theorem B24_i_Diagram_n : B24 115 = some (readE 1 g_n) := rfl
theorem B24_i_Diagram_text : B24 100 = some (readE 17 g_text) := rfl
theorem B24_i_IsDiagram : B24 99 = some (plainE g_isS) := rfl
theorem B24_i_fieldOk : B24 64 = some (plainE g_fieldOk) := rfl
theorem B24_i_in : B24 93 = some (plainE g_in) := rfl
theorem B24_i_invalid : B24 63 = some (readS 0 17 g_invalid) := rfl
theorem B24_i_invalid_1 : B24 111 = some (plainE g_bad) := rfl
theorem B24_i_isPrime : B24 112 = some (plainE g_prime) := rfl
theorem B24_i_joined : B24 150 = some (readS 1 1 g_joined) := rfl
theorem B24_i_partners : B24 149 = some (newE g_partners) := rfl
theorem B24_i_placeOf : B24 132 = some (plainE g_place) := rfl
theorem B24_i_read : B24 131 = some (plainE g_read) := rfl
theorem B24_i_rest : B24 103 = some (plainE g_rest) := rfl
theorem B24_i_scaleOk : B24 65 = some (plainE g_scaleOk) := rfl
theorem B24_s_l01Ends : B24 107 = some (plainE g_ends) := rfl
theorem B24_s_l01In : B24 60 = some (plainE g_in) := rfl
theorem B24_s_l01Is : B24 58 = some (plainE g_isS) := rfl
theorem B24_s_l01Mod : B24 108 = some (plainE g_mod) := rfl
theorem B24_s_l01Place : B24 135 = some (plainE g_place) := rfl
theorem B24_s_l01Prime : B24 59 = some (plainE g_prime) := rfl
theorem B24_s_l01Text : B24 109 = some (plainE g_textS) := rfl
theorem B24_s_l02Put : B24 61 = some (g_put0) := rfl
theorem B24_w_eqByteA16 : B24 151 = some (plainE g_eqBytes) := rfl
theorem B24_w_eqDiagram : B24 134 = some (plainE g_eqDiagram) := rfl
theorem B24_w_eqElement : B24 19 = some (g_eqElement) := rfl
theorem B24_w_eqTerm : B24 106 = some (plainE g_eqTerm) := rfl
theorem B24_w_eqTermS : B24 54 = some (g_eqTermS) := rfl
theorem B24_w_heldElement : B24 26 = some (g_heldElement) := rfl
theorem B24_w_heldTermS : B24 67 = some (g_heldTermS) := rfl
theorem B24_w_markElement : B24 20 = some (g_markElement) := rfl
theorem B24_w_markTermS : B24 55 = some (g_markTermS) := rfl
theorem B24_w_toByteA16 : B24 62 = some (plainE g_bytes) := rfl
theorem B24_w_toDiagram : B24 24 = some (plainE g_dia) := rfl
theorem B24_s_ElementOf : B24 23 = some (newE g_elemOf) := rfl

end Go.Proofs.Ytkgoadglalpbfaa

/- Texts of Cod, merged (22 of 27): RecS. -/
import Derived.Test.YtelfpnpplknlpaaGCod8
set_option linter.unusedVariables false
set_option linter.unusedSimpArgs false
/- Records: the same, which stands ahead; by the program and by the reference. -/
namespace Go.Proofs.Ytelfpnpplknlpaa
open Go.RowKit
open Go.Proofs.YtelfpnpplknlpaaW.PrintWords

def recLess (r r' : Rec) : Bool := if r.2.1 = r'.2.1 then idLess r.1 r'.1 else decide (r.2.1 < r'.2.1)
theorem idCmp_neg (a b : Int × Int) : decide (idCmp a b < 0) = idLess a b := by
  unfold idCmp
  by_cases h : a = b
  · subst h
    rw [if_pos rfl, show idLess a a = false from by unfold idLess; rw [if_pos rfl]; exact decide_eq_false (by omega)]
    rfl
  · rw [if_neg h]
    cases idLess a b <;> rfl
end Go.Proofs.Ytelfpnpplknlpaa

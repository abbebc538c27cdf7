/- Batches: what is wrong with one, by the program and by the reference. -/
import Derived.Test.YtmldjemjjpibmaaDoorCmdP
set_option linter.unusedVariables false
set_option linter.unusedSimpArgs false
namespace Go.Proofs.YtmldjemjjpibmaaDoor
open Go.RowKit
open Go.Proofs.YtmldjemjjpibmaaDoorW.PrintWords

def CmdGood (a : Cmd) : Prop := a.2.1.size ≤ maxLen ∧ a.2.2 < 18446744073709551616
def batOk (L : List Cmd) : Prop := ∀ i, i < L.length → cmdOk (cmx L i)
noncomputable def errBat (L : List Cmd) : Int := if 8 < L.length then 5 else bif cdec (batOk L) then 0 else 12
theorem errBat_big {L : List Cmd} (h : 8 < L.length) : errBat L = 5 := if_pos h
theorem errBat_ok {L : List Cmd} (h : ¬ 8 < L.length) (h' : batOk L) : errBat L = 0 := by unfold errBat; rw [if_neg h, cdec_true h']; rfl
theorem errBat_no {L : List Cmd} (h : ¬ 8 < L.length) {i : Nat} (hi : i < L.length) (h' : ¬ cmdOk (cmx L i)) : errBat L = 12 := by unfold errBat; rw [if_neg h, cdec_false fun h => h' (h i hi)]; rfl
end Go.Proofs.YtmldjemjjpibmaaDoor

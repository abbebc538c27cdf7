/-
  No cell of these rows narrows 'for every input' (looked for: loops, veiled, ifaces, maps, wideKeys, modest, calm, conditions, laid).
  DERIVED. THE GIVEN ROWS OF THIS SEAT. 4 by the template 'for every input the law returns true; each argument reads behind the call as it read before'; 0 by the template 'total and deterministic' (their statements: YtoklncfdhlplkaaTotals.lean).
  GIVEN WITH THE SEED: the statements are not yours to turn. If you find one false, say at which input.
  Laid BY PROGRAM, IN A SANDBOX (cutbox-rows.mjs): the forced cells as the released guide's own fill.sh prints them over the translation 42ee0798fdd3026a… (all of the seat's roots in one cut). By AI agents, Wed Nov 11 2026. No macro, syntax, notation, axiom, sorry.
-/
import Derived.Test.YtoklncfdhlplkaaChecked
import GoSem.Claim
import GoSem.ClaimJoined
import GoSem.ClaimMapViews
import Derived.JoinedTies
import Derived.KernelRfl
namespace Go.Proofs.Ytoklncfdhlplkaa
/- THE CELL 'sum', in the pinned program and in every row, IS THE sha256 OF THE DUMP (.gsa) THAT YtoklncfdhlplkaaProg.lean LOADS. Nothing in Lean hashes anything: it is a label: what it is worth is what the hold of that sum in a sandbox is worth. -/
noncomputable def Try.pinned : Pinned := { name := "ytoklncfdhlplkaa", sum := "42ee0798fdd3026aaf714c7c5c1d6a4218edbff407d2f7889466429db570b70b", checked := Try.checked }
namespace Rows
def none {H : Type} : Left H := { results := [], args := [] }

/-- 'cortegelaw13.VaultSame': WHATEVER THE INPUT: true; the input reads as it did. -/
def vaultSameSpec : ChangeSpec := { name := "vaultSame", fn := fun _ => fun
  | [d1, d2] => { results := [.lit (.bool true)], args := [d1, d2] }
  | _ => none }
def vaultSameRow : OpenClaim := { program := "ytoklncfdhlplkaa", sum := "42ee0798fdd3026aaf714c7c5c1d6a4218edbff407d2f7889466429db570b70b", func := "cortege/cortegelaw13.VaultSame", spec := "vaultSame", inPlace := ["math.Float64frombits", "math.Float64bits"], unfollowed := true, recurses := true, apart := false }
def VaultSameSaid : Prop := vaultSameRow.holds Try.pinned (OpenSpec.ofChange vaultSameSpec)

/-- ITS FALSE NEIGHBOUR: 'it returns false'. Refute it at one input. -/
def vaultSameWrong : ChangeSpec := { name := "vaultSame", fn := fun _ => fun
  | [d1, d2] => { results := [.lit (.bool false)], args := [d1, d2] }
  | _ => none }
def VaultSameWrongFalsely : Prop := vaultSameRow.holds Try.pinned (OpenSpec.ofChange vaultSameWrong)

/-- 'cortegelaw14.FoldTells': WHATEVER THE INPUT: true; the input reads as it did. -/
def foldTellsSpec : ChangeSpec := { name := "foldTells", fn := fun _ => fun
  | [d1, d2] => { results := [.lit (.bool true)], args := [d1, d2] }
  | _ => none }
def foldTellsRow : OpenClaim := { program := "ytoklncfdhlplkaa", sum := "42ee0798fdd3026aaf714c7c5c1d6a4218edbff407d2f7889466429db570b70b", func := "cortege/cortegelaw14.FoldTells", spec := "foldTells", inPlace := ["math.Float64frombits", "math.Float64bits"], apart := false }
def FoldTellsSaid : Prop := foldTellsRow.holds Try.pinned (OpenSpec.ofChange foldTellsSpec)

/-- ITS FALSE NEIGHBOUR: 'it returns false'. Refute it at one input. -/
def foldTellsWrong : ChangeSpec := { name := "foldTells", fn := fun _ => fun
  | [d1, d2] => { results := [.lit (.bool false)], args := [d1, d2] }
  | _ => none }
def FoldTellsWrongFalsely : Prop := foldTellsRow.holds Try.pinned (OpenSpec.ofChange foldTellsWrong)

/-- 'cortegelaw14.FoldOnly': WHATEVER THE INPUT: true; the input reads as it did. -/
def foldOnlySpec : ChangeSpec := { name := "foldOnly", fn := fun _ => fun
  | [d1, d2, d3] => { results := [.lit (.bool true)], args := [d1, d2, d3] }
  | _ => none }
def foldOnlyRow : OpenClaim := { program := "ytoklncfdhlplkaa", sum := "42ee0798fdd3026aaf714c7c5c1d6a4218edbff407d2f7889466429db570b70b", func := "cortege/cortegelaw14.FoldOnly", spec := "foldOnly", inPlace := ["math.Float64frombits", "math.Float64bits"], apart := false }
def FoldOnlySaid : Prop := foldOnlyRow.holds Try.pinned (OpenSpec.ofChange foldOnlySpec)

/-- ITS FALSE NEIGHBOUR: 'it returns false'. Refute it at one input. -/
def foldOnlyWrong : ChangeSpec := { name := "foldOnly", fn := fun _ => fun
  | [d1, d2, d3] => { results := [.lit (.bool false)], args := [d1, d2, d3] }
  | _ => none }
def FoldOnlyWrongFalsely : Prop := foldOnlyRow.holds Try.pinned (OpenSpec.ofChange foldOnlyWrong)

/-- 'cortegelaw14.FoldPrefix': WHATEVER THE INPUT: true; the input reads as it did. -/
def foldPrefixSpec : ChangeSpec := { name := "foldPrefix", fn := fun _ => fun
  | [d1, d2] => { results := [.lit (.bool true)], args := [d1, d2] }
  | _ => none }
def foldPrefixRow : OpenClaim := { program := "ytoklncfdhlplkaa", sum := "42ee0798fdd3026aaf714c7c5c1d6a4218edbff407d2f7889466429db570b70b", func := "cortege/cortegelaw14.FoldPrefix", spec := "foldPrefix", inPlace := ["math.Float64frombits", "math.Float64bits"], apart := false }
def FoldPrefixSaid : Prop := foldPrefixRow.holds Try.pinned (OpenSpec.ofChange foldPrefixSpec)

/-- ITS FALSE NEIGHBOUR: 'it returns false'. Refute it at one input. -/
def foldPrefixWrong : ChangeSpec := { name := "foldPrefix", fn := fun _ => fun
  | [d1, d2] => { results := [.lit (.bool false)], args := [d1, d2] }
  | _ => none }
def FoldPrefixWrongFalsely : Prop := foldPrefixRow.holds Try.pinned (OpenSpec.ofChange foldPrefixWrong)

/- THE SECOND FORM. 'bulk': how many values and letters a reading holds, each counted each time it is reached (what is shared counts as often as it is met; a slice's spare places count too). A statement '..UptoSaid' is the law's where the arguments, and the package variables that the reading takes, are together of bulk at most 1048576: NARROWER than '..Said'. Prove '..Said' where nothing that the law and all that it calls make is longer than what came in: it says more and counts as full. Else prove '..UptoSaid'. A law counts once. -/
mutual
def uptoBulk {H : Type} : DataW H → Nat
  | .lit (.string bytes) => bytes.length + 1
  | .lit _ => 1
  | .nil => 1
  | .ptr d => uptoBulk d + 1
  | .slice elems spare => uptoBulkAll elems + uptoBulkAll spare + 1
  | .agg parts => uptoBulkAll parts + 1
  | .iface _ d => uptoBulk d + 1
  | .map entries => uptoBulkEntries entries + 1
  | .held _ => 1
def uptoBulkAll {H : Type} : List (DataW H) → Nat
  | [] => 0
  | d :: r => uptoBulk d + uptoBulkAll r
def uptoBulkEntries {H : Type} : List (Lit × DataW H) → Nat
  | [] => 0
  | x :: r => uptoBulkEntry x + uptoBulkEntries r
def uptoBulkEntry {H : Type} : Lit × DataW H → Nat
  | (.string bytes, d) => bytes.length + uptoBulk d + 1
  | (_, d) => uptoBulk d + 1
 end
def uptoSmall : (H : Type) → List (DataW H) → Bool := fun _ ds => decide (uptoBulkAll ds ≤ 1048576)
def OpenSpec.upto (s : _root_.Go.ChangeSpec) : _root_.Go.OpenSpec := { _root_.Go.OpenSpec.ofChange s with cond := some uptoSmall }

/-- 'cortegelaw13.VaultSame', WHERE WHAT IT READS IS OF BULK AT MOST 1048576: true; the input reads as it did. -/
def vaultSameUptoRow : OpenClaim := { program := "ytoklncfdhlplkaa", sum := "42ee0798fdd3026aaf714c7c5c1d6a4218edbff407d2f7889466429db570b70b", func := "cortege/cortegelaw13.VaultSame", spec := "vaultSame", inPlace := ["math.Float64frombits", "math.Float64bits"], unfollowed := true, recurses := true, apart := false, narrowed := true }
def VaultSameUptoSaid : Prop := vaultSameUptoRow.holds Try.pinned (OpenSpec.upto vaultSameSpec)

/-- 'cortegelaw14.FoldTells', WHERE WHAT IT READS IS OF BULK AT MOST 1048576: true; the input reads as it did. -/
def foldTellsUptoRow : OpenClaim := { program := "ytoklncfdhlplkaa", sum := "42ee0798fdd3026aaf714c7c5c1d6a4218edbff407d2f7889466429db570b70b", func := "cortege/cortegelaw14.FoldTells", spec := "foldTells", inPlace := ["math.Float64frombits", "math.Float64bits"], apart := false, narrowed := true }
def FoldTellsUptoSaid : Prop := foldTellsUptoRow.holds Try.pinned (OpenSpec.upto foldTellsSpec)

/-- 'cortegelaw14.FoldOnly', WHERE WHAT IT READS IS OF BULK AT MOST 1048576: true; the input reads as it did. -/
def foldOnlyUptoRow : OpenClaim := { program := "ytoklncfdhlplkaa", sum := "42ee0798fdd3026aaf714c7c5c1d6a4218edbff407d2f7889466429db570b70b", func := "cortege/cortegelaw14.FoldOnly", spec := "foldOnly", inPlace := ["math.Float64frombits", "math.Float64bits"], apart := false, narrowed := true }
def FoldOnlyUptoSaid : Prop := foldOnlyUptoRow.holds Try.pinned (OpenSpec.upto foldOnlySpec)

/-- 'cortegelaw14.FoldPrefix', WHERE WHAT IT READS IS OF BULK AT MOST 1048576: true; the input reads as it did. -/
def foldPrefixUptoRow : OpenClaim := { program := "ytoklncfdhlplkaa", sum := "42ee0798fdd3026aaf714c7c5c1d6a4218edbff407d2f7889466429db570b70b", func := "cortege/cortegelaw14.FoldPrefix", spec := "foldPrefix", inPlace := ["math.Float64frombits", "math.Float64bits"], apart := false, narrowed := true }
def FoldPrefixUptoSaid : Prop := foldPrefixUptoRow.holds Try.pinned (OpenSpec.upto foldPrefixSpec)

end Rows
end Go.Proofs.Ytoklncfdhlplkaa

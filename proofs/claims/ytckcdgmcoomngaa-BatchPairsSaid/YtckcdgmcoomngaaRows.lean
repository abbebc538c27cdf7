/-
  No cell of these rows narrows 'for every input' (looked for: loops, veiled, ifaces, maps, wideKeys, modest, calm, conditions, laid).
  DERIVED. THE GIVEN ROWS OF THIS SEAT. 4 by the template 'for every input the law returns true; each argument reads behind the call as it read before'; 0 by the template 'total and deterministic' (their statements: YtckcdgmcoomngaaTotals.lean).
  GIVEN WITH THE SEED: the statements are not yours to turn. If you find one false, say at which input.
  Laid BY PROGRAM, IN A SANDBOX (cutbox-rows.mjs): the forced cells as the released guide's own fill.sh prints them over the translation 1b3d2a74a1acc610… (all of the seat's roots in one cut). By AI agents, Wed Nov 11 2026. No macro, syntax, notation, axiom, sorry.
-/
import Derived.Test.YtckcdgmcoomngaaChecked
import GoSem.Claim
import GoSem.ClaimJoined
import GoSem.ClaimMapViews
import Derived.JoinedTies
import Derived.KernelRfl
namespace Go.Proofs.Ytckcdgmcoomngaa
/- THE CELL 'sum', in the pinned program and in every row, IS THE sha256 OF THE DUMP (.gsa) THAT YtckcdgmcoomngaaProg.lean LOADS. Nothing in Lean hashes anything: it is a label: what it is worth is what the hold of that sum in a sandbox is worth. -/
noncomputable def Try.pinned : Pinned := { name := "ytckcdgmcoomngaa", sum := "1b3d2a74a1acc6100c0b9b2ee86120910432b1d9b8966b4afc432a95f4213d8d", checked := Try.checked }
namespace Rows
def none {H : Type} : Left H := { results := [], args := [] }

/-- 'cortegelaw08.RecordChecks': WHATEVER THE INPUT: true; the input reads as it did. -/
def recordChecksSpec : ChangeSpec := { name := "recordChecks", fn := fun _ => fun
  | [d] => { results := [.lit (.bool true)], args := [d] }
  | _ => none }
def recordChecksRow : OpenClaim := { program := "ytckcdgmcoomngaa", sum := "1b3d2a74a1acc6100c0b9b2ee86120910432b1d9b8966b4afc432a95f4213d8d", func := "cortege/cortegelaw08.RecordChecks", spec := "recordChecks", inPlace := ["math.Float64frombits", "math.Float64bits"], unfollowed := true, recurses := true, apart := false }
def RecordChecksSaid : Prop := recordChecksRow.holds Try.pinned (OpenSpec.ofChange recordChecksSpec)

/-- ITS FALSE NEIGHBOUR: 'it returns false'. Refute it at one input. -/
def recordChecksWrong : ChangeSpec := { name := "recordChecks", fn := fun _ => fun
  | [d] => { results := [.lit (.bool false)], args := [d] }
  | _ => none }
def RecordChecksWrongFalsely : Prop := recordChecksRow.holds Try.pinned (OpenSpec.ofChange recordChecksWrong)

/-- 'cortegelaw08.RecordPairs': WHATEVER THE INPUT: true; the input reads as it did. -/
def recordPairsSpec : ChangeSpec := { name := "recordPairs", fn := fun _ => fun
  | [d1, d2] => { results := [.lit (.bool true)], args := [d1, d2] }
  | _ => none }
def recordPairsRow : OpenClaim := { program := "ytckcdgmcoomngaa", sum := "1b3d2a74a1acc6100c0b9b2ee86120910432b1d9b8966b4afc432a95f4213d8d", func := "cortege/cortegelaw08.RecordPairs", spec := "recordPairs", inPlace := ["math.Float64frombits", "math.Float64bits"], unfollowed := true, recurses := true, apart := false }
def RecordPairsSaid : Prop := recordPairsRow.holds Try.pinned (OpenSpec.ofChange recordPairsSpec)

/-- ITS FALSE NEIGHBOUR: 'it returns false'. Refute it at one input. -/
def recordPairsWrong : ChangeSpec := { name := "recordPairs", fn := fun _ => fun
  | [d1, d2] => { results := [.lit (.bool false)], args := [d1, d2] }
  | _ => none }
def RecordPairsWrongFalsely : Prop := recordPairsRow.holds Try.pinned (OpenSpec.ofChange recordPairsWrong)

/-- 'cortegelaw07.BatchTells': WHATEVER THE INPUT: true; the input reads as it did. -/
def batchTellsSpec : ChangeSpec := { name := "batchTells", fn := fun _ => fun
  | [d1, d2] => { results := [.lit (.bool true)], args := [d1, d2] }
  | _ => none }
def batchTellsRow : OpenClaim := { program := "ytckcdgmcoomngaa", sum := "1b3d2a74a1acc6100c0b9b2ee86120910432b1d9b8966b4afc432a95f4213d8d", func := "cortege/cortegelaw07.BatchTells", spec := "batchTells", inPlace := ["math.Float64frombits", "math.Float64bits"], unfollowed := true, recurses := true, apart := false }
def BatchTellsSaid : Prop := batchTellsRow.holds Try.pinned (OpenSpec.ofChange batchTellsSpec)

/-- ITS FALSE NEIGHBOUR: 'it returns false'. Refute it at one input. -/
def batchTellsWrong : ChangeSpec := { name := "batchTells", fn := fun _ => fun
  | [d1, d2] => { results := [.lit (.bool false)], args := [d1, d2] }
  | _ => none }
def BatchTellsWrongFalsely : Prop := batchTellsRow.holds Try.pinned (OpenSpec.ofChange batchTellsWrong)

/-- 'cortegelaw07.BatchPairs': WHATEVER THE INPUT: true; the input reads as it did. -/
def batchPairsSpec : ChangeSpec := { name := "batchPairs", fn := fun _ => fun
  | [d1, d2] => { results := [.lit (.bool true)], args := [d1, d2] }
  | _ => none }
def batchPairsRow : OpenClaim := { program := "ytckcdgmcoomngaa", sum := "1b3d2a74a1acc6100c0b9b2ee86120910432b1d9b8966b4afc432a95f4213d8d", func := "cortege/cortegelaw07.BatchPairs", spec := "batchPairs", inPlace := ["math.Float64frombits", "math.Float64bits"], unfollowed := true, recurses := true, apart := false }
def BatchPairsSaid : Prop := batchPairsRow.holds Try.pinned (OpenSpec.ofChange batchPairsSpec)

/-- ITS FALSE NEIGHBOUR: 'it returns false'. Refute it at one input. -/
def batchPairsWrong : ChangeSpec := { name := "batchPairs", fn := fun _ => fun
  | [d1, d2] => { results := [.lit (.bool false)], args := [d1, d2] }
  | _ => none }
def BatchPairsWrongFalsely : Prop := batchPairsRow.holds Try.pinned (OpenSpec.ofChange batchPairsWrong)

/- THE SECOND FORM. 'bulk': how many values and letters a reading holds, each counted each time it is reached (what is shared counts as often as it is met; a slice's spare places count too). A statement '..UptoSaid' is the law's where the arguments, and the package variables that the reading takes, are together of bulk at most 1048576: NARROWER than '..Said'. Prove '..Said' where nothing that the law and all that it calls make is longer than what came in: it says more and counts as full. Else prove '..UptoSaid'. A law counts once. -/
mutual
def uptoBulk {H : Type} : DataW H → Nat
  | .lit (.string bytes) => bytes.length + 1
  | .lit _ => 1
  | .nil => 1
  | .ptr d => uptoBulk d + 1
  | .slice elems spare => uptoBulkAll elems + uptoBulkAll spare + 1
  | .agg parts => uptoBulkAll parts + 1
  | .iface _ d => uptoBulk d + 1
  | .map entries => uptoBulkEntries entries + 1
  | .held _ => 1
def uptoBulkAll {H : Type} : List (DataW H) → Nat
  | [] => 0
  | d :: r => uptoBulk d + uptoBulkAll r
def uptoBulkEntries {H : Type} : List (Lit × DataW H) → Nat
  | [] => 0
  | x :: r => uptoBulkEntry x + uptoBulkEntries r
def uptoBulkEntry {H : Type} : Lit × DataW H → Nat
  | (.string bytes, d) => bytes.length + uptoBulk d + 1
  | (_, d) => uptoBulk d + 1
 end
def uptoSmall : (H : Type) → List (DataW H) → Bool := fun _ ds => decide (uptoBulkAll ds ≤ 1048576)
def OpenSpec.upto (s : _root_.Go.ChangeSpec) : _root_.Go.OpenSpec := { _root_.Go.OpenSpec.ofChange s with cond := some uptoSmall }

/-- 'cortegelaw08.RecordChecks', WHERE WHAT IT READS IS OF BULK AT MOST 1048576: true; the input reads as it did. -/
def recordChecksUptoRow : OpenClaim := { program := "ytckcdgmcoomngaa", sum := "1b3d2a74a1acc6100c0b9b2ee86120910432b1d9b8966b4afc432a95f4213d8d", func := "cortege/cortegelaw08.RecordChecks", spec := "recordChecks", inPlace := ["math.Float64frombits", "math.Float64bits"], unfollowed := true, recurses := true, apart := false, narrowed := true }
def RecordChecksUptoSaid : Prop := recordChecksUptoRow.holds Try.pinned (OpenSpec.upto recordChecksSpec)

/-- 'cortegelaw08.RecordPairs', WHERE WHAT IT READS IS OF BULK AT MOST 1048576: true; the input reads as it did. -/
def recordPairsUptoRow : OpenClaim := { program := "ytckcdgmcoomngaa", sum := "1b3d2a74a1acc6100c0b9b2ee86120910432b1d9b8966b4afc432a95f4213d8d", func := "cortege/cortegelaw08.RecordPairs", spec := "recordPairs", inPlace := ["math.Float64frombits", "math.Float64bits"], unfollowed := true, recurses := true, apart := false, narrowed := true }
def RecordPairsUptoSaid : Prop := recordPairsUptoRow.holds Try.pinned (OpenSpec.upto recordPairsSpec)

/-- 'cortegelaw07.BatchTells', WHERE WHAT IT READS IS OF BULK AT MOST 1048576: true; the input reads as it did. -/
def batchTellsUptoRow : OpenClaim := { program := "ytckcdgmcoomngaa", sum := "1b3d2a74a1acc6100c0b9b2ee86120910432b1d9b8966b4afc432a95f4213d8d", func := "cortege/cortegelaw07.BatchTells", spec := "batchTells", inPlace := ["math.Float64frombits", "math.Float64bits"], unfollowed := true, recurses := true, apart := false, narrowed := true }
def BatchTellsUptoSaid : Prop := batchTellsUptoRow.holds Try.pinned (OpenSpec.upto batchTellsSpec)

/-- 'cortegelaw07.BatchPairs', WHERE WHAT IT READS IS OF BULK AT MOST 1048576: true; the input reads as it did. -/
def batchPairsUptoRow : OpenClaim := { program := "ytckcdgmcoomngaa", sum := "1b3d2a74a1acc6100c0b9b2ee86120910432b1d9b8966b4afc432a95f4213d8d", func := "cortege/cortegelaw07.BatchPairs", spec := "batchPairs", inPlace := ["math.Float64frombits", "math.Float64bits"], unfollowed := true, recurses := true, apart := false, narrowed := true }
def BatchPairsUptoSaid : Prop := batchPairsUptoRow.holds Try.pinned (OpenSpec.upto batchPairsSpec)

end Rows
end Go.Proofs.Ytckcdgmcoomngaa

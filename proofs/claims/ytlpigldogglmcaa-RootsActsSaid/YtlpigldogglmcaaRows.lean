/-
  No cell of these rows narrows 'for every input' (looked for: loops, veiled, ifaces, maps, wideKeys, modest, calm, conditions, laid).
  DERIVED. THE GIVEN ROWS OF THIS SEAT. 12 by the template 'for every input the law returns true; each argument reads behind the call as it read before'; 0 by the template 'total and deterministic' (their statements: YtlpigldogglmcaaTotals.lean).
  GIVEN WITH THE SEED: the statements are not yours to turn. If you find one false, say at which input.
  Laid BY PROGRAM, IN A SANDBOX (cutbox-rows.mjs): the forced cells as the released guide's own fill.sh prints them over the translation 9a1e2ad3bf903cc1… (all of the seat's roots in one cut). By AI agents, Wed Nov 11 2026. No macro, syntax, notation, axiom, sorry.
-/
import Derived.Test.YtlpigldogglmcaaChecked
import GoSem.Claim
import GoSem.ClaimJoined
import GoSem.ClaimMapViews
import Derived.JoinedTies
import Derived.KernelRfl
namespace Go.Proofs.Ytlpigldogglmcaa
/- THE CELL 'sum', in the pinned program and in every row, IS THE sha256 OF THE DUMP (.gsa) THAT YtlpigldogglmcaaProg.lean LOADS. Nothing in Lean hashes anything: it is a label: what it is worth is what the hold of that sum in a sandbox is worth. -/
noncomputable def Try.pinned : Pinned := { name := "ytlpigldogglmcaa", sum := "9a1e2ad3bf903cc1e443e8b078c0e6bdcbfbf7d0f4b6c3403a5abed1062c6f69", checked := Try.checked }
namespace Rows
def none {H : Type} : Left H := { results := [], args := [] }

/-- 'cortegelaw24.RootsActs': WHATEVER THE INPUT: true; the input reads as it did. -/
def rootsActsSpec : ChangeSpec := { name := "rootsActs", fn := fun _ => fun
  | [d] => { results := [.lit (.bool true)], args := [d] }
  | _ => none }
def rootsActsRow : OpenClaim := { program := "ytlpigldogglmcaa", sum := "9a1e2ad3bf903cc1e443e8b078c0e6bdcbfbf7d0f4b6c3403a5abed1062c6f69", func := "cortege/cortegelaw24.RootsActs", spec := "rootsActs", plainKeys := false, apart := false }
def RootsActsSaid : Prop := rootsActsRow.holds Try.pinned (OpenSpec.ofChange rootsActsSpec)

/-- ITS FALSE NEIGHBOUR: 'it returns false'. Refute it at one input. -/
def rootsActsWrong : ChangeSpec := { name := "rootsActs", fn := fun _ => fun
  | [d] => { results := [.lit (.bool false)], args := [d] }
  | _ => none }
def RootsActsWrongFalsely : Prop := rootsActsRow.holds Try.pinned (OpenSpec.ofChange rootsActsWrong)

/-- 'cortegelaw10.DigestOpens': WHATEVER THE INPUT: true; the input reads as it did. -/
def digestOpensSpec : ChangeSpec := { name := "digestOpens", fn := fun _ => fun
  | [d1, d2, d3] => { results := [.lit (.bool true)], args := [d1, d2, d3] }
  | _ => none }
def digestOpensRow : OpenClaim := { program := "ytlpigldogglmcaa", sum := "9a1e2ad3bf903cc1e443e8b078c0e6bdcbfbf7d0f4b6c3403a5abed1062c6f69", func := "cortege/cortegelaw10.DigestOpens", spec := "digestOpens", unfollowed := true, recurses := true, plainKeys := false, apart := false }
def DigestOpensSaid : Prop := digestOpensRow.holds Try.pinned (OpenSpec.ofChange digestOpensSpec)

/-- ITS FALSE NEIGHBOUR: 'it returns false'. Refute it at one input. -/
def digestOpensWrong : ChangeSpec := { name := "digestOpens", fn := fun _ => fun
  | [d1, d2, d3] => { results := [.lit (.bool false)], args := [d1, d2, d3] }
  | _ => none }
def DigestOpensWrongFalsely : Prop := digestOpensRow.holds Try.pinned (OpenSpec.ofChange digestOpensWrong)

/-- 'cortegelaw25.TallyBounds': WHATEVER THE INPUT: true; the input reads as it did. -/
def tallyBoundsSpec : ChangeSpec := { name := "tallyBounds", fn := fun _ => fun
  | [d1, d2, d3] => { results := [.lit (.bool true)], args := [d1, d2, d3] }
  | _ => none }
def tallyBoundsRow : OpenClaim := { program := "ytlpigldogglmcaa", sum := "9a1e2ad3bf903cc1e443e8b078c0e6bdcbfbf7d0f4b6c3403a5abed1062c6f69", func := "cortege/cortegelaw25.TallyBounds", spec := "tallyBounds", unfollowed := true, recurses := true, plainKeys := false, apart := false }
def TallyBoundsSaid : Prop := tallyBoundsRow.holds Try.pinned (OpenSpec.ofChange tallyBoundsSpec)

/-- ITS FALSE NEIGHBOUR: 'it returns false'. Refute it at one input. -/
def tallyBoundsWrong : ChangeSpec := { name := "tallyBounds", fn := fun _ => fun
  | [d1, d2, d3] => { results := [.lit (.bool false)], args := [d1, d2, d3] }
  | _ => none }
def TallyBoundsWrongFalsely : Prop := tallyBoundsRow.holds Try.pinned (OpenSpec.ofChange tallyBoundsWrong)

/-- 'cortegelaw25.TallyCounts': WHATEVER THE INPUT: true; the input reads as it did. -/
def tallyCountsSpec : ChangeSpec := { name := "tallyCounts", fn := fun _ => fun
  | [d] => { results := [.lit (.bool true)], args := [d] }
  | _ => none }
def tallyCountsRow : OpenClaim := { program := "ytlpigldogglmcaa", sum := "9a1e2ad3bf903cc1e443e8b078c0e6bdcbfbf7d0f4b6c3403a5abed1062c6f69", func := "cortege/cortegelaw25.TallyCounts", spec := "tallyCounts", unfollowed := true, recurses := true, plainKeys := false, apart := false }
def TallyCountsSaid : Prop := tallyCountsRow.holds Try.pinned (OpenSpec.ofChange tallyCountsSpec)

/-- ITS FALSE NEIGHBOUR: 'it returns false'. Refute it at one input. -/
def tallyCountsWrong : ChangeSpec := { name := "tallyCounts", fn := fun _ => fun
  | [d] => { results := [.lit (.bool false)], args := [d] }
  | _ => none }
def TallyCountsWrongFalsely : Prop := tallyCountsRow.holds Try.pinned (OpenSpec.ofChange tallyCountsWrong)

/-- 'cortegelaw09.WireGets': WHATEVER THE INPUT: true; the input reads as it did. -/
def wireGetsSpec : ChangeSpec := { name := "wireGets", fn := fun _ => fun
  | [d1, d2] => { results := [.lit (.bool true)], args := [d1, d2] }
  | _ => none }
def wireGetsRow : OpenClaim := { program := "ytlpigldogglmcaa", sum := "9a1e2ad3bf903cc1e443e8b078c0e6bdcbfbf7d0f4b6c3403a5abed1062c6f69", func := "cortege/cortegelaw09.WireGets", spec := "wireGets", plainKeys := false, apart := false }
def WireGetsSaid : Prop := wireGetsRow.holds Try.pinned (OpenSpec.ofChange wireGetsSpec)

/-- ITS FALSE NEIGHBOUR: 'it returns false'. Refute it at one input. -/
def wireGetsWrong : ChangeSpec := { name := "wireGets", fn := fun _ => fun
  | [d1, d2] => { results := [.lit (.bool false)], args := [d1, d2] }
  | _ => none }
def WireGetsWrongFalsely : Prop := wireGetsRow.holds Try.pinned (OpenSpec.ofChange wireGetsWrong)

/-- 'cortegelaw10.DigestTells': WHATEVER THE INPUT: true; the input reads as it did. -/
def digestTellsSpec : ChangeSpec := { name := "digestTells", fn := fun _ => fun
  | [d1, d2, d3] => { results := [.lit (.bool true)], args := [d1, d2, d3] }
  | _ => none }
def digestTellsRow : OpenClaim := { program := "ytlpigldogglmcaa", sum := "9a1e2ad3bf903cc1e443e8b078c0e6bdcbfbf7d0f4b6c3403a5abed1062c6f69", func := "cortege/cortegelaw10.DigestTells", spec := "digestTells", unfollowed := true, recurses := true, plainKeys := false, apart := false }
def DigestTellsSaid : Prop := digestTellsRow.holds Try.pinned (OpenSpec.ofChange digestTellsSpec)

/-- ITS FALSE NEIGHBOUR: 'it returns false'. Refute it at one input. -/
def digestTellsWrong : ChangeSpec := { name := "digestTells", fn := fun _ => fun
  | [d1, d2, d3] => { results := [.lit (.bool false)], args := [d1, d2, d3] }
  | _ => none }
def DigestTellsWrongFalsely : Prop := digestTellsRow.holds Try.pinned (OpenSpec.ofChange digestTellsWrong)

/-- 'cortegelaw09.WirePuts': WHATEVER THE INPUT: true; the input reads as it did. -/
def wirePutsSpec : ChangeSpec := { name := "wirePuts", fn := fun _ => fun
  | [d1, d2, d3] => { results := [.lit (.bool true)], args := [d1, d2, d3] }
  | _ => none }
def wirePutsRow : OpenClaim := { program := "ytlpigldogglmcaa", sum := "9a1e2ad3bf903cc1e443e8b078c0e6bdcbfbf7d0f4b6c3403a5abed1062c6f69", func := "cortege/cortegelaw09.WirePuts", spec := "wirePuts", plainKeys := false, apart := false }
def WirePutsSaid : Prop := wirePutsRow.holds Try.pinned (OpenSpec.ofChange wirePutsSpec)

/-- ITS FALSE NEIGHBOUR: 'it returns false'. Refute it at one input. -/
def wirePutsWrong : ChangeSpec := { name := "wirePuts", fn := fun _ => fun
  | [d1, d2, d3] => { results := [.lit (.bool false)], args := [d1, d2, d3] }
  | _ => none }
def WirePutsWrongFalsely : Prop := wirePutsRow.holds Try.pinned (OpenSpec.ofChange wirePutsWrong)

/-- 'cortegelaw28.LedgerNotes': WHATEVER THE INPUT: true; the input reads as it did. -/
def ledgerNotesSpec : ChangeSpec := { name := "ledgerNotes", fn := fun _ => fun
  | [d1, d2, d3] => { results := [.lit (.bool true)], args := [d1, d2, d3] }
  | _ => none }
def ledgerNotesRow : OpenClaim := { program := "ytlpigldogglmcaa", sum := "9a1e2ad3bf903cc1e443e8b078c0e6bdcbfbf7d0f4b6c3403a5abed1062c6f69", func := "cortege/cortegelaw28.LedgerNotes", spec := "ledgerNotes", plainKeys := false, apart := false }
def LedgerNotesSaid : Prop := ledgerNotesRow.holds Try.pinned (OpenSpec.ofChange ledgerNotesSpec)

/-- ITS FALSE NEIGHBOUR: 'it returns false'. Refute it at one input. -/
def ledgerNotesWrong : ChangeSpec := { name := "ledgerNotes", fn := fun _ => fun
  | [d1, d2, d3] => { results := [.lit (.bool false)], args := [d1, d2, d3] }
  | _ => none }
def LedgerNotesWrongFalsely : Prop := ledgerNotesRow.holds Try.pinned (OpenSpec.ofChange ledgerNotesWrong)

/-- 'cortegelaw01.RealTells': WHATEVER THE INPUT: true; the input reads as it did. -/
def realTellsSpec : ChangeSpec := { name := "realTells", fn := fun _ => fun
  | [d1, d2] => { results := [.lit (.bool true)], args := [d1, d2] }
  | _ => none }
def realTellsRow : OpenClaim := { program := "ytlpigldogglmcaa", sum := "9a1e2ad3bf903cc1e443e8b078c0e6bdcbfbf7d0f4b6c3403a5abed1062c6f69", func := "cortege/cortegelaw01.RealTells", spec := "realTells", inPlace := ["math.Float64bits", "math.Float64frombits"], plainKeys := false, apart := false }
def RealTellsSaid : Prop := realTellsRow.holds Try.pinned (OpenSpec.ofChange realTellsSpec)

/-- ITS FALSE NEIGHBOUR: 'it returns false'. Refute it at one input. -/
def realTellsWrong : ChangeSpec := { name := "realTells", fn := fun _ => fun
  | [d1, d2] => { results := [.lit (.bool false)], args := [d1, d2] }
  | _ => none }
def RealTellsWrongFalsely : Prop := realTellsRow.holds Try.pinned (OpenSpec.ofChange realTellsWrong)

/-- 'cortegelaw01.RealOne': WHATEVER THE INPUT: true; the input reads as it did. -/
def realOneSpec : ChangeSpec := { name := "realOne", fn := fun _ => fun
  | [d1, d2] => { results := [.lit (.bool true)], args := [d1, d2] }
  | _ => none }
def realOneRow : OpenClaim := { program := "ytlpigldogglmcaa", sum := "9a1e2ad3bf903cc1e443e8b078c0e6bdcbfbf7d0f4b6c3403a5abed1062c6f69", func := "cortege/cortegelaw01.RealOne", spec := "realOne", inPlace := ["math.Float64frombits", "math.Float64bits"], plainKeys := false, apart := false }
def RealOneSaid : Prop := realOneRow.holds Try.pinned (OpenSpec.ofChange realOneSpec)

/-- ITS FALSE NEIGHBOUR: 'it returns false'. Refute it at one input. -/
def realOneWrong : ChangeSpec := { name := "realOne", fn := fun _ => fun
  | [d1, d2] => { results := [.lit (.bool false)], args := [d1, d2] }
  | _ => none }
def RealOneWrongFalsely : Prop := realOneRow.holds Try.pinned (OpenSpec.ofChange realOneWrong)

/-- 'cortegelaw01.RealSums': WHATEVER THE INPUT: true; the input reads as it did. -/
def realSumsSpec : ChangeSpec := { name := "realSums", fn := fun _ => fun
  | [d1, d2] => { results := [.lit (.bool true)], args := [d1, d2] }
  | _ => none }
def realSumsRow : OpenClaim := { program := "ytlpigldogglmcaa", sum := "9a1e2ad3bf903cc1e443e8b078c0e6bdcbfbf7d0f4b6c3403a5abed1062c6f69", func := "cortege/cortegelaw01.RealSums", spec := "realSums", inPlace := ["math.Float64frombits", "math.Float64bits"], plainKeys := false, apart := false }
def RealSumsSaid : Prop := realSumsRow.holds Try.pinned (OpenSpec.ofChange realSumsSpec)

/-- ITS FALSE NEIGHBOUR: 'it returns false'. Refute it at one input. -/
def realSumsWrong : ChangeSpec := { name := "realSums", fn := fun _ => fun
  | [d1, d2] => { results := [.lit (.bool false)], args := [d1, d2] }
  | _ => none }
def RealSumsWrongFalsely : Prop := realSumsRow.holds Try.pinned (OpenSpec.ofChange realSumsWrong)

/-- 'cortegelaw01.RealOrder': WHATEVER THE INPUT: true; the input reads as it did. -/
def realOrderSpec : ChangeSpec := { name := "realOrder", fn := fun _ => fun
  | [d1, d2, d3] => { results := [.lit (.bool true)], args := [d1, d2, d3] }
  | _ => none }
def realOrderRow : OpenClaim := { program := "ytlpigldogglmcaa", sum := "9a1e2ad3bf903cc1e443e8b078c0e6bdcbfbf7d0f4b6c3403a5abed1062c6f69", func := "cortege/cortegelaw01.RealOrder", spec := "realOrder", inPlace := ["math.Float64bits", "math.Float64frombits"], plainKeys := false, apart := false }
def RealOrderSaid : Prop := realOrderRow.holds Try.pinned (OpenSpec.ofChange realOrderSpec)

/-- ITS FALSE NEIGHBOUR: 'it returns false'. Refute it at one input. -/
def realOrderWrong : ChangeSpec := { name := "realOrder", fn := fun _ => fun
  | [d1, d2, d3] => { results := [.lit (.bool false)], args := [d1, d2, d3] }
  | _ => none }
def RealOrderWrongFalsely : Prop := realOrderRow.holds Try.pinned (OpenSpec.ofChange realOrderWrong)

/- THE SECOND FORM. 'bulk': how many values and letters a reading holds, each counted each time it is reached (what is shared counts as often as it is met; a slice's spare places count too). A statement '..UptoSaid' is the law's where the arguments, and the package variables that the reading takes, are together of bulk at most 1048576: NARROWER than '..Said'. Prove '..Said' where nothing that the law and all that it calls make is longer than what came in: it says more and counts as full. Else prove '..UptoSaid'. A law counts once. -/
mutual
def uptoBulk {H : Type} : DataW H → Nat
  | .lit (.string bytes) => bytes.length + 1
  | .lit _ => 1
  | .nil => 1
  | .ptr d => uptoBulk d + 1
  | .slice elems spare => uptoBulkAll elems + uptoBulkAll spare + 1
  | .agg parts => uptoBulkAll parts + 1
  | .iface _ d => uptoBulk d + 1
  | .map entries => uptoBulkEntries entries + 1
  | .held _ => 1
def uptoBulkAll {H : Type} : List (DataW H) → Nat
  | [] => 0
  | d :: r => uptoBulk d + uptoBulkAll r
def uptoBulkEntries {H : Type} : List (Lit × DataW H) → Nat
  | [] => 0
  | x :: r => uptoBulkEntry x + uptoBulkEntries r
def uptoBulkEntry {H : Type} : Lit × DataW H → Nat
  | (.string bytes, d) => bytes.length + uptoBulk d + 1
  | (_, d) => uptoBulk d + 1
 end
def uptoSmall : (H : Type) → List (DataW H) → Bool := fun _ ds => decide (uptoBulkAll ds ≤ 1048576)
def OpenSpec.upto (s : _root_.Go.ChangeSpec) : _root_.Go.OpenSpec := { _root_.Go.OpenSpec.ofChange s with cond := some uptoSmall }

/-- 'cortegelaw24.RootsActs', WHERE WHAT IT READS IS OF BULK AT MOST 1048576: true; the input reads as it did. -/
def rootsActsUptoRow : OpenClaim := { program := "ytlpigldogglmcaa", sum := "9a1e2ad3bf903cc1e443e8b078c0e6bdcbfbf7d0f4b6c3403a5abed1062c6f69", func := "cortege/cortegelaw24.RootsActs", spec := "rootsActs", plainKeys := false, apart := false, narrowed := true }
def RootsActsUptoSaid : Prop := rootsActsUptoRow.holds Try.pinned (OpenSpec.upto rootsActsSpec)

/-- 'cortegelaw10.DigestOpens', WHERE WHAT IT READS IS OF BULK AT MOST 1048576: true; the input reads as it did. -/
def digestOpensUptoRow : OpenClaim := { program := "ytlpigldogglmcaa", sum := "9a1e2ad3bf903cc1e443e8b078c0e6bdcbfbf7d0f4b6c3403a5abed1062c6f69", func := "cortege/cortegelaw10.DigestOpens", spec := "digestOpens", unfollowed := true, recurses := true, plainKeys := false, apart := false, narrowed := true }
def DigestOpensUptoSaid : Prop := digestOpensUptoRow.holds Try.pinned (OpenSpec.upto digestOpensSpec)

/-- 'cortegelaw25.TallyBounds', WHERE WHAT IT READS IS OF BULK AT MOST 1048576: true; the input reads as it did. -/
def tallyBoundsUptoRow : OpenClaim := { program := "ytlpigldogglmcaa", sum := "9a1e2ad3bf903cc1e443e8b078c0e6bdcbfbf7d0f4b6c3403a5abed1062c6f69", func := "cortege/cortegelaw25.TallyBounds", spec := "tallyBounds", unfollowed := true, recurses := true, plainKeys := false, apart := false, narrowed := true }
def TallyBoundsUptoSaid : Prop := tallyBoundsUptoRow.holds Try.pinned (OpenSpec.upto tallyBoundsSpec)

/-- 'cortegelaw25.TallyCounts', WHERE WHAT IT READS IS OF BULK AT MOST 1048576: true; the input reads as it did. -/
def tallyCountsUptoRow : OpenClaim := { program := "ytlpigldogglmcaa", sum := "9a1e2ad3bf903cc1e443e8b078c0e6bdcbfbf7d0f4b6c3403a5abed1062c6f69", func := "cortege/cortegelaw25.TallyCounts", spec := "tallyCounts", unfollowed := true, recurses := true, plainKeys := false, apart := false, narrowed := true }
def TallyCountsUptoSaid : Prop := tallyCountsUptoRow.holds Try.pinned (OpenSpec.upto tallyCountsSpec)

/-- 'cortegelaw09.WireGets', WHERE WHAT IT READS IS OF BULK AT MOST 1048576: true; the input reads as it did. -/
def wireGetsUptoRow : OpenClaim := { program := "ytlpigldogglmcaa", sum := "9a1e2ad3bf903cc1e443e8b078c0e6bdcbfbf7d0f4b6c3403a5abed1062c6f69", func := "cortege/cortegelaw09.WireGets", spec := "wireGets", plainKeys := false, apart := false, narrowed := true }
def WireGetsUptoSaid : Prop := wireGetsUptoRow.holds Try.pinned (OpenSpec.upto wireGetsSpec)

/-- 'cortegelaw10.DigestTells', WHERE WHAT IT READS IS OF BULK AT MOST 1048576: true; the input reads as it did. -/
def digestTellsUptoRow : OpenClaim := { program := "ytlpigldogglmcaa", sum := "9a1e2ad3bf903cc1e443e8b078c0e6bdcbfbf7d0f4b6c3403a5abed1062c6f69", func := "cortege/cortegelaw10.DigestTells", spec := "digestTells", unfollowed := true, recurses := true, plainKeys := false, apart := false, narrowed := true }
def DigestTellsUptoSaid : Prop := digestTellsUptoRow.holds Try.pinned (OpenSpec.upto digestTellsSpec)

/-- 'cortegelaw09.WirePuts', WHERE WHAT IT READS IS OF BULK AT MOST 1048576: true; the input reads as it did. -/
def wirePutsUptoRow : OpenClaim := { program := "ytlpigldogglmcaa", sum := "9a1e2ad3bf903cc1e443e8b078c0e6bdcbfbf7d0f4b6c3403a5abed1062c6f69", func := "cortege/cortegelaw09.WirePuts", spec := "wirePuts", plainKeys := false, apart := false, narrowed := true }
def WirePutsUptoSaid : Prop := wirePutsUptoRow.holds Try.pinned (OpenSpec.upto wirePutsSpec)

/-- 'cortegelaw28.LedgerNotes', WHERE WHAT IT READS IS OF BULK AT MOST 1048576: true; the input reads as it did. -/
def ledgerNotesUptoRow : OpenClaim := { program := "ytlpigldogglmcaa", sum := "9a1e2ad3bf903cc1e443e8b078c0e6bdcbfbf7d0f4b6c3403a5abed1062c6f69", func := "cortege/cortegelaw28.LedgerNotes", spec := "ledgerNotes", plainKeys := false, apart := false, narrowed := true }
def LedgerNotesUptoSaid : Prop := ledgerNotesUptoRow.holds Try.pinned (OpenSpec.upto ledgerNotesSpec)

/-- 'cortegelaw01.RealTells', WHERE WHAT IT READS IS OF BULK AT MOST 1048576: true; the input reads as it did. -/
def realTellsUptoRow : OpenClaim := { program := "ytlpigldogglmcaa", sum := "9a1e2ad3bf903cc1e443e8b078c0e6bdcbfbf7d0f4b6c3403a5abed1062c6f69", func := "cortege/cortegelaw01.RealTells", spec := "realTells", inPlace := ["math.Float64bits", "math.Float64frombits"], plainKeys := false, apart := false, narrowed := true }
def RealTellsUptoSaid : Prop := realTellsUptoRow.holds Try.pinned (OpenSpec.upto realTellsSpec)

/-- 'cortegelaw01.RealOne', WHERE WHAT IT READS IS OF BULK AT MOST 1048576: true; the input reads as it did. -/
def realOneUptoRow : OpenClaim := { program := "ytlpigldogglmcaa", sum := "9a1e2ad3bf903cc1e443e8b078c0e6bdcbfbf7d0f4b6c3403a5abed1062c6f69", func := "cortege/cortegelaw01.RealOne", spec := "realOne", inPlace := ["math.Float64frombits", "math.Float64bits"], plainKeys := false, apart := false, narrowed := true }
def RealOneUptoSaid : Prop := realOneUptoRow.holds Try.pinned (OpenSpec.upto realOneSpec)

/-- 'cortegelaw01.RealSums', WHERE WHAT IT READS IS OF BULK AT MOST 1048576: true; the input reads as it did. -/
def realSumsUptoRow : OpenClaim := { program := "ytlpigldogglmcaa", sum := "9a1e2ad3bf903cc1e443e8b078c0e6bdcbfbf7d0f4b6c3403a5abed1062c6f69", func := "cortege/cortegelaw01.RealSums", spec := "realSums", inPlace := ["math.Float64frombits", "math.Float64bits"], plainKeys := false, apart := false, narrowed := true }
def RealSumsUptoSaid : Prop := realSumsUptoRow.holds Try.pinned (OpenSpec.upto realSumsSpec)

/-- 'cortegelaw01.RealOrder', WHERE WHAT IT READS IS OF BULK AT MOST 1048576: true; the input reads as it did. -/
def realOrderUptoRow : OpenClaim := { program := "ytlpigldogglmcaa", sum := "9a1e2ad3bf903cc1e443e8b078c0e6bdcbfbf7d0f4b6c3403a5abed1062c6f69", func := "cortege/cortegelaw01.RealOrder", spec := "realOrder", inPlace := ["math.Float64bits", "math.Float64frombits"], plainKeys := false, apart := false, narrowed := true }
def RealOrderUptoSaid : Prop := realOrderUptoRow.holds Try.pinned (OpenSpec.upto realOrderSpec)

end Rows
end Go.Proofs.Ytlpigldogglmcaa

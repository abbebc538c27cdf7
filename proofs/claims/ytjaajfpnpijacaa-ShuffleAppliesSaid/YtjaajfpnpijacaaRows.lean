/-
  No cell of these rows narrows 'for every input' (looked for: loops, veiled, ifaces, maps, wideKeys, modest, calm, conditions, laid).
  DERIVED. THE GIVEN ROWS OF THIS SEAT. 3 by the template 'for every input the law returns true; each argument reads behind the call as it read before'; 0 by the template 'total and deterministic' (their statements: YtjaajfpnpijacaaTotals.lean).
  GIVEN WITH THE SEED: the statements are not yours to turn. If you find one false, say at which input.
  Laid BY PROGRAM, IN A SANDBOX (cutbox-rows.mjs): the forced cells as the released guide's own fill.sh prints them over the translation 0f79b2781b9fd9f7… (all of the seat's roots in one cut). By AI agents, Wed Nov 11 2026. No macro, syntax, notation, axiom, sorry.
-/
import Derived.Test.YtjaajfpnpijacaaChecked
import GoSem.Claim
import GoSem.ClaimJoined
import GoSem.ClaimMapViews
import Derived.JoinedTies
import Derived.KernelRfl
namespace Go.Proofs.Ytjaajfpnpijacaa
/- THE CELL 'sum', in the pinned program and in every row, IS THE sha256 OF THE DUMP (.gsa) THAT YtjaajfpnpijacaaProg.lean LOADS. Nothing in Lean hashes anything: it is a label: what it is worth is what the hold of that sum in a sandbox is worth. -/
noncomputable def Try.pinned : Pinned := { name := "ytjaajfpnpijacaa", sum := "0f79b2781b9fd9f71066d4de550acc04608f94fab3b234fee37b5e050e4ab9e6", checked := Try.checked }
namespace Rows
def none {H : Type} : Left H := { results := [], args := [] }

/-- 'cortegelaw33.ShufflePerms': WHATEVER THE INPUT: true; the input reads as it did. -/
def shufflePermsSpec : ChangeSpec := { name := "shufflePerms", fn := fun _ => fun
  | [d1, d2] => { results := [.lit (.bool true)], args := [d1, d2] }
  | _ => none }
def shufflePermsRow : OpenClaim := { program := "ytjaajfpnpijacaa", sum := "0f79b2781b9fd9f71066d4de550acc04608f94fab3b234fee37b5e050e4ab9e6", func := "cortege/cortegelaw33.ShufflePerms", spec := "shufflePerms", apart := false }
def ShufflePermsSaid : Prop := shufflePermsRow.holds Try.pinned (OpenSpec.ofChange shufflePermsSpec)

/-- ITS FALSE NEIGHBOUR: 'it returns false'. Refute it at one input. -/
def shufflePermsWrong : ChangeSpec := { name := "shufflePerms", fn := fun _ => fun
  | [d1, d2] => { results := [.lit (.bool false)], args := [d1, d2] }
  | _ => none }
def ShufflePermsWrongFalsely : Prop := shufflePermsRow.holds Try.pinned (OpenSpec.ofChange shufflePermsWrong)

/-- 'cortegelaw33.ShuffleRanks': WHATEVER THE INPUT: true; the input reads as it did. -/
def shuffleRanksSpec : ChangeSpec := { name := "shuffleRanks", fn := fun _ => fun
  | [d1, d2, d3] => { results := [.lit (.bool true)], args := [d1, d2, d3] }
  | _ => none }
def shuffleRanksRow : OpenClaim := { program := "ytjaajfpnpijacaa", sum := "0f79b2781b9fd9f71066d4de550acc04608f94fab3b234fee37b5e050e4ab9e6", func := "cortege/cortegelaw33.ShuffleRanks", spec := "shuffleRanks", apart := false }
def ShuffleRanksSaid : Prop := shuffleRanksRow.holds Try.pinned (OpenSpec.ofChange shuffleRanksSpec)

/-- ITS FALSE NEIGHBOUR: 'it returns false'. Refute it at one input. -/
def shuffleRanksWrong : ChangeSpec := { name := "shuffleRanks", fn := fun _ => fun
  | [d1, d2, d3] => { results := [.lit (.bool false)], args := [d1, d2, d3] }
  | _ => none }
def ShuffleRanksWrongFalsely : Prop := shuffleRanksRow.holds Try.pinned (OpenSpec.ofChange shuffleRanksWrong)

/-- 'cortegelaw33.ShuffleApplies': WHATEVER THE INPUT: true; the input reads as it did. -/
def shuffleAppliesSpec : ChangeSpec := { name := "shuffleApplies", fn := fun _ => fun
  | [d1, d2] => { results := [.lit (.bool true)], args := [d1, d2] }
  | _ => none }
def shuffleAppliesRow : OpenClaim := { program := "ytjaajfpnpijacaa", sum := "0f79b2781b9fd9f71066d4de550acc04608f94fab3b234fee37b5e050e4ab9e6", func := "cortege/cortegelaw33.ShuffleApplies", spec := "shuffleApplies", apart := false }
def ShuffleAppliesSaid : Prop := shuffleAppliesRow.holds Try.pinned (OpenSpec.ofChange shuffleAppliesSpec)

/-- ITS FALSE NEIGHBOUR: 'it returns false'. Refute it at one input. -/
def shuffleAppliesWrong : ChangeSpec := { name := "shuffleApplies", fn := fun _ => fun
  | [d1, d2] => { results := [.lit (.bool false)], args := [d1, d2] }
  | _ => none }
def ShuffleAppliesWrongFalsely : Prop := shuffleAppliesRow.holds Try.pinned (OpenSpec.ofChange shuffleAppliesWrong)

/- THE SECOND FORM. 'bulk': how many values and letters a reading holds, each counted each time it is reached (what is shared counts as often as it is met; a slice's spare places count too). A statement '..UptoSaid' is the law's where the arguments, and the package variables that the reading takes, are together of bulk at most 1048576: NARROWER than '..Said'. Prove '..Said' where nothing that the law and all that it calls make is longer than what came in: it says more and counts as full. Else prove '..UptoSaid'. A law counts once. -/
mutual
def uptoBulk {H : Type} : DataW H → Nat
  | .lit (.string bytes) => bytes.length + 1
  | .lit _ => 1
  | .nil => 1
  | .ptr d => uptoBulk d + 1
  | .slice elems spare => uptoBulkAll elems + uptoBulkAll spare + 1
  | .agg parts => uptoBulkAll parts + 1
  | .iface _ d => uptoBulk d + 1
  | .map entries => uptoBulkEntries entries + 1
  | .held _ => 1
def uptoBulkAll {H : Type} : List (DataW H) → Nat
  | [] => 0
  | d :: r => uptoBulk d + uptoBulkAll r
def uptoBulkEntries {H : Type} : List (Lit × DataW H) → Nat
  | [] => 0
  | x :: r => uptoBulkEntry x + uptoBulkEntries r
def uptoBulkEntry {H : Type} : Lit × DataW H → Nat
  | (.string bytes, d) => bytes.length + uptoBulk d + 1
  | (_, d) => uptoBulk d + 1
 end
def uptoSmall : (H : Type) → List (DataW H) → Bool := fun _ ds => decide (uptoBulkAll ds ≤ 1048576)
def OpenSpec.upto (s : _root_.Go.ChangeSpec) : _root_.Go.OpenSpec := { _root_.Go.OpenSpec.ofChange s with cond := some uptoSmall }

/-- 'cortegelaw33.ShufflePerms', WHERE WHAT IT READS IS OF BULK AT MOST 1048576: true; the input reads as it did. -/
def shufflePermsUptoRow : OpenClaim := { program := "ytjaajfpnpijacaa", sum := "0f79b2781b9fd9f71066d4de550acc04608f94fab3b234fee37b5e050e4ab9e6", func := "cortege/cortegelaw33.ShufflePerms", spec := "shufflePerms", apart := false, narrowed := true }
def ShufflePermsUptoSaid : Prop := shufflePermsUptoRow.holds Try.pinned (OpenSpec.upto shufflePermsSpec)

/-- 'cortegelaw33.ShuffleRanks', WHERE WHAT IT READS IS OF BULK AT MOST 1048576: true; the input reads as it did. -/
def shuffleRanksUptoRow : OpenClaim := { program := "ytjaajfpnpijacaa", sum := "0f79b2781b9fd9f71066d4de550acc04608f94fab3b234fee37b5e050e4ab9e6", func := "cortege/cortegelaw33.ShuffleRanks", spec := "shuffleRanks", apart := false, narrowed := true }
def ShuffleRanksUptoSaid : Prop := shuffleRanksUptoRow.holds Try.pinned (OpenSpec.upto shuffleRanksSpec)

/-- 'cortegelaw33.ShuffleApplies', WHERE WHAT IT READS IS OF BULK AT MOST 1048576: true; the input reads as it did. -/
def shuffleAppliesUptoRow : OpenClaim := { program := "ytjaajfpnpijacaa", sum := "0f79b2781b9fd9f71066d4de550acc04608f94fab3b234fee37b5e050e4ab9e6", func := "cortege/cortegelaw33.ShuffleApplies", spec := "shuffleApplies", apart := false, narrowed := true }
def ShuffleAppliesUptoSaid : Prop := shuffleAppliesUptoRow.holds Try.pinned (OpenSpec.upto shuffleAppliesSpec)

end Rows
end Go.Proofs.Ytjaajfpnpijacaa

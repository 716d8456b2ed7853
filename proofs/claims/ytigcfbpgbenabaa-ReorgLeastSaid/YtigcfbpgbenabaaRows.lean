/-
  No cell of these rows narrows 'for every input' (looked for: loops, veiled, ifaces, maps, wideKeys, modest, calm, conditions, laid).
  DERIVED. THE GIVEN ROWS OF THIS SEAT. 4 by the template 'for every input the law returns true; each argument reads behind the call as it read before'; 0 by the template 'total and deterministic' (their statements: YtigcfbpgbenabaaTotals.lean).
  GIVEN WITH THE SEED: the statements are not yours to turn. If you find one false, say at which input.
  Laid BY PROGRAM, IN A SANDBOX (cutbox-rows.mjs): the forced cells as the released guide's own fill.sh prints them over the translation e3f548e714d94593… (all of the seat's roots in one cut). By AI agents, Wed Nov 11 2026. No macro, syntax, notation, axiom, sorry.
-/
import Derived.Test.YtigcfbpgbenabaaChecked
import GoSem.Claim
import GoSem.ClaimJoined
import GoSem.ClaimMapViews
import Derived.JoinedTies
import Derived.KernelRfl
namespace Go.Proofs.Ytigcfbpgbenabaa
/- THE CELL 'sum', in the pinned program and in every row, IS THE sha256 OF THE DUMP (.gsa) THAT YtigcfbpgbenabaaProg.lean LOADS. Nothing in Lean hashes anything: it is a label: what it is worth is what the hold of that sum in a sandbox is worth. -/
noncomputable def Try.pinned : Pinned := { name := "ytigcfbpgbenabaa", sum := "e3f548e714d945937ae6b9bd4db42b4f0a850d898f647c7a1f91a617b3ef4ae0", checked := Try.checked }
namespace Rows
def none {H : Type} : Left H := { results := [], args := [] }

/-- 'headwaterlaw18.ReorgLeast': WHATEVER THE INPUT: true; the input reads as it did. -/
def reorgLeastSpec : ChangeSpec := { name := "reorgLeast", fn := fun _ => fun
  | [d1, d2, d3] => { results := [.lit (.bool true)], args := [d1, d2, d3] }
  | _ => none }
def reorgLeastRow : OpenClaim := { program := "ytigcfbpgbenabaa", sum := "e3f548e714d945937ae6b9bd4db42b4f0a850d898f647c7a1f91a617b3ef4ae0", func := "headwater/headwaterlaw18.ReorgLeast", spec := "reorgLeast", unfollowed := true, recurses := true, plainKeys := false, apart := false }
def ReorgLeastSaid : Prop := reorgLeastRow.holds Try.pinned (OpenSpec.ofChange reorgLeastSpec)

/-- ITS FALSE NEIGHBOUR: 'it returns false'. Refute it at one input. -/
def reorgLeastWrong : ChangeSpec := { name := "reorgLeast", fn := fun _ => fun
  | [d1, d2, d3] => { results := [.lit (.bool false)], args := [d1, d2, d3] }
  | _ => none }
def ReorgLeastWrongFalsely : Prop := reorgLeastRow.holds Try.pinned (OpenSpec.ofChange reorgLeastWrong)

/-- 'headwaterlaw18.ReorgTurns': WHATEVER THE INPUT: true; the input reads as it did. -/
def reorgTurnsSpec : ChangeSpec := { name := "reorgTurns", fn := fun _ => fun
  | [d1, d2, d3] => { results := [.lit (.bool true)], args := [d1, d2, d3] }
  | _ => none }
def reorgTurnsRow : OpenClaim := { program := "ytigcfbpgbenabaa", sum := "e3f548e714d945937ae6b9bd4db42b4f0a850d898f647c7a1f91a617b3ef4ae0", func := "headwater/headwaterlaw18.ReorgTurns", spec := "reorgTurns", unfollowed := true, recurses := true, plainKeys := false, apart := false }
def ReorgTurnsSaid : Prop := reorgTurnsRow.holds Try.pinned (OpenSpec.ofChange reorgTurnsSpec)

/-- ITS FALSE NEIGHBOUR: 'it returns false'. Refute it at one input. -/
def reorgTurnsWrong : ChangeSpec := { name := "reorgTurns", fn := fun _ => fun
  | [d1, d2, d3] => { results := [.lit (.bool false)], args := [d1, d2, d3] }
  | _ => none }
def ReorgTurnsWrongFalsely : Prop := reorgTurnsRow.holds Try.pinned (OpenSpec.ofChange reorgTurnsWrong)

/-- 'headwaterlaw18.ReorgNames': WHATEVER THE INPUT: true; the input reads as it did. -/
def reorgNamesSpec : ChangeSpec := { name := "reorgNames", fn := fun _ => fun
  | [] => { results := [.lit (.bool true)], args := [] }
  | _ => none }
def reorgNamesRow : OpenClaim := { program := "ytigcfbpgbenabaa", sum := "e3f548e714d945937ae6b9bd4db42b4f0a850d898f647c7a1f91a617b3ef4ae0", func := "headwater/headwaterlaw18.ReorgNames", spec := "reorgNames", unfollowed := true, recurses := true, plainKeys := false, apart := false }
def ReorgNamesSaid : Prop := reorgNamesRow.holds Try.pinned (OpenSpec.ofChange reorgNamesSpec)

/-- ITS FALSE NEIGHBOUR: 'it returns false'. Refute it at one input. -/
def reorgNamesWrong : ChangeSpec := { name := "reorgNames", fn := fun _ => fun
  | [] => { results := [.lit (.bool false)], args := [] }
  | _ => none }
def ReorgNamesWrongFalsely : Prop := reorgNamesRow.holds Try.pinned (OpenSpec.ofChange reorgNamesWrong)

/-- 'headwaterlaw18.ReorgLeads': WHATEVER THE INPUT: true; the input reads as it did. -/
def reorgLeadsSpec : ChangeSpec := { name := "reorgLeads", fn := fun _ => fun
  | [d1, d2, d3] => { results := [.lit (.bool true)], args := [d1, d2, d3] }
  | _ => none }
def reorgLeadsRow : OpenClaim := { program := "ytigcfbpgbenabaa", sum := "e3f548e714d945937ae6b9bd4db42b4f0a850d898f647c7a1f91a617b3ef4ae0", func := "headwater/headwaterlaw18.ReorgLeads", spec := "reorgLeads", unfollowed := true, recurses := true, plainKeys := false, apart := false }
def ReorgLeadsSaid : Prop := reorgLeadsRow.holds Try.pinned (OpenSpec.ofChange reorgLeadsSpec)

/-- ITS FALSE NEIGHBOUR: 'it returns false'. Refute it at one input. -/
def reorgLeadsWrong : ChangeSpec := { name := "reorgLeads", fn := fun _ => fun
  | [d1, d2, d3] => { results := [.lit (.bool false)], args := [d1, d2, d3] }
  | _ => none }
def ReorgLeadsWrongFalsely : Prop := reorgLeadsRow.holds Try.pinned (OpenSpec.ofChange reorgLeadsWrong)

/- THE SECOND FORM. 'bulk': how many values and letters a reading holds, each counted each time it is reached (what is shared counts as often as it is met; a slice's spare places count too). A statement '..UptoSaid' is the law's where the arguments, and the package variables that the reading takes, are together of bulk at most 1048576: NARROWER than '..Said'. Prove '..Said' where nothing that the law and all that it calls make is longer than what came in: it says more and counts as full. Else prove '..UptoSaid'. A law counts once. -/
mutual
def uptoBulk {H : Type} : DataW H → Nat
  | .lit (.string bytes) => bytes.length + 1
  | .lit _ => 1
  | .nil => 1
  | .ptr d => uptoBulk d + 1
  | .slice elems spare => uptoBulkAll elems + uptoBulkAll spare + 1
  | .agg parts => uptoBulkAll parts + 1
  | .iface _ d => uptoBulk d + 1
  | .map entries => uptoBulkEntries entries + 1
  | .held _ => 1
def uptoBulkAll {H : Type} : List (DataW H) → Nat
  | [] => 0
  | d :: r => uptoBulk d + uptoBulkAll r
def uptoBulkEntries {H : Type} : List (Lit × DataW H) → Nat
  | [] => 0
  | x :: r => uptoBulkEntry x + uptoBulkEntries r
def uptoBulkEntry {H : Type} : Lit × DataW H → Nat
  | (.string bytes, d) => bytes.length + uptoBulk d + 1
  | (_, d) => uptoBulk d + 1
 end
def uptoSmall : (H : Type) → List (DataW H) → Bool := fun _ ds => decide (uptoBulkAll ds ≤ 1048576)
def OpenSpec.upto (s : _root_.Go.ChangeSpec) : _root_.Go.OpenSpec := { _root_.Go.OpenSpec.ofChange s with cond := some uptoSmall }

/-- 'headwaterlaw18.ReorgLeast', WHERE WHAT IT READS IS OF BULK AT MOST 1048576: true; the input reads as it did. -/
def reorgLeastUptoRow : OpenClaim := { program := "ytigcfbpgbenabaa", sum := "e3f548e714d945937ae6b9bd4db42b4f0a850d898f647c7a1f91a617b3ef4ae0", func := "headwater/headwaterlaw18.ReorgLeast", spec := "reorgLeast", unfollowed := true, recurses := true, plainKeys := false, apart := false, narrowed := true }
def ReorgLeastUptoSaid : Prop := reorgLeastUptoRow.holds Try.pinned (OpenSpec.upto reorgLeastSpec)

/-- 'headwaterlaw18.ReorgTurns', WHERE WHAT IT READS IS OF BULK AT MOST 1048576: true; the input reads as it did. -/
def reorgTurnsUptoRow : OpenClaim := { program := "ytigcfbpgbenabaa", sum := "e3f548e714d945937ae6b9bd4db42b4f0a850d898f647c7a1f91a617b3ef4ae0", func := "headwater/headwaterlaw18.ReorgTurns", spec := "reorgTurns", unfollowed := true, recurses := true, plainKeys := false, apart := false, narrowed := true }
def ReorgTurnsUptoSaid : Prop := reorgTurnsUptoRow.holds Try.pinned (OpenSpec.upto reorgTurnsSpec)

/-- 'headwaterlaw18.ReorgNames', WHERE WHAT IT READS IS OF BULK AT MOST 1048576: true; the input reads as it did. -/
def reorgNamesUptoRow : OpenClaim := { program := "ytigcfbpgbenabaa", sum := "e3f548e714d945937ae6b9bd4db42b4f0a850d898f647c7a1f91a617b3ef4ae0", func := "headwater/headwaterlaw18.ReorgNames", spec := "reorgNames", unfollowed := true, recurses := true, plainKeys := false, apart := false, narrowed := true }
def ReorgNamesUptoSaid : Prop := reorgNamesUptoRow.holds Try.pinned (OpenSpec.upto reorgNamesSpec)

/-- 'headwaterlaw18.ReorgLeads', WHERE WHAT IT READS IS OF BULK AT MOST 1048576: true; the input reads as it did. -/
def reorgLeadsUptoRow : OpenClaim := { program := "ytigcfbpgbenabaa", sum := "e3f548e714d945937ae6b9bd4db42b4f0a850d898f647c7a1f91a617b3ef4ae0", func := "headwater/headwaterlaw18.ReorgLeads", spec := "reorgLeads", unfollowed := true, recurses := true, plainKeys := false, apart := false, narrowed := true }
def ReorgLeadsUptoSaid : Prop := reorgLeadsUptoRow.holds Try.pinned (OpenSpec.upto reorgLeadsSpec)

end Rows
end Go.Proofs.Ytigcfbpgbenabaa

/-
  No cell of these rows narrows 'for every input' (looked for: loops, veiled, ifaces, maps, wideKeys, modest, calm, conditions, laid).
  DERIVED. THE GIVEN ROWS OF THIS SEAT. 8 by the template 'for every input the law returns true; each argument reads behind the call as it read before'; 0 by the template 'total and deterministic' (their statements: YtodijebpoipeiaaTotals.lean).
  GIVEN WITH THE SEED: the statements are not yours to turn. If you find one false, say at which input.
  Laid BY PROGRAM, IN A SANDBOX (cutbox-rows.mjs): the forced cells as the released guide's own fill.sh prints them over the translation c667f4eac61528c9… (all of the seat's roots in one cut). By AI agents, Wed Nov 11 2026. No macro, syntax, notation, axiom, sorry.
-/
import Derived.Test.YtodijebpoipeiaaChecked
import GoSem.Claim
import GoSem.ClaimJoined
import GoSem.ClaimMapViews
import Derived.JoinedTies
import Derived.KernelRfl
namespace Go.Proofs.Ytodijebpoipeiaa
/- THE CELL 'sum', in the pinned program and in every row, IS THE sha256 OF THE DUMP (.gsa) THAT YtodijebpoipeiaaProg.lean LOADS. Nothing in Lean hashes anything: it is a label: what it is worth is what the hold of that sum in a sandbox is worth. -/
noncomputable def Try.pinned : Pinned := { name := "ytodijebpoipeiaa", sum := "c667f4eac61528c93f0224f24d86769860fb58c96b5f57d842557ff15517538f", checked := Try.checked }
namespace Rows
def none {H : Type} : Left H := { results := [], args := [] }

/-- 'causewaylaw01.WireRow': WHATEVER THE INPUT: true; the input reads as it did. -/
def wireRowSpec : ChangeSpec := { name := "wireRow", fn := fun _ => fun
  | [d] => { results := [.lit (.bool true)], args := [d] }
  | _ => none }
def wireRowRow : OpenClaim := { program := "ytodijebpoipeiaa", sum := "c667f4eac61528c93f0224f24d86769860fb58c96b5f57d842557ff15517538f", func := "causeway/causewaylaw01.WireRow", spec := "wireRow", unfollowed := true, recurses := true, apart := false }
def WireRowSaid : Prop := wireRowRow.holds Try.pinned (OpenSpec.ofChange wireRowSpec)

/-- ITS FALSE NEIGHBOUR: 'it returns false'. Refute it at one input. -/
def wireRowWrong : ChangeSpec := { name := "wireRow", fn := fun _ => fun
  | [d] => { results := [.lit (.bool false)], args := [d] }
  | _ => none }
def WireRowWrongFalsely : Prop := wireRowRow.holds Try.pinned (OpenSpec.ofChange wireRowWrong)

/-- 'causewaylaw01.WireEats': WHATEVER THE INPUT: true; the input reads as it did. -/
def wireEatsSpec : ChangeSpec := { name := "wireEats", fn := fun _ => fun
  | [d1, d2] => { results := [.lit (.bool true)], args := [d1, d2] }
  | _ => none }
def wireEatsRow : OpenClaim := { program := "ytodijebpoipeiaa", sum := "c667f4eac61528c93f0224f24d86769860fb58c96b5f57d842557ff15517538f", func := "causeway/causewaylaw01.WireEats", spec := "wireEats", unfollowed := true, recurses := true, apart := false }
def WireEatsSaid : Prop := wireEatsRow.holds Try.pinned (OpenSpec.ofChange wireEatsSpec)

/-- ITS FALSE NEIGHBOUR: 'it returns false'. Refute it at one input. -/
def wireEatsWrong : ChangeSpec := { name := "wireEats", fn := fun _ => fun
  | [d1, d2] => { results := [.lit (.bool false)], args := [d1, d2] }
  | _ => none }
def WireEatsWrongFalsely : Prop := wireEatsRow.holds Try.pinned (OpenSpec.ofChange wireEatsWrong)

/-- 'causewaylaw01.WireGrows': WHATEVER THE INPUT: true; the input reads as it did. -/
def wireGrowsSpec : ChangeSpec := { name := "wireGrows", fn := fun _ => fun
  | [d] => { results := [.lit (.bool true)], args := [d] }
  | _ => none }
def wireGrowsRow : OpenClaim := { program := "ytodijebpoipeiaa", sum := "c667f4eac61528c93f0224f24d86769860fb58c96b5f57d842557ff15517538f", func := "causeway/causewaylaw01.WireGrows", spec := "wireGrows", unfollowed := true, recurses := true, apart := false }
def WireGrowsSaid : Prop := wireGrowsRow.holds Try.pinned (OpenSpec.ofChange wireGrowsSpec)

/-- ITS FALSE NEIGHBOUR: 'it returns false'. Refute it at one input. -/
def wireGrowsWrong : ChangeSpec := { name := "wireGrows", fn := fun _ => fun
  | [d] => { results := [.lit (.bool false)], args := [d] }
  | _ => none }
def WireGrowsWrongFalsely : Prop := wireGrowsRow.holds Try.pinned (OpenSpec.ofChange wireGrowsWrong)

/-- 'causewaylaw01.WireHolds': WHATEVER THE INPUT: true; the input reads as it did. -/
def wireHoldsSpec : ChangeSpec := { name := "wireHolds", fn := fun _ => fun
  | [d1, d2] => { results := [.lit (.bool true)], args := [d1, d2] }
  | _ => none }
def wireHoldsRow : OpenClaim := { program := "ytodijebpoipeiaa", sum := "c667f4eac61528c93f0224f24d86769860fb58c96b5f57d842557ff15517538f", func := "causeway/causewaylaw01.WireHolds", spec := "wireHolds", unfollowed := true, recurses := true, apart := false }
def WireHoldsSaid : Prop := wireHoldsRow.holds Try.pinned (OpenSpec.ofChange wireHoldsSpec)

/-- ITS FALSE NEIGHBOUR: 'it returns false'. Refute it at one input. -/
def wireHoldsWrong : ChangeSpec := { name := "wireHolds", fn := fun _ => fun
  | [d1, d2] => { results := [.lit (.bool false)], args := [d1, d2] }
  | _ => none }
def WireHoldsWrongFalsely : Prop := wireHoldsRow.holds Try.pinned (OpenSpec.ofChange wireHoldsWrong)

/-- 'causewaylaw01.WireNext': WHATEVER THE INPUT: true; the input reads as it did. -/
def wireNextSpec : ChangeSpec := { name := "wireNext", fn := fun _ => fun
  | [d1, d2] => { results := [.lit (.bool true)], args := [d1, d2] }
  | _ => none }
def wireNextRow : OpenClaim := { program := "ytodijebpoipeiaa", sum := "c667f4eac61528c93f0224f24d86769860fb58c96b5f57d842557ff15517538f", func := "causeway/causewaylaw01.WireNext", spec := "wireNext", unfollowed := true, recurses := true, apart := false }
def WireNextSaid : Prop := wireNextRow.holds Try.pinned (OpenSpec.ofChange wireNextSpec)

/-- ITS FALSE NEIGHBOUR: 'it returns false'. Refute it at one input. -/
def wireNextWrong : ChangeSpec := { name := "wireNext", fn := fun _ => fun
  | [d1, d2] => { results := [.lit (.bool false)], args := [d1, d2] }
  | _ => none }
def WireNextWrongFalsely : Prop := wireNextRow.holds Try.pinned (OpenSpec.ofChange wireNextWrong)

/-- 'causewaylaw01.WireNests': WHATEVER THE INPUT: true; the input reads as it did. -/
def wireNestsSpec : ChangeSpec := { name := "wireNests", fn := fun _ => fun
  | [d1, d2, d3] => { results := [.lit (.bool true)], args := [d1, d2, d3] }
  | _ => none }
def wireNestsRow : OpenClaim := { program := "ytodijebpoipeiaa", sum := "c667f4eac61528c93f0224f24d86769860fb58c96b5f57d842557ff15517538f", func := "causeway/causewaylaw01.WireNests", spec := "wireNests", unfollowed := true, recurses := true, apart := false }
def WireNestsSaid : Prop := wireNestsRow.holds Try.pinned (OpenSpec.ofChange wireNestsSpec)

/-- ITS FALSE NEIGHBOUR: 'it returns false'. Refute it at one input. -/
def wireNestsWrong : ChangeSpec := { name := "wireNests", fn := fun _ => fun
  | [d1, d2, d3] => { results := [.lit (.bool false)], args := [d1, d2, d3] }
  | _ => none }
def WireNestsWrongFalsely : Prop := wireNestsRow.holds Try.pinned (OpenSpec.ofChange wireNestsWrong)

/-- 'causewaylaw01.WireTwo': WHATEVER THE INPUT: true; the input reads as it did. -/
def wireTwoSpec : ChangeSpec := { name := "wireTwo", fn := fun _ => fun
  | [d1, d2, d3] => { results := [.lit (.bool true)], args := [d1, d2, d3] }
  | _ => none }
def wireTwoRow : OpenClaim := { program := "ytodijebpoipeiaa", sum := "c667f4eac61528c93f0224f24d86769860fb58c96b5f57d842557ff15517538f", func := "causeway/causewaylaw01.WireTwo", spec := "wireTwo", unfollowed := true, recurses := true, apart := false }
def WireTwoSaid : Prop := wireTwoRow.holds Try.pinned (OpenSpec.ofChange wireTwoSpec)

/-- ITS FALSE NEIGHBOUR: 'it returns false'. Refute it at one input. -/
def wireTwoWrong : ChangeSpec := { name := "wireTwo", fn := fun _ => fun
  | [d1, d2, d3] => { results := [.lit (.bool false)], args := [d1, d2, d3] }
  | _ => none }
def WireTwoWrongFalsely : Prop := wireTwoRow.holds Try.pinned (OpenSpec.ofChange wireTwoWrong)

/-- 'causewaylaw01.WireEnds': WHATEVER THE INPUT: true; the input reads as it did. -/
def wireEndsSpec : ChangeSpec := { name := "wireEnds", fn := fun _ => fun
  | [] => { results := [.lit (.bool true)], args := [] }
  | _ => none }
def wireEndsRow : OpenClaim := { program := "ytodijebpoipeiaa", sum := "c667f4eac61528c93f0224f24d86769860fb58c96b5f57d842557ff15517538f", func := "causeway/causewaylaw01.WireEnds", spec := "wireEnds", unfollowed := true, recurses := true, apart := false }
def WireEndsSaid : Prop := wireEndsRow.holds Try.pinned (OpenSpec.ofChange wireEndsSpec)

/-- ITS FALSE NEIGHBOUR: 'it returns false'. Refute it at one input. -/
def wireEndsWrong : ChangeSpec := { name := "wireEnds", fn := fun _ => fun
  | [] => { results := [.lit (.bool false)], args := [] }
  | _ => none }
def WireEndsWrongFalsely : Prop := wireEndsRow.holds Try.pinned (OpenSpec.ofChange wireEndsWrong)

/- THE SECOND FORM. 'bulk': how many values and letters a reading holds, each counted each time it is reached (what is shared counts as often as it is met; a slice's spare places count too). A statement '..UptoSaid' is the law's where the arguments, and the package variables that the reading takes, are together of bulk at most 1048576: NARROWER than '..Said'. Prove '..Said' where nothing that the law and all that it calls make is longer than what came in: it says more and counts as full. Else prove '..UptoSaid'. A law counts once. -/
mutual
def uptoBulk {H : Type} : DataW H → Nat
  | .lit (.string bytes) => bytes.length + 1
  | .lit _ => 1
  | .nil => 1
  | .ptr d => uptoBulk d + 1
  | .slice elems spare => uptoBulkAll elems + uptoBulkAll spare + 1
  | .agg parts => uptoBulkAll parts + 1
  | .iface _ d => uptoBulk d + 1
  | .map entries => uptoBulkEntries entries + 1
  | .held _ => 1
def uptoBulkAll {H : Type} : List (DataW H) → Nat
  | [] => 0
  | d :: r => uptoBulk d + uptoBulkAll r
def uptoBulkEntries {H : Type} : List (Lit × DataW H) → Nat
  | [] => 0
  | x :: r => uptoBulkEntry x + uptoBulkEntries r
def uptoBulkEntry {H : Type} : Lit × DataW H → Nat
  | (.string bytes, d) => bytes.length + uptoBulk d + 1
  | (_, d) => uptoBulk d + 1
 end
def uptoSmall : (H : Type) → List (DataW H) → Bool := fun _ ds => decide (uptoBulkAll ds ≤ 1048576)
def OpenSpec.upto (s : _root_.Go.ChangeSpec) : _root_.Go.OpenSpec := { _root_.Go.OpenSpec.ofChange s with cond := some uptoSmall }

/-- 'causewaylaw01.WireRow', WHERE WHAT IT READS IS OF BULK AT MOST 1048576: true; the input reads as it did. -/
def wireRowUptoRow : OpenClaim := { program := "ytodijebpoipeiaa", sum := "c667f4eac61528c93f0224f24d86769860fb58c96b5f57d842557ff15517538f", func := "causeway/causewaylaw01.WireRow", spec := "wireRow", unfollowed := true, recurses := true, apart := false, narrowed := true }
def WireRowUptoSaid : Prop := wireRowUptoRow.holds Try.pinned (OpenSpec.upto wireRowSpec)

/-- 'causewaylaw01.WireEats', WHERE WHAT IT READS IS OF BULK AT MOST 1048576: true; the input reads as it did. -/
def wireEatsUptoRow : OpenClaim := { program := "ytodijebpoipeiaa", sum := "c667f4eac61528c93f0224f24d86769860fb58c96b5f57d842557ff15517538f", func := "causeway/causewaylaw01.WireEats", spec := "wireEats", unfollowed := true, recurses := true, apart := false, narrowed := true }
def WireEatsUptoSaid : Prop := wireEatsUptoRow.holds Try.pinned (OpenSpec.upto wireEatsSpec)

/-- 'causewaylaw01.WireGrows', WHERE WHAT IT READS IS OF BULK AT MOST 1048576: true; the input reads as it did. -/
def wireGrowsUptoRow : OpenClaim := { program := "ytodijebpoipeiaa", sum := "c667f4eac61528c93f0224f24d86769860fb58c96b5f57d842557ff15517538f", func := "causeway/causewaylaw01.WireGrows", spec := "wireGrows", unfollowed := true, recurses := true, apart := false, narrowed := true }
def WireGrowsUptoSaid : Prop := wireGrowsUptoRow.holds Try.pinned (OpenSpec.upto wireGrowsSpec)

/-- 'causewaylaw01.WireHolds', WHERE WHAT IT READS IS OF BULK AT MOST 1048576: true; the input reads as it did. -/
def wireHoldsUptoRow : OpenClaim := { program := "ytodijebpoipeiaa", sum := "c667f4eac61528c93f0224f24d86769860fb58c96b5f57d842557ff15517538f", func := "causeway/causewaylaw01.WireHolds", spec := "wireHolds", unfollowed := true, recurses := true, apart := false, narrowed := true }
def WireHoldsUptoSaid : Prop := wireHoldsUptoRow.holds Try.pinned (OpenSpec.upto wireHoldsSpec)

/-- 'causewaylaw01.WireNext', WHERE WHAT IT READS IS OF BULK AT MOST 1048576: true; the input reads as it did. -/
def wireNextUptoRow : OpenClaim := { program := "ytodijebpoipeiaa", sum := "c667f4eac61528c93f0224f24d86769860fb58c96b5f57d842557ff15517538f", func := "causeway/causewaylaw01.WireNext", spec := "wireNext", unfollowed := true, recurses := true, apart := false, narrowed := true }
def WireNextUptoSaid : Prop := wireNextUptoRow.holds Try.pinned (OpenSpec.upto wireNextSpec)

/-- 'causewaylaw01.WireNests', WHERE WHAT IT READS IS OF BULK AT MOST 1048576: true; the input reads as it did. -/
def wireNestsUptoRow : OpenClaim := { program := "ytodijebpoipeiaa", sum := "c667f4eac61528c93f0224f24d86769860fb58c96b5f57d842557ff15517538f", func := "causeway/causewaylaw01.WireNests", spec := "wireNests", unfollowed := true, recurses := true, apart := false, narrowed := true }
def WireNestsUptoSaid : Prop := wireNestsUptoRow.holds Try.pinned (OpenSpec.upto wireNestsSpec)

/-- 'causewaylaw01.WireTwo', WHERE WHAT IT READS IS OF BULK AT MOST 1048576: true; the input reads as it did. -/
def wireTwoUptoRow : OpenClaim := { program := "ytodijebpoipeiaa", sum := "c667f4eac61528c93f0224f24d86769860fb58c96b5f57d842557ff15517538f", func := "causeway/causewaylaw01.WireTwo", spec := "wireTwo", unfollowed := true, recurses := true, apart := false, narrowed := true }
def WireTwoUptoSaid : Prop := wireTwoUptoRow.holds Try.pinned (OpenSpec.upto wireTwoSpec)

/-- 'causewaylaw01.WireEnds', WHERE WHAT IT READS IS OF BULK AT MOST 1048576: true; the input reads as it did. -/
def wireEndsUptoRow : OpenClaim := { program := "ytodijebpoipeiaa", sum := "c667f4eac61528c93f0224f24d86769860fb58c96b5f57d842557ff15517538f", func := "causeway/causewaylaw01.WireEnds", spec := "wireEnds", unfollowed := true, recurses := true, apart := false, narrowed := true }
def WireEndsUptoSaid : Prop := wireEndsUptoRow.holds Try.pinned (OpenSpec.upto wireEndsSpec)

end Rows
end Go.Proofs.Ytodijebpoipeiaa

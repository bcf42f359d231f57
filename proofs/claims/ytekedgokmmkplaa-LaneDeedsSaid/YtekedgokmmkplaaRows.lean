/-
  No cell of these rows narrows 'for every input' (looked for: loops, veiled, ifaces, maps, wideKeys, modest, calm, conditions, laid).
  DERIVED. THE GIVEN ROWS OF THIS SEAT. 9 by the template 'for every input the law returns true; each argument reads behind the call as it read before'; 0 by the template 'total and deterministic' (their statements: YtekedgokmmkplaaTotals.lean).
  GIVEN WITH THE SEED: the statements are not yours to turn. If you find one false, say at which input.
  Laid BY PROGRAM, IN A SANDBOX (cutbox-rows.mjs): the forced cells as the released guide's own fill.sh prints them over the translation cdafb991583f0d99… (all of the seat's roots in one cut). By AI agents, Wed Nov 11 2026. No macro, syntax, notation, axiom, sorry.
-/
import Derived.Test.YtekedgokmmkplaaChecked
import GoSem.Claim
import GoSem.ClaimJoined
import GoSem.ClaimMapViews
import Derived.JoinedTies
import Derived.KernelRfl
namespace Go.Proofs.Ytekedgokmmkplaa
/- THE CELL 'sum', in the pinned program and in every row, IS THE sha256 OF THE DUMP (.gsa) THAT YtekedgokmmkplaaProg.lean LOADS. Nothing in Lean hashes anything: it is a label: what it is worth is what the hold of that sum in a sandbox is worth. -/
noncomputable def Try.pinned : Pinned := { name := "ytekedgokmmkplaa", sum := "cdafb991583f0d99f474d46b5e8445262bac20a899034936636f61a6853acff6", checked := Try.checked }
namespace Rows
def none {H : Type} : Left H := { results := [], args := [] }

/-- 'causewaylaw14.LaneDeeds': WHATEVER THE INPUT: true; the input reads as it did. -/
def laneDeedsSpec : ChangeSpec := { name := "laneDeeds", fn := fun _ => fun
  | [d] => { results := [.lit (.bool true)], args := [d] }
  | _ => none }
def laneDeedsRow : OpenClaim := { program := "ytekedgokmmkplaa", sum := "cdafb991583f0d99f474d46b5e8445262bac20a899034936636f61a6853acff6", func := "causeway/causewaylaw14.LaneDeeds", spec := "laneDeeds", apart := false }
def LaneDeedsSaid : Prop := laneDeedsRow.holds Try.pinned (OpenSpec.ofChange laneDeedsSpec)

/-- ITS FALSE NEIGHBOUR: 'it returns false'. Refute it at one input. -/
def laneDeedsWrong : ChangeSpec := { name := "laneDeeds", fn := fun _ => fun
  | [d] => { results := [.lit (.bool false)], args := [d] }
  | _ => none }
def LaneDeedsWrongFalsely : Prop := laneDeedsRow.holds Try.pinned (OpenSpec.ofChange laneDeedsWrong)

/-- 'causewaylaw14.LaneReaches': WHATEVER THE INPUT: true; the input reads as it did. -/
def laneReachesSpec : ChangeSpec := { name := "laneReaches", fn := fun _ => fun
  | [d1, d2, d3] => { results := [.lit (.bool true)], args := [d1, d2, d3] }
  | _ => none }
def laneReachesRow : OpenClaim := { program := "ytekedgokmmkplaa", sum := "cdafb991583f0d99f474d46b5e8445262bac20a899034936636f61a6853acff6", func := "causeway/causewaylaw14.LaneReaches", spec := "laneReaches", apart := false }
def LaneReachesSaid : Prop := laneReachesRow.holds Try.pinned (OpenSpec.ofChange laneReachesSpec)

/-- ITS FALSE NEIGHBOUR: 'it returns false'. Refute it at one input. -/
def laneReachesWrong : ChangeSpec := { name := "laneReaches", fn := fun _ => fun
  | [d1, d2, d3] => { results := [.lit (.bool false)], args := [d1, d2, d3] }
  | _ => none }
def LaneReachesWrongFalsely : Prop := laneReachesRow.holds Try.pinned (OpenSpec.ofChange laneReachesWrong)

/-- 'causewaylaw14.LaneOrder': WHATEVER THE INPUT: true; the input reads as it did. -/
def laneOrderSpec : ChangeSpec := { name := "laneOrder", fn := fun _ => fun
  | [d1, d2] => { results := [.lit (.bool true)], args := [d1, d2] }
  | _ => none }
def laneOrderRow : OpenClaim := { program := "ytekedgokmmkplaa", sum := "cdafb991583f0d99f474d46b5e8445262bac20a899034936636f61a6853acff6", func := "causeway/causewaylaw14.LaneOrder", spec := "laneOrder", apart := false }
def LaneOrderSaid : Prop := laneOrderRow.holds Try.pinned (OpenSpec.ofChange laneOrderSpec)

/-- ITS FALSE NEIGHBOUR: 'it returns false'. Refute it at one input. -/
def laneOrderWrong : ChangeSpec := { name := "laneOrder", fn := fun _ => fun
  | [d1, d2] => { results := [.lit (.bool false)], args := [d1, d2] }
  | _ => none }
def LaneOrderWrongFalsely : Prop := laneOrderRow.holds Try.pinned (OpenSpec.ofChange laneOrderWrong)

/-- 'causewaylaw14.LaneTakes': WHATEVER THE INPUT: true; the input reads as it did. -/
def laneTakesSpec : ChangeSpec := { name := "laneTakes", fn := fun _ => fun
  | [d1, d2] => { results := [.lit (.bool true)], args := [d1, d2] }
  | _ => none }
def laneTakesRow : OpenClaim := { program := "ytekedgokmmkplaa", sum := "cdafb991583f0d99f474d46b5e8445262bac20a899034936636f61a6853acff6", func := "causeway/causewaylaw14.LaneTakes", spec := "laneTakes", apart := false }
def LaneTakesSaid : Prop := laneTakesRow.holds Try.pinned (OpenSpec.ofChange laneTakesSpec)

/-- ITS FALSE NEIGHBOUR: 'it returns false'. Refute it at one input. -/
def laneTakesWrong : ChangeSpec := { name := "laneTakes", fn := fun _ => fun
  | [d1, d2] => { results := [.lit (.bool false)], args := [d1, d2] }
  | _ => none }
def LaneTakesWrongFalsely : Prop := laneTakesRow.holds Try.pinned (OpenSpec.ofChange laneTakesWrong)

/-- 'causewaylaw14.LaneDouble': WHATEVER THE INPUT: true; the input reads as it did. -/
def laneDoubleSpec : ChangeSpec := { name := "laneDouble", fn := fun _ => fun
  | [d1, d2] => { results := [.lit (.bool true)], args := [d1, d2] }
  | _ => none }
def laneDoubleRow : OpenClaim := { program := "ytekedgokmmkplaa", sum := "cdafb991583f0d99f474d46b5e8445262bac20a899034936636f61a6853acff6", func := "causeway/causewaylaw14.LaneDouble", spec := "laneDouble", apart := false }
def LaneDoubleSaid : Prop := laneDoubleRow.holds Try.pinned (OpenSpec.ofChange laneDoubleSpec)

/-- ITS FALSE NEIGHBOUR: 'it returns false'. Refute it at one input. -/
def laneDoubleWrong : ChangeSpec := { name := "laneDouble", fn := fun _ => fun
  | [d1, d2] => { results := [.lit (.bool false)], args := [d1, d2] }
  | _ => none }
def LaneDoubleWrongFalsely : Prop := laneDoubleRow.holds Try.pinned (OpenSpec.ofChange laneDoubleWrong)

/-- 'causewaylaw14.LaneBack': WHATEVER THE INPUT: true; the input reads as it did. -/
def laneBackSpec : ChangeSpec := { name := "laneBack", fn := fun _ => fun
  | [d1, d2, d3] => { results := [.lit (.bool true)], args := [d1, d2, d3] }
  | _ => none }
def laneBackRow : OpenClaim := { program := "ytekedgokmmkplaa", sum := "cdafb991583f0d99f474d46b5e8445262bac20a899034936636f61a6853acff6", func := "causeway/causewaylaw14.LaneBack", spec := "laneBack", apart := false }
def LaneBackSaid : Prop := laneBackRow.holds Try.pinned (OpenSpec.ofChange laneBackSpec)

/-- ITS FALSE NEIGHBOUR: 'it returns false'. Refute it at one input. -/
def laneBackWrong : ChangeSpec := { name := "laneBack", fn := fun _ => fun
  | [d1, d2, d3] => { results := [.lit (.bool false)], args := [d1, d2, d3] }
  | _ => none }
def LaneBackWrongFalsely : Prop := laneBackRow.holds Try.pinned (OpenSpec.ofChange laneBackWrong)

/-- 'causewaylaw14.LaneOn': WHATEVER THE INPUT: true; the input reads as it did. -/
def laneOnSpec : ChangeSpec := { name := "laneOn", fn := fun _ => fun
  | [d1, d2] => { results := [.lit (.bool true)], args := [d1, d2] }
  | _ => none }
def laneOnRow : OpenClaim := { program := "ytekedgokmmkplaa", sum := "cdafb991583f0d99f474d46b5e8445262bac20a899034936636f61a6853acff6", func := "causeway/causewaylaw14.LaneOn", spec := "laneOn", apart := false }
def LaneOnSaid : Prop := laneOnRow.holds Try.pinned (OpenSpec.ofChange laneOnSpec)

/-- ITS FALSE NEIGHBOUR: 'it returns false'. Refute it at one input. -/
def laneOnWrong : ChangeSpec := { name := "laneOn", fn := fun _ => fun
  | [d1, d2] => { results := [.lit (.bool false)], args := [d1, d2] }
  | _ => none }
def LaneOnWrongFalsely : Prop := laneOnRow.holds Try.pinned (OpenSpec.ofChange laneOnWrong)

/-- 'causewaylaw14.LaneSides': WHATEVER THE INPUT: true; the input reads as it did. -/
def laneSidesSpec : ChangeSpec := { name := "laneSides", fn := fun _ => fun
  | [d1, d2, d3] => { results := [.lit (.bool true)], args := [d1, d2, d3] }
  | _ => none }
def laneSidesRow : OpenClaim := { program := "ytekedgokmmkplaa", sum := "cdafb991583f0d99f474d46b5e8445262bac20a899034936636f61a6853acff6", func := "causeway/causewaylaw14.LaneSides", spec := "laneSides", apart := false }
def LaneSidesSaid : Prop := laneSidesRow.holds Try.pinned (OpenSpec.ofChange laneSidesSpec)

/-- ITS FALSE NEIGHBOUR: 'it returns false'. Refute it at one input. -/
def laneSidesWrong : ChangeSpec := { name := "laneSides", fn := fun _ => fun
  | [d1, d2, d3] => { results := [.lit (.bool false)], args := [d1, d2, d3] }
  | _ => none }
def LaneSidesWrongFalsely : Prop := laneSidesRow.holds Try.pinned (OpenSpec.ofChange laneSidesWrong)

/-- 'causewaylaw14.LaneKnown': WHATEVER THE INPUT: true; the input reads as it did. -/
def laneKnownSpec : ChangeSpec := { name := "laneKnown", fn := fun _ => fun
  | [] => { results := [.lit (.bool true)], args := [] }
  | _ => none }
def laneKnownRow : OpenClaim := { program := "ytekedgokmmkplaa", sum := "cdafb991583f0d99f474d46b5e8445262bac20a899034936636f61a6853acff6", func := "causeway/causewaylaw14.LaneKnown", spec := "laneKnown", apart := false }
def LaneKnownSaid : Prop := laneKnownRow.holds Try.pinned (OpenSpec.ofChange laneKnownSpec)

/-- ITS FALSE NEIGHBOUR: 'it returns false'. Refute it at one input. -/
def laneKnownWrong : ChangeSpec := { name := "laneKnown", fn := fun _ => fun
  | [] => { results := [.lit (.bool false)], args := [] }
  | _ => none }
def LaneKnownWrongFalsely : Prop := laneKnownRow.holds Try.pinned (OpenSpec.ofChange laneKnownWrong)

/- THE SECOND FORM. 'bulk': how many values and letters a reading holds, each counted each time it is reached (what is shared counts as often as it is met; a slice's spare places count too). A statement '..UptoSaid' is the law's where the arguments, and the package variables that the reading takes, are together of bulk at most 1048576: NARROWER than '..Said'. Prove '..Said' where nothing that the law and all that it calls make is longer than what came in: it says more and counts as full. Else prove '..UptoSaid'. A law counts once. -/
mutual
def uptoBulk {H : Type} : DataW H → Nat
  | .lit (.string bytes) => bytes.length + 1
  | .lit _ => 1
  | .nil => 1
  | .ptr d => uptoBulk d + 1
  | .slice elems spare => uptoBulkAll elems + uptoBulkAll spare + 1
  | .agg parts => uptoBulkAll parts + 1
  | .iface _ d => uptoBulk d + 1
  | .map entries => uptoBulkEntries entries + 1
  | .held _ => 1
def uptoBulkAll {H : Type} : List (DataW H) → Nat
  | [] => 0
  | d :: r => uptoBulk d + uptoBulkAll r
def uptoBulkEntries {H : Type} : List (Lit × DataW H) → Nat
  | [] => 0
  | x :: r => uptoBulkEntry x + uptoBulkEntries r
def uptoBulkEntry {H : Type} : Lit × DataW H → Nat
  | (.string bytes, d) => bytes.length + uptoBulk d + 1
  | (_, d) => uptoBulk d + 1
 end
def uptoSmall : (H : Type) → List (DataW H) → Bool := fun _ ds => decide (uptoBulkAll ds ≤ 1048576)
def OpenSpec.upto (s : _root_.Go.ChangeSpec) : _root_.Go.OpenSpec := { _root_.Go.OpenSpec.ofChange s with cond := some uptoSmall }

/-- 'causewaylaw14.LaneDeeds', WHERE WHAT IT READS IS OF BULK AT MOST 1048576: true; the input reads as it did. -/
def laneDeedsUptoRow : OpenClaim := { program := "ytekedgokmmkplaa", sum := "cdafb991583f0d99f474d46b5e8445262bac20a899034936636f61a6853acff6", func := "causeway/causewaylaw14.LaneDeeds", spec := "laneDeeds", apart := false, narrowed := true }
def LaneDeedsUptoSaid : Prop := laneDeedsUptoRow.holds Try.pinned (OpenSpec.upto laneDeedsSpec)

/-- 'causewaylaw14.LaneReaches', WHERE WHAT IT READS IS OF BULK AT MOST 1048576: true; the input reads as it did. -/
def laneReachesUptoRow : OpenClaim := { program := "ytekedgokmmkplaa", sum := "cdafb991583f0d99f474d46b5e8445262bac20a899034936636f61a6853acff6", func := "causeway/causewaylaw14.LaneReaches", spec := "laneReaches", apart := false, narrowed := true }
def LaneReachesUptoSaid : Prop := laneReachesUptoRow.holds Try.pinned (OpenSpec.upto laneReachesSpec)

/-- 'causewaylaw14.LaneOrder', WHERE WHAT IT READS IS OF BULK AT MOST 1048576: true; the input reads as it did. -/
def laneOrderUptoRow : OpenClaim := { program := "ytekedgokmmkplaa", sum := "cdafb991583f0d99f474d46b5e8445262bac20a899034936636f61a6853acff6", func := "causeway/causewaylaw14.LaneOrder", spec := "laneOrder", apart := false, narrowed := true }
def LaneOrderUptoSaid : Prop := laneOrderUptoRow.holds Try.pinned (OpenSpec.upto laneOrderSpec)

/-- 'causewaylaw14.LaneTakes', WHERE WHAT IT READS IS OF BULK AT MOST 1048576: true; the input reads as it did. -/
def laneTakesUptoRow : OpenClaim := { program := "ytekedgokmmkplaa", sum := "cdafb991583f0d99f474d46b5e8445262bac20a899034936636f61a6853acff6", func := "causeway/causewaylaw14.LaneTakes", spec := "laneTakes", apart := false, narrowed := true }
def LaneTakesUptoSaid : Prop := laneTakesUptoRow.holds Try.pinned (OpenSpec.upto laneTakesSpec)

/-- 'causewaylaw14.LaneDouble', WHERE WHAT IT READS IS OF BULK AT MOST 1048576: true; the input reads as it did. -/
def laneDoubleUptoRow : OpenClaim := { program := "ytekedgokmmkplaa", sum := "cdafb991583f0d99f474d46b5e8445262bac20a899034936636f61a6853acff6", func := "causeway/causewaylaw14.LaneDouble", spec := "laneDouble", apart := false, narrowed := true }
def LaneDoubleUptoSaid : Prop := laneDoubleUptoRow.holds Try.pinned (OpenSpec.upto laneDoubleSpec)

/-- 'causewaylaw14.LaneBack', WHERE WHAT IT READS IS OF BULK AT MOST 1048576: true; the input reads as it did. -/
def laneBackUptoRow : OpenClaim := { program := "ytekedgokmmkplaa", sum := "cdafb991583f0d99f474d46b5e8445262bac20a899034936636f61a6853acff6", func := "causeway/causewaylaw14.LaneBack", spec := "laneBack", apart := false, narrowed := true }
def LaneBackUptoSaid : Prop := laneBackUptoRow.holds Try.pinned (OpenSpec.upto laneBackSpec)

/-- 'causewaylaw14.LaneOn', WHERE WHAT IT READS IS OF BULK AT MOST 1048576: true; the input reads as it did. -/
def laneOnUptoRow : OpenClaim := { program := "ytekedgokmmkplaa", sum := "cdafb991583f0d99f474d46b5e8445262bac20a899034936636f61a6853acff6", func := "causeway/causewaylaw14.LaneOn", spec := "laneOn", apart := false, narrowed := true }
def LaneOnUptoSaid : Prop := laneOnUptoRow.holds Try.pinned (OpenSpec.upto laneOnSpec)

/-- 'causewaylaw14.LaneSides', WHERE WHAT IT READS IS OF BULK AT MOST 1048576: true; the input reads as it did. -/
def laneSidesUptoRow : OpenClaim := { program := "ytekedgokmmkplaa", sum := "cdafb991583f0d99f474d46b5e8445262bac20a899034936636f61a6853acff6", func := "causeway/causewaylaw14.LaneSides", spec := "laneSides", apart := false, narrowed := true }
def LaneSidesUptoSaid : Prop := laneSidesUptoRow.holds Try.pinned (OpenSpec.upto laneSidesSpec)

/-- 'causewaylaw14.LaneKnown', WHERE WHAT IT READS IS OF BULK AT MOST 1048576: true; the input reads as it did. -/
def laneKnownUptoRow : OpenClaim := { program := "ytekedgokmmkplaa", sum := "cdafb991583f0d99f474d46b5e8445262bac20a899034936636f61a6853acff6", func := "causeway/causewaylaw14.LaneKnown", spec := "laneKnown", apart := false, narrowed := true }
def LaneKnownUptoSaid : Prop := laneKnownUptoRow.holds Try.pinned (OpenSpec.upto laneKnownSpec)

end Rows
end Go.Proofs.Ytekedgokmmkplaa

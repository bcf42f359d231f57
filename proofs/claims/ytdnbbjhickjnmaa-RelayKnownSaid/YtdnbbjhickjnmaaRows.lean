/-
  No cell of these rows narrows 'for every input' (looked for: loops, veiled, ifaces, maps, wideKeys, modest, calm, conditions, laid).
  DERIVED. THE GIVEN ROWS OF THIS SEAT. 11 by the template 'for every input the law returns true; each argument reads behind the call as it read before'; 0 by the template 'total and deterministic' (their statements: YtdnbbjhickjnmaaTotals.lean).
  GIVEN WITH THE SEED: the statements are not yours to turn. If you find one false, say at which input.
  Laid BY PROGRAM, IN A SANDBOX (cutbox-rows.mjs): the forced cells as the released guide's own fill.sh prints them over the translation edd137828694e604… (all of the seat's roots in one cut). By AI agents, Wed Nov 11 2026. No macro, syntax, notation, axiom, sorry.
-/
import Derived.Test.YtdnbbjhickjnmaaChecked
import GoSem.Claim
import GoSem.ClaimJoined
import GoSem.ClaimMapViews
import Derived.JoinedTies
import Derived.KernelRfl
namespace Go.Proofs.Ytdnbbjhickjnmaa
/- THE CELL 'sum', in the pinned program and in every row, IS THE sha256 OF THE DUMP (.gsa) THAT YtdnbbjhickjnmaaProg.lean LOADS. Nothing in Lean hashes anything: it is a label: what it is worth is what the hold of that sum in a sandbox is worth. -/
noncomputable def Try.pinned : Pinned := { name := "ytdnbbjhickjnmaa", sum := "edd137828694e604292495dc95b946fe0e140acb994ff20f9c7175b6b6f5b479", checked := Try.checked }
namespace Rows
def none {H : Type} : Left H := { results := [], args := [] }

/-- 'causewaylaw27.RelayDeeds': WHATEVER THE INPUT: true; the input reads as it did. -/
def relayDeedsSpec : ChangeSpec := { name := "relayDeeds", fn := fun _ => fun
  | [d] => { results := [.lit (.bool true)], args := [d] }
  | _ => none }
def relayDeedsRow : OpenClaim := { program := "ytdnbbjhickjnmaa", sum := "edd137828694e604292495dc95b946fe0e140acb994ff20f9c7175b6b6f5b479", func := "causeway/causewaylaw27.RelayDeeds", spec := "relayDeeds", inPlace := ["math.Float64frombits"], apart := false }
def RelayDeedsSaid : Prop := relayDeedsRow.holds Try.pinned (OpenSpec.ofChange relayDeedsSpec)

/-- ITS FALSE NEIGHBOUR: 'it returns false'. Refute it at one input. -/
def relayDeedsWrong : ChangeSpec := { name := "relayDeeds", fn := fun _ => fun
  | [d] => { results := [.lit (.bool false)], args := [d] }
  | _ => none }
def RelayDeedsWrongFalsely : Prop := relayDeedsRow.holds Try.pinned (OpenSpec.ofChange relayDeedsWrong)

/-- 'causewaylaw27.RelayOrder': WHATEVER THE INPUT: true; the input reads as it did. -/
def relayOrderSpec : ChangeSpec := { name := "relayOrder", fn := fun _ => fun
  | [d] => { results := [.lit (.bool true)], args := [d] }
  | _ => none }
def relayOrderRow : OpenClaim := { program := "ytdnbbjhickjnmaa", sum := "edd137828694e604292495dc95b946fe0e140acb994ff20f9c7175b6b6f5b479", func := "causeway/causewaylaw27.RelayOrder", spec := "relayOrder", inPlace := ["math.Float64frombits"], apart := false }
def RelayOrderSaid : Prop := relayOrderRow.holds Try.pinned (OpenSpec.ofChange relayOrderSpec)

/-- ITS FALSE NEIGHBOUR: 'it returns false'. Refute it at one input. -/
def relayOrderWrong : ChangeSpec := { name := "relayOrder", fn := fun _ => fun
  | [d] => { results := [.lit (.bool false)], args := [d] }
  | _ => none }
def RelayOrderWrongFalsely : Prop := relayOrderRow.holds Try.pinned (OpenSpec.ofChange relayOrderWrong)

/-- 'causewaylaw27.RelayRoom': WHATEVER THE INPUT: true; the input reads as it did. -/
def relayRoomSpec : ChangeSpec := { name := "relayRoom", fn := fun _ => fun
  | [d] => { results := [.lit (.bool true)], args := [d] }
  | _ => none }
def relayRoomRow : OpenClaim := { program := "ytdnbbjhickjnmaa", sum := "edd137828694e604292495dc95b946fe0e140acb994ff20f9c7175b6b6f5b479", func := "causeway/causewaylaw27.RelayRoom", spec := "relayRoom", inPlace := ["math.Float64frombits"], apart := false }
def RelayRoomSaid : Prop := relayRoomRow.holds Try.pinned (OpenSpec.ofChange relayRoomSpec)

/-- ITS FALSE NEIGHBOUR: 'it returns false'. Refute it at one input. -/
def relayRoomWrong : ChangeSpec := { name := "relayRoom", fn := fun _ => fun
  | [d] => { results := [.lit (.bool false)], args := [d] }
  | _ => none }
def RelayRoomWrongFalsely : Prop := relayRoomRow.holds Try.pinned (OpenSpec.ofChange relayRoomWrong)

/-- 'causewaylaw27.RelayLeast': WHATEVER THE INPUT: true; the input reads as it did. -/
def relayLeastSpec : ChangeSpec := { name := "relayLeast", fn := fun _ => fun
  | [d1, d2] => { results := [.lit (.bool true)], args := [d1, d2] }
  | _ => none }
def relayLeastRow : OpenClaim := { program := "ytdnbbjhickjnmaa", sum := "edd137828694e604292495dc95b946fe0e140acb994ff20f9c7175b6b6f5b479", func := "causeway/causewaylaw27.RelayLeast", spec := "relayLeast", inPlace := ["math.Float64frombits"], apart := false }
def RelayLeastSaid : Prop := relayLeastRow.holds Try.pinned (OpenSpec.ofChange relayLeastSpec)

/-- ITS FALSE NEIGHBOUR: 'it returns false'. Refute it at one input. -/
def relayLeastWrong : ChangeSpec := { name := "relayLeast", fn := fun _ => fun
  | [d1, d2] => { results := [.lit (.bool false)], args := [d1, d2] }
  | _ => none }
def RelayLeastWrongFalsely : Prop := relayLeastRow.holds Try.pinned (OpenSpec.ofChange relayLeastWrong)

/-- 'causewaylaw27.RelayApart': WHATEVER THE INPUT: true; the input reads as it did. -/
def relayApartSpec : ChangeSpec := { name := "relayApart", fn := fun _ => fun
  | [d1, d2] => { results := [.lit (.bool true)], args := [d1, d2] }
  | _ => none }
def relayApartRow : OpenClaim := { program := "ytdnbbjhickjnmaa", sum := "edd137828694e604292495dc95b946fe0e140acb994ff20f9c7175b6b6f5b479", func := "causeway/causewaylaw27.RelayApart", spec := "relayApart", inPlace := ["math.Float64frombits"], apart := false }
def RelayApartSaid : Prop := relayApartRow.holds Try.pinned (OpenSpec.ofChange relayApartSpec)

/-- ITS FALSE NEIGHBOUR: 'it returns false'. Refute it at one input. -/
def relayApartWrong : ChangeSpec := { name := "relayApart", fn := fun _ => fun
  | [d1, d2] => { results := [.lit (.bool false)], args := [d1, d2] }
  | _ => none }
def RelayApartWrongFalsely : Prop := relayApartRow.holds Try.pinned (OpenSpec.ofChange relayApartWrong)

/-- 'causewaylaw27.RelayMean': WHATEVER THE INPUT: true; the input reads as it did. -/
def relayMeanSpec : ChangeSpec := { name := "relayMean", fn := fun _ => fun
  | [d1, d2] => { results := [.lit (.bool true)], args := [d1, d2] }
  | _ => none }
def relayMeanRow : OpenClaim := { program := "ytdnbbjhickjnmaa", sum := "edd137828694e604292495dc95b946fe0e140acb994ff20f9c7175b6b6f5b479", func := "causeway/causewaylaw27.RelayMean", spec := "relayMean", inPlace := ["math.Float64frombits"], apart := false }
def RelayMeanSaid : Prop := relayMeanRow.holds Try.pinned (OpenSpec.ofChange relayMeanSpec)

/-- ITS FALSE NEIGHBOUR: 'it returns false'. Refute it at one input. -/
def relayMeanWrong : ChangeSpec := { name := "relayMean", fn := fun _ => fun
  | [d1, d2] => { results := [.lit (.bool false)], args := [d1, d2] }
  | _ => none }
def RelayMeanWrongFalsely : Prop := relayMeanRow.holds Try.pinned (OpenSpec.ofChange relayMeanWrong)

/-- 'causewaylaw27.RelayPaths': WHATEVER THE INPUT: true; the input reads as it did. -/
def relayPathsSpec : ChangeSpec := { name := "relayPaths", fn := fun _ => fun
  | [d1, d2] => { results := [.lit (.bool true)], args := [d1, d2] }
  | _ => none }
def relayPathsRow : OpenClaim := { program := "ytdnbbjhickjnmaa", sum := "edd137828694e604292495dc95b946fe0e140acb994ff20f9c7175b6b6f5b479", func := "causeway/causewaylaw27.RelayPaths", spec := "relayPaths", inPlace := ["math.Float64frombits", "math.Float64bits"], apart := false }
def RelayPathsSaid : Prop := relayPathsRow.holds Try.pinned (OpenSpec.ofChange relayPathsSpec)

/-- ITS FALSE NEIGHBOUR: 'it returns false'. Refute it at one input. -/
def relayPathsWrong : ChangeSpec := { name := "relayPaths", fn := fun _ => fun
  | [d1, d2] => { results := [.lit (.bool false)], args := [d1, d2] }
  | _ => none }
def RelayPathsWrongFalsely : Prop := relayPathsRow.holds Try.pinned (OpenSpec.ofChange relayPathsWrong)

/-- 'causewaylaw27.RelayAgain': WHATEVER THE INPUT: true; the input reads as it did. -/
def relayAgainSpec : ChangeSpec := { name := "relayAgain", fn := fun _ => fun
  | [d1, d2, d3] => { results := [.lit (.bool true)], args := [d1, d2, d3] }
  | _ => none }
def relayAgainRow : OpenClaim := { program := "ytdnbbjhickjnmaa", sum := "edd137828694e604292495dc95b946fe0e140acb994ff20f9c7175b6b6f5b479", func := "causeway/causewaylaw27.RelayAgain", spec := "relayAgain", inPlace := ["math.Float64frombits", "math.Float64bits"], apart := false }
def RelayAgainSaid : Prop := relayAgainRow.holds Try.pinned (OpenSpec.ofChange relayAgainSpec)

/-- ITS FALSE NEIGHBOUR: 'it returns false'. Refute it at one input. -/
def relayAgainWrong : ChangeSpec := { name := "relayAgain", fn := fun _ => fun
  | [d1, d2, d3] => { results := [.lit (.bool false)], args := [d1, d2, d3] }
  | _ => none }
def RelayAgainWrongFalsely : Prop := relayAgainRow.holds Try.pinned (OpenSpec.ofChange relayAgainWrong)

/-- 'causewaylaw27.RelayPacks': WHATEVER THE INPUT: true; the input reads as it did. -/
def relayPacksSpec : ChangeSpec := { name := "relayPacks", fn := fun _ => fun
  | [d1, d2] => { results := [.lit (.bool true)], args := [d1, d2] }
  | _ => none }
def relayPacksRow : OpenClaim := { program := "ytdnbbjhickjnmaa", sum := "edd137828694e604292495dc95b946fe0e140acb994ff20f9c7175b6b6f5b479", func := "causeway/causewaylaw27.RelayPacks", spec := "relayPacks", inPlace := ["math.Float64frombits"], unfollowed := true, recurses := true, apart := false }
def RelayPacksSaid : Prop := relayPacksRow.holds Try.pinned (OpenSpec.ofChange relayPacksSpec)

/-- ITS FALSE NEIGHBOUR: 'it returns false'. Refute it at one input. -/
def relayPacksWrong : ChangeSpec := { name := "relayPacks", fn := fun _ => fun
  | [d1, d2] => { results := [.lit (.bool false)], args := [d1, d2] }
  | _ => none }
def RelayPacksWrongFalsely : Prop := relayPacksRow.holds Try.pinned (OpenSpec.ofChange relayPacksWrong)

/-- 'causewaylaw27.RelayBack': WHATEVER THE INPUT: true; the input reads as it did. -/
def relayBackSpec : ChangeSpec := { name := "relayBack", fn := fun _ => fun
  | [d1, d2] => { results := [.lit (.bool true)], args := [d1, d2] }
  | _ => none }
def relayBackRow : OpenClaim := { program := "ytdnbbjhickjnmaa", sum := "edd137828694e604292495dc95b946fe0e140acb994ff20f9c7175b6b6f5b479", func := "causeway/causewaylaw27.RelayBack", spec := "relayBack", inPlace := ["math.Float64frombits"], unfollowed := true, recurses := true, apart := false }
def RelayBackSaid : Prop := relayBackRow.holds Try.pinned (OpenSpec.ofChange relayBackSpec)

/-- ITS FALSE NEIGHBOUR: 'it returns false'. Refute it at one input. -/
def relayBackWrong : ChangeSpec := { name := "relayBack", fn := fun _ => fun
  | [d1, d2] => { results := [.lit (.bool false)], args := [d1, d2] }
  | _ => none }
def RelayBackWrongFalsely : Prop := relayBackRow.holds Try.pinned (OpenSpec.ofChange relayBackWrong)

/-- 'causewaylaw27.RelayKnown': WHATEVER THE INPUT: true; the input reads as it did. -/
def relayKnownSpec : ChangeSpec := { name := "relayKnown", fn := fun _ => fun
  | [] => { results := [.lit (.bool true)], args := [] }
  | _ => none }
def relayKnownRow : OpenClaim := { program := "ytdnbbjhickjnmaa", sum := "edd137828694e604292495dc95b946fe0e140acb994ff20f9c7175b6b6f5b479", func := "causeway/causewaylaw27.RelayKnown", spec := "relayKnown", inPlace := ["math.Float64frombits"], unfollowed := true, recurses := true, apart := false }
def RelayKnownSaid : Prop := relayKnownRow.holds Try.pinned (OpenSpec.ofChange relayKnownSpec)

/-- ITS FALSE NEIGHBOUR: 'it returns false'. Refute it at one input. -/
def relayKnownWrong : ChangeSpec := { name := "relayKnown", fn := fun _ => fun
  | [] => { results := [.lit (.bool false)], args := [] }
  | _ => none }
def RelayKnownWrongFalsely : Prop := relayKnownRow.holds Try.pinned (OpenSpec.ofChange relayKnownWrong)

/- THE SECOND FORM. 'bulk': how many values and letters a reading holds, each counted each time it is reached (what is shared counts as often as it is met; a slice's spare places count too). A statement '..UptoSaid' is the law's where the arguments, and the package variables that the reading takes, are together of bulk at most 1048576: NARROWER than '..Said'. Prove '..Said' where nothing that the law and all that it calls make is longer than what came in: it says more and counts as full. Else prove '..UptoSaid'. A law counts once. -/
mutual
def uptoBulk {H : Type} : DataW H → Nat
  | .lit (.string bytes) => bytes.length + 1
  | .lit _ => 1
  | .nil => 1
  | .ptr d => uptoBulk d + 1
  | .slice elems spare => uptoBulkAll elems + uptoBulkAll spare + 1
  | .agg parts => uptoBulkAll parts + 1
  | .iface _ d => uptoBulk d + 1
  | .map entries => uptoBulkEntries entries + 1
  | .held _ => 1
def uptoBulkAll {H : Type} : List (DataW H) → Nat
  | [] => 0
  | d :: r => uptoBulk d + uptoBulkAll r
def uptoBulkEntries {H : Type} : List (Lit × DataW H) → Nat
  | [] => 0
  | x :: r => uptoBulkEntry x + uptoBulkEntries r
def uptoBulkEntry {H : Type} : Lit × DataW H → Nat
  | (.string bytes, d) => bytes.length + uptoBulk d + 1
  | (_, d) => uptoBulk d + 1
 end
def uptoSmall : (H : Type) → List (DataW H) → Bool := fun _ ds => decide (uptoBulkAll ds ≤ 1048576)
def OpenSpec.upto (s : _root_.Go.ChangeSpec) : _root_.Go.OpenSpec := { _root_.Go.OpenSpec.ofChange s with cond := some uptoSmall }

/-- 'causewaylaw27.RelayDeeds', WHERE WHAT IT READS IS OF BULK AT MOST 1048576: true; the input reads as it did. -/
def relayDeedsUptoRow : OpenClaim := { program := "ytdnbbjhickjnmaa", sum := "edd137828694e604292495dc95b946fe0e140acb994ff20f9c7175b6b6f5b479", func := "causeway/causewaylaw27.RelayDeeds", spec := "relayDeeds", inPlace := ["math.Float64frombits"], apart := false, narrowed := true }
def RelayDeedsUptoSaid : Prop := relayDeedsUptoRow.holds Try.pinned (OpenSpec.upto relayDeedsSpec)

/-- 'causewaylaw27.RelayOrder', WHERE WHAT IT READS IS OF BULK AT MOST 1048576: true; the input reads as it did. -/
def relayOrderUptoRow : OpenClaim := { program := "ytdnbbjhickjnmaa", sum := "edd137828694e604292495dc95b946fe0e140acb994ff20f9c7175b6b6f5b479", func := "causeway/causewaylaw27.RelayOrder", spec := "relayOrder", inPlace := ["math.Float64frombits"], apart := false, narrowed := true }
def RelayOrderUptoSaid : Prop := relayOrderUptoRow.holds Try.pinned (OpenSpec.upto relayOrderSpec)

/-- 'causewaylaw27.RelayRoom', WHERE WHAT IT READS IS OF BULK AT MOST 1048576: true; the input reads as it did. -/
def relayRoomUptoRow : OpenClaim := { program := "ytdnbbjhickjnmaa", sum := "edd137828694e604292495dc95b946fe0e140acb994ff20f9c7175b6b6f5b479", func := "causeway/causewaylaw27.RelayRoom", spec := "relayRoom", inPlace := ["math.Float64frombits"], apart := false, narrowed := true }
def RelayRoomUptoSaid : Prop := relayRoomUptoRow.holds Try.pinned (OpenSpec.upto relayRoomSpec)

/-- 'causewaylaw27.RelayLeast', WHERE WHAT IT READS IS OF BULK AT MOST 1048576: true; the input reads as it did. -/
def relayLeastUptoRow : OpenClaim := { program := "ytdnbbjhickjnmaa", sum := "edd137828694e604292495dc95b946fe0e140acb994ff20f9c7175b6b6f5b479", func := "causeway/causewaylaw27.RelayLeast", spec := "relayLeast", inPlace := ["math.Float64frombits"], apart := false, narrowed := true }
def RelayLeastUptoSaid : Prop := relayLeastUptoRow.holds Try.pinned (OpenSpec.upto relayLeastSpec)

/-- 'causewaylaw27.RelayApart', WHERE WHAT IT READS IS OF BULK AT MOST 1048576: true; the input reads as it did. -/
def relayApartUptoRow : OpenClaim := { program := "ytdnbbjhickjnmaa", sum := "edd137828694e604292495dc95b946fe0e140acb994ff20f9c7175b6b6f5b479", func := "causeway/causewaylaw27.RelayApart", spec := "relayApart", inPlace := ["math.Float64frombits"], apart := false, narrowed := true }
def RelayApartUptoSaid : Prop := relayApartUptoRow.holds Try.pinned (OpenSpec.upto relayApartSpec)

/-- 'causewaylaw27.RelayMean', WHERE WHAT IT READS IS OF BULK AT MOST 1048576: true; the input reads as it did. -/
def relayMeanUptoRow : OpenClaim := { program := "ytdnbbjhickjnmaa", sum := "edd137828694e604292495dc95b946fe0e140acb994ff20f9c7175b6b6f5b479", func := "causeway/causewaylaw27.RelayMean", spec := "relayMean", inPlace := ["math.Float64frombits"], apart := false, narrowed := true }
def RelayMeanUptoSaid : Prop := relayMeanUptoRow.holds Try.pinned (OpenSpec.upto relayMeanSpec)

/-- 'causewaylaw27.RelayPaths', WHERE WHAT IT READS IS OF BULK AT MOST 1048576: true; the input reads as it did. -/
def relayPathsUptoRow : OpenClaim := { program := "ytdnbbjhickjnmaa", sum := "edd137828694e604292495dc95b946fe0e140acb994ff20f9c7175b6b6f5b479", func := "causeway/causewaylaw27.RelayPaths", spec := "relayPaths", inPlace := ["math.Float64frombits", "math.Float64bits"], apart := false, narrowed := true }
def RelayPathsUptoSaid : Prop := relayPathsUptoRow.holds Try.pinned (OpenSpec.upto relayPathsSpec)

/-- 'causewaylaw27.RelayAgain', WHERE WHAT IT READS IS OF BULK AT MOST 1048576: true; the input reads as it did. -/
def relayAgainUptoRow : OpenClaim := { program := "ytdnbbjhickjnmaa", sum := "edd137828694e604292495dc95b946fe0e140acb994ff20f9c7175b6b6f5b479", func := "causeway/causewaylaw27.RelayAgain", spec := "relayAgain", inPlace := ["math.Float64frombits", "math.Float64bits"], apart := false, narrowed := true }
def RelayAgainUptoSaid : Prop := relayAgainUptoRow.holds Try.pinned (OpenSpec.upto relayAgainSpec)

/-- 'causewaylaw27.RelayPacks', WHERE WHAT IT READS IS OF BULK AT MOST 1048576: true; the input reads as it did. -/
def relayPacksUptoRow : OpenClaim := { program := "ytdnbbjhickjnmaa", sum := "edd137828694e604292495dc95b946fe0e140acb994ff20f9c7175b6b6f5b479", func := "causeway/causewaylaw27.RelayPacks", spec := "relayPacks", inPlace := ["math.Float64frombits"], unfollowed := true, recurses := true, apart := false, narrowed := true }
def RelayPacksUptoSaid : Prop := relayPacksUptoRow.holds Try.pinned (OpenSpec.upto relayPacksSpec)

/-- 'causewaylaw27.RelayBack', WHERE WHAT IT READS IS OF BULK AT MOST 1048576: true; the input reads as it did. -/
def relayBackUptoRow : OpenClaim := { program := "ytdnbbjhickjnmaa", sum := "edd137828694e604292495dc95b946fe0e140acb994ff20f9c7175b6b6f5b479", func := "causeway/causewaylaw27.RelayBack", spec := "relayBack", inPlace := ["math.Float64frombits"], unfollowed := true, recurses := true, apart := false, narrowed := true }
def RelayBackUptoSaid : Prop := relayBackUptoRow.holds Try.pinned (OpenSpec.upto relayBackSpec)

/-- 'causewaylaw27.RelayKnown', WHERE WHAT IT READS IS OF BULK AT MOST 1048576: true; the input reads as it did. -/
def relayKnownUptoRow : OpenClaim := { program := "ytdnbbjhickjnmaa", sum := "edd137828694e604292495dc95b946fe0e140acb994ff20f9c7175b6b6f5b479", func := "causeway/causewaylaw27.RelayKnown", spec := "relayKnown", inPlace := ["math.Float64frombits"], unfollowed := true, recurses := true, apart := false, narrowed := true }
def RelayKnownUptoSaid : Prop := relayKnownUptoRow.holds Try.pinned (OpenSpec.upto relayKnownSpec)

end Rows
end Go.Proofs.Ytdnbbjhickjnmaa

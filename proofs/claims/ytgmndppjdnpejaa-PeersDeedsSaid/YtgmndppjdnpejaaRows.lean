/-
  No cell of these rows narrows 'for every input' (looked for: loops, veiled, ifaces, maps, wideKeys, modest, calm, conditions, laid).
  DERIVED. THE GIVEN ROWS OF THIS SEAT. 7 by the template 'for every input the law returns true; each argument reads behind the call as it read before'; 0 by the template 'total and deterministic' (their statements: YtgmndppjdnpejaaTotals.lean).
  GIVEN WITH THE SEED: the statements are not yours to turn. If you find one false, say at which input.
  Laid BY PROGRAM, IN A SANDBOX (cutbox-rows.mjs): the forced cells as the released guide's own fill.sh prints them over the translation c1949cf35161a8ac… (all of the seat's roots in one cut). By AI agents, Wed Nov 11 2026. No macro, syntax, notation, axiom, sorry.
-/
import Derived.Test.YtgmndppjdnpejaaChecked
import GoSem.Claim
import GoSem.ClaimJoined
import GoSem.ClaimMapViews
import Derived.JoinedTies
import Derived.KernelRfl
namespace Go.Proofs.Ytgmndppjdnpejaa
/- THE CELL 'sum', in the pinned program and in every row, IS THE sha256 OF THE DUMP (.gsa) THAT YtgmndppjdnpejaaProg.lean LOADS. Nothing in Lean hashes anything: it is a label: what it is worth is what the hold of that sum in a sandbox is worth. -/
noncomputable def Try.pinned : Pinned := { name := "ytgmndppjdnpejaa", sum := "c1949cf35161a8ac6873c26d82a272b5e4f1834c515fcfec6027c942d88c2c5c", checked := Try.checked }
namespace Rows
def none {H : Type} : Left H := { results := [], args := [] }

/-- 'causewaylaw25.PeersDeeds': WHATEVER THE INPUT: true; the input reads as it did. -/
def peersDeedsSpec : ChangeSpec := { name := "peersDeeds", fn := fun _ => fun
  | [d1, d2] => { results := [.lit (.bool true)], args := [d1, d2] }
  | _ => none }
def peersDeedsRow : OpenClaim := { program := "ytgmndppjdnpejaa", sum := "c1949cf35161a8ac6873c26d82a272b5e4f1834c515fcfec6027c942d88c2c5c", func := "causeway/causewaylaw25.PeersDeeds", spec := "peersDeeds", unfollowed := true, recurses := true, plainKeys := false, apart := false }
def PeersDeedsSaid : Prop := peersDeedsRow.holds Try.pinned (OpenSpec.ofChange peersDeedsSpec)

/-- ITS FALSE NEIGHBOUR: 'it returns false'. Refute it at one input. -/
def peersDeedsWrong : ChangeSpec := { name := "peersDeeds", fn := fun _ => fun
  | [d1, d2] => { results := [.lit (.bool false)], args := [d1, d2] }
  | _ => none }
def PeersDeedsWrongFalsely : Prop := peersDeedsRow.holds Try.pinned (OpenSpec.ofChange peersDeedsWrong)

/-- 'causewaylaw25.PeersJust': WHATEVER THE INPUT: true; the input reads as it did. -/
def peersJustSpec : ChangeSpec := { name := "peersJust", fn := fun _ => fun
  | [d1, d2] => { results := [.lit (.bool true)], args := [d1, d2] }
  | _ => none }
def peersJustRow : OpenClaim := { program := "ytgmndppjdnpejaa", sum := "c1949cf35161a8ac6873c26d82a272b5e4f1834c515fcfec6027c942d88c2c5c", func := "causeway/causewaylaw25.PeersJust", spec := "peersJust", unfollowed := true, recurses := true, plainKeys := false, apart := false }
def PeersJustSaid : Prop := peersJustRow.holds Try.pinned (OpenSpec.ofChange peersJustSpec)

/-- ITS FALSE NEIGHBOUR: 'it returns false'. Refute it at one input. -/
def peersJustWrong : ChangeSpec := { name := "peersJust", fn := fun _ => fun
  | [d1, d2] => { results := [.lit (.bool false)], args := [d1, d2] }
  | _ => none }
def PeersJustWrongFalsely : Prop := peersJustRow.holds Try.pinned (OpenSpec.ofChange peersJustWrong)

/-- 'causewaylaw25.PeersPorts': WHATEVER THE INPUT: true; the input reads as it did. -/
def peersPortsSpec : ChangeSpec := { name := "peersPorts", fn := fun _ => fun
  | [d1, d2, d3] => { results := [.lit (.bool true)], args := [d1, d2, d3] }
  | _ => none }
def peersPortsRow : OpenClaim := { program := "ytgmndppjdnpejaa", sum := "c1949cf35161a8ac6873c26d82a272b5e4f1834c515fcfec6027c942d88c2c5c", func := "causeway/causewaylaw25.PeersPorts", spec := "peersPorts", unfollowed := true, recurses := true, plainKeys := false, apart := false }
def PeersPortsSaid : Prop := peersPortsRow.holds Try.pinned (OpenSpec.ofChange peersPortsSpec)

/-- ITS FALSE NEIGHBOUR: 'it returns false'. Refute it at one input. -/
def peersPortsWrong : ChangeSpec := { name := "peersPorts", fn := fun _ => fun
  | [d1, d2, d3] => { results := [.lit (.bool false)], args := [d1, d2, d3] }
  | _ => none }
def PeersPortsWrongFalsely : Prop := peersPortsRow.holds Try.pinned (OpenSpec.ofChange peersPortsWrong)

/-- 'causewaylaw25.PeersLater': WHATEVER THE INPUT: true; the input reads as it did. -/
def peersLaterSpec : ChangeSpec := { name := "peersLater", fn := fun _ => fun
  | [d1, d2] => { results := [.lit (.bool true)], args := [d1, d2] }
  | _ => none }
def peersLaterRow : OpenClaim := { program := "ytgmndppjdnpejaa", sum := "c1949cf35161a8ac6873c26d82a272b5e4f1834c515fcfec6027c942d88c2c5c", func := "causeway/causewaylaw25.PeersLater", spec := "peersLater", unfollowed := true, recurses := true, plainKeys := false, apart := false }
def PeersLaterSaid : Prop := peersLaterRow.holds Try.pinned (OpenSpec.ofChange peersLaterSpec)

/-- ITS FALSE NEIGHBOUR: 'it returns false'. Refute it at one input. -/
def peersLaterWrong : ChangeSpec := { name := "peersLater", fn := fun _ => fun
  | [d1, d2] => { results := [.lit (.bool false)], args := [d1, d2] }
  | _ => none }
def PeersLaterWrongFalsely : Prop := peersLaterRow.holds Try.pinned (OpenSpec.ofChange peersLaterWrong)

/-- 'causewaylaw25.PeersVersions': WHATEVER THE INPUT: true; the input reads as it did. -/
def peersVersionsSpec : ChangeSpec := { name := "peersVersions", fn := fun _ => fun
  | [d1, d2] => { results := [.lit (.bool true)], args := [d1, d2] }
  | _ => none }
def peersVersionsRow : OpenClaim := { program := "ytgmndppjdnpejaa", sum := "c1949cf35161a8ac6873c26d82a272b5e4f1834c515fcfec6027c942d88c2c5c", func := "causeway/causewaylaw25.PeersVersions", spec := "peersVersions", unfollowed := true, recurses := true, plainKeys := false, apart := false }
def PeersVersionsSaid : Prop := peersVersionsRow.holds Try.pinned (OpenSpec.ofChange peersVersionsSpec)

/-- ITS FALSE NEIGHBOUR: 'it returns false'. Refute it at one input. -/
def peersVersionsWrong : ChangeSpec := { name := "peersVersions", fn := fun _ => fun
  | [d1, d2] => { results := [.lit (.bool false)], args := [d1, d2] }
  | _ => none }
def PeersVersionsWrongFalsely : Prop := peersVersionsRow.holds Try.pinned (OpenSpec.ofChange peersVersionsWrong)

/-- 'causewaylaw25.PeersOthers': WHATEVER THE INPUT: true; the input reads as it did. -/
def peersOthersSpec : ChangeSpec := { name := "peersOthers", fn := fun _ => fun
  | [d1, d2, d3] => { results := [.lit (.bool true)], args := [d1, d2, d3] }
  | _ => none }
def peersOthersRow : OpenClaim := { program := "ytgmndppjdnpejaa", sum := "c1949cf35161a8ac6873c26d82a272b5e4f1834c515fcfec6027c942d88c2c5c", func := "causeway/causewaylaw25.PeersOthers", spec := "peersOthers", unfollowed := true, recurses := true, plainKeys := false, apart := false }
def PeersOthersSaid : Prop := peersOthersRow.holds Try.pinned (OpenSpec.ofChange peersOthersSpec)

/-- ITS FALSE NEIGHBOUR: 'it returns false'. Refute it at one input. -/
def peersOthersWrong : ChangeSpec := { name := "peersOthers", fn := fun _ => fun
  | [d1, d2, d3] => { results := [.lit (.bool false)], args := [d1, d2, d3] }
  | _ => none }
def PeersOthersWrongFalsely : Prop := peersOthersRow.holds Try.pinned (OpenSpec.ofChange peersOthersWrong)

/-- 'causewaylaw25.PeersKnown': WHATEVER THE INPUT: true; the input reads as it did. -/
def peersKnownSpec : ChangeSpec := { name := "peersKnown", fn := fun _ => fun
  | [] => { results := [.lit (.bool true)], args := [] }
  | _ => none }
def peersKnownRow : OpenClaim := { program := "ytgmndppjdnpejaa", sum := "c1949cf35161a8ac6873c26d82a272b5e4f1834c515fcfec6027c942d88c2c5c", func := "causeway/causewaylaw25.PeersKnown", spec := "peersKnown", unfollowed := true, recurses := true, plainKeys := false, apart := false }
def PeersKnownSaid : Prop := peersKnownRow.holds Try.pinned (OpenSpec.ofChange peersKnownSpec)

/-- ITS FALSE NEIGHBOUR: 'it returns false'. Refute it at one input. -/
def peersKnownWrong : ChangeSpec := { name := "peersKnown", fn := fun _ => fun
  | [] => { results := [.lit (.bool false)], args := [] }
  | _ => none }
def PeersKnownWrongFalsely : Prop := peersKnownRow.holds Try.pinned (OpenSpec.ofChange peersKnownWrong)

/- THE SECOND FORM. 'bulk': how many values and letters a reading holds, each counted each time it is reached (what is shared counts as often as it is met; a slice's spare places count too). A statement '..UptoSaid' is the law's where the arguments, and the package variables that the reading takes, are together of bulk at most 1048576: NARROWER than '..Said'. Prove '..Said' where nothing that the law and all that it calls make is longer than what came in: it says more and counts as full. Else prove '..UptoSaid'. A law counts once. -/
mutual
def uptoBulk {H : Type} : DataW H → Nat
  | .lit (.string bytes) => bytes.length + 1
  | .lit _ => 1
  | .nil => 1
  | .ptr d => uptoBulk d + 1
  | .slice elems spare => uptoBulkAll elems + uptoBulkAll spare + 1
  | .agg parts => uptoBulkAll parts + 1
  | .iface _ d => uptoBulk d + 1
  | .map entries => uptoBulkEntries entries + 1
  | .held _ => 1
def uptoBulkAll {H : Type} : List (DataW H) → Nat
  | [] => 0
  | d :: r => uptoBulk d + uptoBulkAll r
def uptoBulkEntries {H : Type} : List (Lit × DataW H) → Nat
  | [] => 0
  | x :: r => uptoBulkEntry x + uptoBulkEntries r
def uptoBulkEntry {H : Type} : Lit × DataW H → Nat
  | (.string bytes, d) => bytes.length + uptoBulk d + 1
  | (_, d) => uptoBulk d + 1
 end
def uptoSmall : (H : Type) → List (DataW H) → Bool := fun _ ds => decide (uptoBulkAll ds ≤ 1048576)
def OpenSpec.upto (s : _root_.Go.ChangeSpec) : _root_.Go.OpenSpec := { _root_.Go.OpenSpec.ofChange s with cond := some uptoSmall }

/-- 'causewaylaw25.PeersDeeds', WHERE WHAT IT READS IS OF BULK AT MOST 1048576: true; the input reads as it did. -/
def peersDeedsUptoRow : OpenClaim := { program := "ytgmndppjdnpejaa", sum := "c1949cf35161a8ac6873c26d82a272b5e4f1834c515fcfec6027c942d88c2c5c", func := "causeway/causewaylaw25.PeersDeeds", spec := "peersDeeds", unfollowed := true, recurses := true, plainKeys := false, apart := false, narrowed := true }
def PeersDeedsUptoSaid : Prop := peersDeedsUptoRow.holds Try.pinned (OpenSpec.upto peersDeedsSpec)

/-- 'causewaylaw25.PeersJust', WHERE WHAT IT READS IS OF BULK AT MOST 1048576: true; the input reads as it did. -/
def peersJustUptoRow : OpenClaim := { program := "ytgmndppjdnpejaa", sum := "c1949cf35161a8ac6873c26d82a272b5e4f1834c515fcfec6027c942d88c2c5c", func := "causeway/causewaylaw25.PeersJust", spec := "peersJust", unfollowed := true, recurses := true, plainKeys := false, apart := false, narrowed := true }
def PeersJustUptoSaid : Prop := peersJustUptoRow.holds Try.pinned (OpenSpec.upto peersJustSpec)

/-- 'causewaylaw25.PeersPorts', WHERE WHAT IT READS IS OF BULK AT MOST 1048576: true; the input reads as it did. -/
def peersPortsUptoRow : OpenClaim := { program := "ytgmndppjdnpejaa", sum := "c1949cf35161a8ac6873c26d82a272b5e4f1834c515fcfec6027c942d88c2c5c", func := "causeway/causewaylaw25.PeersPorts", spec := "peersPorts", unfollowed := true, recurses := true, plainKeys := false, apart := false, narrowed := true }
def PeersPortsUptoSaid : Prop := peersPortsUptoRow.holds Try.pinned (OpenSpec.upto peersPortsSpec)

/-- 'causewaylaw25.PeersLater', WHERE WHAT IT READS IS OF BULK AT MOST 1048576: true; the input reads as it did. -/
def peersLaterUptoRow : OpenClaim := { program := "ytgmndppjdnpejaa", sum := "c1949cf35161a8ac6873c26d82a272b5e4f1834c515fcfec6027c942d88c2c5c", func := "causeway/causewaylaw25.PeersLater", spec := "peersLater", unfollowed := true, recurses := true, plainKeys := false, apart := false, narrowed := true }
def PeersLaterUptoSaid : Prop := peersLaterUptoRow.holds Try.pinned (OpenSpec.upto peersLaterSpec)

/-- 'causewaylaw25.PeersVersions', WHERE WHAT IT READS IS OF BULK AT MOST 1048576: true; the input reads as it did. -/
def peersVersionsUptoRow : OpenClaim := { program := "ytgmndppjdnpejaa", sum := "c1949cf35161a8ac6873c26d82a272b5e4f1834c515fcfec6027c942d88c2c5c", func := "causeway/causewaylaw25.PeersVersions", spec := "peersVersions", unfollowed := true, recurses := true, plainKeys := false, apart := false, narrowed := true }
def PeersVersionsUptoSaid : Prop := peersVersionsUptoRow.holds Try.pinned (OpenSpec.upto peersVersionsSpec)

/-- 'causewaylaw25.PeersOthers', WHERE WHAT IT READS IS OF BULK AT MOST 1048576: true; the input reads as it did. -/
def peersOthersUptoRow : OpenClaim := { program := "ytgmndppjdnpejaa", sum := "c1949cf35161a8ac6873c26d82a272b5e4f1834c515fcfec6027c942d88c2c5c", func := "causeway/causewaylaw25.PeersOthers", spec := "peersOthers", unfollowed := true, recurses := true, plainKeys := false, apart := false, narrowed := true }
def PeersOthersUptoSaid : Prop := peersOthersUptoRow.holds Try.pinned (OpenSpec.upto peersOthersSpec)

/-- 'causewaylaw25.PeersKnown', WHERE WHAT IT READS IS OF BULK AT MOST 1048576: true; the input reads as it did. -/
def peersKnownUptoRow : OpenClaim := { program := "ytgmndppjdnpejaa", sum := "c1949cf35161a8ac6873c26d82a272b5e4f1834c515fcfec6027c942d88c2c5c", func := "causeway/causewaylaw25.PeersKnown", spec := "peersKnown", unfollowed := true, recurses := true, plainKeys := false, apart := false, narrowed := true }
def PeersKnownUptoSaid : Prop := peersKnownUptoRow.holds Try.pinned (OpenSpec.upto peersKnownSpec)

end Rows
end Go.Proofs.Ytgmndppjdnpejaa

/-
  No cell of these rows narrows 'for every input' (looked for: loops, veiled, ifaces, maps, wideKeys, modest, calm, conditions, laid).
  DERIVED. THE GIVEN ROWS OF THIS SEAT. 11 by the template 'for every input the law returns true; each argument reads behind the call as it read before'; 0 by the template 'total and deterministic' (their statements: YtnphnaggamfoiaaTotals.lean).
  GIVEN WITH THE SEED: the statements are not yours to turn. If you find one false, say at which input.
  Laid BY PROGRAM, IN A SANDBOX (cutbox-rows.mjs): the forced cells as the released guide's own fill.sh prints them over the translation 9037d33adbdf2fc7… (all of the seat's roots in one cut). By AI agents, Wed Nov 11 2026. No macro, syntax, notation, axiom, sorry.
-/
import Derived.Test.YtnphnaggamfoiaaChecked
import GoSem.Claim
import GoSem.ClaimJoined
import GoSem.ClaimMapViews
import Derived.JoinedTies
import Derived.KernelRfl
namespace Go.Proofs.Ytnphnaggamfoiaa
/- THE CELL 'sum', in the pinned program and in every row, IS THE sha256 OF THE DUMP (.gsa) THAT YtnphnaggamfoiaaProg.lean LOADS. Nothing in Lean hashes anything: it is a label: what it is worth is what the hold of that sum in a sandbox is worth. -/
noncomputable def Try.pinned : Pinned := { name := "ytnphnaggamfoiaa", sum := "9037d33adbdf2fc7d63c52520a794bd0ff4c047e3df354d76d0e60763ca7f7de", checked := Try.checked }
namespace Rows
def none {H : Type} : Left H := { results := [], args := [] }

/-- 'causewaylaw16.PostChecks': WHATEVER THE INPUT: true; the input reads as it did. -/
def postChecksSpec : ChangeSpec := { name := "postChecks", fn := fun _ => fun
  | [d] => { results := [.lit (.bool true)], args := [d] }
  | _ => none }
def postChecksRow : OpenClaim := { program := "ytnphnaggamfoiaa", sum := "9037d33adbdf2fc7d63c52520a794bd0ff4c047e3df354d76d0e60763ca7f7de", func := "causeway/causewaylaw16.PostChecks", spec := "postChecks", unfollowed := true, recurses := true, apart := false }
def PostChecksSaid : Prop := postChecksRow.holds Try.pinned (OpenSpec.ofChange postChecksSpec)

/-- ITS FALSE NEIGHBOUR: 'it returns false'. Refute it at one input. -/
def postChecksWrong : ChangeSpec := { name := "postChecks", fn := fun _ => fun
  | [d] => { results := [.lit (.bool false)], args := [d] }
  | _ => none }
def PostChecksWrongFalsely : Prop := postChecksRow.holds Try.pinned (OpenSpec.ofChange postChecksWrong)

/-- 'causewaylaw16.PostCutCommands': WHATEVER THE INPUT: true; the input reads as it did. -/
def postCutCommandsSpec : ChangeSpec := { name := "postCutCommands", fn := fun _ => fun
  | [d1, d2, d3] => { results := [.lit (.bool true)], args := [d1, d2, d3] }
  | _ => none }
def postCutCommandsRow : OpenClaim := { program := "ytnphnaggamfoiaa", sum := "9037d33adbdf2fc7d63c52520a794bd0ff4c047e3df354d76d0e60763ca7f7de", func := "causeway/causewaylaw16.PostCutCommands", spec := "postCutCommands", unfollowed := true, recurses := true, apart := false }
def PostCutCommandsSaid : Prop := postCutCommandsRow.holds Try.pinned (OpenSpec.ofChange postCutCommandsSpec)

/-- ITS FALSE NEIGHBOUR: 'it returns false'. Refute it at one input. -/
def postCutCommandsWrong : ChangeSpec := { name := "postCutCommands", fn := fun _ => fun
  | [d1, d2, d3] => { results := [.lit (.bool false)], args := [d1, d2, d3] }
  | _ => none }
def PostCutCommandsWrongFalsely : Prop := postCutCommandsRow.holds Try.pinned (OpenSpec.ofChange postCutCommandsWrong)

/-- 'causewaylaw16.PostNames': WHATEVER THE INPUT: true; the input reads as it did. -/
def postNamesSpec : ChangeSpec := { name := "postNames", fn := fun _ => fun
  | [] => { results := [.lit (.bool true)], args := [] }
  | _ => none }
def postNamesRow : OpenClaim := { program := "ytnphnaggamfoiaa", sum := "9037d33adbdf2fc7d63c52520a794bd0ff4c047e3df354d76d0e60763ca7f7de", func := "causeway/causewaylaw16.PostNames", spec := "postNames", unfollowed := true, recurses := true, apart := false }
def PostNamesSaid : Prop := postNamesRow.holds Try.pinned (OpenSpec.ofChange postNamesSpec)

/-- ITS FALSE NEIGHBOUR: 'it returns false'. Refute it at one input. -/
def postNamesWrong : ChangeSpec := { name := "postNames", fn := fun _ => fun
  | [] => { results := [.lit (.bool false)], args := [] }
  | _ => none }
def PostNamesWrongFalsely : Prop := postNamesRow.holds Try.pinned (OpenSpec.ofChange postNamesWrong)

/-- 'causewaylaw16.PostBytes': WHATEVER THE INPUT: true; the input reads as it did. -/
def postBytesSpec : ChangeSpec := { name := "postBytes", fn := fun _ => fun
  | [d] => { results := [.lit (.bool true)], args := [d] }
  | _ => none }
def postBytesRow : OpenClaim := { program := "ytnphnaggamfoiaa", sum := "9037d33adbdf2fc7d63c52520a794bd0ff4c047e3df354d76d0e60763ca7f7de", func := "causeway/causewaylaw16.PostBytes", spec := "postBytes", unfollowed := true, recurses := true, apart := false }
def PostBytesSaid : Prop := postBytesRow.holds Try.pinned (OpenSpec.ofChange postBytesSpec)

/-- ITS FALSE NEIGHBOUR: 'it returns false'. Refute it at one input. -/
def postBytesWrong : ChangeSpec := { name := "postBytes", fn := fun _ => fun
  | [d] => { results := [.lit (.bool false)], args := [d] }
  | _ => none }
def PostBytesWrongFalsely : Prop := postBytesRow.holds Try.pinned (OpenSpec.ofChange postBytesWrong)

/-- 'causewaylaw16.PostCommands': WHATEVER THE INPUT: true; the input reads as it did. -/
def postCommandsSpec : ChangeSpec := { name := "postCommands", fn := fun _ => fun
  | [d] => { results := [.lit (.bool true)], args := [d] }
  | _ => none }
def postCommandsRow : OpenClaim := { program := "ytnphnaggamfoiaa", sum := "9037d33adbdf2fc7d63c52520a794bd0ff4c047e3df354d76d0e60763ca7f7de", func := "causeway/causewaylaw16.PostCommands", spec := "postCommands", unfollowed := true, recurses := true, apart := false }
def PostCommandsSaid : Prop := postCommandsRow.holds Try.pinned (OpenSpec.ofChange postCommandsSpec)

/-- ITS FALSE NEIGHBOUR: 'it returns false'. Refute it at one input. -/
def postCommandsWrong : ChangeSpec := { name := "postCommands", fn := fun _ => fun
  | [d] => { results := [.lit (.bool false)], args := [d] }
  | _ => none }
def PostCommandsWrongFalsely : Prop := postCommandsRow.holds Try.pinned (OpenSpec.ofChange postCommandsWrong)

/-- 'causewaylaw16.PostPacks': WHATEVER THE INPUT: true; the input reads as it did. -/
def postPacksSpec : ChangeSpec := { name := "postPacks", fn := fun _ => fun
  | [d] => { results := [.lit (.bool true)], args := [d] }
  | _ => none }
def postPacksRow : OpenClaim := { program := "ytnphnaggamfoiaa", sum := "9037d33adbdf2fc7d63c52520a794bd0ff4c047e3df354d76d0e60763ca7f7de", func := "causeway/causewaylaw16.PostPacks", spec := "postPacks", unfollowed := true, recurses := true, apart := false }
def PostPacksSaid : Prop := postPacksRow.holds Try.pinned (OpenSpec.ofChange postPacksSpec)

/-- ITS FALSE NEIGHBOUR: 'it returns false'. Refute it at one input. -/
def postPacksWrong : ChangeSpec := { name := "postPacks", fn := fun _ => fun
  | [d] => { results := [.lit (.bool false)], args := [d] }
  | _ => none }
def PostPacksWrongFalsely : Prop := postPacksRow.holds Try.pinned (OpenSpec.ofChange postPacksWrong)

/-- 'causewaylaw16.PostBack': WHATEVER THE INPUT: true; the input reads as it did. -/
def postBackSpec : ChangeSpec := { name := "postBack", fn := fun _ => fun
  | [d] => { results := [.lit (.bool true)], args := [d] }
  | _ => none }
def postBackRow : OpenClaim := { program := "ytnphnaggamfoiaa", sum := "9037d33adbdf2fc7d63c52520a794bd0ff4c047e3df354d76d0e60763ca7f7de", func := "causeway/causewaylaw16.PostBack", spec := "postBack", unfollowed := true, recurses := true, apart := false }
def PostBackSaid : Prop := postBackRow.holds Try.pinned (OpenSpec.ofChange postBackSpec)

/-- ITS FALSE NEIGHBOUR: 'it returns false'. Refute it at one input. -/
def postBackWrong : ChangeSpec := { name := "postBack", fn := fun _ => fun
  | [d] => { results := [.lit (.bool false)], args := [d] }
  | _ => none }
def PostBackWrongFalsely : Prop := postBackRow.holds Try.pinned (OpenSpec.ofChange postBackWrong)

/-- 'causewaylaw16.PostOnce': WHATEVER THE INPUT: true; the input reads as it did. -/
def postOnceSpec : ChangeSpec := { name := "postOnce", fn := fun _ => fun
  | [d] => { results := [.lit (.bool true)], args := [d] }
  | _ => none }
def postOnceRow : OpenClaim := { program := "ytnphnaggamfoiaa", sum := "9037d33adbdf2fc7d63c52520a794bd0ff4c047e3df354d76d0e60763ca7f7de", func := "causeway/causewaylaw16.PostOnce", spec := "postOnce", unfollowed := true, recurses := true, apart := false }
def PostOnceSaid : Prop := postOnceRow.holds Try.pinned (OpenSpec.ofChange postOnceSpec)

/-- ITS FALSE NEIGHBOUR: 'it returns false'. Refute it at one input. -/
def postOnceWrong : ChangeSpec := { name := "postOnce", fn := fun _ => fun
  | [d] => { results := [.lit (.bool false)], args := [d] }
  | _ => none }
def PostOnceWrongFalsely : Prop := postOnceRow.holds Try.pinned (OpenSpec.ofChange postOnceWrong)

/-- 'causewaylaw16.PostCut': WHATEVER THE INPUT: true; the input reads as it did. -/
def postCutSpec : ChangeSpec := { name := "postCut", fn := fun _ => fun
  | [d1, d2, d3] => { results := [.lit (.bool true)], args := [d1, d2, d3] }
  | _ => none }
def postCutRow : OpenClaim := { program := "ytnphnaggamfoiaa", sum := "9037d33adbdf2fc7d63c52520a794bd0ff4c047e3df354d76d0e60763ca7f7de", func := "causeway/causewaylaw16.PostCut", spec := "postCut", unfollowed := true, recurses := true, apart := false }
def PostCutSaid : Prop := postCutRow.holds Try.pinned (OpenSpec.ofChange postCutSpec)

/-- ITS FALSE NEIGHBOUR: 'it returns false'. Refute it at one input. -/
def postCutWrong : ChangeSpec := { name := "postCut", fn := fun _ => fun
  | [d1, d2, d3] => { results := [.lit (.bool false)], args := [d1, d2, d3] }
  | _ => none }
def PostCutWrongFalsely : Prop := postCutRow.holds Try.pinned (OpenSpec.ofChange postCutWrong)

/-- 'causewaylaw16.PostRight': WHATEVER THE INPUT: true; the input reads as it did. -/
def postRightSpec : ChangeSpec := { name := "postRight", fn := fun _ => fun
  | [d] => { results := [.lit (.bool true)], args := [d] }
  | _ => none }
def postRightRow : OpenClaim := { program := "ytnphnaggamfoiaa", sum := "9037d33adbdf2fc7d63c52520a794bd0ff4c047e3df354d76d0e60763ca7f7de", func := "causeway/causewaylaw16.PostRight", spec := "postRight", unfollowed := true, recurses := true, apart := false }
def PostRightSaid : Prop := postRightRow.holds Try.pinned (OpenSpec.ofChange postRightSpec)

/-- ITS FALSE NEIGHBOUR: 'it returns false'. Refute it at one input. -/
def postRightWrong : ChangeSpec := { name := "postRight", fn := fun _ => fun
  | [d] => { results := [.lit (.bool false)], args := [d] }
  | _ => none }
def PostRightWrongFalsely : Prop := postRightRow.holds Try.pinned (OpenSpec.ofChange postRightWrong)

/-- 'causewaylaw16.PostThere': WHATEVER THE INPUT: true; the input reads as it did. -/
def postThereSpec : ChangeSpec := { name := "postThere", fn := fun _ => fun
  | [d1, d2] => { results := [.lit (.bool true)], args := [d1, d2] }
  | _ => none }
def postThereRow : OpenClaim := { program := "ytnphnaggamfoiaa", sum := "9037d33adbdf2fc7d63c52520a794bd0ff4c047e3df354d76d0e60763ca7f7de", func := "causeway/causewaylaw16.PostThere", spec := "postThere", unfollowed := true, recurses := true, apart := false }
def PostThereSaid : Prop := postThereRow.holds Try.pinned (OpenSpec.ofChange postThereSpec)

/-- ITS FALSE NEIGHBOUR: 'it returns false'. Refute it at one input. -/
def postThereWrong : ChangeSpec := { name := "postThere", fn := fun _ => fun
  | [d1, d2] => { results := [.lit (.bool false)], args := [d1, d2] }
  | _ => none }
def PostThereWrongFalsely : Prop := postThereRow.holds Try.pinned (OpenSpec.ofChange postThereWrong)

/- THE SECOND FORM. 'bulk': how many values and letters a reading holds, each counted each time it is reached (what is shared counts as often as it is met; a slice's spare places count too). A statement '..UptoSaid' is the law's where the arguments, and the package variables that the reading takes, are together of bulk at most 1048576: NARROWER than '..Said'. Prove '..Said' where nothing that the law and all that it calls make is longer than what came in: it says more and counts as full. Else prove '..UptoSaid'. A law counts once. -/
mutual
def uptoBulk {H : Type} : DataW H → Nat
  | .lit (.string bytes) => bytes.length + 1
  | .lit _ => 1
  | .nil => 1
  | .ptr d => uptoBulk d + 1
  | .slice elems spare => uptoBulkAll elems + uptoBulkAll spare + 1
  | .agg parts => uptoBulkAll parts + 1
  | .iface _ d => uptoBulk d + 1
  | .map entries => uptoBulkEntries entries + 1
  | .held _ => 1
def uptoBulkAll {H : Type} : List (DataW H) → Nat
  | [] => 0
  | d :: r => uptoBulk d + uptoBulkAll r
def uptoBulkEntries {H : Type} : List (Lit × DataW H) → Nat
  | [] => 0
  | x :: r => uptoBulkEntry x + uptoBulkEntries r
def uptoBulkEntry {H : Type} : Lit × DataW H → Nat
  | (.string bytes, d) => bytes.length + uptoBulk d + 1
  | (_, d) => uptoBulk d + 1
 end
def uptoSmall : (H : Type) → List (DataW H) → Bool := fun _ ds => decide (uptoBulkAll ds ≤ 1048576)
def OpenSpec.upto (s : _root_.Go.ChangeSpec) : _root_.Go.OpenSpec := { _root_.Go.OpenSpec.ofChange s with cond := some uptoSmall }

/-- 'causewaylaw16.PostChecks', WHERE WHAT IT READS IS OF BULK AT MOST 1048576: true; the input reads as it did. -/
def postChecksUptoRow : OpenClaim := { program := "ytnphnaggamfoiaa", sum := "9037d33adbdf2fc7d63c52520a794bd0ff4c047e3df354d76d0e60763ca7f7de", func := "causeway/causewaylaw16.PostChecks", spec := "postChecks", unfollowed := true, recurses := true, apart := false, narrowed := true }
def PostChecksUptoSaid : Prop := postChecksUptoRow.holds Try.pinned (OpenSpec.upto postChecksSpec)

/-- 'causewaylaw16.PostCutCommands', WHERE WHAT IT READS IS OF BULK AT MOST 1048576: true; the input reads as it did. -/
def postCutCommandsUptoRow : OpenClaim := { program := "ytnphnaggamfoiaa", sum := "9037d33adbdf2fc7d63c52520a794bd0ff4c047e3df354d76d0e60763ca7f7de", func := "causeway/causewaylaw16.PostCutCommands", spec := "postCutCommands", unfollowed := true, recurses := true, apart := false, narrowed := true }
def PostCutCommandsUptoSaid : Prop := postCutCommandsUptoRow.holds Try.pinned (OpenSpec.upto postCutCommandsSpec)

/-- 'causewaylaw16.PostNames', WHERE WHAT IT READS IS OF BULK AT MOST 1048576: true; the input reads as it did. -/
def postNamesUptoRow : OpenClaim := { program := "ytnphnaggamfoiaa", sum := "9037d33adbdf2fc7d63c52520a794bd0ff4c047e3df354d76d0e60763ca7f7de", func := "causeway/causewaylaw16.PostNames", spec := "postNames", unfollowed := true, recurses := true, apart := false, narrowed := true }
def PostNamesUptoSaid : Prop := postNamesUptoRow.holds Try.pinned (OpenSpec.upto postNamesSpec)

/-- 'causewaylaw16.PostBytes', WHERE WHAT IT READS IS OF BULK AT MOST 1048576: true; the input reads as it did. -/
def postBytesUptoRow : OpenClaim := { program := "ytnphnaggamfoiaa", sum := "9037d33adbdf2fc7d63c52520a794bd0ff4c047e3df354d76d0e60763ca7f7de", func := "causeway/causewaylaw16.PostBytes", spec := "postBytes", unfollowed := true, recurses := true, apart := false, narrowed := true }
def PostBytesUptoSaid : Prop := postBytesUptoRow.holds Try.pinned (OpenSpec.upto postBytesSpec)

/-- 'causewaylaw16.PostCommands', WHERE WHAT IT READS IS OF BULK AT MOST 1048576: true; the input reads as it did. -/
def postCommandsUptoRow : OpenClaim := { program := "ytnphnaggamfoiaa", sum := "9037d33adbdf2fc7d63c52520a794bd0ff4c047e3df354d76d0e60763ca7f7de", func := "causeway/causewaylaw16.PostCommands", spec := "postCommands", unfollowed := true, recurses := true, apart := false, narrowed := true }
def PostCommandsUptoSaid : Prop := postCommandsUptoRow.holds Try.pinned (OpenSpec.upto postCommandsSpec)

/-- 'causewaylaw16.PostPacks', WHERE WHAT IT READS IS OF BULK AT MOST 1048576: true; the input reads as it did. -/
def postPacksUptoRow : OpenClaim := { program := "ytnphnaggamfoiaa", sum := "9037d33adbdf2fc7d63c52520a794bd0ff4c047e3df354d76d0e60763ca7f7de", func := "causeway/causewaylaw16.PostPacks", spec := "postPacks", unfollowed := true, recurses := true, apart := false, narrowed := true }
def PostPacksUptoSaid : Prop := postPacksUptoRow.holds Try.pinned (OpenSpec.upto postPacksSpec)

/-- 'causewaylaw16.PostBack', WHERE WHAT IT READS IS OF BULK AT MOST 1048576: true; the input reads as it did. -/
def postBackUptoRow : OpenClaim := { program := "ytnphnaggamfoiaa", sum := "9037d33adbdf2fc7d63c52520a794bd0ff4c047e3df354d76d0e60763ca7f7de", func := "causeway/causewaylaw16.PostBack", spec := "postBack", unfollowed := true, recurses := true, apart := false, narrowed := true }
def PostBackUptoSaid : Prop := postBackUptoRow.holds Try.pinned (OpenSpec.upto postBackSpec)

/-- 'causewaylaw16.PostOnce', WHERE WHAT IT READS IS OF BULK AT MOST 1048576: true; the input reads as it did. -/
def postOnceUptoRow : OpenClaim := { program := "ytnphnaggamfoiaa", sum := "9037d33adbdf2fc7d63c52520a794bd0ff4c047e3df354d76d0e60763ca7f7de", func := "causeway/causewaylaw16.PostOnce", spec := "postOnce", unfollowed := true, recurses := true, apart := false, narrowed := true }
def PostOnceUptoSaid : Prop := postOnceUptoRow.holds Try.pinned (OpenSpec.upto postOnceSpec)

/-- 'causewaylaw16.PostCut', WHERE WHAT IT READS IS OF BULK AT MOST 1048576: true; the input reads as it did. -/
def postCutUptoRow : OpenClaim := { program := "ytnphnaggamfoiaa", sum := "9037d33adbdf2fc7d63c52520a794bd0ff4c047e3df354d76d0e60763ca7f7de", func := "causeway/causewaylaw16.PostCut", spec := "postCut", unfollowed := true, recurses := true, apart := false, narrowed := true }
def PostCutUptoSaid : Prop := postCutUptoRow.holds Try.pinned (OpenSpec.upto postCutSpec)

/-- 'causewaylaw16.PostRight', WHERE WHAT IT READS IS OF BULK AT MOST 1048576: true; the input reads as it did. -/
def postRightUptoRow : OpenClaim := { program := "ytnphnaggamfoiaa", sum := "9037d33adbdf2fc7d63c52520a794bd0ff4c047e3df354d76d0e60763ca7f7de", func := "causeway/causewaylaw16.PostRight", spec := "postRight", unfollowed := true, recurses := true, apart := false, narrowed := true }
def PostRightUptoSaid : Prop := postRightUptoRow.holds Try.pinned (OpenSpec.upto postRightSpec)

/-- 'causewaylaw16.PostThere', WHERE WHAT IT READS IS OF BULK AT MOST 1048576: true; the input reads as it did. -/
def postThereUptoRow : OpenClaim := { program := "ytnphnaggamfoiaa", sum := "9037d33adbdf2fc7d63c52520a794bd0ff4c047e3df354d76d0e60763ca7f7de", func := "causeway/causewaylaw16.PostThere", spec := "postThere", unfollowed := true, recurses := true, apart := false, narrowed := true }
def PostThereUptoSaid : Prop := postThereUptoRow.holds Try.pinned (OpenSpec.upto postThereSpec)

end Rows
end Go.Proofs.Ytnphnaggamfoiaa

/-
  No cell of these rows narrows 'for every input' (looked for: loops, veiled, ifaces, maps, wideKeys, modest, calm, conditions, laid).
  DERIVED. THE GIVEN ROWS OF THIS SEAT. 5 by the template 'for every input the law returns true; each argument reads behind the call as it read before'; 0 by the template 'total and deterministic' (their statements: YthmighgfefjcmaaTotals.lean).
  GIVEN WITH THE SEED: the statements are not yours to turn. If you find one false, say at which input.
  Laid BY PROGRAM, IN A SANDBOX (cutbox-rows.mjs): the forced cells as the released guide's own fill.sh prints them over the translation 5aea059ccb1ce44b… (all of the seat's roots in one cut). By AI agents, Wed Nov 11 2026. No macro, syntax, notation, axiom, sorry.
-/
import Derived.Test.YthmighgfefjcmaaChecked
import GoSem.Claim
import GoSem.ClaimJoined
import GoSem.ClaimMapViews
import Derived.JoinedTies
import Derived.KernelRfl
namespace Go.Proofs.Ythmighgfefjcmaa
/- THE CELL 'sum', in the pinned program and in every row, IS THE sha256 OF THE DUMP (.gsa) THAT YthmighgfefjcmaaProg.lean LOADS. Nothing in Lean hashes anything: it is a label: what it is worth is what the hold of that sum in a sandbox is worth. -/
noncomputable def Try.pinned : Pinned := { name := "ythmighgfefjcmaa", sum := "5aea059ccb1ce44bbb67f0befe1998a2601c25bbf69c66d1734852e4bcea84ef", checked := Try.checked }
namespace Rows
def none {H : Type} : Left H := { results := [], args := [] }

/-- 'gangwaylaw04.EncodeKnown': WHATEVER THE INPUT: true; the input reads as it did. -/
def encodeKnownSpec : ChangeSpec := { name := "encodeKnown", fn := fun _ => fun
  | [] => { results := [.lit (.bool true)], args := [] }
  | _ => none }
def encodeKnownRow : OpenClaim := { program := "ythmighgfefjcmaa", sum := "5aea059ccb1ce44bbb67f0befe1998a2601c25bbf69c66d1734852e4bcea84ef", func := "gangway/gangwaylaw04.EncodeKnown", spec := "encodeKnown", inPlace := ["internal/bytealg.IndexByteString", "internal/bytealg.IndexString"], unfollowed := true, recurses := true, named := ["internal/bytealg.MaxLen"], apart := false }
def EncodeKnownSaid : Prop := encodeKnownRow.holds Try.pinned (OpenSpec.ofChange encodeKnownSpec)

/-- ITS FALSE NEIGHBOUR: 'it returns false'. Refute it at one input. -/
def encodeKnownWrong : ChangeSpec := { name := "encodeKnown", fn := fun _ => fun
  | [] => { results := [.lit (.bool false)], args := [] }
  | _ => none }
def EncodeKnownWrongFalsely : Prop := encodeKnownRow.holds Try.pinned (OpenSpec.ofChange encodeKnownWrong)

/-- 'gangwaylaw04.EncodePrefix': WHATEVER THE INPUT: true; the input reads as it did. -/
def encodePrefixSpec : ChangeSpec := { name := "encodePrefix", fn := fun _ => fun
  | [d1, d2] => { results := [.lit (.bool true)], args := [d1, d2] }
  | _ => none }
def encodePrefixRow : OpenClaim := { program := "ythmighgfefjcmaa", sum := "5aea059ccb1ce44bbb67f0befe1998a2601c25bbf69c66d1734852e4bcea84ef", func := "gangway/gangwaylaw04.EncodePrefix", spec := "encodePrefix", inPlace := ["internal/bytealg.IndexByteString", "internal/bytealg.IndexString"], unfollowed := true, recurses := true, named := ["internal/bytealg.MaxLen"], apart := false }
def EncodePrefixSaid : Prop := encodePrefixRow.holds Try.pinned (OpenSpec.ofChange encodePrefixSpec)

/-- ITS FALSE NEIGHBOUR: 'it returns false'. Refute it at one input. -/
def encodePrefixWrong : ChangeSpec := { name := "encodePrefix", fn := fun _ => fun
  | [d1, d2] => { results := [.lit (.bool false)], args := [d1, d2] }
  | _ => none }
def EncodePrefixWrongFalsely : Prop := encodePrefixRow.holds Try.pinned (OpenSpec.ofChange encodePrefixWrong)

/-- 'gangwaylaw04.EncodeUnlike': WHATEVER THE INPUT: true; the input reads as it did. -/
def encodeUnlikeSpec : ChangeSpec := { name := "encodeUnlike", fn := fun _ => fun
  | [d1, d2] => { results := [.lit (.bool true)], args := [d1, d2] }
  | _ => none }
def encodeUnlikeRow : OpenClaim := { program := "ythmighgfefjcmaa", sum := "5aea059ccb1ce44bbb67f0befe1998a2601c25bbf69c66d1734852e4bcea84ef", func := "gangway/gangwaylaw04.EncodeUnlike", spec := "encodeUnlike", inPlace := ["internal/bytealg.IndexByteString", "internal/bytealg.IndexString"], unfollowed := true, recurses := true, named := ["internal/bytealg.MaxLen"], apart := false }
def EncodeUnlikeSaid : Prop := encodeUnlikeRow.holds Try.pinned (OpenSpec.ofChange encodeUnlikeSpec)

/-- ITS FALSE NEIGHBOUR: 'it returns false'. Refute it at one input. -/
def encodeUnlikeWrong : ChangeSpec := { name := "encodeUnlike", fn := fun _ => fun
  | [d1, d2] => { results := [.lit (.bool false)], args := [d1, d2] }
  | _ => none }
def EncodeUnlikeWrongFalsely : Prop := encodeUnlikeRow.holds Try.pinned (OpenSpec.ofChange encodeUnlikeWrong)

/-- 'gangwaylaw04.EncodeHole': WHATEVER THE INPUT: true; the input reads as it did. -/
def encodeHoleSpec : ChangeSpec := { name := "encodeHole", fn := fun _ => fun
  | [d1, d2] => { results := [.lit (.bool true)], args := [d1, d2] }
  | _ => none }
def encodeHoleRow : OpenClaim := { program := "ythmighgfefjcmaa", sum := "5aea059ccb1ce44bbb67f0befe1998a2601c25bbf69c66d1734852e4bcea84ef", func := "gangway/gangwaylaw04.EncodeHole", spec := "encodeHole", inPlace := ["internal/bytealg.IndexByteString", "internal/bytealg.IndexString"], unfollowed := true, recurses := true, named := ["internal/bytealg.MaxLen"], apart := false }
def EncodeHoleSaid : Prop := encodeHoleRow.holds Try.pinned (OpenSpec.ofChange encodeHoleSpec)

/-- ITS FALSE NEIGHBOUR: 'it returns false'. Refute it at one input. -/
def encodeHoleWrong : ChangeSpec := { name := "encodeHole", fn := fun _ => fun
  | [d1, d2] => { results := [.lit (.bool false)], args := [d1, d2] }
  | _ => none }
def EncodeHoleWrongFalsely : Prop := encodeHoleRow.holds Try.pinned (OpenSpec.ofChange encodeHoleWrong)

/-- 'gangwaylaw04.EncodeFills': WHATEVER THE INPUT: true; the input reads as it did. -/
def encodeFillsSpec : ChangeSpec := { name := "encodeFills", fn := fun _ => fun
  | [d1, d2, d3] => { results := [.lit (.bool true)], args := [d1, d2, d3] }
  | _ => none }
def encodeFillsRow : OpenClaim := { program := "ythmighgfefjcmaa", sum := "5aea059ccb1ce44bbb67f0befe1998a2601c25bbf69c66d1734852e4bcea84ef", func := "gangway/gangwaylaw04.EncodeFills", spec := "encodeFills", inPlace := ["internal/bytealg.IndexByteString", "internal/bytealg.IndexString"], unfollowed := true, recurses := true, named := ["internal/bytealg.MaxLen"], apart := false }
def EncodeFillsSaid : Prop := encodeFillsRow.holds Try.pinned (OpenSpec.ofChange encodeFillsSpec)

/-- ITS FALSE NEIGHBOUR: 'it returns false'. Refute it at one input. -/
def encodeFillsWrong : ChangeSpec := { name := "encodeFills", fn := fun _ => fun
  | [d1, d2, d3] => { results := [.lit (.bool false)], args := [d1, d2, d3] }
  | _ => none }
def EncodeFillsWrongFalsely : Prop := encodeFillsRow.holds Try.pinned (OpenSpec.ofChange encodeFillsWrong)

/- THE SECOND FORM. 'bulk': how many values and letters a reading holds, each counted each time it is reached (what is shared counts as often as it is met; a slice's spare places count too). A statement '..UptoSaid' is the law's where the arguments, and the package variables that the reading takes, are together of bulk at most 1048576: NARROWER than '..Said'. Prove '..Said' where nothing that the law and all that it calls make is longer than what came in: it says more and counts as full. Else prove '..UptoSaid'. A law counts once. -/
mutual
def uptoBulk {H : Type} : DataW H → Nat
  | .lit (.string bytes) => bytes.length + 1
  | .lit _ => 1
  | .nil => 1
  | .ptr d => uptoBulk d + 1
  | .slice elems spare => uptoBulkAll elems + uptoBulkAll spare + 1
  | .agg parts => uptoBulkAll parts + 1
  | .iface _ d => uptoBulk d + 1
  | .map entries => uptoBulkEntries entries + 1
  | .held _ => 1
def uptoBulkAll {H : Type} : List (DataW H) → Nat
  | [] => 0
  | d :: r => uptoBulk d + uptoBulkAll r
def uptoBulkEntries {H : Type} : List (Lit × DataW H) → Nat
  | [] => 0
  | x :: r => uptoBulkEntry x + uptoBulkEntries r
def uptoBulkEntry {H : Type} : Lit × DataW H → Nat
  | (.string bytes, d) => bytes.length + uptoBulk d + 1
  | (_, d) => uptoBulk d + 1
 end
def uptoSmall : (H : Type) → List (DataW H) → Bool := fun _ ds => decide (uptoBulkAll ds ≤ 1048576)
def OpenSpec.upto (s : _root_.Go.ChangeSpec) : _root_.Go.OpenSpec := { _root_.Go.OpenSpec.ofChange s with cond := some uptoSmall }

/-- 'gangwaylaw04.EncodeKnown', WHERE WHAT IT READS IS OF BULK AT MOST 1048576: true; the input reads as it did. -/
def encodeKnownUptoRow : OpenClaim := { program := "ythmighgfefjcmaa", sum := "5aea059ccb1ce44bbb67f0befe1998a2601c25bbf69c66d1734852e4bcea84ef", func := "gangway/gangwaylaw04.EncodeKnown", spec := "encodeKnown", inPlace := ["internal/bytealg.IndexByteString", "internal/bytealg.IndexString"], unfollowed := true, recurses := true, named := ["internal/bytealg.MaxLen"], apart := false, narrowed := true }
def EncodeKnownUptoSaid : Prop := encodeKnownUptoRow.holds Try.pinned (OpenSpec.upto encodeKnownSpec)

/-- 'gangwaylaw04.EncodePrefix', WHERE WHAT IT READS IS OF BULK AT MOST 1048576: true; the input reads as it did. -/
def encodePrefixUptoRow : OpenClaim := { program := "ythmighgfefjcmaa", sum := "5aea059ccb1ce44bbb67f0befe1998a2601c25bbf69c66d1734852e4bcea84ef", func := "gangway/gangwaylaw04.EncodePrefix", spec := "encodePrefix", inPlace := ["internal/bytealg.IndexByteString", "internal/bytealg.IndexString"], unfollowed := true, recurses := true, named := ["internal/bytealg.MaxLen"], apart := false, narrowed := true }
def EncodePrefixUptoSaid : Prop := encodePrefixUptoRow.holds Try.pinned (OpenSpec.upto encodePrefixSpec)

/-- 'gangwaylaw04.EncodeUnlike', WHERE WHAT IT READS IS OF BULK AT MOST 1048576: true; the input reads as it did. -/
def encodeUnlikeUptoRow : OpenClaim := { program := "ythmighgfefjcmaa", sum := "5aea059ccb1ce44bbb67f0befe1998a2601c25bbf69c66d1734852e4bcea84ef", func := "gangway/gangwaylaw04.EncodeUnlike", spec := "encodeUnlike", inPlace := ["internal/bytealg.IndexByteString", "internal/bytealg.IndexString"], unfollowed := true, recurses := true, named := ["internal/bytealg.MaxLen"], apart := false, narrowed := true }
def EncodeUnlikeUptoSaid : Prop := encodeUnlikeUptoRow.holds Try.pinned (OpenSpec.upto encodeUnlikeSpec)

/-- 'gangwaylaw04.EncodeHole', WHERE WHAT IT READS IS OF BULK AT MOST 1048576: true; the input reads as it did. -/
def encodeHoleUptoRow : OpenClaim := { program := "ythmighgfefjcmaa", sum := "5aea059ccb1ce44bbb67f0befe1998a2601c25bbf69c66d1734852e4bcea84ef", func := "gangway/gangwaylaw04.EncodeHole", spec := "encodeHole", inPlace := ["internal/bytealg.IndexByteString", "internal/bytealg.IndexString"], unfollowed := true, recurses := true, named := ["internal/bytealg.MaxLen"], apart := false, narrowed := true }
def EncodeHoleUptoSaid : Prop := encodeHoleUptoRow.holds Try.pinned (OpenSpec.upto encodeHoleSpec)

/-- 'gangwaylaw04.EncodeFills', WHERE WHAT IT READS IS OF BULK AT MOST 1048576: true; the input reads as it did. -/
def encodeFillsUptoRow : OpenClaim := { program := "ythmighgfefjcmaa", sum := "5aea059ccb1ce44bbb67f0befe1998a2601c25bbf69c66d1734852e4bcea84ef", func := "gangway/gangwaylaw04.EncodeFills", spec := "encodeFills", inPlace := ["internal/bytealg.IndexByteString", "internal/bytealg.IndexString"], unfollowed := true, recurses := true, named := ["internal/bytealg.MaxLen"], apart := false, narrowed := true }
def EncodeFillsUptoSaid : Prop := encodeFillsUptoRow.holds Try.pinned (OpenSpec.upto encodeFillsSpec)

end Rows
end Go.Proofs.Ythmighgfefjcmaa

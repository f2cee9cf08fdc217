/-
  No cell of these rows narrows 'for every input' (looked for: loops, veiled, ifaces, maps, wideKeys, modest, calm, conditions, laid).
  DERIVED. THE GIVEN ROWS OF THIS SEAT. 9 by the template 'for every input the law returns true; each argument reads behind the call as it read before'; 0 by the template 'total and deterministic' (their statements: YtknopookopfoeaaTotals.lean).
  GIVEN WITH THE SEED: the statements are not yours to turn. If you find one false, say at which input.
  Laid BY PROGRAM, IN A SANDBOX (cutbox-rows.mjs): the forced cells as the released guide's own fill.sh prints them over the translation a7212bc24a925689… (all of the seat's roots in one cut). By AI agents, Wed Nov 11 2026. No macro, syntax, notation, axiom, sorry.
-/
import Derived.Test.YtknopookopfoeaaChecked
import GoSem.Claim
import GoSem.ClaimJoined
import GoSem.ClaimMapViews
import Derived.JoinedTies
import Derived.KernelRfl
namespace Go.Proofs.Ytknopookopfoeaa
/- THE CELL 'sum', in the pinned program and in every row, IS THE sha256 OF THE DUMP (.gsa) THAT YtknopookopfoeaaProg.lean LOADS. Nothing in Lean hashes anything: it is a label: what it is worth is what the hold of that sum in a sandbox is worth. -/
noncomputable def Try.pinned : Pinned := { name := "ytknopookopfoeaa", sum := "a7212bc24a9256898fac26c32cc88b14e157368edbe73e9496c87e440ff6cf8f", checked := Try.checked }
namespace Rows
def none {H : Type} : Left H := { results := [], args := [] }

/-- 'gangwaylaw02.AluHalves': WHATEVER THE INPUT: true; the input reads as it did. -/
def aluHalvesSpec : ChangeSpec := { name := "aluHalves", fn := fun _ => fun
  | [d1, d2] => { results := [.lit (.bool true)], args := [d1, d2] }
  | _ => none }
def aluHalvesRow : OpenClaim := { program := "ytknopookopfoeaa", sum := "a7212bc24a9256898fac26c32cc88b14e157368edbe73e9496c87e440ff6cf8f", func := "gangway/gangwaylaw02.AluHalves", spec := "aluHalves", inPlace := ["math/bits.Add64", "math/bits.Sub64"], apart := false }
def AluHalvesSaid : Prop := aluHalvesRow.holds Try.pinned (OpenSpec.ofChange aluHalvesSpec)

/-- ITS FALSE NEIGHBOUR: 'it returns false'. Refute it at one input. -/
def aluHalvesWrong : ChangeSpec := { name := "aluHalves", fn := fun _ => fun
  | [d1, d2] => { results := [.lit (.bool false)], args := [d1, d2] }
  | _ => none }
def AluHalvesWrongFalsely : Prop := aluHalvesRow.holds Try.pinned (OpenSpec.ofChange aluHalvesWrong)

/-- 'gangwaylaw02.AluFlags': WHATEVER THE INPUT: true; the input reads as it did. -/
def aluFlagsSpec : ChangeSpec := { name := "aluFlags", fn := fun _ => fun
  | [d1, d2, d3] => { results := [.lit (.bool true)], args := [d1, d2, d3] }
  | _ => none }
def aluFlagsRow : OpenClaim := { program := "ytknopookopfoeaa", sum := "a7212bc24a9256898fac26c32cc88b14e157368edbe73e9496c87e440ff6cf8f", func := "gangway/gangwaylaw02.AluFlags", spec := "aluFlags", inPlace := ["math/bits.Add64", "math/bits.Sub64"], unfollowed := true, recurses := true, apart := false }
def AluFlagsSaid : Prop := aluFlagsRow.holds Try.pinned (OpenSpec.ofChange aluFlagsSpec)

/-- ITS FALSE NEIGHBOUR: 'it returns false'. Refute it at one input. -/
def aluFlagsWrong : ChangeSpec := { name := "aluFlags", fn := fun _ => fun
  | [d1, d2, d3] => { results := [.lit (.bool false)], args := [d1, d2, d3] }
  | _ => none }
def AluFlagsWrongFalsely : Prop := aluFlagsRow.holds Try.pinned (OpenSpec.ofChange aluFlagsWrong)

/-- 'gangwaylaw02.AluSums': WHATEVER THE INPUT: true; the input reads as it did. -/
def aluSumsSpec : ChangeSpec := { name := "aluSums", fn := fun _ => fun
  | [d1, d2, d3, d4] => { results := [.lit (.bool true)], args := [d1, d2, d3, d4] }
  | _ => none }
def aluSumsRow : OpenClaim := { program := "ytknopookopfoeaa", sum := "a7212bc24a9256898fac26c32cc88b14e157368edbe73e9496c87e440ff6cf8f", func := "gangway/gangwaylaw02.AluSums", spec := "aluSums", inPlace := ["math/bits.Add64", "math/bits.Sub64"], apart := false }
def AluSumsSaid : Prop := aluSumsRow.holds Try.pinned (OpenSpec.ofChange aluSumsSpec)

/-- ITS FALSE NEIGHBOUR: 'it returns false'. Refute it at one input. -/
def aluSumsWrong : ChangeSpec := { name := "aluSums", fn := fun _ => fun
  | [d1, d2, d3, d4] => { results := [.lit (.bool false)], args := [d1, d2, d3, d4] }
  | _ => none }
def AluSumsWrongFalsely : Prop := aluSumsRow.holds Try.pinned (OpenSpec.ofChange aluSumsWrong)

/-- 'gangwaylaw02.AluOrder': WHATEVER THE INPUT: true; the input reads as it did. -/
def aluOrderSpec : ChangeSpec := { name := "aluOrder", fn := fun _ => fun
  | [d1, d2, d3] => { results := [.lit (.bool true)], args := [d1, d2, d3] }
  | _ => none }
def aluOrderRow : OpenClaim := { program := "ytknopookopfoeaa", sum := "a7212bc24a9256898fac26c32cc88b14e157368edbe73e9496c87e440ff6cf8f", func := "gangway/gangwaylaw02.AluOrder", spec := "aluOrder", inPlace := ["math/bits.Sub64", "math/bits.Add64"], apart := false }
def AluOrderSaid : Prop := aluOrderRow.holds Try.pinned (OpenSpec.ofChange aluOrderSpec)

/-- ITS FALSE NEIGHBOUR: 'it returns false'. Refute it at one input. -/
def aluOrderWrong : ChangeSpec := { name := "aluOrder", fn := fun _ => fun
  | [d1, d2, d3] => { results := [.lit (.bool false)], args := [d1, d2, d3] }
  | _ => none }
def AluOrderWrongFalsely : Prop := aluOrderRow.holds Try.pinned (OpenSpec.ofChange aluOrderWrong)

/-- 'gangwaylaw02.AluShifts': WHATEVER THE INPUT: true; the input reads as it did. -/
def aluShiftsSpec : ChangeSpec := { name := "aluShifts", fn := fun _ => fun
  | [d1, d2, d3, d4, d5] => { results := [.lit (.bool true)], args := [d1, d2, d3, d4, d5] }
  | _ => none }
def aluShiftsRow : OpenClaim := { program := "ytknopookopfoeaa", sum := "a7212bc24a9256898fac26c32cc88b14e157368edbe73e9496c87e440ff6cf8f", func := "gangway/gangwaylaw02.AluShifts", spec := "aluShifts", inPlace := ["math/bits.Add64", "math/bits.Sub64"], apart := false }
def AluShiftsSaid : Prop := aluShiftsRow.holds Try.pinned (OpenSpec.ofChange aluShiftsSpec)

/-- ITS FALSE NEIGHBOUR: 'it returns false'. Refute it at one input. -/
def aluShiftsWrong : ChangeSpec := { name := "aluShifts", fn := fun _ => fun
  | [d1, d2, d3, d4, d5] => { results := [.lit (.bool false)], args := [d1, d2, d3, d4, d5] }
  | _ => none }
def AluShiftsWrongFalsely : Prop := aluShiftsRow.holds Try.pinned (OpenSpec.ofChange aluShiftsWrong)

/-- 'gangwaylaw02.AluProducts': WHATEVER THE INPUT: true; the input reads as it did. -/
def aluProductsSpec : ChangeSpec := { name := "aluProducts", fn := fun _ => fun
  | [d1, d2, d3] => { results := [.lit (.bool true)], args := [d1, d2, d3] }
  | _ => none }
def aluProductsRow : OpenClaim := { program := "ytknopookopfoeaa", sum := "a7212bc24a9256898fac26c32cc88b14e157368edbe73e9496c87e440ff6cf8f", func := "gangway/gangwaylaw02.AluProducts", spec := "aluProducts", inPlace := ["math/bits.Add64", "math/bits.Sub64"], apart := false }
def AluProductsSaid : Prop := aluProductsRow.holds Try.pinned (OpenSpec.ofChange aluProductsSpec)

/-- ITS FALSE NEIGHBOUR: 'it returns false'. Refute it at one input. -/
def aluProductsWrong : ChangeSpec := { name := "aluProducts", fn := fun _ => fun
  | [d1, d2, d3] => { results := [.lit (.bool false)], args := [d1, d2, d3] }
  | _ => none }
def AluProductsWrongFalsely : Prop := aluProductsRow.holds Try.pinned (OpenSpec.ofChange aluProductsWrong)

/-- 'gangwaylaw02.AluBack': WHATEVER THE INPUT: true; the input reads as it did. -/
def aluBackSpec : ChangeSpec := { name := "aluBack", fn := fun _ => fun
  | [d1, d2, d3] => { results := [.lit (.bool true)], args := [d1, d2, d3] }
  | _ => none }
def aluBackRow : OpenClaim := { program := "ytknopookopfoeaa", sum := "a7212bc24a9256898fac26c32cc88b14e157368edbe73e9496c87e440ff6cf8f", func := "gangway/gangwaylaw02.AluBack", spec := "aluBack", inPlace := ["math/bits.Add64", "math/bits.Sub64"], unfollowed := true, recurses := true, apart := false }
def AluBackSaid : Prop := aluBackRow.holds Try.pinned (OpenSpec.ofChange aluBackSpec)

/-- ITS FALSE NEIGHBOUR: 'it returns false'. Refute it at one input. -/
def aluBackWrong : ChangeSpec := { name := "aluBack", fn := fun _ => fun
  | [d1, d2, d3] => { results := [.lit (.bool false)], args := [d1, d2, d3] }
  | _ => none }
def AluBackWrongFalsely : Prop := aluBackRow.holds Try.pinned (OpenSpec.ofChange aluBackWrong)

/-- 'gangwaylaw02.AluBits': WHATEVER THE INPUT: true; the input reads as it did. -/
def aluBitsSpec : ChangeSpec := { name := "aluBits", fn := fun _ => fun
  | [d1, d2, d3, d4, d5] => { results := [.lit (.bool true)], args := [d1, d2, d3, d4, d5] }
  | _ => none }
def aluBitsRow : OpenClaim := { program := "ytknopookopfoeaa", sum := "a7212bc24a9256898fac26c32cc88b14e157368edbe73e9496c87e440ff6cf8f", func := "gangway/gangwaylaw02.AluBits", spec := "aluBits", inPlace := ["math/bits.Add64", "math/bits.Sub64"], unfollowed := true, recurses := true, apart := false }
def AluBitsSaid : Prop := aluBitsRow.holds Try.pinned (OpenSpec.ofChange aluBitsSpec)

/-- ITS FALSE NEIGHBOUR: 'it returns false'. Refute it at one input. -/
def aluBitsWrong : ChangeSpec := { name := "aluBits", fn := fun _ => fun
  | [d1, d2, d3, d4, d5] => { results := [.lit (.bool false)], args := [d1, d2, d3, d4, d5] }
  | _ => none }
def AluBitsWrongFalsely : Prop := aluBitsRow.holds Try.pinned (OpenSpec.ofChange aluBitsWrong)

/-- 'gangwaylaw02.AluPowers': WHATEVER THE INPUT: true; the input reads as it did. -/
def aluPowersSpec : ChangeSpec := { name := "aluPowers", fn := fun _ => fun
  | [d1, d2, d3] => { results := [.lit (.bool true)], args := [d1, d2, d3] }
  | _ => none }
def aluPowersRow : OpenClaim := { program := "ytknopookopfoeaa", sum := "a7212bc24a9256898fac26c32cc88b14e157368edbe73e9496c87e440ff6cf8f", func := "gangway/gangwaylaw02.AluPowers", spec := "aluPowers", inPlace := ["math/bits.Add64", "math/bits.Sub64"], apart := false }
def AluPowersSaid : Prop := aluPowersRow.holds Try.pinned (OpenSpec.ofChange aluPowersSpec)

/-- ITS FALSE NEIGHBOUR: 'it returns false'. Refute it at one input. -/
def aluPowersWrong : ChangeSpec := { name := "aluPowers", fn := fun _ => fun
  | [d1, d2, d3] => { results := [.lit (.bool false)], args := [d1, d2, d3] }
  | _ => none }
def AluPowersWrongFalsely : Prop := aluPowersRow.holds Try.pinned (OpenSpec.ofChange aluPowersWrong)

/- THE SECOND FORM. 'bulk': how many values and letters a reading holds, each counted each time it is reached (what is shared counts as often as it is met; a slice's spare places count too). A statement '..UptoSaid' is the law's where the arguments, and the package variables that the reading takes, are together of bulk at most 1048576: NARROWER than '..Said'. Prove '..Said' where nothing that the law and all that it calls make is longer than what came in: it says more and counts as full. Else prove '..UptoSaid'. A law counts once. -/
mutual
def uptoBulk {H : Type} : DataW H → Nat
  | .lit (.string bytes) => bytes.length + 1
  | .lit _ => 1
  | .nil => 1
  | .ptr d => uptoBulk d + 1
  | .slice elems spare => uptoBulkAll elems + uptoBulkAll spare + 1
  | .agg parts => uptoBulkAll parts + 1
  | .iface _ d => uptoBulk d + 1
  | .map entries => uptoBulkEntries entries + 1
  | .held _ => 1
def uptoBulkAll {H : Type} : List (DataW H) → Nat
  | [] => 0
  | d :: r => uptoBulk d + uptoBulkAll r
def uptoBulkEntries {H : Type} : List (Lit × DataW H) → Nat
  | [] => 0
  | x :: r => uptoBulkEntry x + uptoBulkEntries r
def uptoBulkEntry {H : Type} : Lit × DataW H → Nat
  | (.string bytes, d) => bytes.length + uptoBulk d + 1
  | (_, d) => uptoBulk d + 1
 end
def uptoSmall : (H : Type) → List (DataW H) → Bool := fun _ ds => decide (uptoBulkAll ds ≤ 1048576)
def OpenSpec.upto (s : _root_.Go.ChangeSpec) : _root_.Go.OpenSpec := { _root_.Go.OpenSpec.ofChange s with cond := some uptoSmall }

/-- 'gangwaylaw02.AluHalves', WHERE WHAT IT READS IS OF BULK AT MOST 1048576: true; the input reads as it did. -/
def aluHalvesUptoRow : OpenClaim := { program := "ytknopookopfoeaa", sum := "a7212bc24a9256898fac26c32cc88b14e157368edbe73e9496c87e440ff6cf8f", func := "gangway/gangwaylaw02.AluHalves", spec := "aluHalves", inPlace := ["math/bits.Add64", "math/bits.Sub64"], apart := false, narrowed := true }
def AluHalvesUptoSaid : Prop := aluHalvesUptoRow.holds Try.pinned (OpenSpec.upto aluHalvesSpec)

/-- 'gangwaylaw02.AluFlags', WHERE WHAT IT READS IS OF BULK AT MOST 1048576: true; the input reads as it did. -/
def aluFlagsUptoRow : OpenClaim := { program := "ytknopookopfoeaa", sum := "a7212bc24a9256898fac26c32cc88b14e157368edbe73e9496c87e440ff6cf8f", func := "gangway/gangwaylaw02.AluFlags", spec := "aluFlags", inPlace := ["math/bits.Add64", "math/bits.Sub64"], unfollowed := true, recurses := true, apart := false, narrowed := true }
def AluFlagsUptoSaid : Prop := aluFlagsUptoRow.holds Try.pinned (OpenSpec.upto aluFlagsSpec)

/-- 'gangwaylaw02.AluSums', WHERE WHAT IT READS IS OF BULK AT MOST 1048576: true; the input reads as it did. -/
def aluSumsUptoRow : OpenClaim := { program := "ytknopookopfoeaa", sum := "a7212bc24a9256898fac26c32cc88b14e157368edbe73e9496c87e440ff6cf8f", func := "gangway/gangwaylaw02.AluSums", spec := "aluSums", inPlace := ["math/bits.Add64", "math/bits.Sub64"], apart := false, narrowed := true }
def AluSumsUptoSaid : Prop := aluSumsUptoRow.holds Try.pinned (OpenSpec.upto aluSumsSpec)

/-- 'gangwaylaw02.AluOrder', WHERE WHAT IT READS IS OF BULK AT MOST 1048576: true; the input reads as it did. -/
def aluOrderUptoRow : OpenClaim := { program := "ytknopookopfoeaa", sum := "a7212bc24a9256898fac26c32cc88b14e157368edbe73e9496c87e440ff6cf8f", func := "gangway/gangwaylaw02.AluOrder", spec := "aluOrder", inPlace := ["math/bits.Sub64", "math/bits.Add64"], apart := false, narrowed := true }
def AluOrderUptoSaid : Prop := aluOrderUptoRow.holds Try.pinned (OpenSpec.upto aluOrderSpec)

/-- 'gangwaylaw02.AluShifts', WHERE WHAT IT READS IS OF BULK AT MOST 1048576: true; the input reads as it did. -/
def aluShiftsUptoRow : OpenClaim := { program := "ytknopookopfoeaa", sum := "a7212bc24a9256898fac26c32cc88b14e157368edbe73e9496c87e440ff6cf8f", func := "gangway/gangwaylaw02.AluShifts", spec := "aluShifts", inPlace := ["math/bits.Add64", "math/bits.Sub64"], apart := false, narrowed := true }
def AluShiftsUptoSaid : Prop := aluShiftsUptoRow.holds Try.pinned (OpenSpec.upto aluShiftsSpec)

/-- 'gangwaylaw02.AluProducts', WHERE WHAT IT READS IS OF BULK AT MOST 1048576: true; the input reads as it did. -/
def aluProductsUptoRow : OpenClaim := { program := "ytknopookopfoeaa", sum := "a7212bc24a9256898fac26c32cc88b14e157368edbe73e9496c87e440ff6cf8f", func := "gangway/gangwaylaw02.AluProducts", spec := "aluProducts", inPlace := ["math/bits.Add64", "math/bits.Sub64"], apart := false, narrowed := true }
def AluProductsUptoSaid : Prop := aluProductsUptoRow.holds Try.pinned (OpenSpec.upto aluProductsSpec)

/-- 'gangwaylaw02.AluBack', WHERE WHAT IT READS IS OF BULK AT MOST 1048576: true; the input reads as it did. -/
def aluBackUptoRow : OpenClaim := { program := "ytknopookopfoeaa", sum := "a7212bc24a9256898fac26c32cc88b14e157368edbe73e9496c87e440ff6cf8f", func := "gangway/gangwaylaw02.AluBack", spec := "aluBack", inPlace := ["math/bits.Add64", "math/bits.Sub64"], unfollowed := true, recurses := true, apart := false, narrowed := true }
def AluBackUptoSaid : Prop := aluBackUptoRow.holds Try.pinned (OpenSpec.upto aluBackSpec)

/-- 'gangwaylaw02.AluBits', WHERE WHAT IT READS IS OF BULK AT MOST 1048576: true; the input reads as it did. -/
def aluBitsUptoRow : OpenClaim := { program := "ytknopookopfoeaa", sum := "a7212bc24a9256898fac26c32cc88b14e157368edbe73e9496c87e440ff6cf8f", func := "gangway/gangwaylaw02.AluBits", spec := "aluBits", inPlace := ["math/bits.Add64", "math/bits.Sub64"], unfollowed := true, recurses := true, apart := false, narrowed := true }
def AluBitsUptoSaid : Prop := aluBitsUptoRow.holds Try.pinned (OpenSpec.upto aluBitsSpec)

/-- 'gangwaylaw02.AluPowers', WHERE WHAT IT READS IS OF BULK AT MOST 1048576: true; the input reads as it did. -/
def aluPowersUptoRow : OpenClaim := { program := "ytknopookopfoeaa", sum := "a7212bc24a9256898fac26c32cc88b14e157368edbe73e9496c87e440ff6cf8f", func := "gangway/gangwaylaw02.AluPowers", spec := "aluPowers", inPlace := ["math/bits.Add64", "math/bits.Sub64"], apart := false, narrowed := true }
def AluPowersUptoSaid : Prop := aluPowersUptoRow.holds Try.pinned (OpenSpec.upto aluPowersSpec)

end Rows
end Go.Proofs.Ytknopookopfoeaa

/-
  No cell of these rows narrows 'for every input' (looked for: loops, veiled, ifaces, maps, wideKeys, modest, calm, conditions, laid).
  DERIVED. THE GIVEN ROWS OF THIS SEAT. 8 by the template 'for every input the law returns true; each argument reads behind the call as it read before'; 0 by the template 'total and deterministic' (their statements: YtndlmhpbnaohpaaTotals.lean).
  GIVEN WITH THE SEED: the statements are not yours to turn. If you find one false, say at which input.
  Laid BY PROGRAM, IN A SANDBOX (cutbox-rows.mjs): the forced cells as the released guide's own fill.sh prints them over the translation fd44ed222e6f5ab5… (all of the seat's roots in one cut). By AI agents, Wed Nov 11 2026. No macro, syntax, notation, axiom, sorry.
-/
import Derived.Test.YtndlmhpbnaohpaaChecked
import GoSem.Claim
import GoSem.ClaimJoined
import GoSem.ClaimMapViews
import Derived.JoinedTies
import Derived.KernelRfl
namespace Go.Proofs.Ytndlmhpbnaohpaa
/- THE CELL 'sum', in the pinned program and in every row, IS THE sha256 OF THE DUMP (.gsa) THAT YtndlmhpbnaohpaaProg.lean LOADS. Nothing in Lean hashes anything: it is a label: what it is worth is what the hold of that sum in a sandbox is worth. -/
noncomputable def Try.pinned : Pinned := { name := "ytndlmhpbnaohpaa", sum := "fd44ed222e6f5ab55fd4b2663e621b31cfe1fa10cd0c2ee1d30a74eff3b20504", checked := Try.checked }
namespace Rows
def none {H : Type} : Left H := { results := [], args := [] }

/-- 'zoetropelaw2.NalEscapes': WHATEVER THE INPUT: true; the input reads as it did. -/
def nalEscapesSpec : ChangeSpec := { name := "nalEscapes", fn := fun _ => fun
  | [d] => { results := [.lit (.bool true)], args := [d] }
  | _ => none }
def nalEscapesRow : OpenClaim := { program := "ytndlmhpbnaohpaa", sum := "fd44ed222e6f5ab55fd4b2663e621b31cfe1fa10cd0c2ee1d30a74eff3b20504", func := "zoetrope/zoetropelaw2.NalEscapes", spec := "nalEscapes", inPlace := ["internal/abi.NoEscape", "internal/bytealg.IndexByteString", "internal/bytealg.IndexString"], named := ["internal/bytealg.MaxLen"], apart := false }
def NalEscapesSaid : Prop := nalEscapesRow.holds Try.pinned (OpenSpec.ofChange nalEscapesSpec)

/-- ITS FALSE NEIGHBOUR: 'it returns false'. Refute it at one input. -/
def nalEscapesWrong : ChangeSpec := { name := "nalEscapes", fn := fun _ => fun
  | [d] => { results := [.lit (.bool false)], args := [d] }
  | _ => none }
def NalEscapesWrongFalsely : Prop := nalEscapesRow.holds Try.pinned (OpenSpec.ofChange nalEscapesWrong)

/-- 'zoetropelaw2.NalUnits': WHATEVER THE INPUT: true; the input reads as it did. -/
def nalUnitsSpec : ChangeSpec := { name := "nalUnits", fn := fun _ => fun
  | [d1, d2] => { results := [.lit (.bool true)], args := [d1, d2] }
  | _ => none }
def nalUnitsRow : OpenClaim := { program := "ytndlmhpbnaohpaa", sum := "fd44ed222e6f5ab55fd4b2663e621b31cfe1fa10cd0c2ee1d30a74eff3b20504", func := "zoetrope/zoetropelaw2.NalUnits", spec := "nalUnits", inPlace := ["internal/abi.NoEscape", "internal/bytealg.IndexByteString", "internal/bytealg.IndexString"], named := ["internal/bytealg.MaxLen"], apart := false }
def NalUnitsSaid : Prop := nalUnitsRow.holds Try.pinned (OpenSpec.ofChange nalUnitsSpec)

/-- ITS FALSE NEIGHBOUR: 'it returns false'. Refute it at one input. -/
def nalUnitsWrong : ChangeSpec := { name := "nalUnits", fn := fun _ => fun
  | [d1, d2] => { results := [.lit (.bool false)], args := [d1, d2] }
  | _ => none }
def NalUnitsWrongFalsely : Prop := nalUnitsRow.holds Try.pinned (OpenSpec.ofChange nalUnitsWrong)

/-- 'zoetropelaw2.NalStreams': WHATEVER THE INPUT: true; the input reads as it did. -/
def nalStreamsSpec : ChangeSpec := { name := "nalStreams", fn := fun _ => fun
  | [d1, d2] => { results := [.lit (.bool true)], args := [d1, d2] }
  | _ => none }
def nalStreamsRow : OpenClaim := { program := "ytndlmhpbnaohpaa", sum := "fd44ed222e6f5ab55fd4b2663e621b31cfe1fa10cd0c2ee1d30a74eff3b20504", func := "zoetrope/zoetropelaw2.NalStreams", spec := "nalStreams", inPlace := ["internal/abi.NoEscape", "internal/bytealg.IndexByteString", "internal/bytealg.IndexString"], named := ["internal/bytealg.MaxLen"], apart := false }
def NalStreamsSaid : Prop := nalStreamsRow.holds Try.pinned (OpenSpec.ofChange nalStreamsSpec)

/-- ITS FALSE NEIGHBOUR: 'it returns false'. Refute it at one input. -/
def nalStreamsWrong : ChangeSpec := { name := "nalStreams", fn := fun _ => fun
  | [d1, d2] => { results := [.lit (.bool false)], args := [d1, d2] }
  | _ => none }
def NalStreamsWrongFalsely : Prop := nalStreamsRow.holds Try.pinned (OpenSpec.ofChange nalStreamsWrong)

/-- 'zoetropelaw2.NalBack': WHATEVER THE INPUT: true; the input reads as it did. -/
def nalBackSpec : ChangeSpec := { name := "nalBack", fn := fun _ => fun
  | [d] => { results := [.lit (.bool true)], args := [d] }
  | _ => none }
def nalBackRow : OpenClaim := { program := "ytndlmhpbnaohpaa", sum := "fd44ed222e6f5ab55fd4b2663e621b31cfe1fa10cd0c2ee1d30a74eff3b20504", func := "zoetrope/zoetropelaw2.NalBack", spec := "nalBack", inPlace := ["internal/abi.NoEscape", "internal/bytealg.IndexByteString", "internal/bytealg.IndexString"], named := ["internal/bytealg.MaxLen"], apart := false }
def NalBackSaid : Prop := nalBackRow.holds Try.pinned (OpenSpec.ofChange nalBackSpec)

/-- ITS FALSE NEIGHBOUR: 'it returns false'. Refute it at one input. -/
def nalBackWrong : ChangeSpec := { name := "nalBack", fn := fun _ => fun
  | [d] => { results := [.lit (.bool false)], args := [d] }
  | _ => none }
def NalBackWrongFalsely : Prop := nalBackRow.holds Try.pinned (OpenSpec.ofChange nalBackWrong)

/-- 'zoetropelaw2.NalTypes': WHATEVER THE INPUT: true; the input reads as it did. -/
def nalTypesSpec : ChangeSpec := { name := "nalTypes", fn := fun _ => fun
  | [d1, d2, d3] => { results := [.lit (.bool true)], args := [d1, d2, d3] }
  | _ => none }
def nalTypesRow : OpenClaim := { program := "ytndlmhpbnaohpaa", sum := "fd44ed222e6f5ab55fd4b2663e621b31cfe1fa10cd0c2ee1d30a74eff3b20504", func := "zoetrope/zoetropelaw2.NalTypes", spec := "nalTypes", inPlace := ["internal/abi.NoEscape", "internal/bytealg.IndexByteString", "internal/bytealg.IndexString"], named := ["internal/bytealg.MaxLen"], apart := false }
def NalTypesSaid : Prop := nalTypesRow.holds Try.pinned (OpenSpec.ofChange nalTypesSpec)

/-- ITS FALSE NEIGHBOUR: 'it returns false'. Refute it at one input. -/
def nalTypesWrong : ChangeSpec := { name := "nalTypes", fn := fun _ => fun
  | [d1, d2, d3] => { results := [.lit (.bool false)], args := [d1, d2, d3] }
  | _ => none }
def NalTypesWrongFalsely : Prop := nalTypesRow.holds Try.pinned (OpenSpec.ofChange nalTypesWrong)

/-- 'zoetropelaw2.NalZeros': WHATEVER THE INPUT: true; the input reads as it did. -/
def nalZerosSpec : ChangeSpec := { name := "nalZeros", fn := fun _ => fun
  | [d] => { results := [.lit (.bool true)], args := [d] }
  | _ => none }
def nalZerosRow : OpenClaim := { program := "ytndlmhpbnaohpaa", sum := "fd44ed222e6f5ab55fd4b2663e621b31cfe1fa10cd0c2ee1d30a74eff3b20504", func := "zoetrope/zoetropelaw2.NalZeros", spec := "nalZeros", inPlace := ["internal/abi.NoEscape", "internal/bytealg.IndexByteString", "internal/bytealg.IndexString"], named := ["internal/bytealg.MaxLen"], apart := false }
def NalZerosSaid : Prop := nalZerosRow.holds Try.pinned (OpenSpec.ofChange nalZerosSpec)

/-- ITS FALSE NEIGHBOUR: 'it returns false'. Refute it at one input. -/
def nalZerosWrong : ChangeSpec := { name := "nalZeros", fn := fun _ => fun
  | [d] => { results := [.lit (.bool false)], args := [d] }
  | _ => none }
def NalZerosWrongFalsely : Prop := nalZerosRow.holds Try.pinned (OpenSpec.ofChange nalZerosWrong)

/-- 'zoetropelaw2.NalNests': WHATEVER THE INPUT: true; the input reads as it did. -/
def nalNestsSpec : ChangeSpec := { name := "nalNests", fn := fun _ => fun
  | [d] => { results := [.lit (.bool true)], args := [d] }
  | _ => none }
def nalNestsRow : OpenClaim := { program := "ytndlmhpbnaohpaa", sum := "fd44ed222e6f5ab55fd4b2663e621b31cfe1fa10cd0c2ee1d30a74eff3b20504", func := "zoetrope/zoetropelaw2.NalNests", spec := "nalNests", inPlace := ["internal/abi.NoEscape", "internal/bytealg.IndexByteString", "internal/bytealg.IndexString"], named := ["internal/bytealg.MaxLen"], apart := false }
def NalNestsSaid : Prop := nalNestsRow.holds Try.pinned (OpenSpec.ofChange nalNestsSpec)

/-- ITS FALSE NEIGHBOUR: 'it returns false'. Refute it at one input. -/
def nalNestsWrong : ChangeSpec := { name := "nalNests", fn := fun _ => fun
  | [d] => { results := [.lit (.bool false)], args := [d] }
  | _ => none }
def NalNestsWrongFalsely : Prop := nalNestsRow.holds Try.pinned (OpenSpec.ofChange nalNestsWrong)

/-- 'zoetropelaw2.NalStarts': WHATEVER THE INPUT: true; the input reads as it did. -/
def nalStartsSpec : ChangeSpec := { name := "nalStarts", fn := fun _ => fun
  | [d] => { results := [.lit (.bool true)], args := [d] }
  | _ => none }
def nalStartsRow : OpenClaim := { program := "ytndlmhpbnaohpaa", sum := "fd44ed222e6f5ab55fd4b2663e621b31cfe1fa10cd0c2ee1d30a74eff3b20504", func := "zoetrope/zoetropelaw2.NalStarts", spec := "nalStarts", inPlace := ["internal/abi.NoEscape", "internal/bytealg.IndexByteString", "internal/bytealg.IndexString"], named := ["internal/bytealg.MaxLen"], apart := false }
def NalStartsSaid : Prop := nalStartsRow.holds Try.pinned (OpenSpec.ofChange nalStartsSpec)

/-- ITS FALSE NEIGHBOUR: 'it returns false'. Refute it at one input. -/
def nalStartsWrong : ChangeSpec := { name := "nalStarts", fn := fun _ => fun
  | [d] => { results := [.lit (.bool false)], args := [d] }
  | _ => none }
def NalStartsWrongFalsely : Prop := nalStartsRow.holds Try.pinned (OpenSpec.ofChange nalStartsWrong)

/- THE SECOND FORM. 'bulk': how many values and letters a reading holds, each counted each time it is reached (what is shared counts as often as it is met; a slice's spare places count too). A statement '..UptoSaid' is the law's where the arguments, and the package variables that the reading takes, are together of bulk at most 1048576: NARROWER than '..Said'. Prove '..Said' where nothing that the law and all that it calls make is longer than what came in: it says more and counts as full. Else prove '..UptoSaid'. A law counts once. -/
mutual
def uptoBulk {H : Type} : DataW H → Nat
  | .lit (.string bytes) => bytes.length + 1
  | .lit _ => 1
  | .nil => 1
  | .ptr d => uptoBulk d + 1
  | .slice elems spare => uptoBulkAll elems + uptoBulkAll spare + 1
  | .agg parts => uptoBulkAll parts + 1
  | .iface _ d => uptoBulk d + 1
  | .map entries => uptoBulkEntries entries + 1
  | .held _ => 1
def uptoBulkAll {H : Type} : List (DataW H) → Nat
  | [] => 0
  | d :: r => uptoBulk d + uptoBulkAll r
def uptoBulkEntries {H : Type} : List (Lit × DataW H) → Nat
  | [] => 0
  | x :: r => uptoBulkEntry x + uptoBulkEntries r
def uptoBulkEntry {H : Type} : Lit × DataW H → Nat
  | (.string bytes, d) => bytes.length + uptoBulk d + 1
  | (_, d) => uptoBulk d + 1
 end
def uptoSmall : (H : Type) → List (DataW H) → Bool := fun _ ds => decide (uptoBulkAll ds ≤ 1048576)
def OpenSpec.upto (s : _root_.Go.ChangeSpec) : _root_.Go.OpenSpec := { _root_.Go.OpenSpec.ofChange s with cond := some uptoSmall }

/-- 'zoetropelaw2.NalEscapes', WHERE WHAT IT READS IS OF BULK AT MOST 1048576: true; the input reads as it did. -/
def nalEscapesUptoRow : OpenClaim := { program := "ytndlmhpbnaohpaa", sum := "fd44ed222e6f5ab55fd4b2663e621b31cfe1fa10cd0c2ee1d30a74eff3b20504", func := "zoetrope/zoetropelaw2.NalEscapes", spec := "nalEscapes", inPlace := ["internal/abi.NoEscape", "internal/bytealg.IndexByteString", "internal/bytealg.IndexString"], named := ["internal/bytealg.MaxLen"], apart := false, narrowed := true }
def NalEscapesUptoSaid : Prop := nalEscapesUptoRow.holds Try.pinned (OpenSpec.upto nalEscapesSpec)

/-- 'zoetropelaw2.NalUnits', WHERE WHAT IT READS IS OF BULK AT MOST 1048576: true; the input reads as it did. -/
def nalUnitsUptoRow : OpenClaim := { program := "ytndlmhpbnaohpaa", sum := "fd44ed222e6f5ab55fd4b2663e621b31cfe1fa10cd0c2ee1d30a74eff3b20504", func := "zoetrope/zoetropelaw2.NalUnits", spec := "nalUnits", inPlace := ["internal/abi.NoEscape", "internal/bytealg.IndexByteString", "internal/bytealg.IndexString"], named := ["internal/bytealg.MaxLen"], apart := false, narrowed := true }
def NalUnitsUptoSaid : Prop := nalUnitsUptoRow.holds Try.pinned (OpenSpec.upto nalUnitsSpec)

/-- 'zoetropelaw2.NalStreams', WHERE WHAT IT READS IS OF BULK AT MOST 1048576: true; the input reads as it did. -/
def nalStreamsUptoRow : OpenClaim := { program := "ytndlmhpbnaohpaa", sum := "fd44ed222e6f5ab55fd4b2663e621b31cfe1fa10cd0c2ee1d30a74eff3b20504", func := "zoetrope/zoetropelaw2.NalStreams", spec := "nalStreams", inPlace := ["internal/abi.NoEscape", "internal/bytealg.IndexByteString", "internal/bytealg.IndexString"], named := ["internal/bytealg.MaxLen"], apart := false, narrowed := true }
def NalStreamsUptoSaid : Prop := nalStreamsUptoRow.holds Try.pinned (OpenSpec.upto nalStreamsSpec)

/-- 'zoetropelaw2.NalBack', WHERE WHAT IT READS IS OF BULK AT MOST 1048576: true; the input reads as it did. -/
def nalBackUptoRow : OpenClaim := { program := "ytndlmhpbnaohpaa", sum := "fd44ed222e6f5ab55fd4b2663e621b31cfe1fa10cd0c2ee1d30a74eff3b20504", func := "zoetrope/zoetropelaw2.NalBack", spec := "nalBack", inPlace := ["internal/abi.NoEscape", "internal/bytealg.IndexByteString", "internal/bytealg.IndexString"], named := ["internal/bytealg.MaxLen"], apart := false, narrowed := true }
def NalBackUptoSaid : Prop := nalBackUptoRow.holds Try.pinned (OpenSpec.upto nalBackSpec)

/-- 'zoetropelaw2.NalTypes', WHERE WHAT IT READS IS OF BULK AT MOST 1048576: true; the input reads as it did. -/
def nalTypesUptoRow : OpenClaim := { program := "ytndlmhpbnaohpaa", sum := "fd44ed222e6f5ab55fd4b2663e621b31cfe1fa10cd0c2ee1d30a74eff3b20504", func := "zoetrope/zoetropelaw2.NalTypes", spec := "nalTypes", inPlace := ["internal/abi.NoEscape", "internal/bytealg.IndexByteString", "internal/bytealg.IndexString"], named := ["internal/bytealg.MaxLen"], apart := false, narrowed := true }
def NalTypesUptoSaid : Prop := nalTypesUptoRow.holds Try.pinned (OpenSpec.upto nalTypesSpec)

/-- 'zoetropelaw2.NalZeros', WHERE WHAT IT READS IS OF BULK AT MOST 1048576: true; the input reads as it did. -/
def nalZerosUptoRow : OpenClaim := { program := "ytndlmhpbnaohpaa", sum := "fd44ed222e6f5ab55fd4b2663e621b31cfe1fa10cd0c2ee1d30a74eff3b20504", func := "zoetrope/zoetropelaw2.NalZeros", spec := "nalZeros", inPlace := ["internal/abi.NoEscape", "internal/bytealg.IndexByteString", "internal/bytealg.IndexString"], named := ["internal/bytealg.MaxLen"], apart := false, narrowed := true }
def NalZerosUptoSaid : Prop := nalZerosUptoRow.holds Try.pinned (OpenSpec.upto nalZerosSpec)

/-- 'zoetropelaw2.NalNests', WHERE WHAT IT READS IS OF BULK AT MOST 1048576: true; the input reads as it did. -/
def nalNestsUptoRow : OpenClaim := { program := "ytndlmhpbnaohpaa", sum := "fd44ed222e6f5ab55fd4b2663e621b31cfe1fa10cd0c2ee1d30a74eff3b20504", func := "zoetrope/zoetropelaw2.NalNests", spec := "nalNests", inPlace := ["internal/abi.NoEscape", "internal/bytealg.IndexByteString", "internal/bytealg.IndexString"], named := ["internal/bytealg.MaxLen"], apart := false, narrowed := true }
def NalNestsUptoSaid : Prop := nalNestsUptoRow.holds Try.pinned (OpenSpec.upto nalNestsSpec)

/-- 'zoetropelaw2.NalStarts', WHERE WHAT IT READS IS OF BULK AT MOST 1048576: true; the input reads as it did. -/
def nalStartsUptoRow : OpenClaim := { program := "ytndlmhpbnaohpaa", sum := "fd44ed222e6f5ab55fd4b2663e621b31cfe1fa10cd0c2ee1d30a74eff3b20504", func := "zoetrope/zoetropelaw2.NalStarts", spec := "nalStarts", inPlace := ["internal/abi.NoEscape", "internal/bytealg.IndexByteString", "internal/bytealg.IndexString"], named := ["internal/bytealg.MaxLen"], apart := false, narrowed := true }
def NalStartsUptoSaid : Prop := nalStartsUptoRow.holds Try.pinned (OpenSpec.upto nalStartsSpec)

end Rows
end Go.Proofs.Ytndlmhpbnaohpaa

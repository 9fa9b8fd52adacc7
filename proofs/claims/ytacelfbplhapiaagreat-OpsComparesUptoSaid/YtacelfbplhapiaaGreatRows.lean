/-
  NARROWER THAN 'FOR EVERY INPUT', by the rows' own cells (each row's printed sentence says how): OpsCompares: loops · OpsBins: loops · OpsStrips: loops · OpsRises: loops.
  DERIVED. THE GIVEN ROWS OF THIS SEAT. 4 by the template 'for every input the law returns true; each argument reads behind the call as it read before'; 0 by the template 'total and deterministic' (their statements: YtacelfbplhapiaaGreatTotals.lean).
  GIVEN WITH THE SEED: the statements are not yours to turn. If you find one false, say at which input.
  Laid BY PROGRAM, IN A SANDBOX (cutbox-rows.mjs): the forced cells as the released guide's own fill.sh prints them over the translation 972bddb525177903… (all of the seat's roots in one cut). By AI agents, Wed Nov 11 2026. No macro, syntax, notation, axiom, sorry.
-/
import Derived.Test.YtacelfbplhapiaaGreatChecked
import GoSem.Claim
import GoSem.ClaimJoined
import GoSem.ClaimMapViews
import Derived.JoinedTies
import Derived.KernelRfl
namespace Go.Proofs.YtacelfbplhapiaaGreat
/- THE CELL 'sum', in the pinned program and in every row, IS THE sha256 OF THE DUMP (.gsa) THAT YtacelfbplhapiaaGreatProg.lean LOADS. Nothing in Lean hashes anything: it is a label: what it is worth is what the hold of that sum in a sandbox is worth. -/
noncomputable def Tryz.pinned : Pinned := { name := "ytacelfbplhapiaagreat", sum := "972bddb525177903166feb33c7a49d9974a6a3db31c8e9da3726916f60582fe9", checked := Tryz.checked }
namespace Rows
def none {H : Type} : Left H := { results := [], args := [] }

/-- 'keyholelaw20.OpsCompares': WHATEVER THE INPUT: true; the input reads as it did. -/
def opsComparesSpec : ChangeSpec := { name := "opsCompares", fn := fun _ => fun
  | [d1, d2] => { results := [.lit (.bool true)], args := [d1, d2] }
  | _ => none }
def opsComparesRow : OpenClaim := { program := "ytacelfbplhapiaagreat", sum := "972bddb525177903166feb33c7a49d9974a6a3db31c8e9da3726916f60582fe9", func := "keyhole/keyholelaw20.OpsCompares", spec := "opsCompares", inPlace := ["internal/abi.NoEscape", "internal/bytealg.MakeNoZero", "internal/bytealg.IndexByteString", "internal/bytealg.IndexString", "slices.overlaps[string]", "slices.overlaps[keyhole/api.Node]"], recurses := true, named := ["math/bits.divideError", "math/bits.overflowError", "internal/bytealg.MaxLen"], loops := true, apart := false }
def OpsComparesSaid : Prop := opsComparesRow.holds Tryz.pinned (OpenSpec.ofChange opsComparesSpec)

/-- ITS FALSE NEIGHBOUR: 'it returns false'. Refute it at one input. -/
def opsComparesWrong : ChangeSpec := { name := "opsCompares", fn := fun _ => fun
  | [d1, d2] => { results := [.lit (.bool false)], args := [d1, d2] }
  | _ => none }
def OpsComparesWrongFalsely : Prop := opsComparesRow.holds Tryz.pinned (OpenSpec.ofChange opsComparesWrong)

/-- 'keyholelaw20.OpsBins': WHATEVER THE INPUT: true; the input reads as it did. -/
def opsBinsSpec : ChangeSpec := { name := "opsBins", fn := fun _ => fun
  | [d1, d2, d3] => { results := [.lit (.bool true)], args := [d1, d2, d3] }
  | _ => none }
def opsBinsRow : OpenClaim := { program := "ytacelfbplhapiaagreat", sum := "972bddb525177903166feb33c7a49d9974a6a3db31c8e9da3726916f60582fe9", func := "keyhole/keyholelaw20.OpsBins", spec := "opsBins", inPlace := ["internal/abi.NoEscape", "internal/bytealg.MakeNoZero", "internal/bytealg.IndexByteString", "internal/bytealg.IndexString", "slices.overlaps[string]", "slices.overlaps[keyhole/api.Node]"], recurses := true, named := ["math/bits.divideError", "math/bits.overflowError", "internal/bytealg.MaxLen"], loops := true, apart := false }
def OpsBinsSaid : Prop := opsBinsRow.holds Tryz.pinned (OpenSpec.ofChange opsBinsSpec)

/-- ITS FALSE NEIGHBOUR: 'it returns false'. Refute it at one input. -/
def opsBinsWrong : ChangeSpec := { name := "opsBins", fn := fun _ => fun
  | [d1, d2, d3] => { results := [.lit (.bool false)], args := [d1, d2, d3] }
  | _ => none }
def OpsBinsWrongFalsely : Prop := opsBinsRow.holds Tryz.pinned (OpenSpec.ofChange opsBinsWrong)

/-- 'keyholelaw20.OpsStrips': WHATEVER THE INPUT: true; the input reads as it did. -/
def opsStripsSpec : ChangeSpec := { name := "opsStrips", fn := fun _ => fun
  | [d1, d2, d3] => { results := [.lit (.bool true)], args := [d1, d2, d3] }
  | _ => none }
def opsStripsRow : OpenClaim := { program := "ytacelfbplhapiaagreat", sum := "972bddb525177903166feb33c7a49d9974a6a3db31c8e9da3726916f60582fe9", func := "keyhole/keyholelaw20.OpsStrips", spec := "opsStrips", inPlace := ["internal/abi.NoEscape", "internal/bytealg.MakeNoZero", "internal/bytealg.IndexByteString", "internal/bytealg.IndexString", "slices.overlaps[string]", "slices.overlaps[keyhole/api.Node]"], recurses := true, named := ["math/bits.divideError", "math/bits.overflowError", "internal/bytealg.MaxLen"], loops := true, apart := false }
def OpsStripsSaid : Prop := opsStripsRow.holds Tryz.pinned (OpenSpec.ofChange opsStripsSpec)

/-- ITS FALSE NEIGHBOUR: 'it returns false'. Refute it at one input. -/
def opsStripsWrong : ChangeSpec := { name := "opsStrips", fn := fun _ => fun
  | [d1, d2, d3] => { results := [.lit (.bool false)], args := [d1, d2, d3] }
  | _ => none }
def OpsStripsWrongFalsely : Prop := opsStripsRow.holds Tryz.pinned (OpenSpec.ofChange opsStripsWrong)

/-- 'keyholelaw20.OpsRises': WHATEVER THE INPUT: true; the input reads as it did. -/
def opsRisesSpec : ChangeSpec := { name := "opsRises", fn := fun _ => fun
  | [d1, d2, d3] => { results := [.lit (.bool true)], args := [d1, d2, d3] }
  | _ => none }
def opsRisesRow : OpenClaim := { program := "ytacelfbplhapiaagreat", sum := "972bddb525177903166feb33c7a49d9974a6a3db31c8e9da3726916f60582fe9", func := "keyhole/keyholelaw20.OpsRises", spec := "opsRises", inPlace := ["internal/abi.NoEscape", "internal/bytealg.MakeNoZero", "internal/bytealg.IndexByteString", "internal/bytealg.IndexString", "slices.overlaps[string]", "slices.overlaps[keyhole/api.Node]"], recurses := true, named := ["math/bits.divideError", "math/bits.overflowError", "internal/bytealg.MaxLen"], loops := true, apart := false }
def OpsRisesSaid : Prop := opsRisesRow.holds Tryz.pinned (OpenSpec.ofChange opsRisesSpec)

/-- ITS FALSE NEIGHBOUR: 'it returns false'. Refute it at one input. -/
def opsRisesWrong : ChangeSpec := { name := "opsRises", fn := fun _ => fun
  | [d1, d2, d3] => { results := [.lit (.bool false)], args := [d1, d2, d3] }
  | _ => none }
def OpsRisesWrongFalsely : Prop := opsRisesRow.holds Tryz.pinned (OpenSpec.ofChange opsRisesWrong)

/- THE SECOND FORM. 'bulk': how many values and letters a reading holds, each counted each time it is reached (what is shared counts as often as it is met; a slice's spare places count too). A statement '..UptoSaid' is the law's where the arguments, and the package variables that the reading takes, are together of bulk at most 1048576: NARROWER than '..Said'. Prove '..Said' where nothing that the law and all that it calls make is longer than what came in: it says more and counts as full. Else prove '..UptoSaid'. A law counts once. -/
mutual
def uptoBulk {H : Type} : DataW H → Nat
  | .lit (.string bytes) => bytes.length + 1
  | .lit _ => 1
  | .nil => 1
  | .ptr d => uptoBulk d + 1
  | .slice elems spare => uptoBulkAll elems + uptoBulkAll spare + 1
  | .agg parts => uptoBulkAll parts + 1
  | .iface _ d => uptoBulk d + 1
  | .map entries => uptoBulkEntries entries + 1
  | .held _ => 1
def uptoBulkAll {H : Type} : List (DataW H) → Nat
  | [] => 0
  | d :: r => uptoBulk d + uptoBulkAll r
def uptoBulkEntries {H : Type} : List (Lit × DataW H) → Nat
  | [] => 0
  | x :: r => uptoBulkEntry x + uptoBulkEntries r
def uptoBulkEntry {H : Type} : Lit × DataW H → Nat
  | (.string bytes, d) => bytes.length + uptoBulk d + 1
  | (_, d) => uptoBulk d + 1
 end
def uptoSmall : (H : Type) → List (DataW H) → Bool := fun _ ds => decide (uptoBulkAll ds ≤ 1048576)
def OpenSpec.upto (s : _root_.Go.ChangeSpec) : _root_.Go.OpenSpec := { _root_.Go.OpenSpec.ofChange s with cond := some uptoSmall }

/-- 'keyholelaw20.OpsCompares', WHERE WHAT IT READS IS OF BULK AT MOST 1048576: true; the input reads as it did. -/
def opsComparesUptoRow : OpenClaim := { program := "ytacelfbplhapiaagreat", sum := "972bddb525177903166feb33c7a49d9974a6a3db31c8e9da3726916f60582fe9", func := "keyhole/keyholelaw20.OpsCompares", spec := "opsCompares", inPlace := ["internal/abi.NoEscape", "internal/bytealg.MakeNoZero", "internal/bytealg.IndexByteString", "internal/bytealg.IndexString", "slices.overlaps[string]", "slices.overlaps[keyhole/api.Node]"], recurses := true, named := ["math/bits.divideError", "math/bits.overflowError", "internal/bytealg.MaxLen"], loops := true, apart := false, narrowed := true }
def OpsComparesUptoSaid : Prop := opsComparesUptoRow.holds Tryz.pinned (OpenSpec.upto opsComparesSpec)

/-- 'keyholelaw20.OpsBins', WHERE WHAT IT READS IS OF BULK AT MOST 1048576: true; the input reads as it did. -/
def opsBinsUptoRow : OpenClaim := { program := "ytacelfbplhapiaagreat", sum := "972bddb525177903166feb33c7a49d9974a6a3db31c8e9da3726916f60582fe9", func := "keyhole/keyholelaw20.OpsBins", spec := "opsBins", inPlace := ["internal/abi.NoEscape", "internal/bytealg.MakeNoZero", "internal/bytealg.IndexByteString", "internal/bytealg.IndexString", "slices.overlaps[string]", "slices.overlaps[keyhole/api.Node]"], recurses := true, named := ["math/bits.divideError", "math/bits.overflowError", "internal/bytealg.MaxLen"], loops := true, apart := false, narrowed := true }
def OpsBinsUptoSaid : Prop := opsBinsUptoRow.holds Tryz.pinned (OpenSpec.upto opsBinsSpec)

/-- 'keyholelaw20.OpsStrips', WHERE WHAT IT READS IS OF BULK AT MOST 1048576: true; the input reads as it did. -/
def opsStripsUptoRow : OpenClaim := { program := "ytacelfbplhapiaagreat", sum := "972bddb525177903166feb33c7a49d9974a6a3db31c8e9da3726916f60582fe9", func := "keyhole/keyholelaw20.OpsStrips", spec := "opsStrips", inPlace := ["internal/abi.NoEscape", "internal/bytealg.MakeNoZero", "internal/bytealg.IndexByteString", "internal/bytealg.IndexString", "slices.overlaps[string]", "slices.overlaps[keyhole/api.Node]"], recurses := true, named := ["math/bits.divideError", "math/bits.overflowError", "internal/bytealg.MaxLen"], loops := true, apart := false, narrowed := true }
def OpsStripsUptoSaid : Prop := opsStripsUptoRow.holds Tryz.pinned (OpenSpec.upto opsStripsSpec)

/-- 'keyholelaw20.OpsRises', WHERE WHAT IT READS IS OF BULK AT MOST 1048576: true; the input reads as it did. -/
def opsRisesUptoRow : OpenClaim := { program := "ytacelfbplhapiaagreat", sum := "972bddb525177903166feb33c7a49d9974a6a3db31c8e9da3726916f60582fe9", func := "keyhole/keyholelaw20.OpsRises", spec := "opsRises", inPlace := ["internal/abi.NoEscape", "internal/bytealg.MakeNoZero", "internal/bytealg.IndexByteString", "internal/bytealg.IndexString", "slices.overlaps[string]", "slices.overlaps[keyhole/api.Node]"], recurses := true, named := ["math/bits.divideError", "math/bits.overflowError", "internal/bytealg.MaxLen"], loops := true, apart := false, narrowed := true }
def OpsRisesUptoSaid : Prop := opsRisesUptoRow.holds Tryz.pinned (OpenSpec.upto opsRisesSpec)

end Rows
end Go.Proofs.YtacelfbplhapiaaGreat

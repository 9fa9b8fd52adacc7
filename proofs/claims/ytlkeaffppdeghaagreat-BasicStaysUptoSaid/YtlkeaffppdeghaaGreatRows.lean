/-
  NARROWER THAN 'FOR EVERY INPUT', by the rows' own cells (each row's printed sentence says how): BasicSound: loops · BasicStays: loops.
  DERIVED. THE GIVEN ROWS OF THIS SEAT. 2 by the template 'for every input the law returns true; each argument reads behind the call as it read before'; 0 by the template 'total and deterministic' (their statements: YtlkeaffppdeghaaGreatTotals.lean).
  GIVEN WITH THE SEED: the statements are not yours to turn. If you find one false, say at which input.
  Laid BY PROGRAM, IN A SANDBOX (cutbox-rows.mjs): the forced cells as the released guide's own fill.sh prints them over the translation 54b2395df0ea736d… (all of the seat's roots in one cut). By AI agents, Wed Nov 11 2026. No macro, syntax, notation, axiom, sorry.
-/
import Derived.Test.YtlkeaffppdeghaaGreatChecked
import GoSem.Claim
import GoSem.ClaimJoined
import GoSem.ClaimMapViews
import Derived.JoinedTies
import Derived.KernelRfl
namespace Go.Proofs.YtlkeaffppdeghaaGreat
/- THE CELL 'sum', in the pinned program and in every row, IS THE sha256 OF THE DUMP (.gsa) THAT YtlkeaffppdeghaaGreatProg.lean LOADS. Nothing in Lean hashes anything: it is a label: what it is worth is what the hold of that sum in a sandbox is worth. -/
noncomputable def Tryz.pinned : Pinned := { name := "ytlkeaffppdeghaagreat", sum := "54b2395df0ea736da2b7ef99318a923501566a23dd75b3e91c4d27310e68eb12", checked := Tryz.checked }
namespace Rows
def none {H : Type} : Left H := { results := [], args := [] }

/-- 'keyholelaw19.BasicSound': WHATEVER THE INPUT: true; the input reads as it did. -/
def basicSoundSpec : ChangeSpec := { name := "basicSound", fn := fun _ => fun
  | [d1, d2, d3] => { results := [.lit (.bool true)], args := [d1, d2, d3] }
  | _ => none }
def basicSoundRow : OpenClaim := { program := "ytlkeaffppdeghaagreat", sum := "54b2395df0ea736da2b7ef99318a923501566a23dd75b3e91c4d27310e68eb12", func := "keyhole/keyholelaw19.BasicSound", spec := "basicSound", inPlace := ["internal/abi.NoEscape", "internal/bytealg.MakeNoZero", "internal/bytealg.IndexByteString", "internal/bytealg.IndexString"], recurses := true, named := ["math/bits.divideError", "math/bits.overflowError", "internal/bytealg.MaxLen"], loops := true, apart := false }
def BasicSoundSaid : Prop := basicSoundRow.holds Tryz.pinned (OpenSpec.ofChange basicSoundSpec)

/-- ITS FALSE NEIGHBOUR: 'it returns false'. Refute it at one input. -/
def basicSoundWrong : ChangeSpec := { name := "basicSound", fn := fun _ => fun
  | [d1, d2, d3] => { results := [.lit (.bool false)], args := [d1, d2, d3] }
  | _ => none }
def BasicSoundWrongFalsely : Prop := basicSoundRow.holds Tryz.pinned (OpenSpec.ofChange basicSoundWrong)

/-- 'keyholelaw19.BasicStays': WHATEVER THE INPUT: true; the input reads as it did. -/
def basicStaysSpec : ChangeSpec := { name := "basicStays", fn := fun _ => fun
  | [d1, d2] => { results := [.lit (.bool true)], args := [d1, d2] }
  | _ => none }
def basicStaysRow : OpenClaim := { program := "ytlkeaffppdeghaagreat", sum := "54b2395df0ea736da2b7ef99318a923501566a23dd75b3e91c4d27310e68eb12", func := "keyhole/keyholelaw19.BasicStays", spec := "basicStays", inPlace := ["internal/abi.NoEscape", "internal/bytealg.MakeNoZero", "internal/bytealg.IndexByteString", "internal/bytealg.IndexString"], recurses := true, named := ["math/bits.divideError", "math/bits.overflowError", "internal/bytealg.MaxLen"], loops := true, apart := false }
def BasicStaysSaid : Prop := basicStaysRow.holds Tryz.pinned (OpenSpec.ofChange basicStaysSpec)

/-- ITS FALSE NEIGHBOUR: 'it returns false'. Refute it at one input. -/
def basicStaysWrong : ChangeSpec := { name := "basicStays", fn := fun _ => fun
  | [d1, d2] => { results := [.lit (.bool false)], args := [d1, d2] }
  | _ => none }
def BasicStaysWrongFalsely : Prop := basicStaysRow.holds Tryz.pinned (OpenSpec.ofChange basicStaysWrong)

/- THE SECOND FORM. 'bulk': how many values and letters a reading holds, each counted each time it is reached (what is shared counts as often as it is met; a slice's spare places count too). A statement '..UptoSaid' is the law's where the arguments, and the package variables that the reading takes, are together of bulk at most 1048576: NARROWER than '..Said'. Prove '..Said' where nothing that the law and all that it calls make is longer than what came in: it says more and counts as full. Else prove '..UptoSaid'. A law counts once. -/
mutual
def uptoBulk {H : Type} : DataW H → Nat
  | .lit (.string bytes) => bytes.length + 1
  | .lit _ => 1
  | .nil => 1
  | .ptr d => uptoBulk d + 1
  | .slice elems spare => uptoBulkAll elems + uptoBulkAll spare + 1
  | .agg parts => uptoBulkAll parts + 1
  | .iface _ d => uptoBulk d + 1
  | .map entries => uptoBulkEntries entries + 1
  | .held _ => 1
def uptoBulkAll {H : Type} : List (DataW H) → Nat
  | [] => 0
  | d :: r => uptoBulk d + uptoBulkAll r
def uptoBulkEntries {H : Type} : List (Lit × DataW H) → Nat
  | [] => 0
  | x :: r => uptoBulkEntry x + uptoBulkEntries r
def uptoBulkEntry {H : Type} : Lit × DataW H → Nat
  | (.string bytes, d) => bytes.length + uptoBulk d + 1
  | (_, d) => uptoBulk d + 1
 end
def uptoSmall : (H : Type) → List (DataW H) → Bool := fun _ ds => decide (uptoBulkAll ds ≤ 1048576)
def OpenSpec.upto (s : _root_.Go.ChangeSpec) : _root_.Go.OpenSpec := { _root_.Go.OpenSpec.ofChange s with cond := some uptoSmall }

/-- 'keyholelaw19.BasicSound', WHERE WHAT IT READS IS OF BULK AT MOST 1048576: true; the input reads as it did. -/
def basicSoundUptoRow : OpenClaim := { program := "ytlkeaffppdeghaagreat", sum := "54b2395df0ea736da2b7ef99318a923501566a23dd75b3e91c4d27310e68eb12", func := "keyhole/keyholelaw19.BasicSound", spec := "basicSound", inPlace := ["internal/abi.NoEscape", "internal/bytealg.MakeNoZero", "internal/bytealg.IndexByteString", "internal/bytealg.IndexString"], recurses := true, named := ["math/bits.divideError", "math/bits.overflowError", "internal/bytealg.MaxLen"], loops := true, apart := false, narrowed := true }
def BasicSoundUptoSaid : Prop := basicSoundUptoRow.holds Tryz.pinned (OpenSpec.upto basicSoundSpec)

/-- 'keyholelaw19.BasicStays', WHERE WHAT IT READS IS OF BULK AT MOST 1048576: true; the input reads as it did. -/
def basicStaysUptoRow : OpenClaim := { program := "ytlkeaffppdeghaagreat", sum := "54b2395df0ea736da2b7ef99318a923501566a23dd75b3e91c4d27310e68eb12", func := "keyhole/keyholelaw19.BasicStays", spec := "basicStays", inPlace := ["internal/abi.NoEscape", "internal/bytealg.MakeNoZero", "internal/bytealg.IndexByteString", "internal/bytealg.IndexString"], recurses := true, named := ["math/bits.divideError", "math/bits.overflowError", "internal/bytealg.MaxLen"], loops := true, apart := false, narrowed := true }
def BasicStaysUptoSaid : Prop := basicStaysUptoRow.holds Tryz.pinned (OpenSpec.upto basicStaysSpec)

end Rows
end Go.Proofs.YtlkeaffppdeghaaGreat

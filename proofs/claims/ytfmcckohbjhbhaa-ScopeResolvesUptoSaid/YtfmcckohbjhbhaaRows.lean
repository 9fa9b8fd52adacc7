/-
  NARROWER THAN 'FOR EVERY INPUT', by the rows' own cells (each row's printed sentence says how): ScopeNothing: loops · ScopeResolves: loops · SpellExprs: loops · SpellPrograms: loops · SpellUnlike: loops.
  DERIVED. THE GIVEN ROWS OF THIS SEAT. 7 by the template 'for every input the law returns true; each argument reads behind the call as it read before'; 0 by the template 'total and deterministic' (their statements: YtfmcckohbjhbhaaTotals.lean).
  GIVEN WITH THE SEED: the statements are not yours to turn. If you find one false, say at which input.
  Laid BY PROGRAM, IN A SANDBOX (cutbox-rows.mjs): the forced cells as the released guide's own fill.sh prints them over the translation c0792008845e9180… (all of the seat's roots in one cut). By AI agents, Wed Nov 11 2026. No macro, syntax, notation, axiom, sorry.
-/
import Derived.Test.YtfmcckohbjhbhaaChecked
import GoSem.Claim
import GoSem.ClaimJoined
import GoSem.ClaimMapViews
import Derived.JoinedTies
import Derived.KernelRfl
namespace Go.Proofs.Ytfmcckohbjhbhaa
/- THE CELL 'sum', in the pinned program and in every row, IS THE sha256 OF THE DUMP (.gsa) THAT YtfmcckohbjhbhaaProg.lean LOADS. Nothing in Lean hashes anything: it is a label: what it is worth is what the hold of that sum in a sandbox is worth. -/
noncomputable def Try.pinned : Pinned := { name := "ytfmcckohbjhbhaa", sum := "c0792008845e91803d6a86b1f11bea7d6ab7a4ea7d4b29add7d588fc3f32f820", checked := Try.checked }
namespace Rows
def none {H : Type} : Left H := { results := [], args := [] }

/-- 'keyholelaw17.ScopeNames': WHATEVER THE INPUT: true; the input reads as it did. -/
def scopeNamesSpec : ChangeSpec := { name := "scopeNames", fn := fun _ => fun
  | [d1, d2] => { results := [.lit (.bool true)], args := [d1, d2] }
  | _ => none }
def scopeNamesRow : OpenClaim := { program := "ytfmcckohbjhbhaa", sum := "c0792008845e91803d6a86b1f11bea7d6ab7a4ea7d4b29add7d588fc3f32f820", func := "keyhole/keyholelaw17.ScopeNames", spec := "scopeNames", unfollowed := true, recurses := true, apart := false }
def ScopeNamesSaid : Prop := scopeNamesRow.holds Try.pinned (OpenSpec.ofChange scopeNamesSpec)

/-- ITS FALSE NEIGHBOUR: 'it returns false'. Refute it at one input. -/
def scopeNamesWrong : ChangeSpec := { name := "scopeNames", fn := fun _ => fun
  | [d1, d2] => { results := [.lit (.bool false)], args := [d1, d2] }
  | _ => none }
def ScopeNamesWrongFalsely : Prop := scopeNamesRow.holds Try.pinned (OpenSpec.ofChange scopeNamesWrong)

/-- 'keyholelaw17.ScopeNothing': WHATEVER THE INPUT: true; the input reads as it did. -/
def scopeNothingSpec : ChangeSpec := { name := "scopeNothing", fn := fun _ => fun
  | [d] => { results := [.lit (.bool true)], args := [d] }
  | _ => none }
def scopeNothingRow : OpenClaim := { program := "ytfmcckohbjhbhaa", sum := "c0792008845e91803d6a86b1f11bea7d6ab7a4ea7d4b29add7d588fc3f32f820", func := "keyhole/keyholelaw17.ScopeNothing", spec := "scopeNothing", unfollowed := true, recurses := true, loops := true, apart := false }
def ScopeNothingSaid : Prop := scopeNothingRow.holds Try.pinned (OpenSpec.ofChange scopeNothingSpec)

/-- ITS FALSE NEIGHBOUR: 'it returns false'. Refute it at one input. -/
def scopeNothingWrong : ChangeSpec := { name := "scopeNothing", fn := fun _ => fun
  | [d] => { results := [.lit (.bool false)], args := [d] }
  | _ => none }
def ScopeNothingWrongFalsely : Prop := scopeNothingRow.holds Try.pinned (OpenSpec.ofChange scopeNothingWrong)

/-- 'keyholelaw17.ScopeInner': WHATEVER THE INPUT: true; the input reads as it did. -/
def scopeInnerSpec : ChangeSpec := { name := "scopeInner", fn := fun _ => fun
  | [d1, d2] => { results := [.lit (.bool true)], args := [d1, d2] }
  | _ => none }
def scopeInnerRow : OpenClaim := { program := "ytfmcckohbjhbhaa", sum := "c0792008845e91803d6a86b1f11bea7d6ab7a4ea7d4b29add7d588fc3f32f820", func := "keyhole/keyholelaw17.ScopeInner", spec := "scopeInner", unfollowed := true, recurses := true, apart := false }
def ScopeInnerSaid : Prop := scopeInnerRow.holds Try.pinned (OpenSpec.ofChange scopeInnerSpec)

/-- ITS FALSE NEIGHBOUR: 'it returns false'. Refute it at one input. -/
def scopeInnerWrong : ChangeSpec := { name := "scopeInner", fn := fun _ => fun
  | [d1, d2] => { results := [.lit (.bool false)], args := [d1, d2] }
  | _ => none }
def ScopeInnerWrongFalsely : Prop := scopeInnerRow.holds Try.pinned (OpenSpec.ofChange scopeInnerWrong)

/-- 'keyholelaw17.ScopeResolves': WHATEVER THE INPUT: true; the input reads as it did. -/
def scopeResolvesSpec : ChangeSpec := { name := "scopeResolves", fn := fun _ => fun
  | [d] => { results := [.lit (.bool true)], args := [d] }
  | _ => none }
def scopeResolvesRow : OpenClaim := { program := "ytfmcckohbjhbhaa", sum := "c0792008845e91803d6a86b1f11bea7d6ab7a4ea7d4b29add7d588fc3f32f820", func := "keyhole/keyholelaw17.ScopeResolves", spec := "scopeResolves", unfollowed := true, recurses := true, loops := true, apart := false }
def ScopeResolvesSaid : Prop := scopeResolvesRow.holds Try.pinned (OpenSpec.ofChange scopeResolvesSpec)

/-- ITS FALSE NEIGHBOUR: 'it returns false'. Refute it at one input. -/
def scopeResolvesWrong : ChangeSpec := { name := "scopeResolves", fn := fun _ => fun
  | [d] => { results := [.lit (.bool false)], args := [d] }
  | _ => none }
def ScopeResolvesWrongFalsely : Prop := scopeResolvesRow.holds Try.pinned (OpenSpec.ofChange scopeResolvesWrong)

/-- 'keyholelaw16.SpellExprs': WHATEVER THE INPUT: true; the input reads as it did. -/
def spellExprsSpec : ChangeSpec := { name := "spellExprs", fn := fun _ => fun
  | [d] => { results := [.lit (.bool true)], args := [d] }
  | _ => none }
def spellExprsRow : OpenClaim := { program := "ytfmcckohbjhbhaa", sum := "c0792008845e91803d6a86b1f11bea7d6ab7a4ea7d4b29add7d588fc3f32f820", func := "keyhole/keyholelaw16.SpellExprs", spec := "spellExprs", inPlace := ["internal/abi.NoEscape", "internal/bytealg.MakeNoZero"], unfollowed := true, recurses := true, loops := true, apart := false }
def SpellExprsSaid : Prop := spellExprsRow.holds Try.pinned (OpenSpec.ofChange spellExprsSpec)

/-- ITS FALSE NEIGHBOUR: 'it returns false'. Refute it at one input. -/
def spellExprsWrong : ChangeSpec := { name := "spellExprs", fn := fun _ => fun
  | [d] => { results := [.lit (.bool false)], args := [d] }
  | _ => none }
def SpellExprsWrongFalsely : Prop := spellExprsRow.holds Try.pinned (OpenSpec.ofChange spellExprsWrong)

/-- 'keyholelaw16.SpellPrograms': WHATEVER THE INPUT: true; the input reads as it did. -/
def spellProgramsSpec : ChangeSpec := { name := "spellPrograms", fn := fun _ => fun
  | [d1, d2] => { results := [.lit (.bool true)], args := [d1, d2] }
  | _ => none }
def spellProgramsRow : OpenClaim := { program := "ytfmcckohbjhbhaa", sum := "c0792008845e91803d6a86b1f11bea7d6ab7a4ea7d4b29add7d588fc3f32f820", func := "keyhole/keyholelaw16.SpellPrograms", spec := "spellPrograms", inPlace := ["internal/abi.NoEscape", "internal/bytealg.MakeNoZero"], unfollowed := true, recurses := true, loops := true, apart := false }
def SpellProgramsSaid : Prop := spellProgramsRow.holds Try.pinned (OpenSpec.ofChange spellProgramsSpec)

/-- ITS FALSE NEIGHBOUR: 'it returns false'. Refute it at one input. -/
def spellProgramsWrong : ChangeSpec := { name := "spellPrograms", fn := fun _ => fun
  | [d1, d2] => { results := [.lit (.bool false)], args := [d1, d2] }
  | _ => none }
def SpellProgramsWrongFalsely : Prop := spellProgramsRow.holds Try.pinned (OpenSpec.ofChange spellProgramsWrong)

/-- 'keyholelaw16.SpellUnlike': WHATEVER THE INPUT: true; the input reads as it did. -/
def spellUnlikeSpec : ChangeSpec := { name := "spellUnlike", fn := fun _ => fun
  | [d1, d2] => { results := [.lit (.bool true)], args := [d1, d2] }
  | _ => none }
def spellUnlikeRow : OpenClaim := { program := "ytfmcckohbjhbhaa", sum := "c0792008845e91803d6a86b1f11bea7d6ab7a4ea7d4b29add7d588fc3f32f820", func := "keyhole/keyholelaw16.SpellUnlike", spec := "spellUnlike", inPlace := ["internal/abi.NoEscape", "internal/bytealg.MakeNoZero"], unfollowed := true, recurses := true, loops := true, apart := false }
def SpellUnlikeSaid : Prop := spellUnlikeRow.holds Try.pinned (OpenSpec.ofChange spellUnlikeSpec)

/-- ITS FALSE NEIGHBOUR: 'it returns false'. Refute it at one input. -/
def spellUnlikeWrong : ChangeSpec := { name := "spellUnlike", fn := fun _ => fun
  | [d1, d2] => { results := [.lit (.bool false)], args := [d1, d2] }
  | _ => none }
def SpellUnlikeWrongFalsely : Prop := spellUnlikeRow.holds Try.pinned (OpenSpec.ofChange spellUnlikeWrong)

/- THE SECOND FORM. 'bulk': how many values and letters a reading holds, each counted each time it is reached (what is shared counts as often as it is met; a slice's spare places count too). A statement '..UptoSaid' is the law's where the arguments, and the package variables that the reading takes, are together of bulk at most 1048576: NARROWER than '..Said'. Prove '..Said' where nothing that the law and all that it calls make is longer than what came in: it says more and counts as full. Else prove '..UptoSaid'. A law counts once. -/
mutual
def uptoBulk {H : Type} : DataW H → Nat
  | .lit (.string bytes) => bytes.length + 1
  | .lit _ => 1
  | .nil => 1
  | .ptr d => uptoBulk d + 1
  | .slice elems spare => uptoBulkAll elems + uptoBulkAll spare + 1
  | .agg parts => uptoBulkAll parts + 1
  | .iface _ d => uptoBulk d + 1
  | .map entries => uptoBulkEntries entries + 1
  | .held _ => 1
def uptoBulkAll {H : Type} : List (DataW H) → Nat
  | [] => 0
  | d :: r => uptoBulk d + uptoBulkAll r
def uptoBulkEntries {H : Type} : List (Lit × DataW H) → Nat
  | [] => 0
  | x :: r => uptoBulkEntry x + uptoBulkEntries r
def uptoBulkEntry {H : Type} : Lit × DataW H → Nat
  | (.string bytes, d) => bytes.length + uptoBulk d + 1
  | (_, d) => uptoBulk d + 1
 end
def uptoSmall : (H : Type) → List (DataW H) → Bool := fun _ ds => decide (uptoBulkAll ds ≤ 1048576)
def OpenSpec.upto (s : _root_.Go.ChangeSpec) : _root_.Go.OpenSpec := { _root_.Go.OpenSpec.ofChange s with cond := some uptoSmall }

/-- 'keyholelaw17.ScopeNames', WHERE WHAT IT READS IS OF BULK AT MOST 1048576: true; the input reads as it did. -/
def scopeNamesUptoRow : OpenClaim := { program := "ytfmcckohbjhbhaa", sum := "c0792008845e91803d6a86b1f11bea7d6ab7a4ea7d4b29add7d588fc3f32f820", func := "keyhole/keyholelaw17.ScopeNames", spec := "scopeNames", unfollowed := true, recurses := true, apart := false, narrowed := true }
def ScopeNamesUptoSaid : Prop := scopeNamesUptoRow.holds Try.pinned (OpenSpec.upto scopeNamesSpec)

/-- 'keyholelaw17.ScopeNothing', WHERE WHAT IT READS IS OF BULK AT MOST 1048576: true; the input reads as it did. -/
def scopeNothingUptoRow : OpenClaim := { program := "ytfmcckohbjhbhaa", sum := "c0792008845e91803d6a86b1f11bea7d6ab7a4ea7d4b29add7d588fc3f32f820", func := "keyhole/keyholelaw17.ScopeNothing", spec := "scopeNothing", unfollowed := true, recurses := true, loops := true, apart := false, narrowed := true }
def ScopeNothingUptoSaid : Prop := scopeNothingUptoRow.holds Try.pinned (OpenSpec.upto scopeNothingSpec)

/-- 'keyholelaw17.ScopeInner', WHERE WHAT IT READS IS OF BULK AT MOST 1048576: true; the input reads as it did. -/
def scopeInnerUptoRow : OpenClaim := { program := "ytfmcckohbjhbhaa", sum := "c0792008845e91803d6a86b1f11bea7d6ab7a4ea7d4b29add7d588fc3f32f820", func := "keyhole/keyholelaw17.ScopeInner", spec := "scopeInner", unfollowed := true, recurses := true, apart := false, narrowed := true }
def ScopeInnerUptoSaid : Prop := scopeInnerUptoRow.holds Try.pinned (OpenSpec.upto scopeInnerSpec)

/-- 'keyholelaw17.ScopeResolves', WHERE WHAT IT READS IS OF BULK AT MOST 1048576: true; the input reads as it did. -/
def scopeResolvesUptoRow : OpenClaim := { program := "ytfmcckohbjhbhaa", sum := "c0792008845e91803d6a86b1f11bea7d6ab7a4ea7d4b29add7d588fc3f32f820", func := "keyhole/keyholelaw17.ScopeResolves", spec := "scopeResolves", unfollowed := true, recurses := true, loops := true, apart := false, narrowed := true }
def ScopeResolvesUptoSaid : Prop := scopeResolvesUptoRow.holds Try.pinned (OpenSpec.upto scopeResolvesSpec)

/-- 'keyholelaw16.SpellExprs', WHERE WHAT IT READS IS OF BULK AT MOST 1048576: true; the input reads as it did. -/
def spellExprsUptoRow : OpenClaim := { program := "ytfmcckohbjhbhaa", sum := "c0792008845e91803d6a86b1f11bea7d6ab7a4ea7d4b29add7d588fc3f32f820", func := "keyhole/keyholelaw16.SpellExprs", spec := "spellExprs", inPlace := ["internal/abi.NoEscape", "internal/bytealg.MakeNoZero"], unfollowed := true, recurses := true, loops := true, apart := false, narrowed := true }
def SpellExprsUptoSaid : Prop := spellExprsUptoRow.holds Try.pinned (OpenSpec.upto spellExprsSpec)

/-- 'keyholelaw16.SpellPrograms', WHERE WHAT IT READS IS OF BULK AT MOST 1048576: true; the input reads as it did. -/
def spellProgramsUptoRow : OpenClaim := { program := "ytfmcckohbjhbhaa", sum := "c0792008845e91803d6a86b1f11bea7d6ab7a4ea7d4b29add7d588fc3f32f820", func := "keyhole/keyholelaw16.SpellPrograms", spec := "spellPrograms", inPlace := ["internal/abi.NoEscape", "internal/bytealg.MakeNoZero"], unfollowed := true, recurses := true, loops := true, apart := false, narrowed := true }
def SpellProgramsUptoSaid : Prop := spellProgramsUptoRow.holds Try.pinned (OpenSpec.upto spellProgramsSpec)

/-- 'keyholelaw16.SpellUnlike', WHERE WHAT IT READS IS OF BULK AT MOST 1048576: true; the input reads as it did. -/
def spellUnlikeUptoRow : OpenClaim := { program := "ytfmcckohbjhbhaa", sum := "c0792008845e91803d6a86b1f11bea7d6ab7a4ea7d4b29add7d588fc3f32f820", func := "keyhole/keyholelaw16.SpellUnlike", spec := "spellUnlike", inPlace := ["internal/abi.NoEscape", "internal/bytealg.MakeNoZero"], unfollowed := true, recurses := true, loops := true, apart := false, narrowed := true }
def SpellUnlikeUptoSaid : Prop := spellUnlikeUptoRow.holds Try.pinned (OpenSpec.upto spellUnlikeSpec)

end Rows
end Go.Proofs.Ytfmcckohbjhbhaa

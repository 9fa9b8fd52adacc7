/-
  NARROWER THAN 'FOR EVERY INPUT', by the rows' own cells (each row's printed sentence says how): OrderCompares: loops · TreeWalks: loops · TreeVars: loops · TreeParts: loops · TreeIs: loops · OrderTotal: loops · OrderSorted: loops · ScopeNothing: loops · ScopeResolves: loops · OrderSorts: loops.
  DERIVED. THE GIVEN ROWS OF THIS SEAT. 12 by the template 'for every input the law returns true; each argument reads behind the call as it read before'; 0 by the template 'total and deterministic' (their statements: YtgcnokfehgcbiaaTotals.lean).
  GIVEN WITH THE SEED: the statements are not yours to turn. If you find one false, say at which input.
  Laid BY PROGRAM, IN A SANDBOX (cutbox-rows.mjs): the forced cells as the released guide's own fill.sh prints them over the translation 445135e9161d5b10… (all of the seat's roots in one cut). By AI agents, Wed Nov 11 2026. No macro, syntax, notation, axiom, sorry.
-/
import Derived.Test.YtgcnokfehgcbiaaChecked
import GoSem.Claim
import GoSem.ClaimJoined
import GoSem.ClaimMapViews
import Derived.JoinedTies
import Derived.KernelRfl
namespace Go.Proofs.Ytgcnokfehgcbiaa
/- THE CELL 'sum', in the pinned program and in every row, IS THE sha256 OF THE DUMP (.gsa) THAT YtgcnokfehgcbiaaProg.lean LOADS. Nothing in Lean hashes anything: it is a label: what it is worth is what the hold of that sum in a sandbox is worth. -/
noncomputable def Try.pinned : Pinned := { name := "ytgcnokfehgcbiaa", sum := "445135e9161d5b10aa1c0d35066d14683d65d804cc6f65f2bd40e276f3c48028", checked := Try.checked }
namespace Rows
def none {H : Type} : Left H := { results := [], args := [] }

/-- 'keyholelaw07.OrderCompares': WHATEVER THE INPUT: true; the input reads as it did. -/
def orderComparesSpec : ChangeSpec := { name := "orderCompares", fn := fun _ => fun
  | [d1, d2] => { results := [.lit (.bool true)], args := [d1, d2] }
  | _ => none }
def orderComparesRow : OpenClaim := { program := "ytgcnokfehgcbiaa", sum := "445135e9161d5b10aa1c0d35066d14683d65d804cc6f65f2bd40e276f3c48028", func := "keyhole/keyholelaw07.OrderCompares", spec := "orderCompares", recurses := true, loops := true, apart := false }
def OrderComparesSaid : Prop := orderComparesRow.holds Try.pinned (OpenSpec.ofChange orderComparesSpec)

/-- ITS FALSE NEIGHBOUR: 'it returns false'. Refute it at one input. -/
def orderComparesWrong : ChangeSpec := { name := "orderCompares", fn := fun _ => fun
  | [d1, d2] => { results := [.lit (.bool false)], args := [d1, d2] }
  | _ => none }
def OrderComparesWrongFalsely : Prop := orderComparesRow.holds Try.pinned (OpenSpec.ofChange orderComparesWrong)

/-- 'keyholelaw14.TreeWalks': WHATEVER THE INPUT: true; the input reads as it did. -/
def treeWalksSpec : ChangeSpec := { name := "treeWalks", fn := fun _ => fun
  | [d1, d2, d3] => { results := [.lit (.bool true)], args := [d1, d2, d3] }
  | _ => none }
def treeWalksRow : OpenClaim := { program := "ytgcnokfehgcbiaa", sum := "445135e9161d5b10aa1c0d35066d14683d65d804cc6f65f2bd40e276f3c48028", func := "keyhole/keyholelaw14.TreeWalks", spec := "treeWalks", unfollowed := true, recurses := true, loops := true, apart := false }
def TreeWalksSaid : Prop := treeWalksRow.holds Try.pinned (OpenSpec.ofChange treeWalksSpec)

/-- ITS FALSE NEIGHBOUR: 'it returns false'. Refute it at one input. -/
def treeWalksWrong : ChangeSpec := { name := "treeWalks", fn := fun _ => fun
  | [d1, d2, d3] => { results := [.lit (.bool false)], args := [d1, d2, d3] }
  | _ => none }
def TreeWalksWrongFalsely : Prop := treeWalksRow.holds Try.pinned (OpenSpec.ofChange treeWalksWrong)

/-- 'keyholelaw14.TreeVars': WHATEVER THE INPUT: true; the input reads as it did. -/
def treeVarsSpec : ChangeSpec := { name := "treeVars", fn := fun _ => fun
  | [d] => { results := [.lit (.bool true)], args := [d] }
  | _ => none }
def treeVarsRow : OpenClaim := { program := "ytgcnokfehgcbiaa", sum := "445135e9161d5b10aa1c0d35066d14683d65d804cc6f65f2bd40e276f3c48028", func := "keyhole/keyholelaw14.TreeVars", spec := "treeVars", unfollowed := true, recurses := true, loops := true, apart := false }
def TreeVarsSaid : Prop := treeVarsRow.holds Try.pinned (OpenSpec.ofChange treeVarsSpec)

/-- ITS FALSE NEIGHBOUR: 'it returns false'. Refute it at one input. -/
def treeVarsWrong : ChangeSpec := { name := "treeVars", fn := fun _ => fun
  | [d] => { results := [.lit (.bool false)], args := [d] }
  | _ => none }
def TreeVarsWrongFalsely : Prop := treeVarsRow.holds Try.pinned (OpenSpec.ofChange treeVarsWrong)

/-- 'keyholelaw14.TreeParts': WHATEVER THE INPUT: true; the input reads as it did. -/
def treePartsSpec : ChangeSpec := { name := "treeParts", fn := fun _ => fun
  | [d] => { results := [.lit (.bool true)], args := [d] }
  | _ => none }
def treePartsRow : OpenClaim := { program := "ytgcnokfehgcbiaa", sum := "445135e9161d5b10aa1c0d35066d14683d65d804cc6f65f2bd40e276f3c48028", func := "keyhole/keyholelaw14.TreeParts", spec := "treeParts", unfollowed := true, recurses := true, loops := true, apart := false }
def TreePartsSaid : Prop := treePartsRow.holds Try.pinned (OpenSpec.ofChange treePartsSpec)

/-- ITS FALSE NEIGHBOUR: 'it returns false'. Refute it at one input. -/
def treePartsWrong : ChangeSpec := { name := "treeParts", fn := fun _ => fun
  | [d] => { results := [.lit (.bool false)], args := [d] }
  | _ => none }
def TreePartsWrongFalsely : Prop := treePartsRow.holds Try.pinned (OpenSpec.ofChange treePartsWrong)

/-- 'keyholelaw14.TreeIs': WHATEVER THE INPUT: true; the input reads as it did. -/
def treeIsSpec : ChangeSpec := { name := "treeIs", fn := fun _ => fun
  | [d1, d2] => { results := [.lit (.bool true)], args := [d1, d2] }
  | _ => none }
def treeIsRow : OpenClaim := { program := "ytgcnokfehgcbiaa", sum := "445135e9161d5b10aa1c0d35066d14683d65d804cc6f65f2bd40e276f3c48028", func := "keyhole/keyholelaw14.TreeIs", spec := "treeIs", unfollowed := true, recurses := true, loops := true, apart := false }
def TreeIsSaid : Prop := treeIsRow.holds Try.pinned (OpenSpec.ofChange treeIsSpec)

/-- ITS FALSE NEIGHBOUR: 'it returns false'. Refute it at one input. -/
def treeIsWrong : ChangeSpec := { name := "treeIs", fn := fun _ => fun
  | [d1, d2] => { results := [.lit (.bool false)], args := [d1, d2] }
  | _ => none }
def TreeIsWrongFalsely : Prop := treeIsRow.holds Try.pinned (OpenSpec.ofChange treeIsWrong)

/-- 'keyholelaw07.OrderTotal': WHATEVER THE INPUT: true; the input reads as it did. -/
def orderTotalSpec : ChangeSpec := { name := "orderTotal", fn := fun _ => fun
  | [d1, d2] => { results := [.lit (.bool true)], args := [d1, d2] }
  | _ => none }
def orderTotalRow : OpenClaim := { program := "ytgcnokfehgcbiaa", sum := "445135e9161d5b10aa1c0d35066d14683d65d804cc6f65f2bd40e276f3c48028", func := "keyhole/keyholelaw07.OrderTotal", spec := "orderTotal", unfollowed := true, recurses := true, loops := true, apart := false }
def OrderTotalSaid : Prop := orderTotalRow.holds Try.pinned (OpenSpec.ofChange orderTotalSpec)

/-- ITS FALSE NEIGHBOUR: 'it returns false'. Refute it at one input. -/
def orderTotalWrong : ChangeSpec := { name := "orderTotal", fn := fun _ => fun
  | [d1, d2] => { results := [.lit (.bool false)], args := [d1, d2] }
  | _ => none }
def OrderTotalWrongFalsely : Prop := orderTotalRow.holds Try.pinned (OpenSpec.ofChange orderTotalWrong)

/-- 'keyholelaw07.OrderSorted': WHATEVER THE INPUT: true; the input reads as it did. -/
def orderSortedSpec : ChangeSpec := { name := "orderSorted", fn := fun _ => fun
  | [d] => { results := [.lit (.bool true)], args := [d] }
  | _ => none }
def orderSortedRow : OpenClaim := { program := "ytgcnokfehgcbiaa", sum := "445135e9161d5b10aa1c0d35066d14683d65d804cc6f65f2bd40e276f3c48028", func := "keyhole/keyholelaw07.OrderSorted", spec := "orderSorted", unfollowed := true, recurses := true, loops := true, apart := false }
def OrderSortedSaid : Prop := orderSortedRow.holds Try.pinned (OpenSpec.ofChange orderSortedSpec)

/-- ITS FALSE NEIGHBOUR: 'it returns false'. Refute it at one input. -/
def orderSortedWrong : ChangeSpec := { name := "orderSorted", fn := fun _ => fun
  | [d] => { results := [.lit (.bool false)], args := [d] }
  | _ => none }
def OrderSortedWrongFalsely : Prop := orderSortedRow.holds Try.pinned (OpenSpec.ofChange orderSortedWrong)

/-- 'keyholelaw17.ScopeNames': WHATEVER THE INPUT: true; the input reads as it did. -/
def scopeNamesSpec : ChangeSpec := { name := "scopeNames", fn := fun _ => fun
  | [d1, d2] => { results := [.lit (.bool true)], args := [d1, d2] }
  | _ => none }
def scopeNamesRow : OpenClaim := { program := "ytgcnokfehgcbiaa", sum := "445135e9161d5b10aa1c0d35066d14683d65d804cc6f65f2bd40e276f3c48028", func := "keyhole/keyholelaw17.ScopeNames", spec := "scopeNames", unfollowed := true, recurses := true, apart := false }
def ScopeNamesSaid : Prop := scopeNamesRow.holds Try.pinned (OpenSpec.ofChange scopeNamesSpec)

/-- ITS FALSE NEIGHBOUR: 'it returns false'. Refute it at one input. -/
def scopeNamesWrong : ChangeSpec := { name := "scopeNames", fn := fun _ => fun
  | [d1, d2] => { results := [.lit (.bool false)], args := [d1, d2] }
  | _ => none }
def ScopeNamesWrongFalsely : Prop := scopeNamesRow.holds Try.pinned (OpenSpec.ofChange scopeNamesWrong)

/-- 'keyholelaw17.ScopeNothing': WHATEVER THE INPUT: true; the input reads as it did. -/
def scopeNothingSpec : ChangeSpec := { name := "scopeNothing", fn := fun _ => fun
  | [d] => { results := [.lit (.bool true)], args := [d] }
  | _ => none }
def scopeNothingRow : OpenClaim := { program := "ytgcnokfehgcbiaa", sum := "445135e9161d5b10aa1c0d35066d14683d65d804cc6f65f2bd40e276f3c48028", func := "keyhole/keyholelaw17.ScopeNothing", spec := "scopeNothing", unfollowed := true, recurses := true, loops := true, apart := false }
def ScopeNothingSaid : Prop := scopeNothingRow.holds Try.pinned (OpenSpec.ofChange scopeNothingSpec)

/-- ITS FALSE NEIGHBOUR: 'it returns false'. Refute it at one input. -/
def scopeNothingWrong : ChangeSpec := { name := "scopeNothing", fn := fun _ => fun
  | [d] => { results := [.lit (.bool false)], args := [d] }
  | _ => none }
def ScopeNothingWrongFalsely : Prop := scopeNothingRow.holds Try.pinned (OpenSpec.ofChange scopeNothingWrong)

/-- 'keyholelaw17.ScopeInner': WHATEVER THE INPUT: true; the input reads as it did. -/
def scopeInnerSpec : ChangeSpec := { name := "scopeInner", fn := fun _ => fun
  | [d1, d2] => { results := [.lit (.bool true)], args := [d1, d2] }
  | _ => none }
def scopeInnerRow : OpenClaim := { program := "ytgcnokfehgcbiaa", sum := "445135e9161d5b10aa1c0d35066d14683d65d804cc6f65f2bd40e276f3c48028", func := "keyhole/keyholelaw17.ScopeInner", spec := "scopeInner", unfollowed := true, recurses := true, apart := false }
def ScopeInnerSaid : Prop := scopeInnerRow.holds Try.pinned (OpenSpec.ofChange scopeInnerSpec)

/-- ITS FALSE NEIGHBOUR: 'it returns false'. Refute it at one input. -/
def scopeInnerWrong : ChangeSpec := { name := "scopeInner", fn := fun _ => fun
  | [d1, d2] => { results := [.lit (.bool false)], args := [d1, d2] }
  | _ => none }
def ScopeInnerWrongFalsely : Prop := scopeInnerRow.holds Try.pinned (OpenSpec.ofChange scopeInnerWrong)

/-- 'keyholelaw17.ScopeResolves': WHATEVER THE INPUT: true; the input reads as it did. -/
def scopeResolvesSpec : ChangeSpec := { name := "scopeResolves", fn := fun _ => fun
  | [d] => { results := [.lit (.bool true)], args := [d] }
  | _ => none }
def scopeResolvesRow : OpenClaim := { program := "ytgcnokfehgcbiaa", sum := "445135e9161d5b10aa1c0d35066d14683d65d804cc6f65f2bd40e276f3c48028", func := "keyhole/keyholelaw17.ScopeResolves", spec := "scopeResolves", unfollowed := true, recurses := true, loops := true, apart := false }
def ScopeResolvesSaid : Prop := scopeResolvesRow.holds Try.pinned (OpenSpec.ofChange scopeResolvesSpec)

/-- ITS FALSE NEIGHBOUR: 'it returns false'. Refute it at one input. -/
def scopeResolvesWrong : ChangeSpec := { name := "scopeResolves", fn := fun _ => fun
  | [d] => { results := [.lit (.bool false)], args := [d] }
  | _ => none }
def ScopeResolvesWrongFalsely : Prop := scopeResolvesRow.holds Try.pinned (OpenSpec.ofChange scopeResolvesWrong)

/-- 'keyholelaw07.OrderSorts': WHATEVER THE INPUT: true; the input reads as it did. -/
def orderSortsSpec : ChangeSpec := { name := "orderSorts", fn := fun _ => fun
  | [d1, d2] => { results := [.lit (.bool true)], args := [d1, d2] }
  | _ => none }
def orderSortsRow : OpenClaim := { program := "ytgcnokfehgcbiaa", sum := "445135e9161d5b10aa1c0d35066d14683d65d804cc6f65f2bd40e276f3c48028", func := "keyhole/keyholelaw07.OrderSorts", spec := "orderSorts", unfollowed := true, recurses := true, loops := true, apart := false }
def OrderSortsSaid : Prop := orderSortsRow.holds Try.pinned (OpenSpec.ofChange orderSortsSpec)

/-- ITS FALSE NEIGHBOUR: 'it returns false'. Refute it at one input. -/
def orderSortsWrong : ChangeSpec := { name := "orderSorts", fn := fun _ => fun
  | [d1, d2] => { results := [.lit (.bool false)], args := [d1, d2] }
  | _ => none }
def OrderSortsWrongFalsely : Prop := orderSortsRow.holds Try.pinned (OpenSpec.ofChange orderSortsWrong)

/- THE SECOND FORM. 'bulk': how many values and letters a reading holds, each counted each time it is reached (what is shared counts as often as it is met; a slice's spare places count too). A statement '..UptoSaid' is the law's where the arguments, and the package variables that the reading takes, are together of bulk at most 1048576: NARROWER than '..Said'. Prove '..Said' where nothing that the law and all that it calls make is longer than what came in: it says more and counts as full. Else prove '..UptoSaid'. A law counts once. -/
mutual
def uptoBulk {H : Type} : DataW H → Nat
  | .lit (.string bytes) => bytes.length + 1
  | .lit _ => 1
  | .nil => 1
  | .ptr d => uptoBulk d + 1
  | .slice elems spare => uptoBulkAll elems + uptoBulkAll spare + 1
  | .agg parts => uptoBulkAll parts + 1
  | .iface _ d => uptoBulk d + 1
  | .map entries => uptoBulkEntries entries + 1
  | .held _ => 1
def uptoBulkAll {H : Type} : List (DataW H) → Nat
  | [] => 0
  | d :: r => uptoBulk d + uptoBulkAll r
def uptoBulkEntries {H : Type} : List (Lit × DataW H) → Nat
  | [] => 0
  | x :: r => uptoBulkEntry x + uptoBulkEntries r
def uptoBulkEntry {H : Type} : Lit × DataW H → Nat
  | (.string bytes, d) => bytes.length + uptoBulk d + 1
  | (_, d) => uptoBulk d + 1
 end
def uptoSmall : (H : Type) → List (DataW H) → Bool := fun _ ds => decide (uptoBulkAll ds ≤ 1048576)
def OpenSpec.upto (s : _root_.Go.ChangeSpec) : _root_.Go.OpenSpec := { _root_.Go.OpenSpec.ofChange s with cond := some uptoSmall }

/-- 'keyholelaw07.OrderCompares', WHERE WHAT IT READS IS OF BULK AT MOST 1048576: true; the input reads as it did. -/
def orderComparesUptoRow : OpenClaim := { program := "ytgcnokfehgcbiaa", sum := "445135e9161d5b10aa1c0d35066d14683d65d804cc6f65f2bd40e276f3c48028", func := "keyhole/keyholelaw07.OrderCompares", spec := "orderCompares", recurses := true, loops := true, apart := false, narrowed := true }
def OrderComparesUptoSaid : Prop := orderComparesUptoRow.holds Try.pinned (OpenSpec.upto orderComparesSpec)

/-- 'keyholelaw14.TreeWalks', WHERE WHAT IT READS IS OF BULK AT MOST 1048576: true; the input reads as it did. -/
def treeWalksUptoRow : OpenClaim := { program := "ytgcnokfehgcbiaa", sum := "445135e9161d5b10aa1c0d35066d14683d65d804cc6f65f2bd40e276f3c48028", func := "keyhole/keyholelaw14.TreeWalks", spec := "treeWalks", unfollowed := true, recurses := true, loops := true, apart := false, narrowed := true }
def TreeWalksUptoSaid : Prop := treeWalksUptoRow.holds Try.pinned (OpenSpec.upto treeWalksSpec)

/-- 'keyholelaw14.TreeVars', WHERE WHAT IT READS IS OF BULK AT MOST 1048576: true; the input reads as it did. -/
def treeVarsUptoRow : OpenClaim := { program := "ytgcnokfehgcbiaa", sum := "445135e9161d5b10aa1c0d35066d14683d65d804cc6f65f2bd40e276f3c48028", func := "keyhole/keyholelaw14.TreeVars", spec := "treeVars", unfollowed := true, recurses := true, loops := true, apart := false, narrowed := true }
def TreeVarsUptoSaid : Prop := treeVarsUptoRow.holds Try.pinned (OpenSpec.upto treeVarsSpec)

/-- 'keyholelaw14.TreeParts', WHERE WHAT IT READS IS OF BULK AT MOST 1048576: true; the input reads as it did. -/
def treePartsUptoRow : OpenClaim := { program := "ytgcnokfehgcbiaa", sum := "445135e9161d5b10aa1c0d35066d14683d65d804cc6f65f2bd40e276f3c48028", func := "keyhole/keyholelaw14.TreeParts", spec := "treeParts", unfollowed := true, recurses := true, loops := true, apart := false, narrowed := true }
def TreePartsUptoSaid : Prop := treePartsUptoRow.holds Try.pinned (OpenSpec.upto treePartsSpec)

/-- 'keyholelaw14.TreeIs', WHERE WHAT IT READS IS OF BULK AT MOST 1048576: true; the input reads as it did. -/
def treeIsUptoRow : OpenClaim := { program := "ytgcnokfehgcbiaa", sum := "445135e9161d5b10aa1c0d35066d14683d65d804cc6f65f2bd40e276f3c48028", func := "keyhole/keyholelaw14.TreeIs", spec := "treeIs", unfollowed := true, recurses := true, loops := true, apart := false, narrowed := true }
def TreeIsUptoSaid : Prop := treeIsUptoRow.holds Try.pinned (OpenSpec.upto treeIsSpec)

/-- 'keyholelaw07.OrderTotal', WHERE WHAT IT READS IS OF BULK AT MOST 1048576: true; the input reads as it did. -/
def orderTotalUptoRow : OpenClaim := { program := "ytgcnokfehgcbiaa", sum := "445135e9161d5b10aa1c0d35066d14683d65d804cc6f65f2bd40e276f3c48028", func := "keyhole/keyholelaw07.OrderTotal", spec := "orderTotal", unfollowed := true, recurses := true, loops := true, apart := false, narrowed := true }
def OrderTotalUptoSaid : Prop := orderTotalUptoRow.holds Try.pinned (OpenSpec.upto orderTotalSpec)

/-- 'keyholelaw07.OrderSorted', WHERE WHAT IT READS IS OF BULK AT MOST 1048576: true; the input reads as it did. -/
def orderSortedUptoRow : OpenClaim := { program := "ytgcnokfehgcbiaa", sum := "445135e9161d5b10aa1c0d35066d14683d65d804cc6f65f2bd40e276f3c48028", func := "keyhole/keyholelaw07.OrderSorted", spec := "orderSorted", unfollowed := true, recurses := true, loops := true, apart := false, narrowed := true }
def OrderSortedUptoSaid : Prop := orderSortedUptoRow.holds Try.pinned (OpenSpec.upto orderSortedSpec)

/-- 'keyholelaw17.ScopeNames', WHERE WHAT IT READS IS OF BULK AT MOST 1048576: true; the input reads as it did. -/
def scopeNamesUptoRow : OpenClaim := { program := "ytgcnokfehgcbiaa", sum := "445135e9161d5b10aa1c0d35066d14683d65d804cc6f65f2bd40e276f3c48028", func := "keyhole/keyholelaw17.ScopeNames", spec := "scopeNames", unfollowed := true, recurses := true, apart := false, narrowed := true }
def ScopeNamesUptoSaid : Prop := scopeNamesUptoRow.holds Try.pinned (OpenSpec.upto scopeNamesSpec)

/-- 'keyholelaw17.ScopeNothing', WHERE WHAT IT READS IS OF BULK AT MOST 1048576: true; the input reads as it did. -/
def scopeNothingUptoRow : OpenClaim := { program := "ytgcnokfehgcbiaa", sum := "445135e9161d5b10aa1c0d35066d14683d65d804cc6f65f2bd40e276f3c48028", func := "keyhole/keyholelaw17.ScopeNothing", spec := "scopeNothing", unfollowed := true, recurses := true, loops := true, apart := false, narrowed := true }
def ScopeNothingUptoSaid : Prop := scopeNothingUptoRow.holds Try.pinned (OpenSpec.upto scopeNothingSpec)

/-- 'keyholelaw17.ScopeInner', WHERE WHAT IT READS IS OF BULK AT MOST 1048576: true; the input reads as it did. -/
def scopeInnerUptoRow : OpenClaim := { program := "ytgcnokfehgcbiaa", sum := "445135e9161d5b10aa1c0d35066d14683d65d804cc6f65f2bd40e276f3c48028", func := "keyhole/keyholelaw17.ScopeInner", spec := "scopeInner", unfollowed := true, recurses := true, apart := false, narrowed := true }
def ScopeInnerUptoSaid : Prop := scopeInnerUptoRow.holds Try.pinned (OpenSpec.upto scopeInnerSpec)

/-- 'keyholelaw17.ScopeResolves', WHERE WHAT IT READS IS OF BULK AT MOST 1048576: true; the input reads as it did. -/
def scopeResolvesUptoRow : OpenClaim := { program := "ytgcnokfehgcbiaa", sum := "445135e9161d5b10aa1c0d35066d14683d65d804cc6f65f2bd40e276f3c48028", func := "keyhole/keyholelaw17.ScopeResolves", spec := "scopeResolves", unfollowed := true, recurses := true, loops := true, apart := false, narrowed := true }
def ScopeResolvesUptoSaid : Prop := scopeResolvesUptoRow.holds Try.pinned (OpenSpec.upto scopeResolvesSpec)

/-- 'keyholelaw07.OrderSorts', WHERE WHAT IT READS IS OF BULK AT MOST 1048576: true; the input reads as it did. -/
def orderSortsUptoRow : OpenClaim := { program := "ytgcnokfehgcbiaa", sum := "445135e9161d5b10aa1c0d35066d14683d65d804cc6f65f2bd40e276f3c48028", func := "keyhole/keyholelaw07.OrderSorts", spec := "orderSorts", unfollowed := true, recurses := true, loops := true, apart := false, narrowed := true }
def OrderSortsUptoSaid : Prop := orderSortsUptoRow.holds Try.pinned (OpenSpec.upto orderSortsSpec)

end Rows
end Go.Proofs.Ytgcnokfehgcbiaa

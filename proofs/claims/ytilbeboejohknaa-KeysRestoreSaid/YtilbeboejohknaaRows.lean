/-
  No cell of these rows narrows 'for every input' (looked for: loops, veiled, ifaces, maps, wideKeys, modest, calm, conditions, laid).
  DERIVED. THE GIVEN ROWS OF THIS SEAT. 5 by the template 'for every input the law returns true; each argument reads behind the call as it read before'; 0 by the template 'total and deterministic' (their statements: YtilbeboejohknaaTotals.lean).
  GIVEN WITH THE SEED: the statements are not yours to turn. If you find one false, say at which input.
  Laid BY PROGRAM, IN A SANDBOX (cutbox-rows.mjs): the forced cells as the released guide's own fill.sh prints them over the translation 732cd8e3200f9cbe… (all of the seat's roots in one cut). By AI agents, Wed Nov 11 2026. No macro, syntax, notation, axiom, sorry.
-/
import Derived.Test.YtilbeboejohknaaChecked
import GoSem.Claim
import GoSem.ClaimJoined
import GoSem.ClaimMapViews
import Derived.JoinedTies
import Derived.KernelRfl
namespace Go.Proofs.Ytilbeboejohknaa
/- THE CELL 'sum', in the pinned program and in every row, IS THE sha256 OF THE DUMP (.gsa) THAT YtilbeboejohknaaProg.lean LOADS. Nothing in Lean hashes anything: it is a label: what it is worth is what the hold of that sum in a sandbox is worth. -/
noncomputable def Try.pinned : Pinned := { name := "ytilbeboejohknaa", sum := "732cd8e3200f9cbea25a97a859acc4d93fc94b490e7f764c2176c6662471c457", checked := Try.checked }
namespace Rows
def none {H : Type} : Left H := { results := [], args := [] }

/-- 'mooringlaw05.KeysMatchReference': WHATEVER THE INPUT: true; the input reads as it did. -/
def keysMatchReferenceSpec : ChangeSpec := { name := "keysMatchReference", fn := fun _ => fun
  | [d] => { results := [.lit (.bool true)], args := [d] }
  | _ => none }
def keysMatchReferenceRow : OpenClaim := { program := "ytilbeboejohknaa", sum := "732cd8e3200f9cbea25a97a859acc4d93fc94b490e7f764c2176c6662471c457", func := "mooring/mooringlaw05.KeysMatchReference", spec := "keysMatchReference", unfollowed := true, recurses := true, apart := false }
def KeysMatchReferenceSaid : Prop := keysMatchReferenceRow.holds Try.pinned (OpenSpec.ofChange keysMatchReferenceSpec)

/-- ITS FALSE NEIGHBOUR: 'it returns false'. Refute it at one input. -/
def keysMatchReferenceWrong : ChangeSpec := { name := "keysMatchReference", fn := fun _ => fun
  | [d] => { results := [.lit (.bool false)], args := [d] }
  | _ => none }
def KeysMatchReferenceWrongFalsely : Prop := keysMatchReferenceRow.holds Try.pinned (OpenSpec.ofChange keysMatchReferenceWrong)

/-- 'mooringlaw05.KeysConstants': WHATEVER THE INPUT: true; the input reads as it did. -/
def keysConstantsSpec : ChangeSpec := { name := "keysConstants", fn := fun _ => fun
  | [d] => { results := [.lit (.bool true)], args := [d] }
  | _ => none }
def keysConstantsRow : OpenClaim := { program := "ytilbeboejohknaa", sum := "732cd8e3200f9cbea25a97a859acc4d93fc94b490e7f764c2176c6662471c457", func := "mooring/mooringlaw05.KeysConstants", spec := "keysConstants", unfollowed := true, recurses := true, apart := false }
def KeysConstantsSaid : Prop := keysConstantsRow.holds Try.pinned (OpenSpec.ofChange keysConstantsSpec)

/-- ITS FALSE NEIGHBOUR: 'it returns false'. Refute it at one input. -/
def keysConstantsWrong : ChangeSpec := { name := "keysConstants", fn := fun _ => fun
  | [d] => { results := [.lit (.bool false)], args := [d] }
  | _ => none }
def KeysConstantsWrongFalsely : Prop := keysConstantsRow.holds Try.pinned (OpenSpec.ofChange keysConstantsWrong)

/-- 'mooringlaw05.KeysRestore': WHATEVER THE INPUT: true; the input reads as it did. -/
def keysRestoreSpec : ChangeSpec := { name := "keysRestore", fn := fun _ => fun
  | [d1, d2] => { results := [.lit (.bool true)], args := [d1, d2] }
  | _ => none }
def keysRestoreRow : OpenClaim := { program := "ytilbeboejohknaa", sum := "732cd8e3200f9cbea25a97a859acc4d93fc94b490e7f764c2176c6662471c457", func := "mooring/mooringlaw05.KeysRestore", spec := "keysRestore", unfollowed := true, recurses := true, apart := false }
def KeysRestoreSaid : Prop := keysRestoreRow.holds Try.pinned (OpenSpec.ofChange keysRestoreSpec)

/-- ITS FALSE NEIGHBOUR: 'it returns false'. Refute it at one input. -/
def keysRestoreWrong : ChangeSpec := { name := "keysRestore", fn := fun _ => fun
  | [d1, d2] => { results := [.lit (.bool false)], args := [d1, d2] }
  | _ => none }
def KeysRestoreWrongFalsely : Prop := keysRestoreRow.holds Try.pinned (OpenSpec.ofChange keysRestoreWrong)

/-- 'mooringlaw05.KeysApart': WHATEVER THE INPUT: true; the input reads as it did. -/
def keysApartSpec : ChangeSpec := { name := "keysApart", fn := fun _ => fun
  | [d1, d2, d3] => { results := [.lit (.bool true)], args := [d1, d2, d3] }
  | _ => none }
def keysApartRow : OpenClaim := { program := "ytilbeboejohknaa", sum := "732cd8e3200f9cbea25a97a859acc4d93fc94b490e7f764c2176c6662471c457", func := "mooring/mooringlaw05.KeysApart", spec := "keysApart", unfollowed := true, recurses := true, apart := false }
def KeysApartSaid : Prop := keysApartRow.holds Try.pinned (OpenSpec.ofChange keysApartSpec)

/-- ITS FALSE NEIGHBOUR: 'it returns false'. Refute it at one input. -/
def keysApartWrong : ChangeSpec := { name := "keysApart", fn := fun _ => fun
  | [d1, d2, d3] => { results := [.lit (.bool false)], args := [d1, d2, d3] }
  | _ => none }
def KeysApartWrongFalsely : Prop := keysApartRow.holds Try.pinned (OpenSpec.ofChange keysApartWrong)

/-- 'mooringlaw05.KeysFollow': WHATEVER THE INPUT: true; the input reads as it did. -/
def keysFollowSpec : ChangeSpec := { name := "keysFollow", fn := fun _ => fun
  | [d] => { results := [.lit (.bool true)], args := [d] }
  | _ => none }
def keysFollowRow : OpenClaim := { program := "ytilbeboejohknaa", sum := "732cd8e3200f9cbea25a97a859acc4d93fc94b490e7f764c2176c6662471c457", func := "mooring/mooringlaw05.KeysFollow", spec := "keysFollow", unfollowed := true, recurses := true, apart := false }
def KeysFollowSaid : Prop := keysFollowRow.holds Try.pinned (OpenSpec.ofChange keysFollowSpec)

/-- ITS FALSE NEIGHBOUR: 'it returns false'. Refute it at one input. -/
def keysFollowWrong : ChangeSpec := { name := "keysFollow", fn := fun _ => fun
  | [d] => { results := [.lit (.bool false)], args := [d] }
  | _ => none }
def KeysFollowWrongFalsely : Prop := keysFollowRow.holds Try.pinned (OpenSpec.ofChange keysFollowWrong)

/- THE SECOND FORM. 'bulk': how many values and letters a reading holds, each counted each time it is reached (what is shared counts as often as it is met; a slice's spare places count too). A statement '..UptoSaid' is the law's where the arguments, and the package variables that the reading takes, are together of bulk at most 1048576: NARROWER than '..Said'. Prove '..Said' where nothing that the law and all that it calls make is longer than what came in: it says more and counts as full. Else prove '..UptoSaid'. A law counts once. -/
mutual
def uptoBulk {H : Type} : DataW H → Nat
  | .lit (.string bytes) => bytes.length + 1
  | .lit _ => 1
  | .nil => 1
  | .ptr d => uptoBulk d + 1
  | .slice elems spare => uptoBulkAll elems + uptoBulkAll spare + 1
  | .agg parts => uptoBulkAll parts + 1
  | .iface _ d => uptoBulk d + 1
  | .map entries => uptoBulkEntries entries + 1
  | .held _ => 1
def uptoBulkAll {H : Type} : List (DataW H) → Nat
  | [] => 0
  | d :: r => uptoBulk d + uptoBulkAll r
def uptoBulkEntries {H : Type} : List (Lit × DataW H) → Nat
  | [] => 0
  | x :: r => uptoBulkEntry x + uptoBulkEntries r
def uptoBulkEntry {H : Type} : Lit × DataW H → Nat
  | (.string bytes, d) => bytes.length + uptoBulk d + 1
  | (_, d) => uptoBulk d + 1
 end
def uptoSmall : (H : Type) → List (DataW H) → Bool := fun _ ds => decide (uptoBulkAll ds ≤ 1048576)
def OpenSpec.upto (s : _root_.Go.ChangeSpec) : _root_.Go.OpenSpec := { _root_.Go.OpenSpec.ofChange s with cond := some uptoSmall }

/-- 'mooringlaw05.KeysMatchReference', WHERE WHAT IT READS IS OF BULK AT MOST 1048576: true; the input reads as it did. -/
def keysMatchReferenceUptoRow : OpenClaim := { program := "ytilbeboejohknaa", sum := "732cd8e3200f9cbea25a97a859acc4d93fc94b490e7f764c2176c6662471c457", func := "mooring/mooringlaw05.KeysMatchReference", spec := "keysMatchReference", unfollowed := true, recurses := true, apart := false, narrowed := true }
def KeysMatchReferenceUptoSaid : Prop := keysMatchReferenceUptoRow.holds Try.pinned (OpenSpec.upto keysMatchReferenceSpec)

/-- 'mooringlaw05.KeysConstants', WHERE WHAT IT READS IS OF BULK AT MOST 1048576: true; the input reads as it did. -/
def keysConstantsUptoRow : OpenClaim := { program := "ytilbeboejohknaa", sum := "732cd8e3200f9cbea25a97a859acc4d93fc94b490e7f764c2176c6662471c457", func := "mooring/mooringlaw05.KeysConstants", spec := "keysConstants", unfollowed := true, recurses := true, apart := false, narrowed := true }
def KeysConstantsUptoSaid : Prop := keysConstantsUptoRow.holds Try.pinned (OpenSpec.upto keysConstantsSpec)

/-- 'mooringlaw05.KeysRestore', WHERE WHAT IT READS IS OF BULK AT MOST 1048576: true; the input reads as it did. -/
def keysRestoreUptoRow : OpenClaim := { program := "ytilbeboejohknaa", sum := "732cd8e3200f9cbea25a97a859acc4d93fc94b490e7f764c2176c6662471c457", func := "mooring/mooringlaw05.KeysRestore", spec := "keysRestore", unfollowed := true, recurses := true, apart := false, narrowed := true }
def KeysRestoreUptoSaid : Prop := keysRestoreUptoRow.holds Try.pinned (OpenSpec.upto keysRestoreSpec)

/-- 'mooringlaw05.KeysApart', WHERE WHAT IT READS IS OF BULK AT MOST 1048576: true; the input reads as it did. -/
def keysApartUptoRow : OpenClaim := { program := "ytilbeboejohknaa", sum := "732cd8e3200f9cbea25a97a859acc4d93fc94b490e7f764c2176c6662471c457", func := "mooring/mooringlaw05.KeysApart", spec := "keysApart", unfollowed := true, recurses := true, apart := false, narrowed := true }
def KeysApartUptoSaid : Prop := keysApartUptoRow.holds Try.pinned (OpenSpec.upto keysApartSpec)

/-- 'mooringlaw05.KeysFollow', WHERE WHAT IT READS IS OF BULK AT MOST 1048576: true; the input reads as it did. -/
def keysFollowUptoRow : OpenClaim := { program := "ytilbeboejohknaa", sum := "732cd8e3200f9cbea25a97a859acc4d93fc94b490e7f764c2176c6662471c457", func := "mooring/mooringlaw05.KeysFollow", spec := "keysFollow", unfollowed := true, recurses := true, apart := false, narrowed := true }
def KeysFollowUptoSaid : Prop := keysFollowUptoRow.holds Try.pinned (OpenSpec.upto keysFollowSpec)

end Rows
end Go.Proofs.Ytilbeboejohknaa

/-
  No cell of these rows narrows 'for every input' (looked for: loops, veiled, ifaces, maps, wideKeys, modest, calm, conditions, laid).
  DERIVED. THE GIVEN ROWS OF THIS SEAT. 5 by the template 'for every input the law returns true; each argument reads behind the call as it read before'; 0 by the template 'total and deterministic' (their statements: YtpnoeggnniagfaaTotals.lean).
  GIVEN WITH THE SEED: the statements are not yours to turn. If you find one false, say at which input.
  Laid BY PROGRAM, IN A SANDBOX (cutbox-rows.mjs): the forced cells as the released guide's own fill.sh prints them over the translation 381fc681bc93a328… (all of the seat's roots in one cut). By AI agents, Wed Nov 11 2026. No macro, syntax, notation, axiom, sorry.
-/
import Derived.Test.YtpnoeggnniagfaaChecked
import GoSem.Claim
import GoSem.ClaimJoined
import GoSem.ClaimMapViews
import Derived.JoinedTies
import Derived.KernelRfl
namespace Go.Proofs.Ytpnoeggnniagfaa
/- THE CELL 'sum', in the pinned program and in every row, IS THE sha256 OF THE DUMP (.gsa) THAT YtpnoeggnniagfaaProg.lean LOADS. Nothing in Lean hashes anything: it is a label: what it is worth is what the hold of that sum in a sandbox is worth. -/
noncomputable def Try.pinned : Pinned := { name := "ytpnoeggnniagfaa", sum := "381fc681bc93a328457e069327507fcdbf9a7a5797963981dfb9ec3e244c7221", checked := Try.checked }
namespace Rows
def none {H : Type} : Left H := { results := [], args := [] }

/-- 'rubriclaw12.BlocksJoin': WHATEVER THE INPUT: true; the input reads as it did. -/
def blocksJoinSpec : ChangeSpec := { name := "blocksJoin", fn := fun _ => fun
  | [d1, d2] => { results := [.lit (.bool true)], args := [d1, d2] }
  | _ => none }
def blocksJoinRow : OpenClaim := { program := "ytpnoeggnniagfaa", sum := "381fc681bc93a328457e069327507fcdbf9a7a5797963981dfb9ec3e244c7221", func := "rubric/rubriclaw12.BlocksJoin", spec := "blocksJoin", unfollowed := true, recurses := true, apart := false }
def BlocksJoinSaid : Prop := blocksJoinRow.holds Try.pinned (OpenSpec.ofChange blocksJoinSpec)

/-- ITS FALSE NEIGHBOUR: 'it returns false'. Refute it at one input. -/
def blocksJoinWrong : ChangeSpec := { name := "blocksJoin", fn := fun _ => fun
  | [d1, d2] => { results := [.lit (.bool false)], args := [d1, d2] }
  | _ => none }
def BlocksJoinWrongFalsely : Prop := blocksJoinRow.holds Try.pinned (OpenSpec.ofChange blocksJoinWrong)

/-- 'rubriclaw12.BlocksPlaces': WHATEVER THE INPUT: true; the input reads as it did. -/
def blocksPlacesSpec : ChangeSpec := { name := "blocksPlaces", fn := fun _ => fun
  | [d1, d2] => { results := [.lit (.bool true)], args := [d1, d2] }
  | _ => none }
def blocksPlacesRow : OpenClaim := { program := "ytpnoeggnniagfaa", sum := "381fc681bc93a328457e069327507fcdbf9a7a5797963981dfb9ec3e244c7221", func := "rubric/rubriclaw12.BlocksPlaces", spec := "blocksPlaces", unfollowed := true, recurses := true, apart := false }
def BlocksPlacesSaid : Prop := blocksPlacesRow.holds Try.pinned (OpenSpec.ofChange blocksPlacesSpec)

/-- ITS FALSE NEIGHBOUR: 'it returns false'. Refute it at one input. -/
def blocksPlacesWrong : ChangeSpec := { name := "blocksPlaces", fn := fun _ => fun
  | [d1, d2] => { results := [.lit (.bool false)], args := [d1, d2] }
  | _ => none }
def BlocksPlacesWrongFalsely : Prop := blocksPlacesRow.holds Try.pinned (OpenSpec.ofChange blocksPlacesWrong)

/-- 'rubriclaw12.BlocksCells': WHATEVER THE INPUT: true; the input reads as it did. -/
def blocksCellsSpec : ChangeSpec := { name := "blocksCells", fn := fun _ => fun
  | [d] => { results := [.lit (.bool true)], args := [d] }
  | _ => none }
def blocksCellsRow : OpenClaim := { program := "ytpnoeggnniagfaa", sum := "381fc681bc93a328457e069327507fcdbf9a7a5797963981dfb9ec3e244c7221", func := "rubric/rubriclaw12.BlocksCells", spec := "blocksCells", unfollowed := true, recurses := true, apart := false }
def BlocksCellsSaid : Prop := blocksCellsRow.holds Try.pinned (OpenSpec.ofChange blocksCellsSpec)

/-- ITS FALSE NEIGHBOUR: 'it returns false'. Refute it at one input. -/
def blocksCellsWrong : ChangeSpec := { name := "blocksCells", fn := fun _ => fun
  | [d] => { results := [.lit (.bool false)], args := [d] }
  | _ => none }
def BlocksCellsWrongFalsely : Prop := blocksCellsRow.holds Try.pinned (OpenSpec.ofChange blocksCellsWrong)

/-- 'rubriclaw12.BlocksCuts': WHATEVER THE INPUT: true; the input reads as it did. -/
def blocksCutsSpec : ChangeSpec := { name := "blocksCuts", fn := fun _ => fun
  | [d1, d2, d3, d4] => { results := [.lit (.bool true)], args := [d1, d2, d3, d4] }
  | _ => none }
def blocksCutsRow : OpenClaim := { program := "ytpnoeggnniagfaa", sum := "381fc681bc93a328457e069327507fcdbf9a7a5797963981dfb9ec3e244c7221", func := "rubric/rubriclaw12.BlocksCuts", spec := "blocksCuts", unfollowed := true, recurses := true, apart := false }
def BlocksCutsSaid : Prop := blocksCutsRow.holds Try.pinned (OpenSpec.ofChange blocksCutsSpec)

/-- ITS FALSE NEIGHBOUR: 'it returns false'. Refute it at one input. -/
def blocksCutsWrong : ChangeSpec := { name := "blocksCuts", fn := fun _ => fun
  | [d1, d2, d3, d4] => { results := [.lit (.bool false)], args := [d1, d2, d3, d4] }
  | _ => none }
def BlocksCutsWrongFalsely : Prop := blocksCutsRow.holds Try.pinned (OpenSpec.ofChange blocksCutsWrong)

/-- 'rubriclaw12.BlocksRows': WHATEVER THE INPUT: true; the input reads as it did. -/
def blocksRowsSpec : ChangeSpec := { name := "blocksRows", fn := fun _ => fun
  | [d1, d2, d3] => { results := [.lit (.bool true)], args := [d1, d2, d3] }
  | _ => none }
def blocksRowsRow : OpenClaim := { program := "ytpnoeggnniagfaa", sum := "381fc681bc93a328457e069327507fcdbf9a7a5797963981dfb9ec3e244c7221", func := "rubric/rubriclaw12.BlocksRows", spec := "blocksRows", unfollowed := true, recurses := true, apart := false }
def BlocksRowsSaid : Prop := blocksRowsRow.holds Try.pinned (OpenSpec.ofChange blocksRowsSpec)

/-- ITS FALSE NEIGHBOUR: 'it returns false'. Refute it at one input. -/
def blocksRowsWrong : ChangeSpec := { name := "blocksRows", fn := fun _ => fun
  | [d1, d2, d3] => { results := [.lit (.bool false)], args := [d1, d2, d3] }
  | _ => none }
def BlocksRowsWrongFalsely : Prop := blocksRowsRow.holds Try.pinned (OpenSpec.ofChange blocksRowsWrong)

/- THE SECOND FORM. 'bulk': how many values and letters a reading holds, each counted each time it is reached (what is shared counts as often as it is met; a slice's spare places count too). A statement '..UptoSaid' is the law's where the arguments, and the package variables that the reading takes, are together of bulk at most 1048576: NARROWER than '..Said'. Prove '..Said' where nothing that the law and all that it calls make is longer than what came in: it says more and counts as full. Else prove '..UptoSaid'. A law counts once. -/
mutual
def uptoBulk {H : Type} : DataW H → Nat
  | .lit (.string bytes) => bytes.length + 1
  | .lit _ => 1
  | .nil => 1
  | .ptr d => uptoBulk d + 1
  | .slice elems spare => uptoBulkAll elems + uptoBulkAll spare + 1
  | .agg parts => uptoBulkAll parts + 1
  | .iface _ d => uptoBulk d + 1
  | .map entries => uptoBulkEntries entries + 1
  | .held _ => 1
def uptoBulkAll {H : Type} : List (DataW H) → Nat
  | [] => 0
  | d :: r => uptoBulk d + uptoBulkAll r
def uptoBulkEntries {H : Type} : List (Lit × DataW H) → Nat
  | [] => 0
  | x :: r => uptoBulkEntry x + uptoBulkEntries r
def uptoBulkEntry {H : Type} : Lit × DataW H → Nat
  | (.string bytes, d) => bytes.length + uptoBulk d + 1
  | (_, d) => uptoBulk d + 1
 end
def uptoSmall : (H : Type) → List (DataW H) → Bool := fun _ ds => decide (uptoBulkAll ds ≤ 1048576)
def OpenSpec.upto (s : _root_.Go.ChangeSpec) : _root_.Go.OpenSpec := { _root_.Go.OpenSpec.ofChange s with cond := some uptoSmall }

/-- 'rubriclaw12.BlocksJoin', WHERE WHAT IT READS IS OF BULK AT MOST 1048576: true; the input reads as it did. -/
def blocksJoinUptoRow : OpenClaim := { program := "ytpnoeggnniagfaa", sum := "381fc681bc93a328457e069327507fcdbf9a7a5797963981dfb9ec3e244c7221", func := "rubric/rubriclaw12.BlocksJoin", spec := "blocksJoin", unfollowed := true, recurses := true, apart := false, narrowed := true }
def BlocksJoinUptoSaid : Prop := blocksJoinUptoRow.holds Try.pinned (OpenSpec.upto blocksJoinSpec)

/-- 'rubriclaw12.BlocksPlaces', WHERE WHAT IT READS IS OF BULK AT MOST 1048576: true; the input reads as it did. -/
def blocksPlacesUptoRow : OpenClaim := { program := "ytpnoeggnniagfaa", sum := "381fc681bc93a328457e069327507fcdbf9a7a5797963981dfb9ec3e244c7221", func := "rubric/rubriclaw12.BlocksPlaces", spec := "blocksPlaces", unfollowed := true, recurses := true, apart := false, narrowed := true }
def BlocksPlacesUptoSaid : Prop := blocksPlacesUptoRow.holds Try.pinned (OpenSpec.upto blocksPlacesSpec)

/-- 'rubriclaw12.BlocksCells', WHERE WHAT IT READS IS OF BULK AT MOST 1048576: true; the input reads as it did. -/
def blocksCellsUptoRow : OpenClaim := { program := "ytpnoeggnniagfaa", sum := "381fc681bc93a328457e069327507fcdbf9a7a5797963981dfb9ec3e244c7221", func := "rubric/rubriclaw12.BlocksCells", spec := "blocksCells", unfollowed := true, recurses := true, apart := false, narrowed := true }
def BlocksCellsUptoSaid : Prop := blocksCellsUptoRow.holds Try.pinned (OpenSpec.upto blocksCellsSpec)

/-- 'rubriclaw12.BlocksCuts', WHERE WHAT IT READS IS OF BULK AT MOST 1048576: true; the input reads as it did. -/
def blocksCutsUptoRow : OpenClaim := { program := "ytpnoeggnniagfaa", sum := "381fc681bc93a328457e069327507fcdbf9a7a5797963981dfb9ec3e244c7221", func := "rubric/rubriclaw12.BlocksCuts", spec := "blocksCuts", unfollowed := true, recurses := true, apart := false, narrowed := true }
def BlocksCutsUptoSaid : Prop := blocksCutsUptoRow.holds Try.pinned (OpenSpec.upto blocksCutsSpec)

/-- 'rubriclaw12.BlocksRows', WHERE WHAT IT READS IS OF BULK AT MOST 1048576: true; the input reads as it did. -/
def blocksRowsUptoRow : OpenClaim := { program := "ytpnoeggnniagfaa", sum := "381fc681bc93a328457e069327507fcdbf9a7a5797963981dfb9ec3e244c7221", func := "rubric/rubriclaw12.BlocksRows", spec := "blocksRows", unfollowed := true, recurses := true, apart := false, narrowed := true }
def BlocksRowsUptoSaid : Prop := blocksRowsUptoRow.holds Try.pinned (OpenSpec.upto blocksRowsSpec)

end Rows
end Go.Proofs.Ytpnoeggnniagfaa

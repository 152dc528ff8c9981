/-
  No cell of these rows narrows 'for every input' (looked for: loops, veiled, ifaces, maps, wideKeys, modest, calm, conditions, laid).
  DERIVED. THE GIVEN ROWS OF THIS SEAT. 12 by the template 'for every input the law returns true; each argument reads behind the call as it read before'; 0 by the template 'total and deterministic' (their statements: YtmlhdmnnijapjaaTotals.lean).
  GIVEN WITH THE SEED: the statements are not yours to turn. If you find one false, say at which input.
  Laid BY PROGRAM, IN A SANDBOX (cutbox-rows.mjs): the forced cells as the released guide's own fill.sh prints them over the translation 90e4733691632639… (all of the seat's roots in one cut). By AI agents, Wed Nov 11 2026. No macro, syntax, notation, axiom, sorry.
-/
import Derived.Test.YtmlhdmnnijapjaaChecked
import GoSem.Claim
import GoSem.ClaimJoined
import GoSem.ClaimMapViews
import Derived.JoinedTies
import Derived.KernelRfl
namespace Go.Proofs.Ytmlhdmnnijapjaa
/- THE CELL 'sum', in the pinned program and in every row, IS THE sha256 OF THE DUMP (.gsa) THAT YtmlhdmnnijapjaaProg.lean LOADS. Nothing in Lean hashes anything: it is a label: what it is worth is what the hold of that sum in a sandbox is worth. -/
noncomputable def Try.pinned : Pinned := { name := "ytmlhdmnnijapjaa", sum := "90e4733691632639fc7864170b12aa1d86b47addd981b3579571b0ba418fc756", checked := Try.checked }
namespace Rows
def none {H : Type} : Left H := { results := [], args := [] }

/-- 'gneisslaw2.WireShort': WHATEVER THE INPUT: true; the input reads as it did. -/
def wireShortSpec : ChangeSpec := { name := "wireShort", fn := fun _ => fun
  | [d1, d2] => { results := [.lit (.bool true)], args := [d1, d2] }
  | _ => none }
def wireShortRow : OpenClaim := { program := "ytmlhdmnnijapjaa", sum := "90e4733691632639fc7864170b12aa1d86b47addd981b3579571b0ba418fc756", func := "gneiss/gneisslaw2.WireShort", spec := "wireShort", apart := false }
def WireShortSaid : Prop := wireShortRow.holds Try.pinned (OpenSpec.ofChange wireShortSpec)

/-- ITS FALSE NEIGHBOUR: 'it returns false'. Refute it at one input. -/
def wireShortWrong : ChangeSpec := { name := "wireShort", fn := fun _ => fun
  | [d1, d2] => { results := [.lit (.bool false)], args := [d1, d2] }
  | _ => none }
def WireShortWrongFalsely : Prop := wireShortRow.holds Try.pinned (OpenSpec.ofChange wireShortWrong)

/-- 'gneisslaw2.WireBack': WHATEVER THE INPUT: true; the input reads as it did. -/
def wireBackSpec : ChangeSpec := { name := "wireBack", fn := fun _ => fun
  | [d1, d2, d3, d4] => { results := [.lit (.bool true)], args := [d1, d2, d3, d4] }
  | _ => none }
def wireBackRow : OpenClaim := { program := "ytmlhdmnnijapjaa", sum := "90e4733691632639fc7864170b12aa1d86b47addd981b3579571b0ba418fc756", func := "gneiss/gneisslaw2.WireBack", spec := "wireBack", apart := false }
def WireBackSaid : Prop := wireBackRow.holds Try.pinned (OpenSpec.ofChange wireBackSpec)

/-- ITS FALSE NEIGHBOUR: 'it returns false'. Refute it at one input. -/
def wireBackWrong : ChangeSpec := { name := "wireBack", fn := fun _ => fun
  | [d1, d2, d3, d4] => { results := [.lit (.bool false)], args := [d1, d2, d3, d4] }
  | _ => none }
def WireBackWrongFalsely : Prop := wireBackRow.holds Try.pinned (OpenSpec.ofChange wireBackWrong)

/-- 'gneisslaw11.MarkActs': WHATEVER THE INPUT: true; the input reads as it did. -/
def markActsSpec : ChangeSpec := { name := "markActs", fn := fun _ => fun
  | [d1, d2] => { results := [.lit (.bool true)], args := [d1, d2] }
  | _ => none }
def markActsRow : OpenClaim := { program := "ytmlhdmnnijapjaa", sum := "90e4733691632639fc7864170b12aa1d86b47addd981b3579571b0ba418fc756", func := "gneiss/gneisslaw11.MarkActs", spec := "markActs", unfollowed := true, recurses := true, apart := false }
def MarkActsSaid : Prop := markActsRow.holds Try.pinned (OpenSpec.ofChange markActsSpec)

/-- ITS FALSE NEIGHBOUR: 'it returns false'. Refute it at one input. -/
def markActsWrong : ChangeSpec := { name := "markActs", fn := fun _ => fun
  | [d1, d2] => { results := [.lit (.bool false)], args := [d1, d2] }
  | _ => none }
def MarkActsWrongFalsely : Prop := markActsRow.holds Try.pinned (OpenSpec.ofChange markActsWrong)

/-- 'gneisslaw11.MarkRows': WHATEVER THE INPUT: true; the input reads as it did. -/
def markRowsSpec : ChangeSpec := { name := "markRows", fn := fun _ => fun
  | [d1, d2] => { results := [.lit (.bool true)], args := [d1, d2] }
  | _ => none }
def markRowsRow : OpenClaim := { program := "ytmlhdmnnijapjaa", sum := "90e4733691632639fc7864170b12aa1d86b47addd981b3579571b0ba418fc756", func := "gneiss/gneisslaw11.MarkRows", spec := "markRows", unfollowed := true, recurses := true, apart := false }
def MarkRowsSaid : Prop := markRowsRow.holds Try.pinned (OpenSpec.ofChange markRowsSpec)

/-- ITS FALSE NEIGHBOUR: 'it returns false'. Refute it at one input. -/
def markRowsWrong : ChangeSpec := { name := "markRows", fn := fun _ => fun
  | [d1, d2] => { results := [.lit (.bool false)], args := [d1, d2] }
  | _ => none }
def MarkRowsWrongFalsely : Prop := markRowsRow.holds Try.pinned (OpenSpec.ofChange markRowsWrong)

/-- 'gneisslaw14.ClassReads': WHATEVER THE INPUT: true; the input reads as it did. -/
def classReadsSpec : ChangeSpec := { name := "classReads", fn := fun _ => fun
  | [d] => { results := [.lit (.bool true)], args := [d] }
  | _ => none }
def classReadsRow : OpenClaim := { program := "ytmlhdmnnijapjaa", sum := "90e4733691632639fc7864170b12aa1d86b47addd981b3579571b0ba418fc756", func := "gneiss/gneisslaw14.ClassReads", spec := "classReads", unfollowed := true, recurses := true, apart := false }
def ClassReadsSaid : Prop := classReadsRow.holds Try.pinned (OpenSpec.ofChange classReadsSpec)

/-- ITS FALSE NEIGHBOUR: 'it returns false'. Refute it at one input. -/
def classReadsWrong : ChangeSpec := { name := "classReads", fn := fun _ => fun
  | [d] => { results := [.lit (.bool false)], args := [d] }
  | _ => none }
def ClassReadsWrongFalsely : Prop := classReadsRow.holds Try.pinned (OpenSpec.ofChange classReadsWrong)

/-- 'gneisslaw14.ClassWrites': WHATEVER THE INPUT: true; the input reads as it did. -/
def classWritesSpec : ChangeSpec := { name := "classWrites", fn := fun _ => fun
  | [d] => { results := [.lit (.bool true)], args := [d] }
  | _ => none }
def classWritesRow : OpenClaim := { program := "ytmlhdmnnijapjaa", sum := "90e4733691632639fc7864170b12aa1d86b47addd981b3579571b0ba418fc756", func := "gneiss/gneisslaw14.ClassWrites", spec := "classWrites", unfollowed := true, recurses := true, apart := false }
def ClassWritesSaid : Prop := classWritesRow.holds Try.pinned (OpenSpec.ofChange classWritesSpec)

/-- ITS FALSE NEIGHBOUR: 'it returns false'. Refute it at one input. -/
def classWritesWrong : ChangeSpec := { name := "classWrites", fn := fun _ => fun
  | [d] => { results := [.lit (.bool false)], args := [d] }
  | _ => none }
def ClassWritesWrongFalsely : Prop := classWritesRow.holds Try.pinned (OpenSpec.ofChange classWritesWrong)

/-- 'gneisslaw14.ClassBack': WHATEVER THE INPUT: true; the input reads as it did. -/
def classBackSpec : ChangeSpec := { name := "classBack", fn := fun _ => fun
  | [d1, d2] => { results := [.lit (.bool true)], args := [d1, d2] }
  | _ => none }
def classBackRow : OpenClaim := { program := "ytmlhdmnnijapjaa", sum := "90e4733691632639fc7864170b12aa1d86b47addd981b3579571b0ba418fc756", func := "gneiss/gneisslaw14.ClassBack", spec := "classBack", unfollowed := true, recurses := true, apart := false }
def ClassBackSaid : Prop := classBackRow.holds Try.pinned (OpenSpec.ofChange classBackSpec)

/-- ITS FALSE NEIGHBOUR: 'it returns false'. Refute it at one input. -/
def classBackWrong : ChangeSpec := { name := "classBack", fn := fun _ => fun
  | [d1, d2] => { results := [.lit (.bool false)], args := [d1, d2] }
  | _ => none }
def ClassBackWrongFalsely : Prop := classBackRow.holds Try.pinned (OpenSpec.ofChange classBackWrong)

/-- 'gneisslaw14.ClassCuts': WHATEVER THE INPUT: true; the input reads as it did. -/
def classCutsSpec : ChangeSpec := { name := "classCuts", fn := fun _ => fun
  | [d1, d2] => { results := [.lit (.bool true)], args := [d1, d2] }
  | _ => none }
def classCutsRow : OpenClaim := { program := "ytmlhdmnnijapjaa", sum := "90e4733691632639fc7864170b12aa1d86b47addd981b3579571b0ba418fc756", func := "gneiss/gneisslaw14.ClassCuts", spec := "classCuts", unfollowed := true, recurses := true, apart := false }
def ClassCutsSaid : Prop := classCutsRow.holds Try.pinned (OpenSpec.ofChange classCutsSpec)

/-- ITS FALSE NEIGHBOUR: 'it returns false'. Refute it at one input. -/
def classCutsWrong : ChangeSpec := { name := "classCuts", fn := fun _ => fun
  | [d1, d2] => { results := [.lit (.bool false)], args := [d1, d2] }
  | _ => none }
def ClassCutsWrongFalsely : Prop := classCutsRow.holds Try.pinned (OpenSpec.ofChange classCutsWrong)

/-- 'gneisslaw14.ClassCounts': WHATEVER THE INPUT: true; the input reads as it did. -/
def classCountsSpec : ChangeSpec := { name := "classCounts", fn := fun _ => fun
  | [d1, d2] => { results := [.lit (.bool true)], args := [d1, d2] }
  | _ => none }
def classCountsRow : OpenClaim := { program := "ytmlhdmnnijapjaa", sum := "90e4733691632639fc7864170b12aa1d86b47addd981b3579571b0ba418fc756", func := "gneiss/gneisslaw14.ClassCounts", spec := "classCounts", unfollowed := true, recurses := true, apart := false }
def ClassCountsSaid : Prop := classCountsRow.holds Try.pinned (OpenSpec.ofChange classCountsSpec)

/-- ITS FALSE NEIGHBOUR: 'it returns false'. Refute it at one input. -/
def classCountsWrong : ChangeSpec := { name := "classCounts", fn := fun _ => fun
  | [d1, d2] => { results := [.lit (.bool false)], args := [d1, d2] }
  | _ => none }
def ClassCountsWrongFalsely : Prop := classCountsRow.holds Try.pinned (OpenSpec.ofChange classCountsWrong)

/-- 'gneisslaw14.ClassNames': WHATEVER THE INPUT: true; the input reads as it did. -/
def classNamesSpec : ChangeSpec := { name := "classNames", fn := fun _ => fun
  | [d1, d2] => { results := [.lit (.bool true)], args := [d1, d2] }
  | _ => none }
def classNamesRow : OpenClaim := { program := "ytmlhdmnnijapjaa", sum := "90e4733691632639fc7864170b12aa1d86b47addd981b3579571b0ba418fc756", func := "gneiss/gneisslaw14.ClassNames", spec := "classNames", unfollowed := true, recurses := true, apart := false }
def ClassNamesSaid : Prop := classNamesRow.holds Try.pinned (OpenSpec.ofChange classNamesSpec)

/-- ITS FALSE NEIGHBOUR: 'it returns false'. Refute it at one input. -/
def classNamesWrong : ChangeSpec := { name := "classNames", fn := fun _ => fun
  | [d1, d2] => { results := [.lit (.bool false)], args := [d1, d2] }
  | _ => none }
def ClassNamesWrongFalsely : Prop := classNamesRow.holds Try.pinned (OpenSpec.ofChange classNamesWrong)

/-- 'gneisslaw14.ClassNumbers': WHATEVER THE INPUT: true; the input reads as it did. -/
def classNumbersSpec : ChangeSpec := { name := "classNumbers", fn := fun _ => fun
  | [d1, d2] => { results := [.lit (.bool true)], args := [d1, d2] }
  | _ => none }
def classNumbersRow : OpenClaim := { program := "ytmlhdmnnijapjaa", sum := "90e4733691632639fc7864170b12aa1d86b47addd981b3579571b0ba418fc756", func := "gneiss/gneisslaw14.ClassNumbers", spec := "classNumbers", unfollowed := true, recurses := true, apart := false }
def ClassNumbersSaid : Prop := classNumbersRow.holds Try.pinned (OpenSpec.ofChange classNumbersSpec)

/-- ITS FALSE NEIGHBOUR: 'it returns false'. Refute it at one input. -/
def classNumbersWrong : ChangeSpec := { name := "classNumbers", fn := fun _ => fun
  | [d1, d2] => { results := [.lit (.bool false)], args := [d1, d2] }
  | _ => none }
def ClassNumbersWrongFalsely : Prop := classNumbersRow.holds Try.pinned (OpenSpec.ofChange classNumbersWrong)

/-- 'gneisslaw14.ClassTails': WHATEVER THE INPUT: true; the input reads as it did. -/
def classTailsSpec : ChangeSpec := { name := "classTails", fn := fun _ => fun
  | [d1, d2] => { results := [.lit (.bool true)], args := [d1, d2] }
  | _ => none }
def classTailsRow : OpenClaim := { program := "ytmlhdmnnijapjaa", sum := "90e4733691632639fc7864170b12aa1d86b47addd981b3579571b0ba418fc756", func := "gneiss/gneisslaw14.ClassTails", spec := "classTails", unfollowed := true, recurses := true, apart := false }
def ClassTailsSaid : Prop := classTailsRow.holds Try.pinned (OpenSpec.ofChange classTailsSpec)

/-- ITS FALSE NEIGHBOUR: 'it returns false'. Refute it at one input. -/
def classTailsWrong : ChangeSpec := { name := "classTails", fn := fun _ => fun
  | [d1, d2] => { results := [.lit (.bool false)], args := [d1, d2] }
  | _ => none }
def ClassTailsWrongFalsely : Prop := classTailsRow.holds Try.pinned (OpenSpec.ofChange classTailsWrong)

/- THE SECOND FORM. 'bulk': how many values and letters a reading holds, each counted each time it is reached (what is shared counts as often as it is met; a slice's spare places count too). A statement '..UptoSaid' is the law's where the arguments, and the package variables that the reading takes, are together of bulk at most 1048576: NARROWER than '..Said'. Prove '..Said' where nothing that the law and all that it calls make is longer than what came in: it says more and counts as full. Else prove '..UptoSaid'. A law counts once. -/
mutual
def uptoBulk {H : Type} : DataW H → Nat
  | .lit (.string bytes) => bytes.length + 1
  | .lit _ => 1
  | .nil => 1
  | .ptr d => uptoBulk d + 1
  | .slice elems spare => uptoBulkAll elems + uptoBulkAll spare + 1
  | .agg parts => uptoBulkAll parts + 1
  | .iface _ d => uptoBulk d + 1
  | .map entries => uptoBulkEntries entries + 1
  | .held _ => 1
def uptoBulkAll {H : Type} : List (DataW H) → Nat
  | [] => 0
  | d :: r => uptoBulk d + uptoBulkAll r
def uptoBulkEntries {H : Type} : List (Lit × DataW H) → Nat
  | [] => 0
  | x :: r => uptoBulkEntry x + uptoBulkEntries r
def uptoBulkEntry {H : Type} : Lit × DataW H → Nat
  | (.string bytes, d) => bytes.length + uptoBulk d + 1
  | (_, d) => uptoBulk d + 1
 end
def uptoSmall : (H : Type) → List (DataW H) → Bool := fun _ ds => decide (uptoBulkAll ds ≤ 1048576)
def OpenSpec.upto (s : _root_.Go.ChangeSpec) : _root_.Go.OpenSpec := { _root_.Go.OpenSpec.ofChange s with cond := some uptoSmall }

/-- 'gneisslaw2.WireShort', WHERE WHAT IT READS IS OF BULK AT MOST 1048576: true; the input reads as it did. -/
def wireShortUptoRow : OpenClaim := { program := "ytmlhdmnnijapjaa", sum := "90e4733691632639fc7864170b12aa1d86b47addd981b3579571b0ba418fc756", func := "gneiss/gneisslaw2.WireShort", spec := "wireShort", apart := false, narrowed := true }
def WireShortUptoSaid : Prop := wireShortUptoRow.holds Try.pinned (OpenSpec.upto wireShortSpec)

/-- 'gneisslaw2.WireBack', WHERE WHAT IT READS IS OF BULK AT MOST 1048576: true; the input reads as it did. -/
def wireBackUptoRow : OpenClaim := { program := "ytmlhdmnnijapjaa", sum := "90e4733691632639fc7864170b12aa1d86b47addd981b3579571b0ba418fc756", func := "gneiss/gneisslaw2.WireBack", spec := "wireBack", apart := false, narrowed := true }
def WireBackUptoSaid : Prop := wireBackUptoRow.holds Try.pinned (OpenSpec.upto wireBackSpec)

/-- 'gneisslaw11.MarkActs', WHERE WHAT IT READS IS OF BULK AT MOST 1048576: true; the input reads as it did. -/
def markActsUptoRow : OpenClaim := { program := "ytmlhdmnnijapjaa", sum := "90e4733691632639fc7864170b12aa1d86b47addd981b3579571b0ba418fc756", func := "gneiss/gneisslaw11.MarkActs", spec := "markActs", unfollowed := true, recurses := true, apart := false, narrowed := true }
def MarkActsUptoSaid : Prop := markActsUptoRow.holds Try.pinned (OpenSpec.upto markActsSpec)

/-- 'gneisslaw11.MarkRows', WHERE WHAT IT READS IS OF BULK AT MOST 1048576: true; the input reads as it did. -/
def markRowsUptoRow : OpenClaim := { program := "ytmlhdmnnijapjaa", sum := "90e4733691632639fc7864170b12aa1d86b47addd981b3579571b0ba418fc756", func := "gneiss/gneisslaw11.MarkRows", spec := "markRows", unfollowed := true, recurses := true, apart := false, narrowed := true }
def MarkRowsUptoSaid : Prop := markRowsUptoRow.holds Try.pinned (OpenSpec.upto markRowsSpec)

/-- 'gneisslaw14.ClassReads', WHERE WHAT IT READS IS OF BULK AT MOST 1048576: true; the input reads as it did. -/
def classReadsUptoRow : OpenClaim := { program := "ytmlhdmnnijapjaa", sum := "90e4733691632639fc7864170b12aa1d86b47addd981b3579571b0ba418fc756", func := "gneiss/gneisslaw14.ClassReads", spec := "classReads", unfollowed := true, recurses := true, apart := false, narrowed := true }
def ClassReadsUptoSaid : Prop := classReadsUptoRow.holds Try.pinned (OpenSpec.upto classReadsSpec)

/-- 'gneisslaw14.ClassWrites', WHERE WHAT IT READS IS OF BULK AT MOST 1048576: true; the input reads as it did. -/
def classWritesUptoRow : OpenClaim := { program := "ytmlhdmnnijapjaa", sum := "90e4733691632639fc7864170b12aa1d86b47addd981b3579571b0ba418fc756", func := "gneiss/gneisslaw14.ClassWrites", spec := "classWrites", unfollowed := true, recurses := true, apart := false, narrowed := true }
def ClassWritesUptoSaid : Prop := classWritesUptoRow.holds Try.pinned (OpenSpec.upto classWritesSpec)

/-- 'gneisslaw14.ClassBack', WHERE WHAT IT READS IS OF BULK AT MOST 1048576: true; the input reads as it did. -/
def classBackUptoRow : OpenClaim := { program := "ytmlhdmnnijapjaa", sum := "90e4733691632639fc7864170b12aa1d86b47addd981b3579571b0ba418fc756", func := "gneiss/gneisslaw14.ClassBack", spec := "classBack", unfollowed := true, recurses := true, apart := false, narrowed := true }
def ClassBackUptoSaid : Prop := classBackUptoRow.holds Try.pinned (OpenSpec.upto classBackSpec)

/-- 'gneisslaw14.ClassCuts', WHERE WHAT IT READS IS OF BULK AT MOST 1048576: true; the input reads as it did. -/
def classCutsUptoRow : OpenClaim := { program := "ytmlhdmnnijapjaa", sum := "90e4733691632639fc7864170b12aa1d86b47addd981b3579571b0ba418fc756", func := "gneiss/gneisslaw14.ClassCuts", spec := "classCuts", unfollowed := true, recurses := true, apart := false, narrowed := true }
def ClassCutsUptoSaid : Prop := classCutsUptoRow.holds Try.pinned (OpenSpec.upto classCutsSpec)

/-- 'gneisslaw14.ClassCounts', WHERE WHAT IT READS IS OF BULK AT MOST 1048576: true; the input reads as it did. -/
def classCountsUptoRow : OpenClaim := { program := "ytmlhdmnnijapjaa", sum := "90e4733691632639fc7864170b12aa1d86b47addd981b3579571b0ba418fc756", func := "gneiss/gneisslaw14.ClassCounts", spec := "classCounts", unfollowed := true, recurses := true, apart := false, narrowed := true }
def ClassCountsUptoSaid : Prop := classCountsUptoRow.holds Try.pinned (OpenSpec.upto classCountsSpec)

/-- 'gneisslaw14.ClassNames', WHERE WHAT IT READS IS OF BULK AT MOST 1048576: true; the input reads as it did. -/
def classNamesUptoRow : OpenClaim := { program := "ytmlhdmnnijapjaa", sum := "90e4733691632639fc7864170b12aa1d86b47addd981b3579571b0ba418fc756", func := "gneiss/gneisslaw14.ClassNames", spec := "classNames", unfollowed := true, recurses := true, apart := false, narrowed := true }
def ClassNamesUptoSaid : Prop := classNamesUptoRow.holds Try.pinned (OpenSpec.upto classNamesSpec)

/-- 'gneisslaw14.ClassNumbers', WHERE WHAT IT READS IS OF BULK AT MOST 1048576: true; the input reads as it did. -/
def classNumbersUptoRow : OpenClaim := { program := "ytmlhdmnnijapjaa", sum := "90e4733691632639fc7864170b12aa1d86b47addd981b3579571b0ba418fc756", func := "gneiss/gneisslaw14.ClassNumbers", spec := "classNumbers", unfollowed := true, recurses := true, apart := false, narrowed := true }
def ClassNumbersUptoSaid : Prop := classNumbersUptoRow.holds Try.pinned (OpenSpec.upto classNumbersSpec)

/-- 'gneisslaw14.ClassTails', WHERE WHAT IT READS IS OF BULK AT MOST 1048576: true; the input reads as it did. -/
def classTailsUptoRow : OpenClaim := { program := "ytmlhdmnnijapjaa", sum := "90e4733691632639fc7864170b12aa1d86b47addd981b3579571b0ba418fc756", func := "gneiss/gneisslaw14.ClassTails", spec := "classTails", unfollowed := true, recurses := true, apart := false, narrowed := true }
def ClassTailsUptoSaid : Prop := classTailsUptoRow.holds Try.pinned (OpenSpec.upto classTailsSpec)

end Rows
end Go.Proofs.Ytmlhdmnnijapjaa

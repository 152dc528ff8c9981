/-
  No cell of these rows narrows 'for every input' (looked for: loops, veiled, ifaces, maps, wideKeys, modest, calm, conditions, laid).
  DERIVED. THE GIVEN ROWS OF THIS SEAT. 10 by the template 'for every input the law returns true; each argument reads behind the call as it read before'; 0 by the template 'total and deterministic' (their statements: YtjopegohhenpiaaTotals.lean).
  GIVEN WITH THE SEED: the statements are not yours to turn. If you find one false, say at which input.
  Laid BY PROGRAM, IN A SANDBOX (cutbox-rows.mjs): the forced cells as the released guide's own fill.sh prints them over the translation 83198807ece312e1… (all of the seat's roots in one cut). By AI agents, Wed Nov 11 2026. No macro, syntax, notation, axiom, sorry.
-/
import Derived.Test.YtjopegohhenpiaaChecked
import GoSem.Claim
import GoSem.ClaimJoined
import GoSem.ClaimMapViews
import Derived.JoinedTies
import Derived.KernelRfl
namespace Go.Proofs.Ytjopegohhenpiaa
/- THE CELL 'sum', in the pinned program and in every row, IS THE sha256 OF THE DUMP (.gsa) THAT YtjopegohhenpiaaProg.lean LOADS. Nothing in Lean hashes anything: it is a label: what it is worth is what the hold of that sum in a sandbox is worth. -/
noncomputable def Try.pinned : Pinned := { name := "ytjopegohhenpiaa", sum := "83198807ece312e1556b9d969b67a64429a331c920bd50e079c0e3d89cb82eb8", checked := Try.checked }
namespace Rows
def none {H : Type} : Left H := { results := [], args := [] }

/-- 'gneisslaw0.GneissNames': WHATEVER THE INPUT: true; the input reads as it did. -/
def gneissNamesSpec : ChangeSpec := { name := "gneissNames", fn := fun _ => fun
  | [] => { results := [.lit (.bool true)], args := [] }
  | _ => none }
def gneissNamesRow : OpenClaim := { program := "ytjopegohhenpiaa", sum := "83198807ece312e1556b9d969b67a64429a331c920bd50e079c0e3d89cb82eb8", func := "gneiss/gneisslaw0.GneissNames", spec := "gneissNames", apart := false }
def GneissNamesSaid : Prop := gneissNamesRow.holds Try.pinned (OpenSpec.ofChange gneissNamesSpec)

/-- ITS FALSE NEIGHBOUR: 'it returns false'. Refute it at one input. -/
def gneissNamesWrong : ChangeSpec := { name := "gneissNames", fn := fun _ => fun
  | [] => { results := [.lit (.bool false)], args := [] }
  | _ => none }
def GneissNamesWrongFalsely : Prop := gneissNamesRow.holds Try.pinned (OpenSpec.ofChange gneissNamesWrong)

/-- 'gneisslaw2.WireShort': WHATEVER THE INPUT: true; the input reads as it did. -/
def wireShortSpec : ChangeSpec := { name := "wireShort", fn := fun _ => fun
  | [d1, d2] => { results := [.lit (.bool true)], args := [d1, d2] }
  | _ => none }
def wireShortRow : OpenClaim := { program := "ytjopegohhenpiaa", sum := "83198807ece312e1556b9d969b67a64429a331c920bd50e079c0e3d89cb82eb8", func := "gneiss/gneisslaw2.WireShort", spec := "wireShort", apart := false }
def WireShortSaid : Prop := wireShortRow.holds Try.pinned (OpenSpec.ofChange wireShortSpec)

/-- ITS FALSE NEIGHBOUR: 'it returns false'. Refute it at one input. -/
def wireShortWrong : ChangeSpec := { name := "wireShort", fn := fun _ => fun
  | [d1, d2] => { results := [.lit (.bool false)], args := [d1, d2] }
  | _ => none }
def WireShortWrongFalsely : Prop := wireShortRow.holds Try.pinned (OpenSpec.ofChange wireShortWrong)

/-- 'gneisslaw10.ShakeActs': WHATEVER THE INPUT: true; the input reads as it did. -/
def shakeActsSpec : ChangeSpec := { name := "shakeActs", fn := fun _ => fun
  | [d1, d2] => { results := [.lit (.bool true)], args := [d1, d2] }
  | _ => none }
def shakeActsRow : OpenClaim := { program := "ytjopegohhenpiaa", sum := "83198807ece312e1556b9d969b67a64429a331c920bd50e079c0e3d89cb82eb8", func := "gneiss/gneisslaw10.ShakeActs", spec := "shakeActs", apart := false }
def ShakeActsSaid : Prop := shakeActsRow.holds Try.pinned (OpenSpec.ofChange shakeActsSpec)

/-- ITS FALSE NEIGHBOUR: 'it returns false'. Refute it at one input. -/
def shakeActsWrong : ChangeSpec := { name := "shakeActs", fn := fun _ => fun
  | [d1, d2] => { results := [.lit (.bool false)], args := [d1, d2] }
  | _ => none }
def ShakeActsWrongFalsely : Prop := shakeActsRow.holds Try.pinned (OpenSpec.ofChange shakeActsWrong)

/-- 'gneisslaw10.ShakeRounds': WHATEVER THE INPUT: true; the input reads as it did. -/
def shakeRoundsSpec : ChangeSpec := { name := "shakeRounds", fn := fun _ => fun
  | [d1, d2, d3] => { results := [.lit (.bool true)], args := [d1, d2, d3] }
  | _ => none }
def shakeRoundsRow : OpenClaim := { program := "ytjopegohhenpiaa", sum := "83198807ece312e1556b9d969b67a64429a331c920bd50e079c0e3d89cb82eb8", func := "gneiss/gneisslaw10.ShakeRounds", spec := "shakeRounds", apart := false }
def ShakeRoundsSaid : Prop := shakeRoundsRow.holds Try.pinned (OpenSpec.ofChange shakeRoundsSpec)

/-- ITS FALSE NEIGHBOUR: 'it returns false'. Refute it at one input. -/
def shakeRoundsWrong : ChangeSpec := { name := "shakeRounds", fn := fun _ => fun
  | [d1, d2, d3] => { results := [.lit (.bool false)], args := [d1, d2, d3] }
  | _ => none }
def ShakeRoundsWrongFalsely : Prop := shakeRoundsRow.holds Try.pinned (OpenSpec.ofChange shakeRoundsWrong)

/-- 'gneisslaw2.WireTexts': WHATEVER THE INPUT: true; the input reads as it did. -/
def wireTextsSpec : ChangeSpec := { name := "wireTexts", fn := fun _ => fun
  | [d1, d2, d3, d4] => { results := [.lit (.bool true)], args := [d1, d2, d3, d4] }
  | _ => none }
def wireTextsRow : OpenClaim := { program := "ytjopegohhenpiaa", sum := "83198807ece312e1556b9d969b67a64429a331c920bd50e079c0e3d89cb82eb8", func := "gneiss/gneisslaw2.WireTexts", spec := "wireTexts", apart := false }
def WireTextsSaid : Prop := wireTextsRow.holds Try.pinned (OpenSpec.ofChange wireTextsSpec)

/-- ITS FALSE NEIGHBOUR: 'it returns false'. Refute it at one input. -/
def wireTextsWrong : ChangeSpec := { name := "wireTexts", fn := fun _ => fun
  | [d1, d2, d3, d4] => { results := [.lit (.bool false)], args := [d1, d2, d3, d4] }
  | _ => none }
def WireTextsWrongFalsely : Prop := wireTextsRow.holds Try.pinned (OpenSpec.ofChange wireTextsWrong)

/-- 'gneisslaw2.WireBack': WHATEVER THE INPUT: true; the input reads as it did. -/
def wireBackSpec : ChangeSpec := { name := "wireBack", fn := fun _ => fun
  | [d1, d2, d3, d4] => { results := [.lit (.bool true)], args := [d1, d2, d3, d4] }
  | _ => none }
def wireBackRow : OpenClaim := { program := "ytjopegohhenpiaa", sum := "83198807ece312e1556b9d969b67a64429a331c920bd50e079c0e3d89cb82eb8", func := "gneiss/gneisslaw2.WireBack", spec := "wireBack", apart := false }
def WireBackSaid : Prop := wireBackRow.holds Try.pinned (OpenSpec.ofChange wireBackSpec)

/-- ITS FALSE NEIGHBOUR: 'it returns false'. Refute it at one input. -/
def wireBackWrong : ChangeSpec := { name := "wireBack", fn := fun _ => fun
  | [d1, d2, d3, d4] => { results := [.lit (.bool false)], args := [d1, d2, d3, d4] }
  | _ => none }
def WireBackWrongFalsely : Prop := wireBackRow.holds Try.pinned (OpenSpec.ofChange wireBackWrong)

/-- 'gneisslaw3.ArenaSteps': WHATEVER THE INPUT: true; the input reads as it did. -/
def arenaStepsSpec : ChangeSpec := { name := "arenaSteps", fn := fun _ => fun
  | [d1, d2, d3] => { results := [.lit (.bool true)], args := [d1, d2, d3] }
  | _ => none }
def arenaStepsRow : OpenClaim := { program := "ytjopegohhenpiaa", sum := "83198807ece312e1556b9d969b67a64429a331c920bd50e079c0e3d89cb82eb8", func := "gneiss/gneisslaw3.ArenaSteps", spec := "arenaSteps", apart := false }
def ArenaStepsSaid : Prop := arenaStepsRow.holds Try.pinned (OpenSpec.ofChange arenaStepsSpec)

/-- ITS FALSE NEIGHBOUR: 'it returns false'. Refute it at one input. -/
def arenaStepsWrong : ChangeSpec := { name := "arenaSteps", fn := fun _ => fun
  | [d1, d2, d3] => { results := [.lit (.bool false)], args := [d1, d2, d3] }
  | _ => none }
def ArenaStepsWrongFalsely : Prop := arenaStepsRow.holds Try.pinned (OpenSpec.ofChange arenaStepsWrong)

/-- 'gneisslaw3.ArenaSwaps': WHATEVER THE INPUT: true; the input reads as it did. -/
def arenaSwapsSpec : ChangeSpec := { name := "arenaSwaps", fn := fun _ => fun
  | [d1, d2] => { results := [.lit (.bool true)], args := [d1, d2] }
  | _ => none }
def arenaSwapsRow : OpenClaim := { program := "ytjopegohhenpiaa", sum := "83198807ece312e1556b9d969b67a64429a331c920bd50e079c0e3d89cb82eb8", func := "gneiss/gneisslaw3.ArenaSwaps", spec := "arenaSwaps", apart := false }
def ArenaSwapsSaid : Prop := arenaSwapsRow.holds Try.pinned (OpenSpec.ofChange arenaSwapsSpec)

/-- ITS FALSE NEIGHBOUR: 'it returns false'. Refute it at one input. -/
def arenaSwapsWrong : ChangeSpec := { name := "arenaSwaps", fn := fun _ => fun
  | [d1, d2] => { results := [.lit (.bool false)], args := [d1, d2] }
  | _ => none }
def ArenaSwapsWrongFalsely : Prop := arenaSwapsRow.holds Try.pinned (OpenSpec.ofChange arenaSwapsWrong)

/-- 'gneisslaw11.MarkActs': WHATEVER THE INPUT: true; the input reads as it did. -/
def markActsSpec : ChangeSpec := { name := "markActs", fn := fun _ => fun
  | [d1, d2] => { results := [.lit (.bool true)], args := [d1, d2] }
  | _ => none }
def markActsRow : OpenClaim := { program := "ytjopegohhenpiaa", sum := "83198807ece312e1556b9d969b67a64429a331c920bd50e079c0e3d89cb82eb8", func := "gneiss/gneisslaw11.MarkActs", spec := "markActs", unfollowed := true, recurses := true, apart := false }
def MarkActsSaid : Prop := markActsRow.holds Try.pinned (OpenSpec.ofChange markActsSpec)

/-- ITS FALSE NEIGHBOUR: 'it returns false'. Refute it at one input. -/
def markActsWrong : ChangeSpec := { name := "markActs", fn := fun _ => fun
  | [d1, d2] => { results := [.lit (.bool false)], args := [d1, d2] }
  | _ => none }
def MarkActsWrongFalsely : Prop := markActsRow.holds Try.pinned (OpenSpec.ofChange markActsWrong)

/-- 'gneisslaw11.MarkRows': WHATEVER THE INPUT: true; the input reads as it did. -/
def markRowsSpec : ChangeSpec := { name := "markRows", fn := fun _ => fun
  | [d1, d2] => { results := [.lit (.bool true)], args := [d1, d2] }
  | _ => none }
def markRowsRow : OpenClaim := { program := "ytjopegohhenpiaa", sum := "83198807ece312e1556b9d969b67a64429a331c920bd50e079c0e3d89cb82eb8", func := "gneiss/gneisslaw11.MarkRows", spec := "markRows", unfollowed := true, recurses := true, apart := false }
def MarkRowsSaid : Prop := markRowsRow.holds Try.pinned (OpenSpec.ofChange markRowsSpec)

/-- ITS FALSE NEIGHBOUR: 'it returns false'. Refute it at one input. -/
def markRowsWrong : ChangeSpec := { name := "markRows", fn := fun _ => fun
  | [d1, d2] => { results := [.lit (.bool false)], args := [d1, d2] }
  | _ => none }
def MarkRowsWrongFalsely : Prop := markRowsRow.holds Try.pinned (OpenSpec.ofChange markRowsWrong)

/- THE SECOND FORM. 'bulk': how many values and letters a reading holds, each counted each time it is reached (what is shared counts as often as it is met; a slice's spare places count too). A statement '..UptoSaid' is the law's where the arguments, and the package variables that the reading takes, are together of bulk at most 1048576: NARROWER than '..Said'. Prove '..Said' where nothing that the law and all that it calls make is longer than what came in: it says more and counts as full. Else prove '..UptoSaid'. A law counts once. -/
mutual
def uptoBulk {H : Type} : DataW H → Nat
  | .lit (.string bytes) => bytes.length + 1
  | .lit _ => 1
  | .nil => 1
  | .ptr d => uptoBulk d + 1
  | .slice elems spare => uptoBulkAll elems + uptoBulkAll spare + 1
  | .agg parts => uptoBulkAll parts + 1
  | .iface _ d => uptoBulk d + 1
  | .map entries => uptoBulkEntries entries + 1
  | .held _ => 1
def uptoBulkAll {H : Type} : List (DataW H) → Nat
  | [] => 0
  | d :: r => uptoBulk d + uptoBulkAll r
def uptoBulkEntries {H : Type} : List (Lit × DataW H) → Nat
  | [] => 0
  | x :: r => uptoBulkEntry x + uptoBulkEntries r
def uptoBulkEntry {H : Type} : Lit × DataW H → Nat
  | (.string bytes, d) => bytes.length + uptoBulk d + 1
  | (_, d) => uptoBulk d + 1
 end
def uptoSmall : (H : Type) → List (DataW H) → Bool := fun _ ds => decide (uptoBulkAll ds ≤ 1048576)
def OpenSpec.upto (s : _root_.Go.ChangeSpec) : _root_.Go.OpenSpec := { _root_.Go.OpenSpec.ofChange s with cond := some uptoSmall }

/-- 'gneisslaw0.GneissNames', WHERE WHAT IT READS IS OF BULK AT MOST 1048576: true; the input reads as it did. -/
def gneissNamesUptoRow : OpenClaim := { program := "ytjopegohhenpiaa", sum := "83198807ece312e1556b9d969b67a64429a331c920bd50e079c0e3d89cb82eb8", func := "gneiss/gneisslaw0.GneissNames", spec := "gneissNames", apart := false, narrowed := true }
def GneissNamesUptoSaid : Prop := gneissNamesUptoRow.holds Try.pinned (OpenSpec.upto gneissNamesSpec)

/-- 'gneisslaw2.WireShort', WHERE WHAT IT READS IS OF BULK AT MOST 1048576: true; the input reads as it did. -/
def wireShortUptoRow : OpenClaim := { program := "ytjopegohhenpiaa", sum := "83198807ece312e1556b9d969b67a64429a331c920bd50e079c0e3d89cb82eb8", func := "gneiss/gneisslaw2.WireShort", spec := "wireShort", apart := false, narrowed := true }
def WireShortUptoSaid : Prop := wireShortUptoRow.holds Try.pinned (OpenSpec.upto wireShortSpec)

/-- 'gneisslaw10.ShakeActs', WHERE WHAT IT READS IS OF BULK AT MOST 1048576: true; the input reads as it did. -/
def shakeActsUptoRow : OpenClaim := { program := "ytjopegohhenpiaa", sum := "83198807ece312e1556b9d969b67a64429a331c920bd50e079c0e3d89cb82eb8", func := "gneiss/gneisslaw10.ShakeActs", spec := "shakeActs", apart := false, narrowed := true }
def ShakeActsUptoSaid : Prop := shakeActsUptoRow.holds Try.pinned (OpenSpec.upto shakeActsSpec)

/-- 'gneisslaw10.ShakeRounds', WHERE WHAT IT READS IS OF BULK AT MOST 1048576: true; the input reads as it did. -/
def shakeRoundsUptoRow : OpenClaim := { program := "ytjopegohhenpiaa", sum := "83198807ece312e1556b9d969b67a64429a331c920bd50e079c0e3d89cb82eb8", func := "gneiss/gneisslaw10.ShakeRounds", spec := "shakeRounds", apart := false, narrowed := true }
def ShakeRoundsUptoSaid : Prop := shakeRoundsUptoRow.holds Try.pinned (OpenSpec.upto shakeRoundsSpec)

/-- 'gneisslaw2.WireTexts', WHERE WHAT IT READS IS OF BULK AT MOST 1048576: true; the input reads as it did. -/
def wireTextsUptoRow : OpenClaim := { program := "ytjopegohhenpiaa", sum := "83198807ece312e1556b9d969b67a64429a331c920bd50e079c0e3d89cb82eb8", func := "gneiss/gneisslaw2.WireTexts", spec := "wireTexts", apart := false, narrowed := true }
def WireTextsUptoSaid : Prop := wireTextsUptoRow.holds Try.pinned (OpenSpec.upto wireTextsSpec)

/-- 'gneisslaw2.WireBack', WHERE WHAT IT READS IS OF BULK AT MOST 1048576: true; the input reads as it did. -/
def wireBackUptoRow : OpenClaim := { program := "ytjopegohhenpiaa", sum := "83198807ece312e1556b9d969b67a64429a331c920bd50e079c0e3d89cb82eb8", func := "gneiss/gneisslaw2.WireBack", spec := "wireBack", apart := false, narrowed := true }
def WireBackUptoSaid : Prop := wireBackUptoRow.holds Try.pinned (OpenSpec.upto wireBackSpec)

/-- 'gneisslaw3.ArenaSteps', WHERE WHAT IT READS IS OF BULK AT MOST 1048576: true; the input reads as it did. -/
def arenaStepsUptoRow : OpenClaim := { program := "ytjopegohhenpiaa", sum := "83198807ece312e1556b9d969b67a64429a331c920bd50e079c0e3d89cb82eb8", func := "gneiss/gneisslaw3.ArenaSteps", spec := "arenaSteps", apart := false, narrowed := true }
def ArenaStepsUptoSaid : Prop := arenaStepsUptoRow.holds Try.pinned (OpenSpec.upto arenaStepsSpec)

/-- 'gneisslaw3.ArenaSwaps', WHERE WHAT IT READS IS OF BULK AT MOST 1048576: true; the input reads as it did. -/
def arenaSwapsUptoRow : OpenClaim := { program := "ytjopegohhenpiaa", sum := "83198807ece312e1556b9d969b67a64429a331c920bd50e079c0e3d89cb82eb8", func := "gneiss/gneisslaw3.ArenaSwaps", spec := "arenaSwaps", apart := false, narrowed := true }
def ArenaSwapsUptoSaid : Prop := arenaSwapsUptoRow.holds Try.pinned (OpenSpec.upto arenaSwapsSpec)

/-- 'gneisslaw11.MarkActs', WHERE WHAT IT READS IS OF BULK AT MOST 1048576: true; the input reads as it did. -/
def markActsUptoRow : OpenClaim := { program := "ytjopegohhenpiaa", sum := "83198807ece312e1556b9d969b67a64429a331c920bd50e079c0e3d89cb82eb8", func := "gneiss/gneisslaw11.MarkActs", spec := "markActs", unfollowed := true, recurses := true, apart := false, narrowed := true }
def MarkActsUptoSaid : Prop := markActsUptoRow.holds Try.pinned (OpenSpec.upto markActsSpec)

/-- 'gneisslaw11.MarkRows', WHERE WHAT IT READS IS OF BULK AT MOST 1048576: true; the input reads as it did. -/
def markRowsUptoRow : OpenClaim := { program := "ytjopegohhenpiaa", sum := "83198807ece312e1556b9d969b67a64429a331c920bd50e079c0e3d89cb82eb8", func := "gneiss/gneisslaw11.MarkRows", spec := "markRows", unfollowed := true, recurses := true, apart := false, narrowed := true }
def MarkRowsUptoSaid : Prop := markRowsUptoRow.holds Try.pinned (OpenSpec.upto markRowsSpec)

end Rows
end Go.Proofs.Ytjopegohhenpiaa

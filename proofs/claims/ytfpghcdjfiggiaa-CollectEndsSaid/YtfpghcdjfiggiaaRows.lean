/-
  No cell of these rows narrows 'for every input' (looked for: loops, veiled, ifaces, maps, wideKeys, modest, calm, conditions, laid).
  DERIVED. THE GIVEN ROWS OF THIS SEAT. 29 by the template 'for every input the law returns true; each argument reads behind the call as it read before'; 0 by the template 'total and deterministic' (their statements: YtfpghcdjfiggiaaTotals.lean).
  GIVEN WITH THE SEED: the statements are not yours to turn. If you find one false, say at which input.
  Laid BY PROGRAM, IN A SANDBOX (cutbox-rows.mjs): the forced cells as the released guide's own fill.sh prints them over the translation c7205da242d269e7… (all of the seat's roots in one cut). By AI agents, Wed Nov 11 2026. No macro, syntax, notation, axiom, sorry.
-/
import Derived.Test.YtfpghcdjfiggiaaChecked
import GoSem.Claim
import GoSem.ClaimJoined
import GoSem.ClaimMapViews
import Derived.JoinedTies
import Derived.KernelRfl
namespace Go.Proofs.Ytfpghcdjfiggiaa
/- THE CELL 'sum', in the pinned program and in every row, IS THE sha256 OF THE DUMP (.gsa) THAT YtfpghcdjfiggiaaProg.lean LOADS. Nothing in Lean hashes anything: it is a label: what it is worth is what the hold of that sum in a sandbox is worth. -/
noncomputable def Try.pinned : Pinned := { name := "ytfpghcdjfiggiaa", sum := "c7205da242d269e784e5185d1d34c523e41adedf2e43b9068785fd2d83717d7e", checked := Try.checked }
namespace Rows
def none {H : Type} : Left H := { results := [], args := [] }

/-- 'gneisslaw10.ShakeActs': WHATEVER THE INPUT: true; the input reads as it did. -/
def shakeActsSpec : ChangeSpec := { name := "shakeActs", fn := fun _ => fun
  | [d1, d2] => { results := [.lit (.bool true)], args := [d1, d2] }
  | _ => none }
def shakeActsRow : OpenClaim := { program := "ytfpghcdjfiggiaa", sum := "c7205da242d269e784e5185d1d34c523e41adedf2e43b9068785fd2d83717d7e", func := "gneiss/gneisslaw10.ShakeActs", spec := "shakeActs", apart := false }
def ShakeActsSaid : Prop := shakeActsRow.holds Try.pinned (OpenSpec.ofChange shakeActsSpec)

/-- ITS FALSE NEIGHBOUR: 'it returns false'. Refute it at one input. -/
def shakeActsWrong : ChangeSpec := { name := "shakeActs", fn := fun _ => fun
  | [d1, d2] => { results := [.lit (.bool false)], args := [d1, d2] }
  | _ => none }
def ShakeActsWrongFalsely : Prop := shakeActsRow.holds Try.pinned (OpenSpec.ofChange shakeActsWrong)

/-- 'gneisslaw10.ShakeRounds': WHATEVER THE INPUT: true; the input reads as it did. -/
def shakeRoundsSpec : ChangeSpec := { name := "shakeRounds", fn := fun _ => fun
  | [d1, d2, d3] => { results := [.lit (.bool true)], args := [d1, d2, d3] }
  | _ => none }
def shakeRoundsRow : OpenClaim := { program := "ytfpghcdjfiggiaa", sum := "c7205da242d269e784e5185d1d34c523e41adedf2e43b9068785fd2d83717d7e", func := "gneiss/gneisslaw10.ShakeRounds", spec := "shakeRounds", apart := false }
def ShakeRoundsSaid : Prop := shakeRoundsRow.holds Try.pinned (OpenSpec.ofChange shakeRoundsSpec)

/-- ITS FALSE NEIGHBOUR: 'it returns false'. Refute it at one input. -/
def shakeRoundsWrong : ChangeSpec := { name := "shakeRounds", fn := fun _ => fun
  | [d1, d2, d3] => { results := [.lit (.bool false)], args := [d1, d2, d3] }
  | _ => none }
def ShakeRoundsWrongFalsely : Prop := shakeRoundsRow.holds Try.pinned (OpenSpec.ofChange shakeRoundsWrong)

/-- 'gneisslaw3.ArenaSteps': WHATEVER THE INPUT: true; the input reads as it did. -/
def arenaStepsSpec : ChangeSpec := { name := "arenaSteps", fn := fun _ => fun
  | [d1, d2, d3] => { results := [.lit (.bool true)], args := [d1, d2, d3] }
  | _ => none }
def arenaStepsRow : OpenClaim := { program := "ytfpghcdjfiggiaa", sum := "c7205da242d269e784e5185d1d34c523e41adedf2e43b9068785fd2d83717d7e", func := "gneiss/gneisslaw3.ArenaSteps", spec := "arenaSteps", apart := false }
def ArenaStepsSaid : Prop := arenaStepsRow.holds Try.pinned (OpenSpec.ofChange arenaStepsSpec)

/-- ITS FALSE NEIGHBOUR: 'it returns false'. Refute it at one input. -/
def arenaStepsWrong : ChangeSpec := { name := "arenaSteps", fn := fun _ => fun
  | [d1, d2, d3] => { results := [.lit (.bool false)], args := [d1, d2, d3] }
  | _ => none }
def ArenaStepsWrongFalsely : Prop := arenaStepsRow.holds Try.pinned (OpenSpec.ofChange arenaStepsWrong)

/-- 'gneisslaw3.ArenaSwaps': WHATEVER THE INPUT: true; the input reads as it did. -/
def arenaSwapsSpec : ChangeSpec := { name := "arenaSwaps", fn := fun _ => fun
  | [d1, d2] => { results := [.lit (.bool true)], args := [d1, d2] }
  | _ => none }
def arenaSwapsRow : OpenClaim := { program := "ytfpghcdjfiggiaa", sum := "c7205da242d269e784e5185d1d34c523e41adedf2e43b9068785fd2d83717d7e", func := "gneiss/gneisslaw3.ArenaSwaps", spec := "arenaSwaps", apart := false }
def ArenaSwapsSaid : Prop := arenaSwapsRow.holds Try.pinned (OpenSpec.ofChange arenaSwapsSpec)

/-- ITS FALSE NEIGHBOUR: 'it returns false'. Refute it at one input. -/
def arenaSwapsWrong : ChangeSpec := { name := "arenaSwaps", fn := fun _ => fun
  | [d1, d2] => { results := [.lit (.bool false)], args := [d1, d2] }
  | _ => none }
def ArenaSwapsWrongFalsely : Prop := arenaSwapsRow.holds Try.pinned (OpenSpec.ofChange arenaSwapsWrong)

/-- 'gneisslaw6.FragForms': WHATEVER THE INPUT: true; the input reads as it did. -/
def fragFormsSpec : ChangeSpec := { name := "fragForms", fn := fun _ => fun
  | [d1, d2, d3] => { results := [.lit (.bool true)], args := [d1, d2, d3] }
  | _ => none }
def fragFormsRow : OpenClaim := { program := "ytfpghcdjfiggiaa", sum := "c7205da242d269e784e5185d1d34c523e41adedf2e43b9068785fd2d83717d7e", func := "gneiss/gneisslaw6.FragForms", spec := "fragForms", apart := false }
def FragFormsSaid : Prop := fragFormsRow.holds Try.pinned (OpenSpec.ofChange fragFormsSpec)

/-- ITS FALSE NEIGHBOUR: 'it returns false'. Refute it at one input. -/
def fragFormsWrong : ChangeSpec := { name := "fragForms", fn := fun _ => fun
  | [d1, d2, d3] => { results := [.lit (.bool false)], args := [d1, d2, d3] }
  | _ => none }
def FragFormsWrongFalsely : Prop := fragFormsRow.holds Try.pinned (OpenSpec.ofChange fragFormsWrong)

/-- 'gneisslaw6.FragAgain': WHATEVER THE INPUT: true; the input reads as it did. -/
def fragAgainSpec : ChangeSpec := { name := "fragAgain", fn := fun _ => fun
  | [d1, d2] => { results := [.lit (.bool true)], args := [d1, d2] }
  | _ => none }
def fragAgainRow : OpenClaim := { program := "ytfpghcdjfiggiaa", sum := "c7205da242d269e784e5185d1d34c523e41adedf2e43b9068785fd2d83717d7e", func := "gneiss/gneisslaw6.FragAgain", spec := "fragAgain", apart := false }
def FragAgainSaid : Prop := fragAgainRow.holds Try.pinned (OpenSpec.ofChange fragAgainSpec)

/-- ITS FALSE NEIGHBOUR: 'it returns false'. Refute it at one input. -/
def fragAgainWrong : ChangeSpec := { name := "fragAgain", fn := fun _ => fun
  | [d1, d2] => { results := [.lit (.bool false)], args := [d1, d2] }
  | _ => none }
def FragAgainWrongFalsely : Prop := fragAgainRow.holds Try.pinned (OpenSpec.ofChange fragAgainWrong)

/-- 'gneisslaw6.FragActs': WHATEVER THE INPUT: true; the input reads as it did. -/
def fragActsSpec : ChangeSpec := { name := "fragActs", fn := fun _ => fun
  | [d1, d2, d3] => { results := [.lit (.bool true)], args := [d1, d2, d3] }
  | _ => none }
def fragActsRow : OpenClaim := { program := "ytfpghcdjfiggiaa", sum := "c7205da242d269e784e5185d1d34c523e41adedf2e43b9068785fd2d83717d7e", func := "gneiss/gneisslaw6.FragActs", spec := "fragActs", apart := false }
def FragActsSaid : Prop := fragActsRow.holds Try.pinned (OpenSpec.ofChange fragActsSpec)

/-- ITS FALSE NEIGHBOUR: 'it returns false'. Refute it at one input. -/
def fragActsWrong : ChangeSpec := { name := "fragActs", fn := fun _ => fun
  | [d1, d2, d3] => { results := [.lit (.bool false)], args := [d1, d2, d3] }
  | _ => none }
def FragActsWrongFalsely : Prop := fragActsRow.holds Try.pinned (OpenSpec.ofChange fragActsWrong)

/-- 'gneisslaw5.StackForms': WHATEVER THE INPUT: true; the input reads as it did. -/
def stackFormsSpec : ChangeSpec := { name := "stackForms", fn := fun _ => fun
  | [d1, d2, d3] => { results := [.lit (.bool true)], args := [d1, d2, d3] }
  | _ => none }
def stackFormsRow : OpenClaim := { program := "ytfpghcdjfiggiaa", sum := "c7205da242d269e784e5185d1d34c523e41adedf2e43b9068785fd2d83717d7e", func := "gneiss/gneisslaw5.StackForms", spec := "stackForms", apart := false }
def StackFormsSaid : Prop := stackFormsRow.holds Try.pinned (OpenSpec.ofChange stackFormsSpec)

/-- ITS FALSE NEIGHBOUR: 'it returns false'. Refute it at one input. -/
def stackFormsWrong : ChangeSpec := { name := "stackForms", fn := fun _ => fun
  | [d1, d2, d3] => { results := [.lit (.bool false)], args := [d1, d2, d3] }
  | _ => none }
def StackFormsWrongFalsely : Prop := stackFormsRow.holds Try.pinned (OpenSpec.ofChange stackFormsWrong)

/-- 'gneisslaw5.StackAlone': WHATEVER THE INPUT: true; the input reads as it did. -/
def stackAloneSpec : ChangeSpec := { name := "stackAlone", fn := fun _ => fun
  | [d1, d2] => { results := [.lit (.bool true)], args := [d1, d2] }
  | _ => none }
def stackAloneRow : OpenClaim := { program := "ytfpghcdjfiggiaa", sum := "c7205da242d269e784e5185d1d34c523e41adedf2e43b9068785fd2d83717d7e", func := "gneiss/gneisslaw5.StackAlone", spec := "stackAlone", apart := false }
def StackAloneSaid : Prop := stackAloneRow.holds Try.pinned (OpenSpec.ofChange stackAloneSpec)

/-- ITS FALSE NEIGHBOUR: 'it returns false'. Refute it at one input. -/
def stackAloneWrong : ChangeSpec := { name := "stackAlone", fn := fun _ => fun
  | [d1, d2] => { results := [.lit (.bool false)], args := [d1, d2] }
  | _ => none }
def StackAloneWrongFalsely : Prop := stackAloneRow.holds Try.pinned (OpenSpec.ofChange stackAloneWrong)

/-- 'gneisslaw5.StackRows': WHATEVER THE INPUT: true; the input reads as it did. -/
def stackRowsSpec : ChangeSpec := { name := "stackRows", fn := fun _ => fun
  | [d1, d2] => { results := [.lit (.bool true)], args := [d1, d2] }
  | _ => none }
def stackRowsRow : OpenClaim := { program := "ytfpghcdjfiggiaa", sum := "c7205da242d269e784e5185d1d34c523e41adedf2e43b9068785fd2d83717d7e", func := "gneiss/gneisslaw5.StackRows", spec := "stackRows", apart := false }
def StackRowsSaid : Prop := stackRowsRow.holds Try.pinned (OpenSpec.ofChange stackRowsSpec)

/-- ITS FALSE NEIGHBOUR: 'it returns false'. Refute it at one input. -/
def stackRowsWrong : ChangeSpec := { name := "stackRows", fn := fun _ => fun
  | [d1, d2] => { results := [.lit (.bool false)], args := [d1, d2] }
  | _ => none }
def StackRowsWrongFalsely : Prop := stackRowsRow.holds Try.pinned (OpenSpec.ofChange stackRowsWrong)

/-- 'gneisslaw5.StackMany': WHATEVER THE INPUT: true; the input reads as it did. -/
def stackManySpec : ChangeSpec := { name := "stackMany", fn := fun _ => fun
  | [d1, d2] => { results := [.lit (.bool true)], args := [d1, d2] }
  | _ => none }
def stackManyRow : OpenClaim := { program := "ytfpghcdjfiggiaa", sum := "c7205da242d269e784e5185d1d34c523e41adedf2e43b9068785fd2d83717d7e", func := "gneiss/gneisslaw5.StackMany", spec := "stackMany", apart := false }
def StackManySaid : Prop := stackManyRow.holds Try.pinned (OpenSpec.ofChange stackManySpec)

/-- ITS FALSE NEIGHBOUR: 'it returns false'. Refute it at one input. -/
def stackManyWrong : ChangeSpec := { name := "stackMany", fn := fun _ => fun
  | [d1, d2] => { results := [.lit (.bool false)], args := [d1, d2] }
  | _ => none }
def StackManyWrongFalsely : Prop := stackManyRow.holds Try.pinned (OpenSpec.ofChange stackManyWrong)

/-- 'gneisslaw5.StackActs': WHATEVER THE INPUT: true; the input reads as it did. -/
def stackActsSpec : ChangeSpec := { name := "stackActs", fn := fun _ => fun
  | [d1, d2, d3, d4] => { results := [.lit (.bool true)], args := [d1, d2, d3, d4] }
  | _ => none }
def stackActsRow : OpenClaim := { program := "ytfpghcdjfiggiaa", sum := "c7205da242d269e784e5185d1d34c523e41adedf2e43b9068785fd2d83717d7e", func := "gneiss/gneisslaw5.StackActs", spec := "stackActs", apart := false }
def StackActsSaid : Prop := stackActsRow.holds Try.pinned (OpenSpec.ofChange stackActsSpec)

/-- ITS FALSE NEIGHBOUR: 'it returns false'. Refute it at one input. -/
def stackActsWrong : ChangeSpec := { name := "stackActs", fn := fun _ => fun
  | [d1, d2, d3, d4] => { results := [.lit (.bool false)], args := [d1, d2, d3, d4] }
  | _ => none }
def StackActsWrongFalsely : Prop := stackActsRow.holds Try.pinned (OpenSpec.ofChange stackActsWrong)

/-- 'gneisslaw7.SpineCycles': WHATEVER THE INPUT: true; the input reads as it did. -/
def spineCyclesSpec : ChangeSpec := { name := "spineCycles", fn := fun _ => fun
  | [d1, d2] => { results := [.lit (.bool true)], args := [d1, d2] }
  | _ => none }
def spineCyclesRow : OpenClaim := { program := "ytfpghcdjfiggiaa", sum := "c7205da242d269e784e5185d1d34c523e41adedf2e43b9068785fd2d83717d7e", func := "gneiss/gneisslaw7.SpineCycles", spec := "spineCycles", apart := false }
def SpineCyclesSaid : Prop := spineCyclesRow.holds Try.pinned (OpenSpec.ofChange spineCyclesSpec)

/-- ITS FALSE NEIGHBOUR: 'it returns false'. Refute it at one input. -/
def spineCyclesWrong : ChangeSpec := { name := "spineCycles", fn := fun _ => fun
  | [d1, d2] => { results := [.lit (.bool false)], args := [d1, d2] }
  | _ => none }
def SpineCyclesWrongFalsely : Prop := spineCyclesRow.holds Try.pinned (OpenSpec.ofChange spineCyclesWrong)

/-- 'gneisslaw7.SpineRoom': WHATEVER THE INPUT: true; the input reads as it did. -/
def spineRoomSpec : ChangeSpec := { name := "spineRoom", fn := fun _ => fun
  | [d1, d2] => { results := [.lit (.bool true)], args := [d1, d2] }
  | _ => none }
def spineRoomRow : OpenClaim := { program := "ytfpghcdjfiggiaa", sum := "c7205da242d269e784e5185d1d34c523e41adedf2e43b9068785fd2d83717d7e", func := "gneiss/gneisslaw7.SpineRoom", spec := "spineRoom", apart := false }
def SpineRoomSaid : Prop := spineRoomRow.holds Try.pinned (OpenSpec.ofChange spineRoomSpec)

/-- ITS FALSE NEIGHBOUR: 'it returns false'. Refute it at one input. -/
def spineRoomWrong : ChangeSpec := { name := "spineRoom", fn := fun _ => fun
  | [d1, d2] => { results := [.lit (.bool false)], args := [d1, d2] }
  | _ => none }
def SpineRoomWrongFalsely : Prop := spineRoomRow.holds Try.pinned (OpenSpec.ofChange spineRoomWrong)

/-- 'gneisslaw7.SpineActs': WHATEVER THE INPUT: true; the input reads as it did. -/
def spineActsSpec : ChangeSpec := { name := "spineActs", fn := fun _ => fun
  | [d1, d2, d3] => { results := [.lit (.bool true)], args := [d1, d2, d3] }
  | _ => none }
def spineActsRow : OpenClaim := { program := "ytfpghcdjfiggiaa", sum := "c7205da242d269e784e5185d1d34c523e41adedf2e43b9068785fd2d83717d7e", func := "gneiss/gneisslaw7.SpineActs", spec := "spineActs", apart := false }
def SpineActsSaid : Prop := spineActsRow.holds Try.pinned (OpenSpec.ofChange spineActsSpec)

/-- ITS FALSE NEIGHBOUR: 'it returns false'. Refute it at one input. -/
def spineActsWrong : ChangeSpec := { name := "spineActs", fn := fun _ => fun
  | [d1, d2, d3] => { results := [.lit (.bool false)], args := [d1, d2, d3] }
  | _ => none }
def SpineActsWrongFalsely : Prop := spineActsRow.holds Try.pinned (OpenSpec.ofChange spineActsWrong)

/-- 'gneisslaw9.HeapSteps': WHATEVER THE INPUT: true; the input reads as it did. -/
def heapStepsSpec : ChangeSpec := { name := "heapSteps", fn := fun _ => fun
  | [d1, d2] => { results := [.lit (.bool true)], args := [d1, d2] }
  | _ => none }
def heapStepsRow : OpenClaim := { program := "ytfpghcdjfiggiaa", sum := "c7205da242d269e784e5185d1d34c523e41adedf2e43b9068785fd2d83717d7e", func := "gneiss/gneisslaw9.HeapSteps", spec := "heapSteps", apart := false }
def HeapStepsSaid : Prop := heapStepsRow.holds Try.pinned (OpenSpec.ofChange heapStepsSpec)

/-- ITS FALSE NEIGHBOUR: 'it returns false'. Refute it at one input. -/
def heapStepsWrong : ChangeSpec := { name := "heapSteps", fn := fun _ => fun
  | [d1, d2] => { results := [.lit (.bool false)], args := [d1, d2] }
  | _ => none }
def HeapStepsWrongFalsely : Prop := heapStepsRow.holds Try.pinned (OpenSpec.ofChange heapStepsWrong)

/-- 'gneisslaw8.ObjectApart': WHATEVER THE INPUT: true; the input reads as it did. -/
def objectApartSpec : ChangeSpec := { name := "objectApart", fn := fun _ => fun
  | [d] => { results := [.lit (.bool true)], args := [d] }
  | _ => none }
def objectApartRow : OpenClaim := { program := "ytfpghcdjfiggiaa", sum := "c7205da242d269e784e5185d1d34c523e41adedf2e43b9068785fd2d83717d7e", func := "gneiss/gneisslaw8.ObjectApart", spec := "objectApart", recurses := true, apart := false }
def ObjectApartSaid : Prop := objectApartRow.holds Try.pinned (OpenSpec.ofChange objectApartSpec)

/-- ITS FALSE NEIGHBOUR: 'it returns false'. Refute it at one input. -/
def objectApartWrong : ChangeSpec := { name := "objectApart", fn := fun _ => fun
  | [d] => { results := [.lit (.bool false)], args := [d] }
  | _ => none }
def ObjectApartWrongFalsely : Prop := objectApartRow.holds Try.pinned (OpenSpec.ofChange objectApartWrong)

/-- 'gneisslaw8.ObjectActs': WHATEVER THE INPUT: true; the input reads as it did. -/
def objectActsSpec : ChangeSpec := { name := "objectActs", fn := fun _ => fun
  | [d1, d2] => { results := [.lit (.bool true)], args := [d1, d2] }
  | _ => none }
def objectActsRow : OpenClaim := { program := "ytfpghcdjfiggiaa", sum := "c7205da242d269e784e5185d1d34c523e41adedf2e43b9068785fd2d83717d7e", func := "gneiss/gneisslaw8.ObjectActs", spec := "objectActs", recurses := true, apart := false }
def ObjectActsSaid : Prop := objectActsRow.holds Try.pinned (OpenSpec.ofChange objectActsSpec)

/-- ITS FALSE NEIGHBOUR: 'it returns false'. Refute it at one input. -/
def objectActsWrong : ChangeSpec := { name := "objectActs", fn := fun _ => fun
  | [d1, d2] => { results := [.lit (.bool false)], args := [d1, d2] }
  | _ => none }
def ObjectActsWrongFalsely : Prop := objectActsRow.holds Try.pinned (OpenSpec.ofChange objectActsWrong)

/-- 'gneisslaw9.HeapKinds': WHATEVER THE INPUT: true; the input reads as it did. -/
def heapKindsSpec : ChangeSpec := { name := "heapKinds", fn := fun _ => fun
  | [d1, d2, d3] => { results := [.lit (.bool true)], args := [d1, d2, d3] }
  | _ => none }
def heapKindsRow : OpenClaim := { program := "ytfpghcdjfiggiaa", sum := "c7205da242d269e784e5185d1d34c523e41adedf2e43b9068785fd2d83717d7e", func := "gneiss/gneisslaw9.HeapKinds", spec := "heapKinds", recurses := true, apart := false }
def HeapKindsSaid : Prop := heapKindsRow.holds Try.pinned (OpenSpec.ofChange heapKindsSpec)

/-- ITS FALSE NEIGHBOUR: 'it returns false'. Refute it at one input. -/
def heapKindsWrong : ChangeSpec := { name := "heapKinds", fn := fun _ => fun
  | [d1, d2, d3] => { results := [.lit (.bool false)], args := [d1, d2, d3] }
  | _ => none }
def HeapKindsWrongFalsely : Prop := heapKindsRow.holds Try.pinned (OpenSpec.ofChange heapKindsWrong)

/-- 'gneisslaw9.HeapAgain': WHATEVER THE INPUT: true; the input reads as it did. -/
def heapAgainSpec : ChangeSpec := { name := "heapAgain", fn := fun _ => fun
  | [d1, d2] => { results := [.lit (.bool true)], args := [d1, d2] }
  | _ => none }
def heapAgainRow : OpenClaim := { program := "ytfpghcdjfiggiaa", sum := "c7205da242d269e784e5185d1d34c523e41adedf2e43b9068785fd2d83717d7e", func := "gneiss/gneisslaw9.HeapAgain", spec := "heapAgain", recurses := true, apart := false }
def HeapAgainSaid : Prop := heapAgainRow.holds Try.pinned (OpenSpec.ofChange heapAgainSpec)

/-- ITS FALSE NEIGHBOUR: 'it returns false'. Refute it at one input. -/
def heapAgainWrong : ChangeSpec := { name := "heapAgain", fn := fun _ => fun
  | [d1, d2] => { results := [.lit (.bool false)], args := [d1, d2] }
  | _ => none }
def HeapAgainWrongFalsely : Prop := heapAgainRow.holds Try.pinned (OpenSpec.ofChange heapAgainWrong)

/-- 'gneisslaw9.HeapActs': WHATEVER THE INPUT: true; the input reads as it did. -/
def heapActsSpec : ChangeSpec := { name := "heapActs", fn := fun _ => fun
  | [d1, d2, d3] => { results := [.lit (.bool true)], args := [d1, d2, d3] }
  | _ => none }
def heapActsRow : OpenClaim := { program := "ytfpghcdjfiggiaa", sum := "c7205da242d269e784e5185d1d34c523e41adedf2e43b9068785fd2d83717d7e", func := "gneiss/gneisslaw9.HeapActs", spec := "heapActs", recurses := true, apart := false }
def HeapActsSaid : Prop := heapActsRow.holds Try.pinned (OpenSpec.ofChange heapActsSpec)

/-- ITS FALSE NEIGHBOUR: 'it returns false'. Refute it at one input. -/
def heapActsWrong : ChangeSpec := { name := "heapActs", fn := fun _ => fun
  | [d1, d2, d3] => { results := [.lit (.bool false)], args := [d1, d2, d3] }
  | _ => none }
def HeapActsWrongFalsely : Prop := heapActsRow.holds Try.pinned (OpenSpec.ofChange heapActsWrong)

/-- 'gneisslaw13.RefsOnce': WHATEVER THE INPUT: true; the input reads as it did. -/
def refsOnceSpec : ChangeSpec := { name := "refsOnce", fn := fun _ => fun
  | [d1, d2] => { results := [.lit (.bool true)], args := [d1, d2] }
  | _ => none }
def refsOnceRow : OpenClaim := { program := "ytfpghcdjfiggiaa", sum := "c7205da242d269e784e5185d1d34c523e41adedf2e43b9068785fd2d83717d7e", func := "gneiss/gneisslaw13.RefsOnce", spec := "refsOnce", unfollowed := true, recurses := true, apart := false }
def RefsOnceSaid : Prop := refsOnceRow.holds Try.pinned (OpenSpec.ofChange refsOnceSpec)

/-- ITS FALSE NEIGHBOUR: 'it returns false'. Refute it at one input. -/
def refsOnceWrong : ChangeSpec := { name := "refsOnce", fn := fun _ => fun
  | [d1, d2] => { results := [.lit (.bool false)], args := [d1, d2] }
  | _ => none }
def RefsOnceWrongFalsely : Prop := refsOnceRow.holds Try.pinned (OpenSpec.ofChange refsOnceWrong)

/-- 'gneisslaw13.RefsRow': WHATEVER THE INPUT: true; the input reads as it did. -/
def refsRowSpec : ChangeSpec := { name := "refsRow", fn := fun _ => fun
  | [d1, d2] => { results := [.lit (.bool true)], args := [d1, d2] }
  | _ => none }
def refsRowRow : OpenClaim := { program := "ytfpghcdjfiggiaa", sum := "c7205da242d269e784e5185d1d34c523e41adedf2e43b9068785fd2d83717d7e", func := "gneiss/gneisslaw13.RefsRow", spec := "refsRow", unfollowed := true, recurses := true, apart := false }
def RefsRowSaid : Prop := refsRowRow.holds Try.pinned (OpenSpec.ofChange refsRowSpec)

/-- ITS FALSE NEIGHBOUR: 'it returns false'. Refute it at one input. -/
def refsRowWrong : ChangeSpec := { name := "refsRow", fn := fun _ => fun
  | [d1, d2] => { results := [.lit (.bool false)], args := [d1, d2] }
  | _ => none }
def RefsRowWrongFalsely : Prop := refsRowRow.holds Try.pinned (OpenSpec.ofChange refsRowWrong)

/-- 'gneisslaw13.RefsWeaks': WHATEVER THE INPUT: true; the input reads as it did. -/
def refsWeaksSpec : ChangeSpec := { name := "refsWeaks", fn := fun _ => fun
  | [d1, d2] => { results := [.lit (.bool true)], args := [d1, d2] }
  | _ => none }
def refsWeaksRow : OpenClaim := { program := "ytfpghcdjfiggiaa", sum := "c7205da242d269e784e5185d1d34c523e41adedf2e43b9068785fd2d83717d7e", func := "gneiss/gneisslaw13.RefsWeaks", spec := "refsWeaks", unfollowed := true, recurses := true, apart := false }
def RefsWeaksSaid : Prop := refsWeaksRow.holds Try.pinned (OpenSpec.ofChange refsWeaksSpec)

/-- ITS FALSE NEIGHBOUR: 'it returns false'. Refute it at one input. -/
def refsWeaksWrong : ChangeSpec := { name := "refsWeaks", fn := fun _ => fun
  | [d1, d2] => { results := [.lit (.bool false)], args := [d1, d2] }
  | _ => none }
def RefsWeaksWrongFalsely : Prop := refsWeaksRow.holds Try.pinned (OpenSpec.ofChange refsWeaksWrong)

/-- 'gneisslaw12.CollectRoots': WHATEVER THE INPUT: true; the input reads as it did. -/
def collectRootsSpec : ChangeSpec := { name := "collectRoots", fn := fun _ => fun
  | [d] => { results := [.lit (.bool true)], args := [d] }
  | _ => none }
def collectRootsRow : OpenClaim := { program := "ytfpghcdjfiggiaa", sum := "c7205da242d269e784e5185d1d34c523e41adedf2e43b9068785fd2d83717d7e", func := "gneiss/gneisslaw12.CollectRoots", spec := "collectRoots", recurses := true, apart := false }
def CollectRootsSaid : Prop := collectRootsRow.holds Try.pinned (OpenSpec.ofChange collectRootsSpec)

/-- ITS FALSE NEIGHBOUR: 'it returns false'. Refute it at one input. -/
def collectRootsWrong : ChangeSpec := { name := "collectRoots", fn := fun _ => fun
  | [d] => { results := [.lit (.bool false)], args := [d] }
  | _ => none }
def CollectRootsWrongFalsely : Prop := collectRootsRow.holds Try.pinned (OpenSpec.ofChange collectRootsWrong)

/-- 'gneisslaw13.RefsChains': WHATEVER THE INPUT: true; the input reads as it did. -/
def refsChainsSpec : ChangeSpec := { name := "refsChains", fn := fun _ => fun
  | [d] => { results := [.lit (.bool true)], args := [d] }
  | _ => none }
def refsChainsRow : OpenClaim := { program := "ytfpghcdjfiggiaa", sum := "c7205da242d269e784e5185d1d34c523e41adedf2e43b9068785fd2d83717d7e", func := "gneiss/gneisslaw13.RefsChains", spec := "refsChains", unfollowed := true, recurses := true, apart := false }
def RefsChainsSaid : Prop := refsChainsRow.holds Try.pinned (OpenSpec.ofChange refsChainsSpec)

/-- ITS FALSE NEIGHBOUR: 'it returns false'. Refute it at one input. -/
def refsChainsWrong : ChangeSpec := { name := "refsChains", fn := fun _ => fun
  | [d] => { results := [.lit (.bool false)], args := [d] }
  | _ => none }
def RefsChainsWrongFalsely : Prop := refsChainsRow.holds Try.pinned (OpenSpec.ofChange refsChainsWrong)

/-- 'gneisslaw12.CollectFull': WHATEVER THE INPUT: true; the input reads as it did. -/
def collectFullSpec : ChangeSpec := { name := "collectFull", fn := fun _ => fun
  | [d1, d2] => { results := [.lit (.bool true)], args := [d1, d2] }
  | _ => none }
def collectFullRow : OpenClaim := { program := "ytfpghcdjfiggiaa", sum := "c7205da242d269e784e5185d1d34c523e41adedf2e43b9068785fd2d83717d7e", func := "gneiss/gneisslaw12.CollectFull", spec := "collectFull", recurses := true, apart := false }
def CollectFullSaid : Prop := collectFullRow.holds Try.pinned (OpenSpec.ofChange collectFullSpec)

/-- ITS FALSE NEIGHBOUR: 'it returns false'. Refute it at one input. -/
def collectFullWrong : ChangeSpec := { name := "collectFull", fn := fun _ => fun
  | [d1, d2] => { results := [.lit (.bool false)], args := [d1, d2] }
  | _ => none }
def CollectFullWrongFalsely : Prop := collectFullRow.holds Try.pinned (OpenSpec.ofChange collectFullWrong)

/-- 'gneisslaw12.CollectRings': WHATEVER THE INPUT: true; the input reads as it did. -/
def collectRingsSpec : ChangeSpec := { name := "collectRings", fn := fun _ => fun
  | [d] => { results := [.lit (.bool true)], args := [d] }
  | _ => none }
def collectRingsRow : OpenClaim := { program := "ytfpghcdjfiggiaa", sum := "c7205da242d269e784e5185d1d34c523e41adedf2e43b9068785fd2d83717d7e", func := "gneiss/gneisslaw12.CollectRings", spec := "collectRings", recurses := true, apart := false }
def CollectRingsSaid : Prop := collectRingsRow.holds Try.pinned (OpenSpec.ofChange collectRingsSpec)

/-- ITS FALSE NEIGHBOUR: 'it returns false'. Refute it at one input. -/
def collectRingsWrong : ChangeSpec := { name := "collectRings", fn := fun _ => fun
  | [d] => { results := [.lit (.bool false)], args := [d] }
  | _ => none }
def CollectRingsWrongFalsely : Prop := collectRingsRow.holds Try.pinned (OpenSpec.ofChange collectRingsWrong)

/-- 'gneisslaw12.CollectEnds': WHATEVER THE INPUT: true; the input reads as it did. -/
def collectEndsSpec : ChangeSpec := { name := "collectEnds", fn := fun _ => fun
  | [d1, d2, d3] => { results := [.lit (.bool true)], args := [d1, d2, d3] }
  | _ => none }
def collectEndsRow : OpenClaim := { program := "ytfpghcdjfiggiaa", sum := "c7205da242d269e784e5185d1d34c523e41adedf2e43b9068785fd2d83717d7e", func := "gneiss/gneisslaw12.CollectEnds", spec := "collectEnds", recurses := true, apart := false }
def CollectEndsSaid : Prop := collectEndsRow.holds Try.pinned (OpenSpec.ofChange collectEndsSpec)

/-- ITS FALSE NEIGHBOUR: 'it returns false'. Refute it at one input. -/
def collectEndsWrong : ChangeSpec := { name := "collectEnds", fn := fun _ => fun
  | [d1, d2, d3] => { results := [.lit (.bool false)], args := [d1, d2, d3] }
  | _ => none }
def CollectEndsWrongFalsely : Prop := collectEndsRow.holds Try.pinned (OpenSpec.ofChange collectEndsWrong)

/- THE SECOND FORM. 'bulk': how many values and letters a reading holds, each counted each time it is reached (what is shared counts as often as it is met; a slice's spare places count too). A statement '..UptoSaid' is the law's where the arguments, and the package variables that the reading takes, are together of bulk at most 1048576: NARROWER than '..Said'. Prove '..Said' where nothing that the law and all that it calls make is longer than what came in: it says more and counts as full. Else prove '..UptoSaid'. A law counts once. -/
mutual
def uptoBulk {H : Type} : DataW H → Nat
  | .lit (.string bytes) => bytes.length + 1
  | .lit _ => 1
  | .nil => 1
  | .ptr d => uptoBulk d + 1
  | .slice elems spare => uptoBulkAll elems + uptoBulkAll spare + 1
  | .agg parts => uptoBulkAll parts + 1
  | .iface _ d => uptoBulk d + 1
  | .map entries => uptoBulkEntries entries + 1
  | .held _ => 1
def uptoBulkAll {H : Type} : List (DataW H) → Nat
  | [] => 0
  | d :: r => uptoBulk d + uptoBulkAll r
def uptoBulkEntries {H : Type} : List (Lit × DataW H) → Nat
  | [] => 0
  | x :: r => uptoBulkEntry x + uptoBulkEntries r
def uptoBulkEntry {H : Type} : Lit × DataW H → Nat
  | (.string bytes, d) => bytes.length + uptoBulk d + 1
  | (_, d) => uptoBulk d + 1
 end
def uptoSmall : (H : Type) → List (DataW H) → Bool := fun _ ds => decide (uptoBulkAll ds ≤ 1048576)
def OpenSpec.upto (s : _root_.Go.ChangeSpec) : _root_.Go.OpenSpec := { _root_.Go.OpenSpec.ofChange s with cond := some uptoSmall }

/-- 'gneisslaw10.ShakeActs', WHERE WHAT IT READS IS OF BULK AT MOST 1048576: true; the input reads as it did. -/
def shakeActsUptoRow : OpenClaim := { program := "ytfpghcdjfiggiaa", sum := "c7205da242d269e784e5185d1d34c523e41adedf2e43b9068785fd2d83717d7e", func := "gneiss/gneisslaw10.ShakeActs", spec := "shakeActs", apart := false, narrowed := true }
def ShakeActsUptoSaid : Prop := shakeActsUptoRow.holds Try.pinned (OpenSpec.upto shakeActsSpec)

/-- 'gneisslaw10.ShakeRounds', WHERE WHAT IT READS IS OF BULK AT MOST 1048576: true; the input reads as it did. -/
def shakeRoundsUptoRow : OpenClaim := { program := "ytfpghcdjfiggiaa", sum := "c7205da242d269e784e5185d1d34c523e41adedf2e43b9068785fd2d83717d7e", func := "gneiss/gneisslaw10.ShakeRounds", spec := "shakeRounds", apart := false, narrowed := true }
def ShakeRoundsUptoSaid : Prop := shakeRoundsUptoRow.holds Try.pinned (OpenSpec.upto shakeRoundsSpec)

/-- 'gneisslaw3.ArenaSteps', WHERE WHAT IT READS IS OF BULK AT MOST 1048576: true; the input reads as it did. -/
def arenaStepsUptoRow : OpenClaim := { program := "ytfpghcdjfiggiaa", sum := "c7205da242d269e784e5185d1d34c523e41adedf2e43b9068785fd2d83717d7e", func := "gneiss/gneisslaw3.ArenaSteps", spec := "arenaSteps", apart := false, narrowed := true }
def ArenaStepsUptoSaid : Prop := arenaStepsUptoRow.holds Try.pinned (OpenSpec.upto arenaStepsSpec)

/-- 'gneisslaw3.ArenaSwaps', WHERE WHAT IT READS IS OF BULK AT MOST 1048576: true; the input reads as it did. -/
def arenaSwapsUptoRow : OpenClaim := { program := "ytfpghcdjfiggiaa", sum := "c7205da242d269e784e5185d1d34c523e41adedf2e43b9068785fd2d83717d7e", func := "gneiss/gneisslaw3.ArenaSwaps", spec := "arenaSwaps", apart := false, narrowed := true }
def ArenaSwapsUptoSaid : Prop := arenaSwapsUptoRow.holds Try.pinned (OpenSpec.upto arenaSwapsSpec)

/-- 'gneisslaw6.FragForms', WHERE WHAT IT READS IS OF BULK AT MOST 1048576: true; the input reads as it did. -/
def fragFormsUptoRow : OpenClaim := { program := "ytfpghcdjfiggiaa", sum := "c7205da242d269e784e5185d1d34c523e41adedf2e43b9068785fd2d83717d7e", func := "gneiss/gneisslaw6.FragForms", spec := "fragForms", apart := false, narrowed := true }
def FragFormsUptoSaid : Prop := fragFormsUptoRow.holds Try.pinned (OpenSpec.upto fragFormsSpec)

/-- 'gneisslaw6.FragAgain', WHERE WHAT IT READS IS OF BULK AT MOST 1048576: true; the input reads as it did. -/
def fragAgainUptoRow : OpenClaim := { program := "ytfpghcdjfiggiaa", sum := "c7205da242d269e784e5185d1d34c523e41adedf2e43b9068785fd2d83717d7e", func := "gneiss/gneisslaw6.FragAgain", spec := "fragAgain", apart := false, narrowed := true }
def FragAgainUptoSaid : Prop := fragAgainUptoRow.holds Try.pinned (OpenSpec.upto fragAgainSpec)

/-- 'gneisslaw6.FragActs', WHERE WHAT IT READS IS OF BULK AT MOST 1048576: true; the input reads as it did. -/
def fragActsUptoRow : OpenClaim := { program := "ytfpghcdjfiggiaa", sum := "c7205da242d269e784e5185d1d34c523e41adedf2e43b9068785fd2d83717d7e", func := "gneiss/gneisslaw6.FragActs", spec := "fragActs", apart := false, narrowed := true }
def FragActsUptoSaid : Prop := fragActsUptoRow.holds Try.pinned (OpenSpec.upto fragActsSpec)

/-- 'gneisslaw5.StackForms', WHERE WHAT IT READS IS OF BULK AT MOST 1048576: true; the input reads as it did. -/
def stackFormsUptoRow : OpenClaim := { program := "ytfpghcdjfiggiaa", sum := "c7205da242d269e784e5185d1d34c523e41adedf2e43b9068785fd2d83717d7e", func := "gneiss/gneisslaw5.StackForms", spec := "stackForms", apart := false, narrowed := true }
def StackFormsUptoSaid : Prop := stackFormsUptoRow.holds Try.pinned (OpenSpec.upto stackFormsSpec)

/-- 'gneisslaw5.StackAlone', WHERE WHAT IT READS IS OF BULK AT MOST 1048576: true; the input reads as it did. -/
def stackAloneUptoRow : OpenClaim := { program := "ytfpghcdjfiggiaa", sum := "c7205da242d269e784e5185d1d34c523e41adedf2e43b9068785fd2d83717d7e", func := "gneiss/gneisslaw5.StackAlone", spec := "stackAlone", apart := false, narrowed := true }
def StackAloneUptoSaid : Prop := stackAloneUptoRow.holds Try.pinned (OpenSpec.upto stackAloneSpec)

/-- 'gneisslaw5.StackRows', WHERE WHAT IT READS IS OF BULK AT MOST 1048576: true; the input reads as it did. -/
def stackRowsUptoRow : OpenClaim := { program := "ytfpghcdjfiggiaa", sum := "c7205da242d269e784e5185d1d34c523e41adedf2e43b9068785fd2d83717d7e", func := "gneiss/gneisslaw5.StackRows", spec := "stackRows", apart := false, narrowed := true }
def StackRowsUptoSaid : Prop := stackRowsUptoRow.holds Try.pinned (OpenSpec.upto stackRowsSpec)

/-- 'gneisslaw5.StackMany', WHERE WHAT IT READS IS OF BULK AT MOST 1048576: true; the input reads as it did. -/
def stackManyUptoRow : OpenClaim := { program := "ytfpghcdjfiggiaa", sum := "c7205da242d269e784e5185d1d34c523e41adedf2e43b9068785fd2d83717d7e", func := "gneiss/gneisslaw5.StackMany", spec := "stackMany", apart := false, narrowed := true }
def StackManyUptoSaid : Prop := stackManyUptoRow.holds Try.pinned (OpenSpec.upto stackManySpec)

/-- 'gneisslaw5.StackActs', WHERE WHAT IT READS IS OF BULK AT MOST 1048576: true; the input reads as it did. -/
def stackActsUptoRow : OpenClaim := { program := "ytfpghcdjfiggiaa", sum := "c7205da242d269e784e5185d1d34c523e41adedf2e43b9068785fd2d83717d7e", func := "gneiss/gneisslaw5.StackActs", spec := "stackActs", apart := false, narrowed := true }
def StackActsUptoSaid : Prop := stackActsUptoRow.holds Try.pinned (OpenSpec.upto stackActsSpec)

/-- 'gneisslaw7.SpineCycles', WHERE WHAT IT READS IS OF BULK AT MOST 1048576: true; the input reads as it did. -/
def spineCyclesUptoRow : OpenClaim := { program := "ytfpghcdjfiggiaa", sum := "c7205da242d269e784e5185d1d34c523e41adedf2e43b9068785fd2d83717d7e", func := "gneiss/gneisslaw7.SpineCycles", spec := "spineCycles", apart := false, narrowed := true }
def SpineCyclesUptoSaid : Prop := spineCyclesUptoRow.holds Try.pinned (OpenSpec.upto spineCyclesSpec)

/-- 'gneisslaw7.SpineRoom', WHERE WHAT IT READS IS OF BULK AT MOST 1048576: true; the input reads as it did. -/
def spineRoomUptoRow : OpenClaim := { program := "ytfpghcdjfiggiaa", sum := "c7205da242d269e784e5185d1d34c523e41adedf2e43b9068785fd2d83717d7e", func := "gneiss/gneisslaw7.SpineRoom", spec := "spineRoom", apart := false, narrowed := true }
def SpineRoomUptoSaid : Prop := spineRoomUptoRow.holds Try.pinned (OpenSpec.upto spineRoomSpec)

/-- 'gneisslaw7.SpineActs', WHERE WHAT IT READS IS OF BULK AT MOST 1048576: true; the input reads as it did. -/
def spineActsUptoRow : OpenClaim := { program := "ytfpghcdjfiggiaa", sum := "c7205da242d269e784e5185d1d34c523e41adedf2e43b9068785fd2d83717d7e", func := "gneiss/gneisslaw7.SpineActs", spec := "spineActs", apart := false, narrowed := true }
def SpineActsUptoSaid : Prop := spineActsUptoRow.holds Try.pinned (OpenSpec.upto spineActsSpec)

/-- 'gneisslaw9.HeapSteps', WHERE WHAT IT READS IS OF BULK AT MOST 1048576: true; the input reads as it did. -/
def heapStepsUptoRow : OpenClaim := { program := "ytfpghcdjfiggiaa", sum := "c7205da242d269e784e5185d1d34c523e41adedf2e43b9068785fd2d83717d7e", func := "gneiss/gneisslaw9.HeapSteps", spec := "heapSteps", apart := false, narrowed := true }
def HeapStepsUptoSaid : Prop := heapStepsUptoRow.holds Try.pinned (OpenSpec.upto heapStepsSpec)

/-- 'gneisslaw8.ObjectApart', WHERE WHAT IT READS IS OF BULK AT MOST 1048576: true; the input reads as it did. -/
def objectApartUptoRow : OpenClaim := { program := "ytfpghcdjfiggiaa", sum := "c7205da242d269e784e5185d1d34c523e41adedf2e43b9068785fd2d83717d7e", func := "gneiss/gneisslaw8.ObjectApart", spec := "objectApart", recurses := true, apart := false, narrowed := true }
def ObjectApartUptoSaid : Prop := objectApartUptoRow.holds Try.pinned (OpenSpec.upto objectApartSpec)

/-- 'gneisslaw8.ObjectActs', WHERE WHAT IT READS IS OF BULK AT MOST 1048576: true; the input reads as it did. -/
def objectActsUptoRow : OpenClaim := { program := "ytfpghcdjfiggiaa", sum := "c7205da242d269e784e5185d1d34c523e41adedf2e43b9068785fd2d83717d7e", func := "gneiss/gneisslaw8.ObjectActs", spec := "objectActs", recurses := true, apart := false, narrowed := true }
def ObjectActsUptoSaid : Prop := objectActsUptoRow.holds Try.pinned (OpenSpec.upto objectActsSpec)

/-- 'gneisslaw9.HeapKinds', WHERE WHAT IT READS IS OF BULK AT MOST 1048576: true; the input reads as it did. -/
def heapKindsUptoRow : OpenClaim := { program := "ytfpghcdjfiggiaa", sum := "c7205da242d269e784e5185d1d34c523e41adedf2e43b9068785fd2d83717d7e", func := "gneiss/gneisslaw9.HeapKinds", spec := "heapKinds", recurses := true, apart := false, narrowed := true }
def HeapKindsUptoSaid : Prop := heapKindsUptoRow.holds Try.pinned (OpenSpec.upto heapKindsSpec)

/-- 'gneisslaw9.HeapAgain', WHERE WHAT IT READS IS OF BULK AT MOST 1048576: true; the input reads as it did. -/
def heapAgainUptoRow : OpenClaim := { program := "ytfpghcdjfiggiaa", sum := "c7205da242d269e784e5185d1d34c523e41adedf2e43b9068785fd2d83717d7e", func := "gneiss/gneisslaw9.HeapAgain", spec := "heapAgain", recurses := true, apart := false, narrowed := true }
def HeapAgainUptoSaid : Prop := heapAgainUptoRow.holds Try.pinned (OpenSpec.upto heapAgainSpec)

/-- 'gneisslaw9.HeapActs', WHERE WHAT IT READS IS OF BULK AT MOST 1048576: true; the input reads as it did. -/
def heapActsUptoRow : OpenClaim := { program := "ytfpghcdjfiggiaa", sum := "c7205da242d269e784e5185d1d34c523e41adedf2e43b9068785fd2d83717d7e", func := "gneiss/gneisslaw9.HeapActs", spec := "heapActs", recurses := true, apart := false, narrowed := true }
def HeapActsUptoSaid : Prop := heapActsUptoRow.holds Try.pinned (OpenSpec.upto heapActsSpec)

/-- 'gneisslaw13.RefsOnce', WHERE WHAT IT READS IS OF BULK AT MOST 1048576: true; the input reads as it did. -/
def refsOnceUptoRow : OpenClaim := { program := "ytfpghcdjfiggiaa", sum := "c7205da242d269e784e5185d1d34c523e41adedf2e43b9068785fd2d83717d7e", func := "gneiss/gneisslaw13.RefsOnce", spec := "refsOnce", unfollowed := true, recurses := true, apart := false, narrowed := true }
def RefsOnceUptoSaid : Prop := refsOnceUptoRow.holds Try.pinned (OpenSpec.upto refsOnceSpec)

/-- 'gneisslaw13.RefsRow', WHERE WHAT IT READS IS OF BULK AT MOST 1048576: true; the input reads as it did. -/
def refsRowUptoRow : OpenClaim := { program := "ytfpghcdjfiggiaa", sum := "c7205da242d269e784e5185d1d34c523e41adedf2e43b9068785fd2d83717d7e", func := "gneiss/gneisslaw13.RefsRow", spec := "refsRow", unfollowed := true, recurses := true, apart := false, narrowed := true }
def RefsRowUptoSaid : Prop := refsRowUptoRow.holds Try.pinned (OpenSpec.upto refsRowSpec)

/-- 'gneisslaw13.RefsWeaks', WHERE WHAT IT READS IS OF BULK AT MOST 1048576: true; the input reads as it did. -/
def refsWeaksUptoRow : OpenClaim := { program := "ytfpghcdjfiggiaa", sum := "c7205da242d269e784e5185d1d34c523e41adedf2e43b9068785fd2d83717d7e", func := "gneiss/gneisslaw13.RefsWeaks", spec := "refsWeaks", unfollowed := true, recurses := true, apart := false, narrowed := true }
def RefsWeaksUptoSaid : Prop := refsWeaksUptoRow.holds Try.pinned (OpenSpec.upto refsWeaksSpec)

/-- 'gneisslaw12.CollectRoots', WHERE WHAT IT READS IS OF BULK AT MOST 1048576: true; the input reads as it did. -/
def collectRootsUptoRow : OpenClaim := { program := "ytfpghcdjfiggiaa", sum := "c7205da242d269e784e5185d1d34c523e41adedf2e43b9068785fd2d83717d7e", func := "gneiss/gneisslaw12.CollectRoots", spec := "collectRoots", recurses := true, apart := false, narrowed := true }
def CollectRootsUptoSaid : Prop := collectRootsUptoRow.holds Try.pinned (OpenSpec.upto collectRootsSpec)

/-- 'gneisslaw13.RefsChains', WHERE WHAT IT READS IS OF BULK AT MOST 1048576: true; the input reads as it did. -/
def refsChainsUptoRow : OpenClaim := { program := "ytfpghcdjfiggiaa", sum := "c7205da242d269e784e5185d1d34c523e41adedf2e43b9068785fd2d83717d7e", func := "gneiss/gneisslaw13.RefsChains", spec := "refsChains", unfollowed := true, recurses := true, apart := false, narrowed := true }
def RefsChainsUptoSaid : Prop := refsChainsUptoRow.holds Try.pinned (OpenSpec.upto refsChainsSpec)

/-- 'gneisslaw12.CollectFull', WHERE WHAT IT READS IS OF BULK AT MOST 1048576: true; the input reads as it did. -/
def collectFullUptoRow : OpenClaim := { program := "ytfpghcdjfiggiaa", sum := "c7205da242d269e784e5185d1d34c523e41adedf2e43b9068785fd2d83717d7e", func := "gneiss/gneisslaw12.CollectFull", spec := "collectFull", recurses := true, apart := false, narrowed := true }
def CollectFullUptoSaid : Prop := collectFullUptoRow.holds Try.pinned (OpenSpec.upto collectFullSpec)

/-- 'gneisslaw12.CollectRings', WHERE WHAT IT READS IS OF BULK AT MOST 1048576: true; the input reads as it did. -/
def collectRingsUptoRow : OpenClaim := { program := "ytfpghcdjfiggiaa", sum := "c7205da242d269e784e5185d1d34c523e41adedf2e43b9068785fd2d83717d7e", func := "gneiss/gneisslaw12.CollectRings", spec := "collectRings", recurses := true, apart := false, narrowed := true }
def CollectRingsUptoSaid : Prop := collectRingsUptoRow.holds Try.pinned (OpenSpec.upto collectRingsSpec)

/-- 'gneisslaw12.CollectEnds', WHERE WHAT IT READS IS OF BULK AT MOST 1048576: true; the input reads as it did. -/
def collectEndsUptoRow : OpenClaim := { program := "ytfpghcdjfiggiaa", sum := "c7205da242d269e784e5185d1d34c523e41adedf2e43b9068785fd2d83717d7e", func := "gneiss/gneisslaw12.CollectEnds", spec := "collectEnds", recurses := true, apart := false, narrowed := true }
def CollectEndsUptoSaid : Prop := collectEndsUptoRow.holds Try.pinned (OpenSpec.upto collectEndsSpec)

end Rows
end Go.Proofs.Ytfpghcdjfiggiaa

/- The calls of the program's functions, under names. No condition. -/
import Derived.Test.YtfpghcdjfiggiaaVCC
import Derived.Test.YtfpghcdjfiggiaaProg
namespace Go.Proofs.Ytfpghcdjfiggiaa.V
open Go
set_option linter.unusedVariables false
/-- gneiss/gneisslaw10.ShakeActs -/
abbrev C3 (x1 : Int) (x2a : Option Addr) (x2l x2c : Nat) (w : World) (K : Bool → World → Prop) : Prop := Calls Try.prog 3 #[.int .i64 x1, .slice x2a x2l x2c] w (Ret [.leaf .bool] K)
/-- gneiss/gneisslaw10.ShakeRounds -/
abbrev C4 (x1 : Int) (x2 : Int) (x3 : Int) (w : World) (K : Bool → World → Prop) : Prop := Calls Try.prog 4 #[.int .i64 x1, .int .i64 x2, .int .i64 x3] w (Ret [.leaf .bool] K)
/-- gneiss/gneisslaw3.ArenaSteps -/
abbrev C5 (x1 : Int) (x2 : Int) (x3a : Option Addr) (x3l x3c : Nat) (w : World) (K : Bool → World → Prop) : Prop := Calls Try.prog 5 #[.int .i64 x1, .int .i64 x2, .slice x3a x3l x3c] w (Ret [.leaf .bool] K)
/-- gneiss/gneisslaw3.ArenaSwaps -/
abbrev C6 (x1 : Int) (x2 : Int) (w : World) (K : Bool → World → Prop) : Prop := Calls Try.prog 6 #[.int .i64 x1, .int .i64 x2] w (Ret [.leaf .bool] K)
/-- gneiss/gneisslaw6.FragForms -/
abbrev C7 (x1 : Int) (x2 : Int) (x3 : Int) (w : World) (K : Bool → World → Prop) : Prop := Calls Try.prog 7 #[.int .i64 x1, .int .i64 x2, .int .i64 x3] w (Ret [.leaf .bool] K)
/-- gneiss/gneisslaw6.FragAgain -/
abbrev C8 (x1 : Int) (x2 : Int) (w : World) (K : Bool → World → Prop) : Prop := Calls Try.prog 8 #[.int .i64 x1, .int .i64 x2] w (Ret [.leaf .bool] K)
/-- gneiss/gneisslaw6.FragActs -/
abbrev C9 (x1 : Int) (x2 : Int) (x3a : Option Addr) (x3l x3c : Nat) (w : World) (K : Bool → World → Prop) : Prop := Calls Try.prog 9 #[.int .i64 x1, .int .i64 x2, .slice x3a x3l x3c] w (Ret [.leaf .bool] K)
/-- gneiss/gneisslaw5.StackForms -/
abbrev C10 (x1 : Int) (x2 : Int) (x3 : Int) (w : World) (K : Bool → World → Prop) : Prop := Calls Try.prog 10 #[.int .i64 x1, .int .i64 x2, .int .i64 x3] w (Ret [.leaf .bool] K)
/-- gneiss/gneisslaw5.StackAlone -/
abbrev C11 (x1a : Option Addr) (x1l x1c : Nat) (x2 : Int) (w : World) (K : Bool → World → Prop) : Prop := Calls Try.prog 11 #[.slice x1a x1l x1c, .int .i64 x2] w (Ret [.leaf .bool] K)
/-- gneiss/gneisslaw5.StackRows -/
abbrev C12 (x1 : Int) (x2a : Option Addr) (x2l x2c : Nat) (w : World) (K : Bool → World → Prop) : Prop := Calls Try.prog 12 #[.int .i64 x1, .slice x2a x2l x2c] w (Ret [.leaf .bool] K)
/-- gneiss/gneisslaw5.StackMany -/
abbrev C13 (x1 : Int) (x2a : Option Addr) (x2l x2c : Nat) (w : World) (K : Bool → World → Prop) : Prop := Calls Try.prog 13 #[.int .i64 x1, .slice x2a x2l x2c] w (Ret [.leaf .bool] K)
/-- gneiss/gneisslaw5.StackActs -/
abbrev C14 (x1 : Int) (x2 : Int) (x3 : Int) (x4a : Option Addr) (x4l x4c : Nat) (w : World) (K : Bool → World → Prop) : Prop := Calls Try.prog 14 #[.int .i64 x1, .int .i64 x2, .int .i64 x3, .slice x4a x4l x4c] w (Ret [.leaf .bool] K)
/-- gneiss/gneisslaw7.SpineCycles -/
abbrev C15 (x1a : Option Addr) (x1l x1c : Nat) (x2a : Option Addr) (x2l x2c : Nat) (w : World) (K : Bool → World → Prop) : Prop := Calls Try.prog 15 #[.slice x1a x1l x1c, .slice x2a x2l x2c] w (Ret [.leaf .bool] K)
/-- gneiss/gneisslaw7.SpineRoom -/
abbrev C16 (x1 : Int) (x2 : Int) (w : World) (K : Bool → World → Prop) : Prop := Calls Try.prog 16 #[.int .i64 x1, .int .i64 x2] w (Ret [.leaf .bool] K)
/-- gneiss/gneisslaw7.SpineActs -/
abbrev C17 (x1 : Int) (x2 : Int) (x3a : Option Addr) (x3l x3c : Nat) (w : World) (K : Bool → World → Prop) : Prop := Calls Try.prog 17 #[.int .i64 x1, .int .i64 x2, .slice x3a x3l x3c] w (Ret [.leaf .bool] K)
/-- gneiss/gneisslaw9.HeapSteps -/
abbrev C18 (x1 : Int) (x2 : Int) (w : World) (K : Bool → World → Prop) : Prop := Calls Try.prog 18 #[.int .i64 x1, .int .i64 x2] w (Ret [.leaf .bool] K)
/-- gneiss/gneisslaw8.ObjectApart -/
abbrev C19 (x1a : Option Addr) (x1l x1c : Nat) (w : World) (K : Bool → World → Prop) : Prop := Calls Try.prog 19 #[.slice x1a x1l x1c] w (Ret [.leaf .bool] K)
/-- gneiss/gneisslaw8.ObjectActs -/
abbrev C20 (x1 : Int) (x2a : Option Addr) (x2l x2c : Nat) (w : World) (K : Bool → World → Prop) : Prop := Calls Try.prog 20 #[.int .i64 x1, .slice x2a x2l x2c] w (Ret [.leaf .bool] K)
/-- gneiss/gneisslaw9.HeapKinds -/
abbrev C21 (x1 : Int) (x2 : Int) (x3 : Int) (w : World) (K : Bool → World → Prop) : Prop := Calls Try.prog 21 #[.int .i64 x1, .int .i64 x2, .int .i64 x3] w (Ret [.leaf .bool] K)
/-- gneiss/gneisslaw9.HeapAgain -/
abbrev C22 (x1a : Option Addr) (x1l x1c : Nat) (x2 : Int) (w : World) (K : Bool → World → Prop) : Prop := Calls Try.prog 22 #[.slice x1a x1l x1c, .int .i64 x2] w (Ret [.leaf .bool] K)
/-- gneiss/gneisslaw9.HeapActs -/
abbrev C23 (x1 : Int) (x2 : Int) (x3a : Option Addr) (x3l x3c : Nat) (w : World) (K : Bool → World → Prop) : Prop := Calls Try.prog 23 #[.int .i64 x1, .int .i64 x2, .slice x3a x3l x3c] w (Ret [.leaf .bool] K)
/-- gneiss/gneisslaw13.RefsOnce -/
abbrev C24 (x1 : Int) (x2 : Int) (w : World) (K : Bool → World → Prop) : Prop := Calls Try.prog 24 #[.int .i64 x1, .int .i64 x2] w (Ret [.leaf .bool] K)
/-- gneiss/gneisslaw13.RefsRow -/
abbrev C25 (x1 : Int) (x2 : Int) (w : World) (K : Bool → World → Prop) : Prop := Calls Try.prog 25 #[.int .i64 x1, .int .i64 x2] w (Ret [.leaf .bool] K)
/-- gneiss/gneisslaw13.RefsWeaks -/
abbrev C26 (x1 : Int) (x2 : Int) (w : World) (K : Bool → World → Prop) : Prop := Calls Try.prog 26 #[.int .i64 x1, .int .i64 x2] w (Ret [.leaf .bool] K)
/-- gneiss/gneisslaw12.CollectRoots -/
abbrev C27 (x1a : Option Addr) (x1l x1c : Nat) (w : World) (K : Bool → World → Prop) : Prop := Calls Try.prog 27 #[.slice x1a x1l x1c] w (Ret [.leaf .bool] K)
/-- gneiss/gneisslaw13.RefsChains -/
abbrev C28 (x1 : Int) (w : World) (K : Bool → World → Prop) : Prop := Calls Try.prog 28 #[.int .i64 x1] w (Ret [.leaf .bool] K)
/-- gneiss/gneisslaw12.CollectFull -/
abbrev C29 (x1 : Int) (x2 : Int) (w : World) (K : Bool → World → Prop) : Prop := Calls Try.prog 29 #[.int .i64 x1, .int .i64 x2] w (Ret [.leaf .bool] K)
/-- gneiss/gneisslaw12.CollectRings -/
abbrev C30 (x1a : Option Addr) (x1l x1c : Nat) (w : World) (K : Bool → World → Prop) : Prop := Calls Try.prog 30 #[.slice x1a x1l x1c] w (Ret [.leaf .bool] K)
/-- gneiss/gneisslaw12.CollectEnds -/
abbrev C31 (x1a : Option Addr) (x1l x1c : Nat) (x2a : Option Addr) (x2l x2c : Nat) (x3 : Int) (w : World) (K : Bool → World → Prop) : Prop := Calls Try.prog 31 #[.slice x1a x1l x1c, .slice x2a x2l x2c, .int .i64 x3] w (Ret [.leaf .bool] K)
/-- gneiss/shake.New -/
abbrev C32 (x1 : Int) (w : World) (K : Option Addr → Int → World → Prop) : Prop := Calls Try.prog 32 #[.int .i64 x1] w (Ret [.leaf .ptr, .leaf (.int .i64)] K)
/-- gneiss/gneisslaw0.Num -/
abbrev C33 (x1 : Int) (w : World) (K : Int → World → Prop) : Prop := Calls Try.prog 33 #[.int .i64 x1] w (Ret [.leaf (.int .i64)] K)
/-- gneiss/gneisslaw10.awake -/
abbrev C34 (w : World) (K : Bool → World → Prop) : Prop := Calls Try.prog 34 #[] w (Ret [.leaf .bool] K)
/-- (*gneiss/shake.Shake).Ask -/
abbrev C35 (x1 : Option Addr) (x2 : Int) (w : World) (K : Int → World → Prop) : Prop := Calls Try.prog 35 #[.pointer x1, .int .i64 x2] w (Ret [.leaf (.int .i64)] K)
/-- (*gneiss/shake.Shake).See -/
abbrev C36 (x1 : Option Addr) (x2 : Int) (w : World) (K : Int → Bool → Int → World → Prop) : Prop := Calls Try.prog 36 #[.pointer x1, .int .i64 x2] w (Ret [.leaf (.int .i64), .leaf .bool, .leaf (.int .i64)] K)
/-- (*gneiss/shake.Shake).Answer -/
abbrev C37 (x1 : Option Addr) (x2 : Int) (w : World) (K : Int → World → Prop) : Prop := Calls Try.prog 37 #[.pointer x1, .int .i64 x2] w (Ret [.leaf (.int .i64)] K)
/-- (*gneiss/shake.Shake).Done -/
abbrev C38 (x1 : Option Addr) (w : World) (K : Bool → World → Prop) : Prop := Calls Try.prog 38 #[.pointer x1] w (Ret [.leaf .bool] K)
/-- (*gneiss/shake.Shake).Rounds -/
abbrev C39 (x1 : Option Addr) (w : World) (K : Int → World → Prop) : Prop := Calls Try.prog 39 #[.pointer x1] w (Ret [.leaf (.int .i64)] K)
/-- gneiss/arena.New -/
abbrev C40 (x1 : Int) (x2 : Int) (w : World) (K : Option Addr → Int → World → Prop) : Prop := Calls Try.prog 40 #[.int .i64 x1, .int .i64 x2] w (Ret [.leaf .ptr, .leaf (.int .i64)] K)
/-- gneiss/gneisslaw3.awake -/
abbrev C41 (w : World) (K : Bool → World → Prop) : Prop := Calls Try.prog 41 #[] w (Ret [.leaf .bool] K)
/-- (*gneiss/arena.Arena).Load -/
abbrev C42 (x1 : Option Addr) (x2 : Int) (x3 : Int) (w : World) (K : Int → Int → World → Prop) : Prop := Calls Try.prog 42 #[.pointer x1, .int .i64 x2, .int .i64 x3] w (Ret [.leaf (.int .i64), .leaf (.int .i64)] K)
/-- (*gneiss/arena.Arena).Store -/
abbrev C43 (x1 : Option Addr) (x2 : Int) (x3 : Int) (x4 : Int) (w : World) (K : Int → World → Prop) : Prop := Calls Try.prog 43 #[.pointer x1, .int .i64 x2, .int .i64 x3, .int .i64 x4] w (Ret [.leaf (.int .i64)] K)
/-- (*gneiss/arena.Arena).Swap -/
abbrev C44 (x1 : Option Addr) (x2 : Int) (x3 : Int) (x4 : Int) (x5 : Int) (w : World) (K : Bool → Int → World → Prop) : Prop := Calls Try.prog 44 #[.pointer x1, .int .i64 x2, .int .i64 x3, .int .i64 x4, .int .i64 x5] w (Ret [.leaf .bool, .leaf (.int .i64)] K)
/-- gneiss/gneisslaw3.holds -/
abbrev C45 (x1 : Option Addr) (x2a : Option Addr) (x2l x2c : Nat) (x3a : Option Addr) (x3l x3c : Nat) (w : World) (K : Bool → World → Prop) : Prop := Calls Try.prog 45 #[.pointer x1, .slice x2a x2l x2c, .slice x3a x3l x3c] w (Ret [.leaf .bool] K)
/-- gneiss/gneisslaw6.awake -/
abbrev C46 (w : World) (K : Bool → World → Prop) : Prop := Calls Try.prog 46 #[] w (Ret [.leaf .bool] K)
/-- gneiss/frag.New -/
abbrev C47 (x1 : Option Addr) (x2 : Int) (x3 : Int) (w : World) (K : Option Addr → Int → World → Prop) : Prop := Calls Try.prog 47 #[.pointer x1, .int .i64 x2, .int .i64 x3] w (Ret [.leaf .ptr, .leaf (.int .i64)] K)
/-- (*gneiss/frag.Pool).Alloc -/
abbrev C48 (x1 : Option Addr) (x2 : Int) (w : World) (K : Int → Int → World → Prop) : Prop := Calls Try.prog 48 #[.pointer x1, .int .i64 x2] w (Ret [.leaf (.int .i64), .leaf (.int .i64)] K)
/-- (*gneiss/frag.Pool).Store -/
abbrev C49 (x1 : Option Addr) (x2 : Int) (x3 : Int) (x4 : Int) (x5 : Int) (w : World) (K : Int → World → Prop) : Prop := Calls Try.prog 49 #[.pointer x1, .int .i64 x2, .int .i64 x3, .int .i64 x4, .int .i64 x5] w (Ret [.leaf (.int .i64)] K)
/-- (*gneiss/frag.Pool).Used -/
abbrev C50 (x1 : Option Addr) (w : World) (K : Option Addr → Nat → Nat → World → Prop) : Prop := Calls Try.prog 50 #[.pointer x1] w (Ret [.leaf .slice] K)
/-- gneiss/gneisslaw6.begun -/
abbrev C51 (x1 : Int) (x2 : Int) (w : World) (K : Option Addr → Option Addr → Bool → World → Prop) : Prop := Calls Try.prog 51 #[.int .i64 x1, .int .i64 x2] w (Ret [.leaf .ptr, .leaf .ptr, .leaf .bool] K)
/-- (*gneiss/frag.Pool).Load -/
abbrev C52 (x1 : Option Addr) (x2 : Int) (x3 : Int) (x4 : Int) (w : World) (K : Int → Int → World → Prop) : Prop := Calls Try.prog 52 #[.pointer x1, .int .i64 x2, .int .i64 x3, .int .i64 x4] w (Ret [.leaf (.int .i64), .leaf (.int .i64)] K)
/-- (*gneiss/frag.Pool).Paint -/
abbrev C53 (x1 : Option Addr) (x2 : Int) (x3 : Int) (x4 : Int) (w : World) (K : Int → World → Prop) : Prop := Calls Try.prog 53 #[.pointer x1, .int .i64 x2, .int .i64 x3, .int .i64 x4] w (Ret [.leaf (.int .i64)] K)
/-- (*gneiss/frag.Pool).Free -/
abbrev C54 (x1 : Option Addr) (x2 : Int) (x3 : Int) (w : World) (K : Int → World → Prop) : Prop := Calls Try.prog 54 #[.pointer x1, .int .i64 x2, .int .i64 x3] w (Ret [.leaf (.int .i64)] K)
/-- (*gneiss/gneisslaw6.play).act -/
abbrev C55 (x1 : Option Addr) (x2 : Int) (x3 : Int) (x4 : Int) (x5 : Int) (x6 : Int) (w : World) (K : Bool → World → Prop) : Prop := Calls Try.prog 55 #[.pointer x1, .agg #[.int .i64 x2, .int .i64 x3, .int .i64 x4, .int .i64 x5, .int .i64 x6]] w (Ret [.leaf .bool] K)
/-- gneiss/gneisslaw0.SpoilInts -/
abbrev C56 (x1a : Option Addr) (x1l x1c : Nat) (w : World) (K : World → Prop) : Prop := Calls Try.prog 56 #[.slice x1a x1l x1c] w (Ret [] K)
/-- gneiss/gneisslaw5.awake -/
abbrev C57 (w : World) (K : Bool → World → Prop) : Prop := Calls Try.prog 57 #[] w (Ret [.leaf .bool] K)
/-- gneiss/stack.New -/
abbrev C58 (x1 : Option Addr) (x2 : Int) (x3 : Int) (w : World) (K : Option Addr → Int → World → Prop) : Prop := Calls Try.prog 58 #[.pointer x1, .int .i64 x2, .int .i64 x3] w (Ret [.leaf .ptr, .leaf (.int .i64)] K)
/-- gneiss/gneisslaw5.alone -/
abbrev C59 (x1 : Option Addr) (x2 : Int) (x3 : Int) (x4 : Int) (w : World) (K : Int → Bool → Int → Bool → World → Prop) : Prop := Calls Try.prog 59 #[.pointer x1, .int .i64 x2, .int .i64 x3, .int .i64 x4] w (Ret [.leaf (.int .i64), .leaf .bool, .leaf (.int .i64), .leaf .bool] K)
/-- (*gneiss/stack.Stack).Items -/
abbrev C60 (x1 : Option Addr) (w : World) (K : Option Addr → Nat → Nat → World → Prop) : Prop := Calls Try.prog 60 #[.pointer x1] w (Ret [.leaf .slice] K)
/-- gneiss/gneisslaw5.begun -/
abbrev C61 (x1 : Int) (x2 : Int) (x3 : Int) (w : World) (K : Option Addr → Option Addr → Bool → World → Prop) : Prop := Calls Try.prog 61 #[.int .i64 x1, .int .i64 x2, .int .i64 x3] w (Ret [.leaf .ptr, .leaf .ptr, .leaf .bool] K)
/-- (*gneiss/stack.Stack).Begin -/
abbrev C62 (x1 : Option Addr) (x2 : Int) (x3 : Int) (x4 : Int) (w : World) (K : Int → World → Prop) : Prop := Calls Try.prog 62 #[.pointer x1, .int .i64 x2, .int .i64 x3, .int .i64 x4] w (Ret [.leaf (.int .i64)] K)
/-- (*gneiss/stack.Stack).Step -/
abbrev C63 (x1 : Option Addr) (x2 : Int) (w : World) (K : Bool → Int → Bool → Int → World → Prop) : Prop := Calls Try.prog 63 #[.pointer x1, .int .i64 x2] w (Ret [.leaf .bool, .leaf (.int .i64), .leaf .bool, .leaf (.int .i64)] K)
/-- gneiss/gneisslaw5.ended -/
abbrev C64 (x1 : Option Addr) (x2a : Option Addr) (x2l x2c : Nat) (x3a : Option Addr) (x3l x3c : Nat) (x4 : Int) (w : World) (K : Bool → World → Prop) : Prop := Calls Try.prog 64 #[.pointer x1, .slice x2a x2l x2c, .slice x3a x3l x3c, .int .i64 x4] w (Ret [.leaf .bool] K)
/-- (*gneiss/gneisslaw5.play).begin -/
abbrev C65 (x1 : Option Addr) (x2 : Int) (x3 : Int) (x4 : Int) (w : World) (K : Bool → World → Prop) : Prop := Calls Try.prog 65 #[.pointer x1, .agg #[.int .i64 x2, .int .i64 x3, .int .i64 x4]] w (Ret [.leaf .bool] K)
/-- (*gneiss/gneisslaw5.play).step -/
abbrev C66 (x1 : Option Addr) (x2 : Int) (w : World) (K : Bool → World → Prop) : Prop := Calls Try.prog 66 #[.pointer x1, .int .i64 x2] w (Ret [.leaf .bool] K)
/-- gneiss/gneisslaw7.awake -/
abbrev C67 (w : World) (K : Bool → World → Prop) : Prop := Calls Try.prog 67 #[] w (Ret [.leaf .bool] K)
/-- gneiss/gneisslaw7.begun -/
abbrev C68 (x1 : Int) (x2 : Int) (w : World) (K : Option Addr → Option Addr → Bool → World → Prop) : Prop := Calls Try.prog 68 #[.int .i64 x1, .int .i64 x2] w (Ret [.leaf .ptr, .leaf .ptr, .leaf .bool] K)
/-- (*gneiss/spine.Space).Make -/
abbrev C69 (x1 : Option Addr) (x2 : Int) (x3 : Int) (w : World) (K : Int → Int → World → Prop) : Prop := Calls Try.prog 69 #[.pointer x1, .int .i64 x2, .int .i64 x3] w (Ret [.leaf (.int .i64), .leaf (.int .i64)] K)
/-- (*gneiss/spine.Space).Set -/
abbrev C70 (x1 : Option Addr) (x2 : Int) (x3 : Int) (x4 : Int) (x5 : Int) (w : World) (K : Int → World → Prop) : Prop := Calls Try.prog 70 #[.pointer x1, .int .i64 x2, .int .i64 x3, .int .i64 x4, .int .i64 x5] w (Ret [.leaf (.int .i64)] K)
/-- (*gneiss/spine.Space).Drop -/
abbrev C71 (x1 : Option Addr) (x2 : Int) (w : World) (K : Int → World → Prop) : Prop := Calls Try.prog 71 #[.pointer x1, .int .i64 x2] w (Ret [.leaf (.int .i64)] K)
/-- (*gneiss/spine.Space).Begin -/
abbrev C72 (x1 : Option Addr) (w : World) (K : Int → World → Prop) : Prop := Calls Try.prog 72 #[.pointer x1] w (Ret [.leaf (.int .i64)] K)
/-- (*gneiss/spine.Space).Step -/
abbrev C73 (x1 : Option Addr) (x2 : Int) (w : World) (K : Bool → Int → World → Prop) : Prop := Calls Try.prog 73 #[.pointer x1, .int .i64 x2] w (Ret [.leaf .bool, .leaf (.int .i64)] K)
/-- (*gneiss/spine.Space).Len -/
abbrev C74 (x1 : Option Addr) (x2 : Int) (w : World) (K : Int → Int → World → Prop) : Prop := Calls Try.prog 74 #[.pointer x1, .int .i64 x2] w (Ret [.leaf (.int .i64), .leaf (.int .i64)] K)
/-- (*gneiss/spine.Space).Get -/
abbrev C75 (x1 : Option Addr) (x2 : Int) (x3 : Int) (x4 : Int) (w : World) (K : Int → Int → World → Prop) : Prop := Calls Try.prog 75 #[.pointer x1, .int .i64 x2, .int .i64 x3, .int .i64 x4] w (Ret [.leaf (.int .i64), .leaf (.int .i64)] K)
/-- (*gneiss/spine.Space).Room -/
abbrev C76 (x1 : Option Addr) (w : World) (K : Int → World → Prop) : Prop := Calls Try.prog 76 #[.pointer x1] w (Ret [.leaf (.int .i64)] K)
/-- (*gneiss/gneisslaw7.play).act -/
abbrev C77 (x1 : Option Addr) (x2 : Int) (x3 : Int) (x4 : Int) (x5 : Int) (x6 : Int) (w : World) (K : Bool → World → Prop) : Prop := Calls Try.prog 77 #[.pointer x1, .agg #[.int .i64 x2, .int .i64 x3, .int .i64 x4, .int .i64 x5, .int .i64 x6]] w (Ret [.leaf .bool] K)
/-- (*gneiss/gneisslaw7.play).room -/
abbrev C78 (x1 : Option Addr) (w : World) (K : Int → World → Prop) : Prop := Calls Try.prog 78 #[.pointer x1] w (Ret [.leaf (.int .i64)] K)
/-- gneiss/gneisslaw9.awake -/
abbrev C79 (w : World) (K : Bool → World → Prop) : Prop := Calls Try.prog 79 #[] w (Ret [.leaf .bool] K)
/-- gneiss/heap.New -/
abbrev C80 (x1 : Int) (x2 : Int) (w : World) (K : Option Addr → Int → World → Prop) : Prop := Calls Try.prog 80 #[.int .i64 x1, .int .i64 x2] w (Ret [.leaf .ptr, .leaf (.int .i64)] K)
/-- (*gneiss/heap.Heap).Make -/
abbrev C81 (x1 : Option Addr) (x2 : Int) (x3 : Int) (x4 : Int) (x5 : Int) (w : World) (K : Int → Int → World → Prop) : Prop := Calls Try.prog 81 #[.pointer x1, .int .i64 x2, .int .i64 x3, .int .i64 x4, .int .i64 x5] w (Ret [.leaf (.int .i64), .leaf (.int .i64)] K)
/-- (*gneiss/heap.Heap).Steps -/
abbrev C82 (x1 : Option Addr) (x2 : Int) (w : World) (K : Int → World → Prop) : Prop := Calls Try.prog 82 #[.pointer x1, .int .i64 x2] w (Ret [.leaf (.int .i64)] K)
/-- (*gneiss/heap.Heap).Put -/
abbrev C83 (x1 : Option Addr) (x2 : Int) (x3 : Int) (x4 : Int) (x5 : Int) (w : World) (K : Int → World → Prop) : Prop := Calls Try.prog 83 #[.pointer x1, .int .i64 x2, .int .i64 x3, .int .i64 x4, .int .i64 x5] w (Ret [.leaf (.int .i64)] K)
/-- (*gneiss/heap.Heap).Load -/
abbrev C84 (x1 : Option Addr) (x2 : Int) (x3 : Int) (x4 : Int) (w : World) (K : Int → Int → World → Prop) : Prop := Calls Try.prog 84 #[.pointer x1, .int .i64 x2, .int .i64 x3, .int .i64 x4] w (Ret [.leaf (.int .i64), .leaf (.int .i64)] K)
/-- gneiss/gneisslaw8.awake -/
abbrev C85 (w : World) (K : Bool → World → Prop) : Prop := Calls Try.prog 85 #[] w (Ret [.leaf .bool] K)
/-- gneiss/gneisslaw8.begun -/
abbrev C86 (x1 : Int) (w : World) (K : Option Addr → Option Addr → Option Addr → Bool → World → Prop) : Prop := Calls Try.prog 86 #[.int .i64 x1] w (Ret [.leaf .ptr, .leaf .ptr, .leaf .ptr, .leaf .bool] K)
/-- (*gneiss/object.Store).Make -/
abbrev C87 (x1 : Option Addr) (x2 : Int) (x3 : Int) (w : World) (K : Int → Int → World → Prop) : Prop := Calls Try.prog 87 #[.pointer x1, .int .i64 x2, .int .i64 x3] w (Ret [.leaf (.int .i64), .leaf (.int .i64)] K)
/-- (*gneiss/object.Store).Put -/
abbrev C88 (x1 : Option Addr) (x2 : Int) (x3 : Int) (x4 : Int) (x5 : Int) (w : World) (K : Int → World → Prop) : Prop := Calls Try.prog 88 #[.pointer x1, .int .i64 x2, .int .i64 x3, .int .i64 x4, .int .i64 x5] w (Ret [.leaf (.int .i64)] K)
/-- (*gneiss/object.Store).Load -/
abbrev C89 (x1 : Option Addr) (x2 : Int) (x3 : Int) (x4 : Int) (w : World) (K : Int → Int → World → Prop) : Prop := Calls Try.prog 89 #[.pointer x1, .int .i64 x2, .int .i64 x3, .int .i64 x4] w (Ret [.leaf (.int .i64), .leaf (.int .i64)] K)
/-- (*gneiss/object.Store).Free -/
abbrev C90 (x1 : Option Addr) (x2 : Int) (x3 : Int) (w : World) (K : Int → World → Prop) : Prop := Calls Try.prog 90 #[.pointer x1, .int .i64 x2, .int .i64 x3] w (Ret [.leaf (.int .i64)] K)
/-- (*gneiss/object.Store).Refs -/
abbrev C91 (x1 : Option Addr) (w : World) (K : Option Addr → Nat → Nat → World → Prop) : Prop := Calls Try.prog 91 #[.pointer x1] w (Ret [.leaf .slice] K)
/-- (*gneiss/gneisslaw8.play).act -/
abbrev C92 (x1 : Option Addr) (x2 : Int) (x3 : Int) (x4 : Int) (x5 : Int) (x6 : Int) (w : World) (K : Bool → World → Prop) : Prop := Calls Try.prog 92 #[.pointer x1, .agg #[.int .i64 x2, .int .i64 x3, .int .i64 x4, .int .i64 x5, .int .i64 x6]] w (Ret [.leaf .bool] K)
/-- (*gneiss/gneisslaw8.play).at -/
abbrev C93 (x1 : Option Addr) (x2 : Int) (w : World) (K : Int → World → Prop) : Prop := Calls Try.prog 93 #[.pointer x1, .int .i64 x2] w (Ret [.leaf (.int .i64)] K)
/-- (*gneiss/heap.Heap).Cell -/
abbrev C94 (x1 : Option Addr) (x2 : Int) (w : World) (K : Int → Int → Int → Int → World → Prop) : Prop := Calls Try.prog 94 #[.pointer x1, .int .i64 x2] w (Ret [.agg [.int .i64, .int .i64, .int .i64], .leaf (.int .i64)] K)
/-- (*gneiss/heap.Heap).Refs -/
abbrev C95 (x1 : Option Addr) (w : World) (K : Option Addr → Nat → Nat → World → Prop) : Prop := Calls Try.prog 95 #[.pointer x1] w (Ret [.leaf .slice] K)
/-- (*gneiss/heap.Heap).Free -/
abbrev C96 (x1 : Option Addr) (x2 : Int) (x3 : Int) (w : World) (K : Int → World → Prop) : Prop := Calls Try.prog 96 #[.pointer x1, .int .i64 x2, .int .i64 x3] w (Ret [.leaf (.int .i64)] K)
/-- (*gneiss/gneisslaw9.play).act -/
abbrev C97 (x1 : Option Addr) (x2 : Int) (x3 : Int) (x4 : Int) (x5 : Int) (x6 : Int) (x7 : Int) (w : World) (K : Bool → World → Prop) : Prop := Calls Try.prog 97 #[.pointer x1, .agg #[.int .i64 x2, .int .i64 x3, .int .i64 x4, .int .i64 x5, .int .i64 x6, .int .i64 x7]] w (Ret [.leaf .bool] K)
/-- (*gneiss/heap.Heap).Room -/
abbrev C98 (x1 : Option Addr) (w : World) (K : Int → World → Prop) : Prop := Calls Try.prog 98 #[.pointer x1] w (Ret [.leaf (.int .i64)] K)
/-- (*gneiss/gneisslaw9.play).sure -/
abbrev C99 (x1 : Option Addr) (w : World) (K : Int → World → Prop) : Prop := Calls Try.prog 99 #[.pointer x1] w (Ret [.leaf (.int .i64)] K)
/-- (*gneiss/gneisslaw9.play).at -/
abbrev C100 (x1 : Option Addr) (x2 : Int) (w : World) (K : Int → World → Prop) : Prop := Calls Try.prog 100 #[.pointer x1, .int .i64 x2] w (Ret [.leaf (.int .i64)] K)
/-- gneiss/gneisslaw13.awake -/
abbrev C101 (w : World) (K : Bool → World → Prop) : Prop := Calls Try.prog 101 #[] w (Ret [.leaf .bool] K)
/-- gneiss/refs.New -/
abbrev C102 (x1 : Int) (x2 : Int) (w : World) (K : Option Addr → Int → World → Prop) : Prop := Calls Try.prog 102 #[.int .i64 x1, .int .i64 x2] w (Ret [.leaf .ptr, .leaf (.int .i64)] K)
/-- (*gneiss/refs.Heap).Make -/
abbrev C103 (x1 : Option Addr) (x2 : Int) (x3 : Int) (x4 : Int) (x5 : Int) (x6 : Bool) (w : World) (K : Int → Int → World → Prop) : Prop := Calls Try.prog 103 #[.pointer x1, .int .i64 x2, .int .i64 x3, .int .i64 x4, .int .i64 x5, .bool x6] w (Ret [.leaf (.int .i64), .leaf (.int .i64)] K)
/-- (*gneiss/refs.Heap).Weak -/
abbrev C104 (x1 : Option Addr) (x2 : Int) (x3 : Int) (w : World) (K : Int → Int → World → Prop) : Prop := Calls Try.prog 104 #[.pointer x1, .int .i64 x2, .int .i64 x3] w (Ret [.leaf (.int .i64), .leaf (.int .i64)] K)
/-- (*gneiss/refs.Heap).Pop -/
abbrev C105 (x1 : Option Addr) (x2 : Int) (w : World) (K : Int → Int → World → Prop) : Prop := Calls Try.prog 105 #[.pointer x1, .int .i64 x2] w (Ret [.leaf (.int .i64), .leaf (.int .i64)] K)
/-- (*gneiss/refs.Heap).Cycle -/
abbrev C106 (x1 : Option Addr) (w : World) (K : Option Addr → Nat → Nat → Option Addr → Nat → Nat → Int → World → Prop) : Prop := Calls Try.prog 106 #[.pointer x1] w (Ret [.leaf .slice, .leaf .slice, .leaf (.int .i64)] K)
/-- (*gneiss/refs.Heap).Next -/
abbrev C107 (x1 : Option Addr) (w : World) (K : Int → Bool → World → Prop) : Prop := Calls Try.prog 107 #[.pointer x1] w (Ret [.leaf (.int .i64), .leaf .bool] K)
/-- (*gneiss/refs.Heap).Refs -/
abbrev C108 (x1 : Option Addr) (w : World) (K : Option Addr → Nat → Nat → World → Prop) : Prop := Calls Try.prog 108 #[.pointer x1] w (Ret [.leaf .slice] K)
/-- (*gneiss/refs.Heap).Deref -/
abbrev C109 (x1 : Option Addr) (x2 : Int) (x3 : Int) (w : World) (K : Int → Int → World → Prop) : Prop := Calls Try.prog 109 #[.pointer x1, .int .i64 x2, .int .i64 x3] w (Ret [.leaf (.int .i64), .leaf (.int .i64)] K)
/-- (*gneiss/refs.Heap).Push -/
abbrev C110 (x1 : Option Addr) (x2 : Int) (x3 : Int) (w : World) (K : Int → World → Prop) : Prop := Calls Try.prog 110 #[.pointer x1, .int .i64 x2, .int .i64 x3] w (Ret [.leaf (.int .i64)] K)
/-- gneiss/gneisslaw12.awake -/
abbrev C111 (w : World) (K : Bool → World → Prop) : Prop := Calls Try.prog 111 #[] w (Ret [.leaf .bool] K)
/-- gneiss/collect.New -/
abbrev C112 (x1 : Int) (x2 : Int) (w : World) (K : Option Addr → Int → World → Prop) : Prop := Calls Try.prog 112 #[.int .i64 x1, .int .i64 x2] w (Ret [.leaf .ptr, .leaf (.int .i64)] K)
/-- (*gneiss/collect.Heap).Make -/
abbrev C113 (x1 : Option Addr) (x2 : Int) (x3 : Int) (x4 : Int) (x5 : Int) (w : World) (K : Int → Int → World → Prop) : Prop := Calls Try.prog 113 #[.pointer x1, .int .i64 x2, .int .i64 x3, .int .i64 x4, .int .i64 x5] w (Ret [.leaf (.int .i64), .leaf (.int .i64)] K)
/-- (*gneiss/collect.Heap).Push -/
abbrev C114 (x1 : Option Addr) (x2 : Int) (x3 : Int) (w : World) (K : Int → World → Prop) : Prop := Calls Try.prog 114 #[.pointer x1, .int .i64 x2, .int .i64 x3] w (Ret [.leaf (.int .i64)] K)
/-- (*gneiss/collect.Heap).Pop -/
abbrev C115 (x1 : Option Addr) (x2 : Int) (w : World) (K : Int → Int → World → Prop) : Prop := Calls Try.prog 115 #[.pointer x1, .int .i64 x2] w (Ret [.leaf (.int .i64), .leaf (.int .i64)] K)
/-- (*gneiss/refs.Heap).Put -/
abbrev C116 (x1 : Option Addr) (x2 : Int) (x3 : Int) (x4 : Int) (x5 : Int) (w : World) (K : Int → World → Prop) : Prop := Calls Try.prog 116 #[.pointer x1, .int .i64 x2, .int .i64 x3, .int .i64 x4, .int .i64 x5] w (Ret [.leaf (.int .i64)] K)
/-- (*gneiss/refs.Heap).Load -/
abbrev C117 (x1 : Option Addr) (x2 : Int) (x3 : Int) (x4 : Int) (w : World) (K : Int → Int → World → Prop) : Prop := Calls Try.prog 117 #[.pointer x1, .int .i64 x2, .int .i64 x3, .int .i64 x4] w (Ret [.leaf (.int .i64), .leaf (.int .i64)] K)
/-- (*gneiss/collect.Heap).Begin -/
abbrev C118 (x1 : Option Addr) (w : World) (K : Int → World → Prop) : Prop := Calls Try.prog 118 #[.pointer x1] w (Ret [.leaf (.int .i64)] K)
/-- gneiss/gneisslaw12.turn -/
abbrev C119 (x1 : Option Addr) (x2 : Int) (w : World) (K : Bool → World → Prop) : Prop := Calls Try.prog 119 #[.pointer x1, .int .i64 x2] w (Ret [.leaf .bool] K)
/-- (*gneiss/collect.Heap).Refs -/
abbrev C120 (x1 : Option Addr) (w : World) (K : Option Addr → Nat → Nat → World → Prop) : Prop := Calls Try.prog 120 #[.pointer x1] w (Ret [.leaf .slice] K)
/-- (*gneiss/collect.Heap).Put -/
abbrev C121 (x1 : Option Addr) (x2 : Int) (x3 : Int) (x4 : Int) (x5 : Int) (w : World) (K : Int → World → Prop) : Prop := Calls Try.prog 121 #[.pointer x1, .int .i64 x2, .int .i64 x3, .int .i64 x4, .int .i64 x5] w (Ret [.leaf (.int .i64)] K)
/-- (*gneiss/collect.Heap).Cycles -/
abbrev C122 (x1 : Option Addr) (w : World) (K : Int → World → Prop) : Prop := Calls Try.prog 122 #[.pointer x1] w (Ret [.leaf (.int .i64)] K)
/-- gneiss/gneisslaw12.alive -/
abbrev C123 (x1a : Option Addr) (x1l x1c : Nat) (x2a : Option Addr) (x2l x2c : Nat) (x3 : Int) (w : World) (K : Option Addr → Nat → Nat → Int → World → Prop) : Prop := Calls Try.prog 123 #[.slice x1a x1l x1c, .slice x2a x2l x2c, .int .i64 x3] w (Ret [.leaf .slice, .leaf (.int .i64)] K)
/-- (*gneiss/collect.Heap).Step -/
abbrev C124 (x1 : Option Addr) (w : World) (K : Bool → Int → World → Prop) : Prop := Calls Try.prog 124 #[.pointer x1] w (Ret [.leaf .bool, .leaf (.int .i64)] K)
/-- (*gneiss/collect.Heap).Answer -/
abbrev C125 (x1 : Option Addr) (x2 : Int) (w : World) (K : Int → World → Prop) : Prop := Calls Try.prog 125 #[.pointer x1, .int .i64 x2] w (Ret [.leaf (.int .i64)] K)
/-- (*gneiss/collect.Heap).Load -/
abbrev C126 (x1 : Option Addr) (x2 : Int) (x3 : Int) (x4 : Int) (w : World) (K : Int → Int → World → Prop) : Prop := Calls Try.prog 126 #[.pointer x1, .int .i64 x2, .int .i64 x3, .int .i64 x4] w (Ret [.leaf (.int .i64), .leaf (.int .i64)] K)
/-- (*gneiss/collect.Heap).Phase -/
abbrev C127 (x1 : Option Addr) (w : World) (K : Int → World → Prop) : Prop := Calls Try.prog 127 #[.pointer x1] w (Ret [.leaf (.int .i64)] K)
/-- (*gneiss/arena.Arena).Steps -/
abbrev C128 (x1 : Option Addr) (x2 : Int) (w : World) (K : Int → World → Prop) : Prop := Calls Try.prog 128 #[.pointer x1, .int .i64 x2] w (Ret [.leaf (.int .i64)] K)
/-- (*gneiss/arena.Arena).Words -/
abbrev C129 (x1 : Option Addr) (w : World) (K : Int → World → Prop) : Prop := Calls Try.prog 129 #[.pointer x1] w (Ret [.leaf (.int .i64)] K)
/-- (*gneiss/arena.Arena).may -/
abbrev C130 (x1 : Option Addr) (x2 : Int) (x3 : Int) (w : World) (K : Int → World → Prop) : Prop := Calls Try.prog 130 #[.pointer x1, .int .i64 x2, .int .i64 x3] w (Ret [.leaf (.int .i64)] K)
/-- (*gneiss/frag.Pool).Colour -/
abbrev C131 (x1 : Option Addr) (x2 : Int) (w : World) (K : Int → Int → World → Prop) : Prop := Calls Try.prog 131 #[.pointer x1, .int .i64 x2] w (Ret [.leaf (.int .i64), .leaf (.int .i64)] K)
/-- (*gneiss/arena.Arena).Holds -/
abbrev C132 (x1 : Option Addr) (x2 : Int) (x3 : Int) (w : World) (K : Bool → World → Prop) : Prop := Calls Try.prog 132 #[.pointer x1, .int .i64 x2, .int .i64 x3] w (Ret [.leaf .bool] K)
/-- gneiss/arena.ViewOf[int] -/
abbrev C133 (x1 : Option Addr) (x2 : Int) (w : World) (K : Option Addr → Int → World → Prop) : Prop := Calls Try.prog 133 #[.pointer x1, .int .i64 x2] w (Ret [.agg [.ptr, .int .i64]] K)
/-- (gneiss/arena.View[int]).Set -/
abbrev C134 (x1 : Option Addr) (x2 : Int) (x3 : Int) (x4 : Int) (w : World) (K : World → Prop) : Prop := Calls Try.prog 134 #[.agg #[.pointer x1, .int .i64 x2], .int .i64 x3, .int .i64 x4] w (Ret [] K)
/-- (*gneiss/arena.Arena).Agent -/
abbrev C135 (x1 : Option Addr) (x2 : Int) (w : World) (K : Bool → World → Prop) : Prop := Calls Try.prog 135 #[.pointer x1, .int .i64 x2] w (Ret [.leaf .bool] K)
/-- (*gneiss/frag.Pool).place -/
abbrev C136 (x1 : Option Addr) (x2 : Int) (x3 : Int) (x4 : Int) (w : World) (K : Int → Int → World → Prop) : Prop := Calls Try.prog 136 #[.pointer x1, .int .i64 x2, .int .i64 x3, .int .i64 x4] w (Ret [.leaf (.int .i64), .leaf (.int .i64)] K)
/-- (*gneiss/frag.Pool).used -/
abbrev C137 (x1 : Option Addr) (x2 : Int) (w : World) (K : Bool → World → Prop) : Prop := Calls Try.prog 137 #[.pointer x1, .int .i64 x2] w (Ret [.leaf .bool] K)
/-- (*gneiss/frag.Pool).may -/
abbrev C138 (x1 : Option Addr) (x2 : Int) (x3 : Int) (w : World) (K : Int → World → Prop) : Prop := Calls Try.prog 138 #[.pointer x1, .int .i64 x2, .int .i64 x3] w (Ret [.leaf (.int .i64)] K)
/-- (*gneiss/gneisslaw6.play).paint -/
abbrev C139 (x1 : Option Addr) (x2 : Int) (x3 : Int) (x4 : Int) (x5 : Int) (x6 : Int) (x7 : Bool) (x8 : Bool) (w : World) (K : Bool → World → Prop) : Prop := Calls Try.prog 139 #[.pointer x1, .agg #[.int .i64 x2, .int .i64 x3, .int .i64 x4, .int .i64 x5, .int .i64 x6], .bool x7, .bool x8] w (Ret [.leaf .bool] K)
/-- gneiss/gneisslaw0.SameInts -/
abbrev C140 (x1a : Option Addr) (x1l x1c : Nat) (x2a : Option Addr) (x2l x2c : Nat) (w : World) (K : Bool → World → Prop) : Prop := Calls Try.prog 140 #[.slice x1a x1l x1c, .slice x2a x2l x2c] w (Ret [.leaf .bool] K)
/-- (gneiss/arena.View[int]).Get -/
abbrev C141 (x1 : Option Addr) (x2 : Int) (x3 : Int) (w : World) (K : Int → World → Prop) : Prop := Calls Try.prog 141 #[.agg #[.pointer x1, .int .i64 x2], .int .i64 x3] w (Ret [.leaf (.int .i64)] K)
/-- (*gneiss/stack.Stack).pushed -/
abbrev C142 (x1 : Option Addr) (x2 : Int) (w : World) (K : Bool → World → Prop) : Prop := Calls Try.prog 142 #[.pointer x1, .int .i64 x2] w (Ret [.leaf .bool] K)
/-- (*gneiss/stack.Stack).Has -/
abbrev C143 (x1 : Option Addr) (x2 : Int) (w : World) (K : Bool → World → Prop) : Prop := Calls Try.prog 143 #[.pointer x1, .int .i64 x2] w (Ret [.leaf .bool] K)
/-- (*gneiss/stack.Stack).step -/
abbrev C144 (x1 : Option Addr) (x2 : Int) (x3 : Option Addr) (w : World) (K : Bool → Int → Bool → World → Prop) : Prop := Calls Try.prog 144 #[.pointer x1, .int .i64 x2, .pointer x3] w (Ret [.leaf .bool, .leaf (.int .i64), .leaf .bool] K)
/-- gneiss/gneisslaw5.has -/
abbrev C145 (x1a : Option Addr) (x1l x1c : Nat) (x2 : Int) (w : World) (K : Bool → World → Prop) : Prop := Calls Try.prog 145 #[.slice x1a x1l x1c, .int .i64 x2] w (Ret [.leaf .bool] K)
/-- gneiss/spine.New -/
abbrev C146 (x1 : Option Addr) (x2 : Int) (x3 : Int) (w : World) (K : Option Addr → Int → World → Prop) : Prop := Calls Try.prog 146 #[.pointer x1, .int .i64 x2, .int .i64 x3] w (Ret [.leaf .ptr, .leaf (.int .i64)] K)
/-- (*gneiss/spine.Space).begin -/
abbrev C147 (x1 : Option Addr) (x2 : Bool) (w : World) (K : Int → World → Prop) : Prop := Calls Try.prog 147 #[.pointer x1, .bool x2] w (Ret [.leaf (.int .i64)] K)
/-- (*gneiss/spine.Space).find -/
abbrev C148 (x1 : Option Addr) (x2 : Int) (x3 : Int) (x4 : Int) (w : World) (K : Option Addr → Int → World → Prop) : Prop := Calls Try.prog 148 #[.pointer x1, .int .i64 x2, .int .i64 x3, .int .i64 x4] w (Ret [.leaf .ptr, .leaf (.int .i64)] K)
/-- (*gneiss/gneisslaw7.play).at -/
abbrev C149 (x1 : Option Addr) (x2 : Int) (w : World) (K : Int → World → Prop) : Prop := Calls Try.prog 149 #[.pointer x1, .int .i64 x2] w (Ret [.leaf (.int .i64)] K)
/-- (*gneiss/gneisslaw7.play).make -/
abbrev C150 (x1 : Option Addr) (x2 : Int) (x3 : Int) (x4 : Int) (x5 : Int) (x6 : Int) (w : World) (K : Bool → World → Prop) : Prop := Calls Try.prog 150 #[.pointer x1, .agg #[.int .i64 x2, .int .i64 x3, .int .i64 x4, .int .i64 x5, .int .i64 x6]] w (Ret [.leaf .bool] K)
/-- (*gneiss/gneisslaw7.play).cycle -/
abbrev C151 (x1 : Option Addr) (x2 : Int) (x3 : Int) (x4 : Int) (x5 : Int) (x6 : Int) (w : World) (K : Bool → World → Prop) : Prop := Calls Try.prog 151 #[.pointer x1, .agg #[.int .i64 x2, .int .i64 x3, .int .i64 x4, .int .i64 x5, .int .i64 x6]] w (Ret [.leaf .bool] K)
/-- gneiss/heap.Form -/
abbrev C152 (x1 : Int) (x2 : Int) (x3 : Int) (w : World) (K : Int → World → Prop) : Prop := Calls Try.prog 152 #[.int .i64 x1, .int .i64 x2, .int .i64 x3] w (Ret [.leaf (.int .i64)] K)
/-- (*gneiss/heap.Heap).find -/
abbrev C153 (x1 : Option Addr) (x2 : Int) (x3 : Int) (w : World) (K : Int → Int → Int → Int → Int → World → Prop) : Prop := Calls Try.prog 153 #[.pointer x1, .int .i64 x2, .int .i64 x3] w (Ret [.agg [.int .i64, .int .i64, .int .i64, .int .i64], .leaf (.int .i64)] K)
/-- gneiss/heap.bounds -/
abbrev C154 (x1 : Int) (w : World) (K : Int → World → Prop) : Prop := Calls Try.prog 154 #[.int .i64 x1] w (Ret [.leaf (.int .i64)] K)
/-- gneiss/object.New -/
abbrev C155 (x1 : Option Addr) (w : World) (K : Option Addr → Int → World → Prop) : Prop := Calls Try.prog 155 #[.pointer x1] w (Ret [.leaf .ptr, .leaf (.int .i64)] K)
/-- (*gneiss/frag.Pool).Arena -/
abbrev C156 (x1 : Option Addr) (w : World) (K : Option Addr → World → Prop) : Prop := Calls Try.prog 156 #[.pointer x1] w (Ret [.leaf .ptr] K)
/-- (*gneiss/frag.Pool).Room -/
abbrev C157 (x1 : Option Addr) (w : World) (K : Int → World → Prop) : Prop := Calls Try.prog 157 #[.pointer x1] w (Ret [.leaf (.int .i64)] K)
/-- (*gneiss/object.Store).find -/
abbrev C158 (x1 : Option Addr) (x2 : Int) (x3 : Int) (x4 : Int) (w : World) (K : Int → Int → Int → World → Prop) : Prop := Calls Try.prog 158 #[.pointer x1, .int .i64 x2, .int .i64 x3, .int .i64 x4] w (Ret [.leaf (.int .i64), .leaf (.int .i64), .leaf (.int .i64)] K)
/-- slices.Sort[[]int,int] -/
abbrev C159 (x1a : Option Addr) (x1l x1c : Nat) (w : World) (K : World → Prop) : Prop := Calls Try.prog 159 #[.slice x1a x1l x1c] w (Ret [] K)
/-- (*gneiss/gneisslaw8.play).make -/
abbrev C160 (x1 : Option Addr) (x2 : Int) (x3 : Int) (x4 : Int) (x5 : Int) (x6 : Int) (w : World) (K : Bool → World → Prop) : Prop := Calls Try.prog 160 #[.pointer x1, .agg #[.int .i64 x2, .int .i64 x3, .int .i64 x4, .int .i64 x5, .int .i64 x6]] w (Ret [.leaf .bool] K)
/-- (*gneiss/gneisslaw8.play).word -/
abbrev C161 (x1 : Option Addr) (x2 : Int) (x3 : Int) (x4 : Int) (x5 : Int) (x6 : Int) (x7 : Int) (w : World) (K : Bool → World → Prop) : Prop := Calls Try.prog 161 #[.pointer x1, .agg #[.int .i64 x2, .int .i64 x3, .int .i64 x4, .int .i64 x5, .int .i64 x6], .int .i64 x7] w (Ret [.leaf .bool] K)
/-- (*gneiss/gneisslaw8.play).free -/
abbrev C162 (x1 : Option Addr) (x2 : Int) (x3 : Int) (x4 : Int) (x5 : Int) (x6 : Int) (x7 : Int) (w : World) (K : Bool → World → Prop) : Prop := Calls Try.prog 162 #[.pointer x1, .agg #[.int .i64 x2, .int .i64 x3, .int .i64 x4, .int .i64 x5, .int .i64 x6], .int .i64 x7] w (Ret [.leaf .bool] K)
/-- (*gneiss/object.Store).Size -/
abbrev C163 (x1 : Option Addr) (x2 : Int) (w : World) (K : Int → Int → World → Prop) : Prop := Calls Try.prog 163 #[.pointer x1, .int .i64 x2] w (Ret [.leaf (.int .i64), .leaf (.int .i64)] K)
/-- (*gneiss/gneisslaw9.play).make -/
abbrev C164 (x1 : Option Addr) (x2 : Int) (x3 : Int) (x4 : Int) (x5 : Int) (x6 : Int) (x7 : Int) (w : World) (K : Bool → World → Prop) : Prop := Calls Try.prog 164 #[.pointer x1, .agg #[.int .i64 x2, .int .i64 x3, .int .i64 x4, .int .i64 x5, .int .i64 x6, .int .i64 x7]] w (Ret [.leaf .bool] K)
/-- (*gneiss/gneisslaw9.play).word -/
abbrev C165 (x1 : Option Addr) (x2 : Int) (x3 : Int) (x4 : Int) (x5 : Int) (x6 : Int) (x7 : Int) (x8 : Int) (w : World) (K : Bool → World → Prop) : Prop := Calls Try.prog 165 #[.pointer x1, .agg #[.int .i64 x2, .int .i64 x3, .int .i64 x4, .int .i64 x5, .int .i64 x6, .int .i64 x7], .int .i64 x8] w (Ret [.leaf .bool] K)
/-- (*gneiss/refs.Heap).thread -/
abbrev C166 (x1 : Option Addr) (x2 : Int) (w : World) (K : Int → World → Prop) : Prop := Calls Try.prog 166 #[.pointer x1, .int .i64 x2] w (Ret [.leaf (.int .i64)] K)
/-- (*gneiss/refs.Heap).made -/
abbrev C167 (x1 : Option Addr) (x2 : Int) (x3 : Int) (x4 : Int) (x5 : Int) (w : World) (K : Int → Int → World → Prop) : Prop := Calls Try.prog 167 #[.pointer x1, .int .i64 x2, .int .i64 x3, .int .i64 x4, .int .i64 x5] w (Ret [.leaf (.int .i64), .leaf (.int .i64)] K)
/-- (*gneiss/refs.Heap).reached -/
abbrev C168 (x1 : Option Addr) (w : World) (K : Option Nat → World → Prop) : Prop := Calls Try.prog 168 #[.pointer x1] w (Ret [.leaf .map] K)
/-- (*gneiss/collect.Heap).thread -/
abbrev C169 (x1 : Option Addr) (x2 : Int) (w : World) (K : Int → World → Prop) : Prop := Calls Try.prog 169 #[.pointer x1, .int .i64 x2] w (Ret [.leaf (.int .i64)] K)
/-- (*gneiss/collect.Heap).mark -/
abbrev C170 (x1 : Option Addr) (x2 : Int) (w : World) (K : World → Prop) : Prop := Calls Try.prog 170 #[.pointer x1, .int .i64 x2] w (Ret [] K)
/-- (*gneiss/refs.Heap).word -/
abbrev C171 (x1 : Option Addr) (x2 : Int) (x3 : Int) (x4 : Int) (w : World) (K : Int → World → Prop) : Prop := Calls Try.prog 171 #[.pointer x1, .int .i64 x2, .int .i64 x3, .int .i64 x4] w (Ret [.leaf (.int .i64)] K)
/-- gneiss/collect.told -/
abbrev C172 (x1 : Int) (w : World) (K : Int → World → Prop) : Prop := Calls Try.prog 172 #[.int .i64 x1] w (Ret [.leaf (.int .i64)] K)
/-- (*gneiss/collect.Heap).marking -/
abbrev C173 (x1 : Option Addr) (w : World) (K : World → Prop) : Prop := Calls Try.prog 173 #[.pointer x1] w (Ret [] K)
/-- (*gneiss/gneisslaw7.play).over -/
abbrev C174 (x1 : Option Addr) (w : World) (K : World → Prop) : Prop := Calls Try.prog 174 #[.pointer x1] w (Ret [] K)
/-- gneiss/heap.sizes -/
abbrev C175 (x1 : Int) (w : World) (K : Int → Int → Bool → World → Prop) : Prop := Calls Try.prog 175 #[.int .i64 x1] w (Ret [.leaf (.int .i64), .leaf (.int .i64), .leaf .bool] K)
/-- slices.pdqsortOrdered[int] -/
abbrev C176 (x1a : Option Addr) (x1l x1c : Nat) (x2 : Int) (x3 : Int) (x4 : Int) (w : World) (K : World → Prop) : Prop := Calls Try.prog 176 #[.slice x1a x1l x1c, .int .i64 x2, .int .i64 x3, .int .i64 x4] w (Ret [] K)
/-- math/bits.Len -/
abbrev C177 (x1 : Int) (w : World) (K : Int → World → Prop) : Prop := Calls Try.prog 177 #[.int .u64 x1] w (Ret [.leaf (.int .i64)] K)
/-- gneiss/gneisslaw8.need -/
abbrev C178 (x1 : Int) (w : World) (K : Int → World → Prop) : Prop := Calls Try.prog 178 #[.int .i64 x1] w (Ret [.leaf (.int .i64)] K)
/-- gneiss/gneisslaw9.fits -/
abbrev C179 (x1 : Int) (x2 : Int) (w : World) (K : Bool → World → Prop) : Prop := Calls Try.prog 179 #[.int .i64 x1, .int .i64 x2] w (Ret [.leaf .bool] K)
/-- (*gneiss/refs.Heap).reached$1 -/
abbrev C180 (x1a : Option Addr) (x1l x1c : Nat) (x2 : Option Addr) (x3 : Option Addr) (x4 : Option Addr) (w : World) (K : World → Prop) : Prop := Calls Try.prog 180 #[.slice x1a x1l x1c, .pointer x2, .pointer x3, .pointer x4] w (Ret [] K)
/-- slices.insertionSortOrdered[int] -/
abbrev C181 (x1a : Option Addr) (x1l x1c : Nat) (x2 : Int) (x3 : Int) (w : World) (K : World → Prop) : Prop := Calls Try.prog 181 #[.slice x1a x1l x1c, .int .i64 x2, .int .i64 x3] w (Ret [] K)
/-- slices.heapSortOrdered[int] -/
abbrev C182 (x1a : Option Addr) (x1l x1c : Nat) (x2 : Int) (x3 : Int) (w : World) (K : World → Prop) : Prop := Calls Try.prog 182 #[.slice x1a x1l x1c, .int .i64 x2, .int .i64 x3] w (Ret [] K)
/-- slices.breakPatternsOrdered[int] -/
abbrev C183 (x1a : Option Addr) (x1l x1c : Nat) (x2 : Int) (x3 : Int) (w : World) (K : World → Prop) : Prop := Calls Try.prog 183 #[.slice x1a x1l x1c, .int .i64 x2, .int .i64 x3] w (Ret [] K)
/-- slices.choosePivotOrdered[int] -/
abbrev C184 (x1a : Option Addr) (x1l x1c : Nat) (x2 : Int) (x3 : Int) (w : World) (K : Int → Int → World → Prop) : Prop := Calls Try.prog 184 #[.slice x1a x1l x1c, .int .i64 x2, .int .i64 x3] w (Ret [.leaf (.int .i64), .leaf (.int .i64)] K)
/-- slices.reverseRangeOrdered[int] -/
abbrev C185 (x1a : Option Addr) (x1l x1c : Nat) (x2 : Int) (x3 : Int) (w : World) (K : World → Prop) : Prop := Calls Try.prog 185 #[.slice x1a x1l x1c, .int .i64 x2, .int .i64 x3] w (Ret [] K)
/-- slices.partialInsertionSortOrdered[int] -/
abbrev C186 (x1a : Option Addr) (x1l x1c : Nat) (x2 : Int) (x3 : Int) (w : World) (K : Bool → World → Prop) : Prop := Calls Try.prog 186 #[.slice x1a x1l x1c, .int .i64 x2, .int .i64 x3] w (Ret [.leaf .bool] K)
/-- cmp.Less[int] -/
abbrev C187 (x1 : Int) (x2 : Int) (w : World) (K : Bool → World → Prop) : Prop := Calls Try.prog 187 #[.int .i64 x1, .int .i64 x2] w (Ret [.leaf .bool] K)
/-- slices.partitionEqualOrdered[int] -/
abbrev C188 (x1a : Option Addr) (x1l x1c : Nat) (x2 : Int) (x3 : Int) (x4 : Int) (w : World) (K : Int → World → Prop) : Prop := Calls Try.prog 188 #[.slice x1a x1l x1c, .int .i64 x2, .int .i64 x3, .int .i64 x4] w (Ret [.leaf (.int .i64)] K)
/-- slices.partitionOrdered[int] -/
abbrev C189 (x1a : Option Addr) (x1l x1c : Nat) (x2 : Int) (x3 : Int) (x4 : Int) (w : World) (K : Int → Bool → World → Prop) : Prop := Calls Try.prog 189 #[.slice x1a x1l x1c, .int .i64 x2, .int .i64 x3, .int .i64 x4] w (Ret [.leaf (.int .i64), .leaf .bool] K)
/-- math/bits.Len32 -/
abbrev C190 (x1 : Int) (w : World) (K : Int → World → Prop) : Prop := Calls Try.prog 190 #[.int .u32 x1] w (Ret [.leaf (.int .i64)] K)
/-- math/bits.Len64 -/
abbrev C191 (x1 : Int) (w : World) (K : Int → World → Prop) : Prop := Calls Try.prog 191 #[.int .u64 x1] w (Ret [.leaf (.int .i64)] K)
/-- slices.siftDownOrdered[int] -/
abbrev C192 (x1a : Option Addr) (x1l x1c : Nat) (x2 : Int) (x3 : Int) (x4 : Int) (w : World) (K : World → Prop) : Prop := Calls Try.prog 192 #[.slice x1a x1l x1c, .int .i64 x2, .int .i64 x3, .int .i64 x4] w (Ret [] K)
/-- slices.nextPowerOfTwo -/
abbrev C193 (x1 : Int) (w : World) (K : Int → World → Prop) : Prop := Calls Try.prog 193 #[.int .i64 x1] w (Ret [.leaf (.int .u64)] K)
/-- (*slices.xorshift).Next -/
abbrev C194 (x1 : Option Addr) (w : World) (K : Int → World → Prop) : Prop := Calls Try.prog 194 #[.pointer x1] w (Ret [.leaf (.int .u64)] K)
/-- slices.medianAdjacentOrdered[int] -/
abbrev C195 (x1a : Option Addr) (x1l x1c : Nat) (x2 : Int) (x3 : Option Addr) (w : World) (K : Int → World → Prop) : Prop := Calls Try.prog 195 #[.slice x1a x1l x1c, .int .i64 x2, .pointer x3] w (Ret [.leaf (.int .i64)] K)
/-- slices.medianOrdered[int] -/
abbrev C196 (x1a : Option Addr) (x1l x1c : Nat) (x2 : Int) (x3 : Int) (x4 : Int) (x5 : Option Addr) (w : World) (K : Int → World → Prop) : Prop := Calls Try.prog 196 #[.slice x1a x1l x1c, .int .i64 x2, .int .i64 x3, .int .i64 x4, .pointer x5] w (Ret [.leaf (.int .i64)] K)
/-- cmp.isNaN[int] -/
abbrev C197 (x1 : Int) (w : World) (K : Bool → World → Prop) : Prop := Calls Try.prog 197 #[.int .i64 x1] w (Ret [.leaf .bool] K)
end Go.Proofs.Ytfpghcdjfiggiaa.V

/- The calls of the program's functions, under names. No condition. -/
import Derived.Test.YtmlhdmnnijapjaaVCC
import Derived.Test.YtmlhdmnnijapjaaProg
namespace Go.Proofs.Ytmlhdmnnijapjaa.V
open Go
set_option linter.unusedVariables false
/-- What may throw. -/
def thrC (X : List PanicEntry → World → Prop) (fl : Nat → Option (Nat × Nat × Nat)) : Thr := ⟨fun n => [47, 48, 49, 50, 68, 69, 70, 71, 72, 73, 74, 95, 96, 97, 98, 99, 100].any (Nat.beq n), X, fl⟩

/-- gneiss/gneisslaw2.WireShort -/
abbrev C3 (x1 : Int) (x2 : ByteArray) (w : World) (K : Bool → World → Prop) : Prop := Calls Try.prog 3 #[.int .i64 x1, .string x2] w (Ret [.leaf .bool] K)
/-- gneiss/gneisslaw2.WireBack -/
abbrev C4 (x1 : Int) (x2 : ByteArray) (x3 : ByteArray) (x4 : ByteArray) (w : World) (K : Bool → World → Prop) : Prop := Calls Try.prog 4 #[.int .i64 x1, .string x2, .string x3, .string x4] w (Ret [.leaf .bool] K)
/-- gneiss/gneisslaw11.MarkActs -/
abbrev C5 (x1 : Int) (x2a : Option Addr) (x2l x2c : Nat) (w : World) (K : Bool → World → Prop) : Prop := Calls Try.prog 5 #[.int .i64 x1, .slice x2a x2l x2c] w (Ret [.leaf .bool] K)
/-- gneiss/gneisslaw11.MarkRows -/
abbrev C6 (x1 : Int) (x2a : Option Addr) (x2l x2c : Nat) (w : World) (K : Bool → World → Prop) : Prop := Calls Try.prog 6 #[.int .i64 x1, .slice x2a x2l x2c] w (Ret [.leaf .bool] K)
/-- gneiss/gneisslaw14.ClassReads -/
abbrev C7 (x1 : ByteArray) (w : World) (K : Bool → World → Prop) : Prop := Calls Try.prog 7 #[.string x1] w (Ret [.leaf .bool] K)
/-- gneiss/gneisslaw14.ClassWrites -/
abbrev C8 (x1 : Int) (x2a : Option Addr) (x2l x2c : Nat) (w : World) (K : Bool → World → Prop) : Prop := Calls Try.prog 8 #[.agg #[.int .i64 x1, .slice x2a x2l x2c]] w (Ret [.leaf .bool] K)
/-- gneiss/gneisslaw14.ClassBack -/
abbrev C9 (x1 : ByteArray) (x2 : Int) (x3a : Option Addr) (x3l x3c : Nat) (w : World) (K : Bool → World → Prop) : Prop := Calls Try.prog 9 #[.string x1, .agg #[.int .i64 x2, .slice x3a x3l x3c]] w (Ret [.leaf .bool] K)
/-- gneiss/gneisslaw14.ClassCuts -/
abbrev C10 (x1 : Int) (x2a : Option Addr) (x2l x2c : Nat) (x3 : Int) (w : World) (K : Bool → World → Prop) : Prop := Calls Try.prog 10 #[.agg #[.int .i64 x1, .slice x2a x2l x2c], .int .i64 x3] w (Ret [.leaf .bool] K)
/-- gneiss/gneisslaw14.ClassCounts -/
abbrev C11 (x1 : Int) (x2 : Bool) (w : World) (K : Bool → World → Prop) : Prop := Calls Try.prog 11 #[.int .i64 x1, .bool x2] w (Ret [.leaf .bool] K)
/-- gneiss/gneisslaw14.ClassNames -/
abbrev C12 (x1 : ByteArray) (x2 : Int) (w : World) (K : Bool → World → Prop) : Prop := Calls Try.prog 12 #[.string x1, .int .i64 x2] w (Ret [.leaf .bool] K)
/-- gneiss/gneisslaw14.ClassNumbers -/
abbrev C13 (x1 : Int) (x2 : Int) (w : World) (K : Bool → World → Prop) : Prop := Calls Try.prog 13 #[.int .i64 x1, .int .i64 x2] w (Ret [.leaf .bool] K)
/-- gneiss/gneisslaw14.ClassTails -/
abbrev C14 (x1 : Int) (x2a : Option Addr) (x2l x2c : Nat) (x3 : ByteArray) (w : World) (K : Bool → World → Prop) : Prop := Calls Try.prog 14 #[.agg #[.int .i64 x1, .slice x2a x2l x2c], .string x3] w (Ret [.leaf .bool] K)
/-- gneiss/gneisslaw2.awake -/
abbrev C15 (w : World) (K : Bool → World → Prop) : Prop := Calls Try.prog 15 #[] w (Ret [.leaf .bool] K)
/-- gneiss/wire.PutNum -/
abbrev C16 (x1 : Int) (w : World) (K : ByteArray → World → Prop) : Prop := Calls Try.prog 16 #[.int .i64 x1] w (Ret [.leaf .str] K)
/-- gneiss/wire.GetNum -/
abbrev C17 (x1 : ByteArray) (x2 : Int) (w : World) (K : Int → Int → Int → World → Prop) : Prop := Calls Try.prog 17 #[.string x1, .int .i64 x2] w (Ret [.leaf (.int .i64), .leaf (.int .i64), .leaf (.int .i64)] K)
/-- gneiss/gneisslaw0.Num -/
abbrev C18 (x1 : Int) (w : World) (K : Int → World → Prop) : Prop := Calls Try.prog 18 #[.int .i64 x1] w (Ret [.leaf (.int .i64)] K)
/-- gneiss/wire.PutText -/
abbrev C19 (x1 : ByteArray) (w : World) (K : ByteArray → World → Prop) : Prop := Calls Try.prog 19 #[.string x1] w (Ret [.leaf .str] K)
/-- gneiss/wire.GetText -/
abbrev C20 (x1 : ByteArray) (x2 : Int) (x3 : Int) (w : World) (K : ByteArray → Int → Int → World → Prop) : Prop := Calls Try.prog 20 #[.string x1, .int .i64 x2, .int .i64 x3] w (Ret [.leaf .str, .leaf (.int .i64), .leaf (.int .i64)] K)
/-- gneiss/mark.New -/
abbrev C21 (x1 : Int) (w : World) (K : Option Addr → Int → World → Prop) : Prop := Calls Try.prog 21 #[.int .i64 x1] w (Ret [.leaf .ptr, .leaf (.int .i64)] K)
/-- gneiss/gneisslaw11.awake -/
abbrev C22 (w : World) (K : Bool → World → Prop) : Prop := Calls Try.prog 22 #[] w (Ret [.leaf .bool] K)
/-- (*gneiss/mark.Work).Grey -/
abbrev C23 (x1 : Option Addr) (x2 : Int) (w : World) (K : Bool → Int → World → Prop) : Prop := Calls Try.prog 23 #[.pointer x1, .int .i64 x2] w (Ret [.leaf .bool, .leaf (.int .i64)] K)
/-- (*gneiss/mark.Work).Next -/
abbrev C24 (x1 : Option Addr) (w : World) (K : Int → Bool → World → Prop) : Prop := Calls Try.prog 24 #[.pointer x1] w (Ret [.leaf (.int .i64), .leaf .bool] K)
/-- (*gneiss/mark.Work).Colour -/
abbrev C25 (x1 : Option Addr) (x2 : Int) (w : World) (K : Int → Int → World → Prop) : Prop := Calls Try.prog 25 #[.pointer x1, .int .i64 x2] w (Ret [.leaf (.int .i64), .leaf (.int .i64)] K)
/-- (*gneiss/mark.Work).Reset -/
abbrev C26 (x1 : Option Addr) (w : World) (K : World → Prop) : Prop := Calls Try.prog 26 #[.pointer x1] w (Ret [] K)
/-- gneiss/gneisslaw11.blacks -/
abbrev C27 (x1 : Option Addr) (x2a : Option Addr) (x2l x2c : Nat) (w : World) (K : Bool → World → Prop) : Prop := Calls Try.prog 27 #[.pointer x1, .slice x2a x2l x2c] w (Ret [.leaf .bool] K)
/-- (*gneiss/mark.Work).Black -/
abbrev C28 (x1 : Option Addr) (w : World) (K : Option Addr → Nat → Nat → World → Prop) : Prop := Calls Try.prog 28 #[.pointer x1] w (Ret [.leaf .slice] K)
/-- gneiss/class.Decode -/
abbrev C29 (x1 : ByteArray) (w : World) (K : Int → Option Addr → Nat → Nat → Int → Int → World → Prop) : Prop := Calls Try.prog 29 #[.string x1] w (Ret [.agg [.int .i64, .slice], .leaf (.int .i64), .leaf (.int .i64)] K)
/-- gneiss/gneissref14.Decode -/
abbrev C30 (x1 : ByteArray) (w : World) (K : Int → Option Addr → Nat → Nat → Int → Int → World → Prop) : Prop := Calls Try.prog 30 #[.string x1] w (Ret [.agg [.int .i64, .slice], .leaf (.int .i64), .leaf (.int .i64)] K)
/-- gneiss/gneisslaw0.SameProgram -/
abbrev C31 (x1 : Int) (x2a : Option Addr) (x2l x2c : Nat) (x3 : Int) (x4a : Option Addr) (x4l x4c : Nat) (w : World) (K : Bool → World → Prop) : Prop := Calls Try.prog 31 #[.agg #[.int .i64 x1, .slice x2a x2l x2c], .agg #[.int .i64 x3, .slice x4a x4l x4c]] w (Ret [.leaf .bool] K)
/-- gneiss/gneisslaw0.SpoilProgram -/
abbrev C32 (x1 : Int) (x2a : Option Addr) (x2l x2c : Nat) (w : World) (K : World → Prop) : Prop := Calls Try.prog 32 #[.agg #[.int .i64 x1, .slice x2a x2l x2c]] w (Ret [] K)
/-- gneiss/gneisslaw14.awake -/
abbrev C33 (w : World) (K : Bool → World → Prop) : Prop := Calls Try.prog 33 #[] w (Ret [.leaf .bool] K)
/-- gneiss/gneisslaw0.CopyProgram -/
abbrev C34 (x1 : Int) (x2a : Option Addr) (x2l x2c : Nat) (w : World) (K : Int → Option Addr → Nat → Nat → World → Prop) : Prop := Calls Try.prog 34 #[.agg #[.int .i64 x1, .slice x2a x2l x2c]] w (Ret [.agg [.int .i64, .slice]] K)
/-- gneiss/class.Encode -/
abbrev C35 (x1 : Int) (x2a : Option Addr) (x2l x2c : Nat) (w : World) (K : ByteArray → Int → World → Prop) : Prop := Calls Try.prog 35 #[.agg #[.int .i64 x1, .slice x2a x2l x2c]] w (Ret [.leaf .str, .leaf (.int .i64)] K)
/-- gneiss/gneissref14.Encode -/
abbrev C36 (x1 : Int) (x2a : Option Addr) (x2l x2c : Nat) (w : World) (K : ByteArray → Int → World → Prop) : Prop := Calls Try.prog 36 #[.agg #[.int .i64 x1, .slice x2a x2l x2c]] w (Ret [.leaf .str, .leaf (.int .i64)] K)
/-- gneiss/gneisslaw14.Tiny -/
abbrev C37 (w : World) (K : Int → Option Addr → Nat → Nat → World → Prop) : Prop := Calls Try.prog 37 #[] w (Ret [.agg [.int .i64, .slice]] K)
/-- gneiss/gneisslaw14.refuses -/
abbrev C38 (x1 : Int) (x2a : Option Addr) (x2l x2c : Nat) (x3 : Int) (w : World) (K : Bool → World → Prop) : Prop := Calls Try.prog 38 #[.agg #[.int .i64 x1, .slice x2a x2l x2c], .int .i64 x3] w (Ret [.leaf .bool] K)
/-- gneiss/gneisslaw14.back -/
abbrev C39 (x1 : Int) (x2a : Option Addr) (x2l x2c : Nat) (w : World) (K : Bool → World → Prop) : Prop := Calls Try.prog 39 #[.agg #[.int .i64 x1, .slice x2a x2l x2c]] w (Ret [.leaf .bool] K)
/-- gneiss/arith.Fits -/
abbrev C40 (x1 : Int) (w : World) (K : Bool → World → Prop) : Prop := Calls Try.prog 40 #[.int .i64 x1] w (Ret [.leaf .bool] K)
/-- (*gneiss/mark.Work).has -/
abbrev C41 (x1 : Option Addr) (x2 : Int) (w : World) (K : Int → World → Prop) : Prop := Calls Try.prog 41 #[.pointer x1, .int .i64 x2] w (Ret [.leaf (.int .i64)] K)
/-- (*gneiss/mark.ring[int]).push -/
abbrev C42 (x1 : Option Addr) (x2 : Int) (w : World) (K : World → Prop) : Prop := Calls Try.prog 42 #[.pointer x1, .int .i64 x2] w (Ret [] K)
/-- (*gneiss/mark.ring[int]).pop -/
abbrev C43 (x1 : Option Addr) (w : World) (K : Int → Bool → World → Prop) : Prop := Calls Try.prog 43 #[.pointer x1] w (Ret [.leaf (.int .i64), .leaf .bool] K)
/-- gneiss/gneisslaw0.SpoilInts -/
abbrev C44 (x1a : Option Addr) (x1l x1c : Nat) (w : World) (K : World → Prop) : Prop := Calls Try.prog 44 #[.slice x1a x1l x1c] w (Ret [] K)
/-- (*gneiss/mark.Work).of -/
abbrev C45 (x1 : Option Addr) (x2 : Int) (w : World) (K : Value → World → Prop) : Prop := Calls Try.prog 45 #[.pointer x1, .int .i64 x2] w (Ret [.leaf .any] K)
/-- gneiss/class.Decode$1 -/
abbrev C46 (x1 : Option Addr) (x2 : Option Addr) (x3 : Option Addr) (w : World) (K : World → Prop) : Prop := Calls Try.prog 46 #[.pointer x1, .pointer x2, .pointer x3] w (Ret [] K)
/-- (*gneiss/class.reader).num -/
abbrev CX47 (X : List PanicEntry → World → Prop) (x1 : Option Addr) (w : World) (K : Int → World → Prop) : Prop := Calls Try.prog 47 #[.pointer x1] w (RetX X [.leaf (.int .i64)] K)
/-- gneiss/class.list[gneiss/api.Class] -/
abbrev CX48 (X : List PanicEntry → World → Prop) (x1 : Option Addr) (x2 : Int) (x3 : Value) (w : World) (K : Option Addr → Nat → Nat → World → Prop) : Prop := Calls Try.prog 48 #[.pointer x1, .int .i64 x2, x3] w (RetX X [.leaf .slice] K)
/-- (*gneiss/class.reader).class -/
abbrev CX49 (X : List PanicEntry → World → Prop) (x1 : Option Addr) (w : World) (K : ByteArray → Bool → Bool → Int → Option Addr → Nat → Nat → Option Addr → Nat → Nat → Option Addr → Nat → Nat → Option Addr → Nat → Nat → World → Prop) : Prop := Calls Try.prog 49 #[.pointer x1] w (RetX X [.agg [.str, .bool, .bool, .int .i64, .slice, .slice, .slice, .slice]] K)
/-- gneiss/class.fail -/
abbrev CX50 (X : List PanicEntry → World → Prop) (x1 : Bool) (x2 : Int) (x3 : Int) (w : World) (K : World → Prop) : Prop := Calls Try.prog 50 #[.bool x1, .int .i64 x2, .int .i64 x3] w (RetX X [] K)
/-- (*gneiss/gneissref14.reader).num -/
abbrev C51 (x1 : Option Addr) (w : World) (K : Int → World → Prop) : Prop := Calls Try.prog 51 #[.pointer x1] w (Ret [.leaf (.int .i64)] K)
/-- (*gneiss/gneissref14.reader).ranged -/
abbrev C52 (x1 : Option Addr) (x2 : Int) (x3 : Int) (w : World) (K : Int → World → Prop) : Prop := Calls Try.prog 52 #[.pointer x1, .int .i64 x2, .int .i64 x3] w (Ret [.leaf (.int .i64)] K)
/-- (*gneiss/gneissref14.reader).class -/
abbrev C53 (x1 : Option Addr) (w : World) (K : ByteArray → Bool → Bool → Int → Option Addr → Nat → Nat → Option Addr → Nat → Nat → Option Addr → Nat → Nat → Option Addr → Nat → Nat → World → Prop) : Prop := Calls Try.prog 53 #[.pointer x1] w (Ret [.agg [.str, .bool, .bool, .int .i64, .slice, .slice, .slice, .slice]] K)
/-- (*gneiss/gneissref14.reader).fault -/
abbrev C54 (x1 : Option Addr) (x2 : Int) (x3 : Int) (w : World) (K : World → Prop) : Prop := Calls Try.prog 54 #[.pointer x1, .int .i64 x2, .int .i64 x3] w (Ret [] K)
/-- gneiss/gneisslaw0.SameInts -/
abbrev C55 (x1a : Option Addr) (x1l x1c : Nat) (x2a : Option Addr) (x2l x2c : Nat) (w : World) (K : Bool → World → Prop) : Prop := Calls Try.prog 55 #[.slice x1a x1l x1c, .slice x2a x2l x2c] w (Ret [.leaf .bool] K)
/-- gneiss/gneisslaw0.SameFields -/
abbrev C56 (x1a : Option Addr) (x1l x1c : Nat) (x2a : Option Addr) (x2l x2c : Nat) (w : World) (K : Bool → World → Prop) : Prop := Calls Try.prog 56 #[.slice x1a x1l x1c, .slice x2a x2l x2c] w (Ret [.leaf .bool] K)
/-- gneiss/gneisslaw0.SameMethod -/
abbrev C57 (x1 : ByteArray) (x2 : Bool) (x3a : Option Addr) (x3l x3c : Nat) (x4 : Int) (x5 : Int) (x6 : Int) (x7a : Option Addr) (x7l x7c : Nat) (x8a : Option Addr) (x8l x8c : Nat) (x9a : Option Addr) (x9l x9c : Nat) (x10 : ByteArray) (x11 : Bool) (x12a : Option Addr) (x12l x12c : Nat) (x13 : Int) (x14 : Int) (x15 : Int) (x16a : Option Addr) (x16l x16c : Nat) (x17a : Option Addr) (x17l x17c : Nat) (x18a : Option Addr) (x18l x18c : Nat) (w : World) (K : Bool → World → Prop) : Prop := Calls Try.prog 57 #[.agg #[.string x1, .bool x2, .slice x3a x3l x3c, .int .i64 x4, .int .i64 x5, .int .i64 x6, .slice x7a x7l x7c, .slice x8a x8l x8c, .slice x9a x9l x9c], .agg #[.string x10, .bool x11, .slice x12a x12l x12c, .int .i64 x13, .int .i64 x14, .int .i64 x15, .slice x16a x16l x16c, .slice x17a x17l x17c, .slice x18a x18l x18c]] w (Ret [.leaf .bool] K)
/-- gneiss/gneisslaw0.SpoilFields -/
abbrev C58 (x1a : Option Addr) (x1l x1c : Nat) (w : World) (K : World → Prop) : Prop := Calls Try.prog 58 #[.slice x1a x1l x1c] w (Ret [] K)
/-- gneiss/gneisslaw0.CopyInts -/
abbrev C59 (x1a : Option Addr) (x1l x1c : Nat) (w : World) (K : Option Addr → Nat → Nat → World → Prop) : Prop := Calls Try.prog 59 #[.slice x1a x1l x1c] w (Ret [.leaf .slice] K)
/-- gneiss/gneisslaw0.CopyFields -/
abbrev C60 (x1a : Option Addr) (x1l x1c : Nat) (w : World) (K : Option Addr → Nat → Nat → World → Prop) : Prop := Calls Try.prog 60 #[.slice x1a x1l x1c] w (Ret [.leaf .slice] K)
/-- (*gneiss/class.writer).num -/
abbrev C61 (x1 : Option Addr) (x2 : Int) (w : World) (K : World → Prop) : Prop := Calls Try.prog 61 #[.pointer x1, .int .i64 x2] w (Ret [] K)
/-- gneiss/class.lay[gneiss/api.Class] -/
abbrev C62 (x1 : Option Addr) (x2 : Int) (x3a : Option Addr) (x3l x3c : Nat) (x4 : Value) (w : World) (K : World → Prop) : Prop := Calls Try.prog 62 #[.pointer x1, .int .i64 x2, .slice x3a x3l x3c, x4] w (Ret [] K)
/-- (*gneiss/class.writer).class -/
abbrev C63 (x1 : Option Addr) (x2 : ByteArray) (x3 : Bool) (x4 : Bool) (x5 : Int) (x6a : Option Addr) (x6l x6c : Nat) (x7a : Option Addr) (x7l x7c : Nat) (x8a : Option Addr) (x8l x8c : Nat) (x9a : Option Addr) (x9l x9c : Nat) (w : World) (K : World → Prop) : Prop := Calls Try.prog 63 #[.pointer x1, .agg #[.string x2, .bool x3, .bool x4, .int .i64 x5, .slice x6a x6l x6c, .slice x7a x7l x7c, .slice x8a x8l x8c, .slice x9a x9l x9c]] w (Ret [] K)
/-- (*gneiss/gneissref14.writer).num -/
abbrev C64 (x1 : Option Addr) (x2 : Int) (w : World) (K : World → Prop) : Prop := Calls Try.prog 64 #[.pointer x1, .int .i64 x2] w (Ret [] K)
/-- (*gneiss/gneissref14.writer).count -/
abbrev C65 (x1 : Option Addr) (x2 : Int) (x3 : Int) (w : World) (K : World → Prop) : Prop := Calls Try.prog 65 #[.pointer x1, .int .i64 x2, .int .i64 x3] w (Ret [] K)
/-- (*gneiss/gneissref14.writer).class -/
abbrev C66 (x1 : Option Addr) (x2 : ByteArray) (x3 : Bool) (x4 : Bool) (x5 : Int) (x6a : Option Addr) (x6l x6c : Nat) (x7a : Option Addr) (x7l x7c : Nat) (x8a : Option Addr) (x8l x8c : Nat) (x9a : Option Addr) (x9l x9c : Nat) (w : World) (K : World → Prop) : Prop := Calls Try.prog 66 #[.pointer x1, .agg #[.string x2, .bool x3, .bool x4, .int .i64 x5, .slice x6a x6l x6c, .slice x7a x7l x7c, .slice x8a x8l x8c, .slice x9a x9l x9c]] w (Ret [] K)
/-- (*gneiss/mark.Work).of$1 -/
abbrev C67 (x1 : Value) (x2 : Option Addr) (x3 : Option Addr) (w : World) (K : World → Prop) : Prop := Calls Try.prog 67 #[x1, .pointer x2, .pointer x3] w (Ret [] K)
/-- (*gneiss/class.reader).name -/
abbrev CX68 (X : List PanicEntry → World → Prop) (x1 : Option Addr) (w : World) (K : ByteArray → World → Prop) : Prop := Calls Try.prog 68 #[.pointer x1] w (RetX X [.leaf .str] K)
/-- (*gneiss/class.reader).within -/
abbrev CX69 (X : List PanicEntry → World → Prop) (x1 : Option Addr) (x2 : Int) (x3 : Int) (w : World) (K : Int → World → Prop) : Prop := Calls Try.prog 69 #[.pointer x1, .int .i64 x2, .int .i64 x3] w (RetX X [.leaf (.int .i64)] K)
/-- (*gneiss/class.reader).class$1 -/
abbrev CX70 (X : List PanicEntry → World → Prop) (x1 : Option Addr) (w : World) (K : ByteArray → Int → World → Prop) : Prop := Calls Try.prog 70 #[.pointer x1] w (RetX X [.agg [.str, .int .i64]] K)
/-- gneiss/class.list[int] -/
abbrev CX71 (X : List PanicEntry → World → Prop) (x1 : Option Addr) (x2 : Int) (x3 : Value) (w : World) (K : Option Addr → Nat → Nat → World → Prop) : Prop := Calls Try.prog 71 #[.pointer x1, .int .i64 x2, x3] w (RetX X [.leaf .slice] K)
/-- gneiss/class.list[gneiss/api.Field] -/
abbrev CX72 (X : List PanicEntry → World → Prop) (x1 : Option Addr) (x2 : Int) (x3 : Value) (w : World) (K : Option Addr → Nat → Nat → World → Prop) : Prop := Calls Try.prog 72 #[.pointer x1, .int .i64 x2, x3] w (RetX X [.leaf .slice] K)
/-- gneiss/class.list[gneiss/api.Method] -/
abbrev CX73 (X : List PanicEntry → World → Prop) (x1 : Option Addr) (x2 : Int) (x3 : Value) (w : World) (K : Option Addr → Nat → Nat → World → Prop) : Prop := Calls Try.prog 73 #[.pointer x1, .int .i64 x2, x3] w (RetX X [.leaf .slice] K)
/-- (*gneiss/class.reader).method -/
abbrev CX74 (X : List PanicEntry → World → Prop) (x1 : Option Addr) (w : World) (K : ByteArray → Bool → Option Addr → Nat → Nat → Int → Int → Int → Option Addr → Nat → Nat → Option Addr → Nat → Nat → Option Addr → Nat → Nat → World → Prop) : Prop := Calls Try.prog 74 #[.pointer x1] w (RetX X [.agg [.str, .bool, .slice, .int .i64, .int .i64, .int .i64, .slice, .slice, .slice]] K)
/-- gneiss/gneissref1.Get -/
abbrev C75 (x1 : ByteArray) (x2 : Int) (w : World) (K : Int → Int → Int → World → Prop) : Prop := Calls Try.prog 75 #[.string x1, .int .i64 x2] w (Ret [.leaf (.int .i64), .leaf (.int .i64), .leaf (.int .i64)] K)
/-- (*gneiss/gneissref14.reader).name -/
abbrev C76 (x1 : Option Addr) (w : World) (K : ByteArray → World → Prop) : Prop := Calls Try.prog 76 #[.pointer x1] w (Ret [.leaf .str] K)
/-- (*gneiss/gneissref14.reader).list -/
abbrev C77 (x1 : Option Addr) (x2 : Int) (w : World) (K : Option Addr → Nat → Nat → World → Prop) : Prop := Calls Try.prog 77 #[.pointer x1, .int .i64 x2] w (Ret [.leaf .slice] K)
/-- (*gneiss/gneissref14.reader).fields -/
abbrev C78 (x1 : Option Addr) (w : World) (K : Option Addr → Nat → Nat → World → Prop) : Prop := Calls Try.prog 78 #[.pointer x1] w (Ret [.leaf .slice] K)
/-- (*gneiss/gneissref14.reader).method -/
abbrev C79 (x1 : Option Addr) (w : World) (K : ByteArray → Bool → Option Addr → Nat → Nat → Int → Int → Int → Option Addr → Nat → Nat → Option Addr → Nat → Nat → Option Addr → Nat → Nat → World → Prop) : Prop := Calls Try.prog 79 #[.pointer x1] w (Ret [.agg [.str, .bool, .slice, .int .i64, .int .i64, .int .i64, .slice, .slice, .slice]] K)
/-- (*gneiss/class.writer).name -/
abbrev C80 (x1 : Option Addr) (x2 : ByteArray) (w : World) (K : World → Prop) : Prop := Calls Try.prog 80 #[.pointer x1, .string x2] w (Ret [] K)
/-- gneiss/class.flag -/
abbrev C81 (x1 : Bool) (x2 : Int) (w : World) (K : Int → World → Prop) : Prop := Calls Try.prog 81 #[.bool x1, .int .i64 x2] w (Ret [.leaf (.int .i64)] K)
/-- gneiss/class.lay[int] -/
abbrev C82 (x1 : Option Addr) (x2 : Int) (x3a : Option Addr) (x3l x3c : Nat) (x4 : Value) (w : World) (K : World → Prop) : Prop := Calls Try.prog 82 #[.pointer x1, .int .i64 x2, .slice x3a x3l x3c, x4] w (Ret [] K)
/-- (*gneiss/class.writer).class$1 -/
abbrev C83 (x1 : ByteArray) (x2 : Int) (x3 : Option Addr) (w : World) (K : World → Prop) : Prop := Calls Try.prog 83 #[.agg #[.string x1, .int .i64 x2], .pointer x3] w (Ret [] K)
/-- gneiss/class.lay[gneiss/api.Field] -/
abbrev C84 (x1 : Option Addr) (x2 : Int) (x3a : Option Addr) (x3l x3c : Nat) (x4 : Value) (w : World) (K : World → Prop) : Prop := Calls Try.prog 84 #[.pointer x1, .int .i64 x2, .slice x3a x3l x3c, x4] w (Ret [] K)
/-- gneiss/class.lay[gneiss/api.Method] -/
abbrev C85 (x1 : Option Addr) (x2 : Int) (x3a : Option Addr) (x3l x3c : Nat) (x4 : Value) (w : World) (K : World → Prop) : Prop := Calls Try.prog 85 #[.pointer x1, .int .i64 x2, .slice x3a x3l x3c, x4] w (Ret [] K)
/-- (*gneiss/class.writer).method -/
abbrev C86 (x1 : Option Addr) (x2 : ByteArray) (x3 : Bool) (x4a : Option Addr) (x4l x4c : Nat) (x5 : Int) (x6 : Int) (x7 : Int) (x8a : Option Addr) (x8l x8c : Nat) (x9a : Option Addr) (x9l x9c : Nat) (x10a : Option Addr) (x10l x10c : Nat) (w : World) (K : World → Prop) : Prop := Calls Try.prog 86 #[.pointer x1, .agg #[.string x2, .bool x3, .slice x4a x4l x4c, .int .i64 x5, .int .i64 x6, .int .i64 x7, .slice x8a x8l x8c, .slice x9a x9l x9c, .slice x10a x10l x10c]] w (Ret [] K)
/-- gneiss/gneissref1.Number -/
abbrev C87 (x1 : Int) (w : World) (K : Bool → World → Prop) : Prop := Calls Try.prog 87 #[.int .i64 x1] w (Ret [.leaf .bool] K)
/-- gneiss/gneissref1.Put -/
abbrev C88 (x1 : Int) (w : World) (K : ByteArray → World → Prop) : Prop := Calls Try.prog 88 #[.int .i64 x1] w (Ret [.leaf .str] K)
/-- (*gneiss/gneissref14.writer).text -/
abbrev C89 (x1 : Option Addr) (x2 : ByteArray) (w : World) (K : World → Prop) : Prop := Calls Try.prog 89 #[.pointer x1, .string x2] w (Ret [] K)
/-- gneiss/gneissref14.flag -/
abbrev C90 (x1 : Bool) (x2 : Int) (w : World) (K : Int → World → Prop) : Prop := Calls Try.prog 90 #[.bool x1, .int .i64 x2] w (Ret [.leaf (.int .i64)] K)
/-- (*gneiss/gneissref14.writer).list -/
abbrev C91 (x1 : Option Addr) (x2a : Option Addr) (x2l x2c : Nat) (x3 : Int) (w : World) (K : World → Prop) : Prop := Calls Try.prog 91 #[.pointer x1, .slice x2a x2l x2c, .int .i64 x3] w (Ret [] K)
/-- (*gneiss/gneissref14.writer).fields -/
abbrev C92 (x1 : Option Addr) (x2a : Option Addr) (x2l x2c : Nat) (w : World) (K : World → Prop) : Prop := Calls Try.prog 92 #[.pointer x1, .slice x2a x2l x2c] w (Ret [] K)
/-- (*gneiss/gneissref14.writer).method -/
abbrev C93 (x1 : Option Addr) (x2 : ByteArray) (x3 : Bool) (x4a : Option Addr) (x4l x4c : Nat) (x5 : Int) (x6 : Int) (x7 : Int) (x8a : Option Addr) (x8l x8c : Nat) (x9a : Option Addr) (x9l x9c : Nat) (x10a : Option Addr) (x10l x10c : Nat) (w : World) (K : World → Prop) : Prop := Calls Try.prog 93 #[.pointer x1, .agg #[.string x2, .bool x3, .slice x4a x4l x4c, .int .i64 x5, .int .i64 x6, .int .i64 x7, .slice x8a x8l x8c, .slice x9a x9l x9c, .slice x10a x10l x10c]] w (Ret [] K)
/-- gneiss/class.Name -/
abbrev C94 (x1 : ByteArray) (w : World) (K : Bool → World → Prop) : Prop := Calls Try.prog 94 #[.string x1] w (Ret [.leaf .bool] K)
/-- gneiss/class.list[gneiss/api.Ins] -/
abbrev CX95 (X : List PanicEntry → World → Prop) (x1 : Option Addr) (x2 : Int) (x3 : Value) (w : World) (K : Option Addr → Nat → Nat → World → Prop) : Prop := Calls Try.prog 95 #[.pointer x1, .int .i64 x2, x3] w (RetX X [.leaf .slice] K)
/-- (*gneiss/class.reader).method$1 -/
abbrev CX96 (X : List PanicEntry → World → Prop) (x1 : Option Addr) (w : World) (K : Int → Int → Int → World → Prop) : Prop := Calls Try.prog 96 #[.pointer x1] w (RetX X [.agg [.int .i64, .int .i64, .int .i64]] K)
/-- gneiss/class.list[gneiss/api.Handler] -/
abbrev CX97 (X : List PanicEntry → World → Prop) (x1 : Option Addr) (x2 : Int) (x3 : Value) (w : World) (K : Option Addr → Nat → Nat → World → Prop) : Prop := Calls Try.prog 97 #[.pointer x1, .int .i64 x2, x3] w (RetX X [.leaf .slice] K)
/-- (*gneiss/class.reader).method$2 -/
abbrev CX98 (X : List PanicEntry → World → Prop) (x1 : Option Addr) (w : World) (K : Int → Int → Int → Int → World → Prop) : Prop := Calls Try.prog 98 #[.pointer x1] w (RetX X [.agg [.int .i64, .int .i64, .int .i64, .int .i64]] K)
/-- gneiss/class.list[gneiss/api.Map] -/
abbrev CX99 (X : List PanicEntry → World → Prop) (x1 : Option Addr) (x2 : Int) (x3 : Value) (w : World) (K : Option Addr → Nat → Nat → World → Prop) : Prop := Calls Try.prog 99 #[.pointer x1, .int .i64 x2, x3] w (RetX X [.leaf .slice] K)
/-- (*gneiss/class.reader).method$3 -/
abbrev CX100 (X : List PanicEntry → World → Prop) (x1 : Option Addr) (w : World) (K : Int → Option Addr → Nat → Nat → Option Addr → Nat → Nat → World → Prop) : Prop := Calls Try.prog 100 #[.pointer x1] w (RetX X [.agg [.int .i64, .slice, .slice]] K)
/-- gneiss/gneissref1.GetText -/
abbrev C101 (x1 : ByteArray) (x2 : Int) (x3 : Int) (w : World) (K : ByteArray → Int → Int → World → Prop) : Prop := Calls Try.prog 101 #[.string x1, .int .i64 x2, .int .i64 x3] w (Ret [.leaf .str, .leaf (.int .i64), .leaf (.int .i64)] K)
/-- gneiss/gneissref14.Name -/
abbrev C102 (x1 : ByteArray) (w : World) (K : Bool → World → Prop) : Prop := Calls Try.prog 102 #[.string x1] w (Ret [.leaf .bool] K)
/-- (*gneiss/gneissref14.reader).code_ -/
abbrev C103 (x1 : Option Addr) (w : World) (K : Option Addr → Nat → Nat → World → Prop) : Prop := Calls Try.prog 103 #[.pointer x1] w (Ret [.leaf .slice] K)
/-- (*gneiss/class.writer).method$1 -/
abbrev C104 (x1a : Option Addr) (x1l x1c : Nat) (x2 : Option Addr) (w : World) (K : World → Prop) : Prop := Calls Try.prog 104 #[.slice x1a x1l x1c, .pointer x2] w (Ret [] K)
/-- gneiss/class.lay[gneiss/api.Ins] -/
abbrev C105 (x1 : Option Addr) (x2 : Int) (x3a : Option Addr) (x3l x3c : Nat) (x4 : Value) (w : World) (K : World → Prop) : Prop := Calls Try.prog 105 #[.pointer x1, .int .i64 x2, .slice x3a x3l x3c, x4] w (Ret [] K)
/-- (*gneiss/class.writer).method$2 -/
abbrev C106 (x1 : Int) (x2 : Int) (x3 : Int) (x4 : Option Addr) (w : World) (K : World → Prop) : Prop := Calls Try.prog 106 #[.agg #[.int .i64 x1, .int .i64 x2, .int .i64 x3], .pointer x4] w (Ret [] K)
/-- gneiss/class.lay[gneiss/api.Handler] -/
abbrev C107 (x1 : Option Addr) (x2 : Int) (x3a : Option Addr) (x3l x3c : Nat) (x4 : Value) (w : World) (K : World → Prop) : Prop := Calls Try.prog 107 #[.pointer x1, .int .i64 x2, .slice x3a x3l x3c, x4] w (Ret [] K)
/-- (*gneiss/class.writer).method$3 -/
abbrev C108 (x1 : Int) (x2 : Int) (x3 : Int) (x4 : Int) (x5 : Option Addr) (w : World) (K : World → Prop) : Prop := Calls Try.prog 108 #[.agg #[.int .i64 x1, .int .i64 x2, .int .i64 x3, .int .i64 x4], .pointer x5] w (Ret [] K)
/-- gneiss/class.lay[gneiss/api.Map] -/
abbrev C109 (x1 : Option Addr) (x2 : Int) (x3a : Option Addr) (x3l x3c : Nat) (x4 : Value) (w : World) (K : World → Prop) : Prop := Calls Try.prog 109 #[.pointer x1, .int .i64 x2, .slice x3a x3l x3c, x4] w (Ret [] K)
/-- (*gneiss/class.writer).method$4 -/
abbrev C110 (x1 : Int) (x2a : Option Addr) (x2l x2c : Nat) (x3a : Option Addr) (x3l x3c : Nat) (x4 : Option Addr) (w : World) (K : World → Prop) : Prop := Calls Try.prog 110 #[.agg #[.int .i64 x1, .slice x2a x2l x2c, .slice x3a x3l x3c], .pointer x4] w (Ret [] K)
/-- gneiss/gneissref1.PutText -/
abbrev C111 (x1 : ByteArray) (w : World) (K : ByteArray → World → Prop) : Prop := Calls Try.prog 111 #[.string x1] w (Ret [.leaf .str] K)
end Go.Proofs.Ytmlhdmnnijapjaa.V

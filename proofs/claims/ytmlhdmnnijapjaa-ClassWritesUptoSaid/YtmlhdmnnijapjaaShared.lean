/- Facts of the program that every row asks. No condition. -/
import Derived.Test.YtmlhdmnnijapjaaRows
import Derived.JoinedOf
import Derived.ChangeOld
import Derived.ChangeAt
namespace Go.Proofs.Ytmlhdmnnijapjaa.V
open Go Go.ChangeShapes Go.WideShapes
set_option maxRecDepth 100000
def initChars : List Char := ['h', 'a', 'r', 'n', 'e', 's', 's', ' ', 'a', '2', 'c', 'c', 'e', 'a', 'e', '8', '0', '9', '0', 'f', 'f', 'c', 'd', '5', 'a', 'b', '2', '6', 'a', '8', '2', '5', '4', '1', 'b', '1', '1', '1', 'b', '5', '1', '6', '5', '1', 'c', 'd', 'd', 'd', '8', '1', 'f', 'c', '4', 'c', '5', '9', '0', 'b', '2', 'a', '0', '2', '9', '6', 'b', '6', '1', '5', 'e', 'a', 'b', '5', ' ', 'c', 'u', 't', ' ', 'a', 't', ' ', 'g', 'n', 'e', 'i', 's', 's', '/', 'g', 'n', 'e', 'i', 's', 's', 'l', 'a', 'w', '2', '.', 'W', 'i', 'r', 'e', 'S', 'h', 'o', 'r', 't', ' ', 'g', 'n', 'e', 'i', 's', 's', '/', 'g', 'n', 'e', 'i', 's', 's', 'l', 'a', 'w', '2', '.', 'W', 'i', 'r', 'e', 'B', 'a', 'c', 'k', ' ', 'g', 'n', 'e', 'i', 's', 's', '/', 'g', 'n', 'e', 'i', 's', 's', 'l', 'a', 'w', '1', '1', '.', 'M', 'a', 'r', 'k', 'A', 'c', 't', 's', ' ', 'g', 'n', 'e', 'i', 's', 's', '/', 'g', 'n', 'e', 'i', 's', 's', 'l', 'a', 'w', '1', '1', '.', 'M', 'a', 'r', 'k', 'R', 'o', 'w', 's', ' ', 'g', 'n', 'e', 'i', 's', 's', '/', 'g', 'n', 'e', 'i', 's', 's', 'l', 'a', 'w', '1', '4', '.', 'C', 'l', 'a', 's', 's', 'R', 'e', 'a', 'd', 's', ' ', 'g', 'n', 'e', 'i', 's', 's', '/', 'g', 'n', 'e', 'i', 's', 's', 'l', 'a', 'w', '1', '4', '.', 'C', 'l', 'a', 's', 's', 'W', 'r', 'i', 't', 'e', 's', ' ', 'g', 'n', 'e', 'i', 's', 's', '/', 'g', 'n', 'e', 'i', 's', 's', 'l', 'a', 'w', '1', '4', '.', 'C', 'l', 'a', 's', 's', 'B', 'a', 'c', 'k', ' ', 'g', 'n', 'e', 'i', 's', 's', '/', 'g', 'n', 'e', 'i', 's', 's', 'l', 'a', 'w', '1', '4', '.', 'C', 'l', 'a', 's', 's', 'C', 'u', 't', 's', ' ', 'g', 'n', 'e', 'i', 's', 's', '/', 'g', 'n', 'e', 'i', 's', 's', 'l', 'a', 'w', '1', '4', '.', 'C', 'l', 'a', 's', 's', 'C', 'o', 'u', 'n', 't', 's', ' ', 'g', 'n', 'e', 'i', 's', 's', '/', 'g', 'n', 'e', 'i', 's', 's', 'l', 'a', 'w', '1', '4', '.', 'C', 'l', 'a', 's', 's', 'N', 'a', 'm', 'e', 's', ' ', 'g', 'n', 'e', 'i', 's', 's', '/', 'g', 'n', 'e', 'i', 's', 's', 'l', 'a', 'w', '1', '4', '.', 'C', 'l', 'a', 's', 's', 'N', 'u', 'm', 'b', 'e', 'r', 's', ' ', 'g', 'n', 'e', 'i', 's', 's', '/', 'g', 'n', 'e', 'i', 's', 's', 'l', 'a', 'w', '1', '4', '.', 'C', 'l', 'a', 's', 's', 'T', 'a', 'i', 'l', 's']
theorem init_text : Try.pinned.checked.prog.initOrder = String.ofList initChars := by kernel_rfl
theorem init_chars : Try.pinned.checked.prog.initOrder.toList = initChars := by rw [init_text, String.toList_ofList]
def initWords : List (List Char) := [['c', 'u', 't'], ['a', 't'], ['g', 'n', 'e', 'i', 's', 's', '/', 'g', 'n', 'e', 'i', 's', 's', 'l', 'a', 'w', '2', '.', 'W', 'i', 'r', 'e', 'S', 'h', 'o', 'r', 't'], ['g', 'n', 'e', 'i', 's', 's', '/', 'g', 'n', 'e', 'i', 's', 's', 'l', 'a', 'w', '2', '.', 'W', 'i', 'r', 'e', 'B', 'a', 'c', 'k'], ['g', 'n', 'e', 'i', 's', 's', '/', 'g', 'n', 'e', 'i', 's', 's', 'l', 'a', 'w', '1', '1', '.', 'M', 'a', 'r', 'k', 'A', 'c', 't', 's'], ['g', 'n', 'e', 'i', 's', 's', '/', 'g', 'n', 'e', 'i', 's', 's', 'l', 'a', 'w', '1', '1', '.', 'M', 'a', 'r', 'k', 'R', 'o', 'w', 's'], ['g', 'n', 'e', 'i', 's', 's', '/', 'g', 'n', 'e', 'i', 's', 's', 'l', 'a', 'w', '1', '4', '.', 'C', 'l', 'a', 's', 's', 'R', 'e', 'a', 'd', 's'], ['g', 'n', 'e', 'i', 's', 's', '/', 'g', 'n', 'e', 'i', 's', 's', 'l', 'a', 'w', '1', '4', '.', 'C', 'l', 'a', 's', 's', 'W', 'r', 'i', 't', 'e', 's'], ['g', 'n', 'e', 'i', 's', 's', '/', 'g', 'n', 'e', 'i', 's', 's', 'l', 'a', 'w', '1', '4', '.', 'C', 'l', 'a', 's', 's', 'B', 'a', 'c', 'k'], ['g', 'n', 'e', 'i', 's', 's', '/', 'g', 'n', 'e', 'i', 's', 's', 'l', 'a', 'w', '1', '4', '.', 'C', 'l', 'a', 's', 's', 'C', 'u', 't', 's'], ['g', 'n', 'e', 'i', 's', 's', '/', 'g', 'n', 'e', 'i', 's', 's', 'l', 'a', 'w', '1', '4', '.', 'C', 'l', 'a', 's', 's', 'C', 'o', 'u', 'n', 't', 's'], ['g', 'n', 'e', 'i', 's', 's', '/', 'g', 'n', 'e', 'i', 's', 's', 'l', 'a', 'w', '1', '4', '.', 'C', 'l', 'a', 's', 's', 'N', 'a', 'm', 'e', 's'], ['g', 'n', 'e', 'i', 's', 's', '/', 'g', 'n', 'e', 'i', 's', 's', 'l', 'a', 'w', '1', '4', '.', 'C', 'l', 'a', 's', 's', 'N', 'u', 'm', 'b', 'e', 'r', 's'], ['g', 'n', 'e', 'i', 's', 's', '/', 'g', 'n', 'e', 'i', 's', 's', 'l', 'a', 'w', '1', '4', '.', 'C', 'l', 'a', 's', 's', 'T', 'a', 'i', 'l', 's']]
theorem init_words : behindMainWord (wordsSigns initChars) = initWords := by kernel_rfl
theorem init_cut : behindMainWord (wordsSigns Try.pinned.checked.prog.initOrder.toList) = "cut".toList :: initWords.tail := by
  rw [init_chars, init_words]
  kernel_rfl
theorem make_of (P : Program) (w : List (List Char)) (h : behindMainWord (wordsSigns P.initOrder.toList) = "cut".toList :: w) : P.make = some .cut := by
  unfold Program.make
  rw [h]
  simp
theorem may_of (P : Program) (w : List (List Char)) (h : behindMainWord (wordsSigns P.initOrder.toList) = "cut".toList :: w) (h1 : P.laysLater = false) (h2 : P.bearsReflect = false) (h3 : P.doorFits [] = true) : P.mayEnter = true := by
  have hs : stripLifts liftWords ("cut".toList :: w) = ([], "cut".toList :: w) := by
    simp [liftWords, stripLifts]
  unfold Program.mayEnter
  rw [h]
  simp only [hs, h1, h2, h3]
  simp
theorem lays_later : Try.pinned.checked.prog.laysLater = false := by kernel_rfl
theorem bears_reflect : Try.pinned.checked.prog.bearsReflect = false := by kernel_rfl
theorem door_fits : Try.pinned.checked.prog.doorFits [] = true := by kernel_rfl
theorem may_enter : Try.pinned.checked.prog.mayEnter = true := may_of _ _ init_cut lays_later bears_reflect door_fits
theorem head_lifts : Try.pinned.checked.prog.headLifts = [] := by
  unfold Program.headLifts
  rw [init_chars, init_words]
  kernel_rfl
theorem lifts_final : Try.pinned.checked.prog.liftsFinal = false := by
  unfold Program.liftsFinal
  rw [init_chars, init_words, head_lifts]
  kernel_rfl
theorem make_cut : Try.pinned.checked.prog.make = some .cut := make_of _ _ init_cut
theorem laid_out : laidOutB Try.pinned.checked.prog = true := by kernel_rfl
theorem maps_rowed : mapsRowed Try.pinned.checked.prog = true := by kernel_rfl
theorem stops_none : (Try.pinned.checked.prog.stops == []) = true := by kernel_rfl
theorem knobs_none : (Try.pinned.checked.prog.stopKnobs == []) = true := by kernel_rfl
theorem plain_keys : Try.pinned.checked.prog.plainKeys = true := by kernel_rfl
theorem stops_heard : Try.pinned.checked.prog.stopsHeard = true := by kernel_rfl
theorem and_mk {a b : Bool} (h : a = true) (h2 : b = true) : (a && b) = true := by rw [h, h2]; rfl
end Go.Proofs.Ytmlhdmnnijapjaa.V

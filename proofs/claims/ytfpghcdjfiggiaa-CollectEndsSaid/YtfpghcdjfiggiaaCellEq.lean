/- Cells told are compared. No condition. -/
import Derived.Test.YtfpghcdjfiggiaaBase
import Derived.Laws.StructEq
namespace Go.Proofs.Ytfpghcdjfiggiaa.V
open Go Go.RowKit

theorem cellEq_run (w : World) (a b c d e f : Int) : Sem.run Try.prog (Op.equal 133 (.agg #[.int .i64 a, .int .i64 b, .int .i64 c]) (.agg #[.int .i64 d, .int .i64 e, .int .i64 f])) w = .ok ((a == d) && ((b == e) && (c == f))) w := by
  have hu : Try.prog.underlying 133 = some (.struct (Try.prog.fieldsOf 133)) := by kernel_rfl
  have h1 := run_equalIn_struct (P := Try.prog) w 9999 133 #[.int .i64 a, .int .i64 b, .int .i64 c] #[.int .i64 d, .int .i64 e, .int .i64 f] hu (by kernel_rfl)
  refine h1.trans ?_
  have hf : (Try.prog.fieldsOf 133).toList = [{ name := "Kind", type := 3, offset := 0, embedded := false, tag := "", pkgPath := "", byteOffset := 0 }, { name := "Class", type := 3, offset := 1, embedded := false, tag := "", pkgPath := "", byteOffset := 8 },
      { name := "Size", type := 3, offset := 2, embedded := false, tag := "", pkgPath := "", byteOffset := 16 }] := by kernel_rfl
  have ag : ∀ w : World, Sem.run Try.prog (isAgg 3) w = .ok false w := Try.isAgg3
  have pt : ∀ (cs : Array Value) (k : Nat) (v : Value), cs[k]? = some v → Sem.run Try.prog (part 3 cs k) w = .ok v w := fun cs k v hv => by
    unfold part
    rw [Sem.run_bind, ag]
    simp [hv]
  have p0 : ∀ a b c : Int, Sem.run Try.prog (part 3 #[.int .i64 a, .int .i64 b, .int .i64 c] 0) w = .ok (.int .i64 a) w := fun a b c => pt _ 0 _ (by simp)
  have p1 : ∀ a b c : Int, Sem.run Try.prog (part 3 #[.int .i64 a, .int .i64 b, .int .i64 c] 1) w = .ok (.int .i64 b) w := fun a b c => pt _ 1 _ (by simp)
  have p2 : ∀ a b c : Int, Sem.run Try.prog (part 3 #[.int .i64 a, .int .i64 b, .int .i64 c] 2) w = .ok (.int .i64 c) w := fun a b c => pt _ 2 _ (by simp)
  rw [hf]
  have eq3 : ∀ p q : Int, Sem.run Try.prog (Op.equalIn 9999 3 (.int .i64 p) (.int .i64 q)) w = .ok (p == q) w := fun p q => run_equalIn_int w 9998 3 .i64 .i64 p q (by kernel_rfl)
  simp only [Op.eqFields]
  have n0 : ("Kind" : String) ≠ "_" := by decide
  have n1 : ("Class" : String) ≠ "_" := by decide
  have n2 : ("Size" : String) ≠ "_" := by decide
  rw [if_pos n0, if_pos n1, if_pos n2]
  simp only [Sem.run_bind, p0, p1, p2, eq3, Result.andThen_ok]
  by_cases h1 : a = d <;> by_cases h2 : b = e <;> by_cases h3 : c = f <;> simp [h1, h2, h3, p1, p2, eq3]

theorem cellEq_c {w : World} (x y : Operand) (a b c d e f : Int) {K : Bool → Prop} (h : K ((a == d) && ((b == e) && (c == f)))) :
    Sem.run Try.prog (eqGuard .eql 133 x y (.agg #[.int .i64 a, .int .i64 b, .int .i64 c]) (.agg #[.int .i64 d, .int .i64 e, .int .i64 f])) w = .ok () w ∧
    ∃ r : Bool, Sem.run Try.prog (Op.equal 133 (.agg #[.int .i64 a, .int .i64 b, .int .i64 c]) (.agg #[.int .i64 d, .int .i64 e, .int .i64 f])) w = .ok r w ∧ K r :=
  ⟨run_eqGuard_agg w .eql 133 x y _ _ (by kernel_rfl), _, cellEq_run w a b c d e f, h⟩
end Go.Proofs.Ytfpghcdjfiggiaa.V

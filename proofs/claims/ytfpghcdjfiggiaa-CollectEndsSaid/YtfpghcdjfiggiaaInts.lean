/- Slices of ints and bools of this program. No condition. -/
import Derived.Test.YtfpghcdjfiggiaaSl
import Derived.Test.YtfpghcdjfiggiaaBase
namespace Go.Proofs.Ytfpghcdjfiggiaa.V
open Go Go.RowKit

section
variable {w w1 : World} {a : Option Addr} {c b : Nat}

/-- One int is appended. -/
theorem app_int {xs : List Int} (h : SI w a c xs) {n : Int} (n1 : NewAt w w1 b #[.int .i64 n] 3) (h63 : xs.length + 1 ≤ 1048576) {K : Option Addr → Nat → Nat → World → Prop}
    (hK : ∀ a' c' w', SI w' a' c' (xs ++ [n]) → Fr (ablk a) w w' → Grw (ablk a) (ablk a') w.heap.size → K a' (xs.length + 1) c' w') :
    RunF Try.prog (Builtin.append_ #[42, 42] 42 #[.slice a xs.length c, .slice (some ⟨b, 0, none⟩) 1 1]) w1 [.leaf .slice] K := by
  obtain ⟨rfl, rfl⟩ := n1
  exact append_int (P := Try.prog) (t := 42) (e := 3) (i := Try.t3) (by kernel_rfl) (by kernel_rfl) rfl rfl h n 3 h63 (by decide) 42 hK

/-- One int is appended to a slice that is the call's own, from block B on. -/
theorem app_own {w0 : World} {xs : List Int} (h : SI w a c xs) (hB : ∀ b ∈ ablk a, w0.heap.size ≤ b) (f : Fr [] w0 w) {n : Int} (n1 : NewAt w w1 b #[.int .i64 n] 3) (h63 : xs.length + 1 ≤ 1048576) {K : Option Addr → Nat → Nat → World → Prop}
    (hK : ∀ a' c' w', SI w' a' c' (xs ++ [n]) → Fr [] w0 w' → Fr (ablk a) w w' → (∀ b ∈ ablk a', w0.heap.size ≤ b) → Grw (ablk a) (ablk a') w.heap.size → K a' (xs.length + 1) c' w') :
    RunF Try.prog (Builtin.append_ #[42, 42] 42 #[.slice a xs.length c, .slice (some ⟨b, 0, none⟩) 1 1]) w1 [.leaf .slice] K :=
  app_int h n1 h63 fun a' c' w' g1 g2 g3 => hK a' c' w' g1 (f.trans g2 (fun k hk => .inr (hB k hk))) g2 (g3.up hB f.size) g3

theorem mk_int {n : Int} (h0 : 0 ≤ n) (h1 : n ≤ 131072) {K : Option Addr → Nat → Nat → World → Prop}
    (hK : ∀ b w', SI w' (some ⟨b, 0, none⟩) n.toNat (List.replicate n.toNat 0) → (∀ S, Fr S w w') → w.heap.size ≤ b → K (some ⟨b, 0, none⟩) n.toNat n.toNat w') :
    RunF Try.prog (Instr.makeSlice 42 (.int .i64 n) (.int .i64 n)) w [.leaf .slice] K :=
  make_int 42 3 Try.t3 (by kernel_rfl) (by kernel_rfl) rfl rfl (by decide) h0 h1 K hK

theorem mk_bool {n : Int} (h0 : 0 ≤ n) (h1 : n ≤ 131072) {K : Option Addr → Nat → Nat → World → Prop}
    (hK : ∀ b w', SB w' (some ⟨b, 0, none⟩) n.toNat (List.replicate n.toNat false) → (∀ S, Fr S w w') → w.heap.size ≤ b → K (some ⟨b, 0, none⟩) n.toNat n.toNat w') :
    RunF Try.prog (Instr.makeSlice 29 (.int .i64 n) (.int .i64 n)) w [.leaf .slice] K :=
  make_bool 29 4 Try.t4 (by kernel_rfl) (by kernel_rfl) rfl rfl (by decide) h0 h1 K hK

theorem SI.pre {l : List Int} {f : Int} (h : SI w a c (l ++ [f])) : SI w a c l := by
  obtain ⟨g1, g2⟩ := SI.cut h (lo := 0) (hi := l.length) (by omega) (by simp)
  have e : ∀ c : Nat, Adv a c 0 1 = a := by
    intro c
    unfold Adv
    split
    · rfl
    · cases a with
      | none => rfl
      | some p => cases p; simp [Addr.add]
  rw [e] at g1
  simpa using g1
end

end Go.Proofs.Ytfpghcdjfiggiaa.V

/- Whose a block is: pieces with other tags lie apart. No condition. -/
import Derived.Test.YtfpghcdjfiggiaaSl
namespace Go.Proofs.Ytfpghcdjfiggiaa.V
open Go Go.RowKit

/-- All blocks of F are of tag k. -/
def Tag (own : Nat → Nat) (F : List Nat) (k : Nat) : Prop := ∀ b ∈ F, own b = k
/-- Blocks from n on are of tag k. -/
def ext (own : Nat → Nat) (n k : Nat) : Nat → Nat := fun b => if b < n then own b else k

theorem Tag.apart {own : Nat → Nat} {F G : List Nat} {i j : Nat} (h : Tag own F i) (h' : Tag own G j) (hn : i ≠ j) : Apart F G := fun b hb hb2 => hn ((h b hb).symm.trans (h' b hb2))
theorem Tag.keep {own : Nat → Nat} {F : List Nat} {i n : Nat} (h : Tag own F i) (hl : Low F n) (k : Nat) : Tag (ext own n k) F i := fun b hb => by
  unfold ext; rw [if_pos (hl b hb)]; exact h b hb
theorem Tag.grow {own : Nat → Nat} {F F' : List Nat} {i n : Nat} (h : Tag own F i) (hl : Low F n) (g : Grw F F' n) : Tag (ext own n i) F' i := fun b hb => by
  unfold ext
  rcases g b hb with q | q
  · rw [if_pos (hl b q)]; exact h b q
  · rw [if_neg (by omega)]
theorem Tag.sub {own : Nat → Nat} {F F' : List Nat} {i : Nat} (h : Tag own F i) (g : ∀ b ∈ F', b ∈ F) : Tag own F' i := fun b hb => h b (g b hb)
theorem Tag.one {own : Nat → Nat} {b i : Nat} (h : Tag own [b] i) : own b = i := h b (by simp)
theorem Tag.fresh (own : Nat → Nat) {F : List Nat} {n k : Nat} (h : ∀ b ∈ F, n ≤ b) : Tag (ext own n k) F k := fun b hb => by
  unfold ext; have := h b hb; rw [if_neg (by omega)]

/-- A slice of ints is appended. -/
theorem SI.appends {P : Program} {t e : TypeId} {i : TypeInfo} (ht : P.underlying t = some (.slice e)) (hi : P.info? e = some i) (hz : i.zero = some (.int .i64 0)) (hs : i.size = 1) {w : World} {a b : Option Addr} {c d : Nat} {xs ys : List Int} (h : SI w a c xs) (h2 : SI w b d ys)
    (h63 : xs.length + ys.length ≤ 1048576) (hby : i.bytes ≤ 1048576) (ty : TypeId) {K : Option Addr → Nat → Nat → World → Prop}
    (hK : ∀ a' c' w', SI w' a' c' (xs ++ ys) → Fr (ablk a) w w' → Grw (ablk a) (ablk a') w.heap.size → K a' (xs.length + ys.length) c' w') :
    RunF P (Builtin.append_ #[t, t] ty #[.slice a xs.length c, .slice b ys.length d]) w [.leaf .slice] K := by
  rcases Nat.eq_zero_or_pos ys.length with h0 | h0
  · have e0 : ys = [] := List.eq_nil_of_length_eq_zero h0
    subst e0
    have fin : K a xs.length c w := hK a c w (by simpa using h) (Fr.refl _ _) (fun _ hb => .inl hb)
    refine ⟨[.slice a xs.length c], w, ?_, fin⟩
    obtain ⟨g1, g2, g3, ⟨rfl, rfl⟩ | ⟨b1, off, cs, rfl, hb, g5, g6⟩⟩ := id h
    · have : xs.length = 0 := by omega
      rw [this]
      cases b <;> simp [Builtin.append_, run_underlying ht, sizeOf, typeInfo, hi, Builtin.lenOf, Builtin.firstCells, loadCells, loadCellsFrom, packs, Sh.take, one]
    · cases b <;> simp [Builtin.append_, run_underlying ht, sizeOf, typeInfo, hi, Builtin.lenOf, Builtin.firstCells, g2, storeCells, loadCells, loadCellsFrom, packs, Sh.take, one]
  · obtain ⟨g1, g2, g3, ⟨rfl, rfl⟩ | ⟨b1, off, cs, rfl, hb, g5, g6⟩⟩ := id h2
    · omega
    · refine append_c (m := ys.length) (news := ys.map vi) ht hi hz hs rfl (by omega) h h0 (by simp) (cells_blk hb (by rw [Nat.mul_one] at g6; exact g6)) (by simp [isCell]) h63 hby ty (fun a' c' w' q1 q2 q3 => hK a' c' w' ?_ q2 q3)
      unfold SI
      simpa using q1
end Go.Proofs.Ytfpghcdjfiggiaa.V

/- Programs compared: class by class. No condition. -/
import Derived.Test.YtmlhdmnnijapjaaClassS
namespace Go.Proofs.Ytmlhdmnnijapjaa.V
open Go Go.RowKit

/-- What is known between the loads: all is as it was but for new blocks, of these cells. -/
structure Bag (w0 : World) (bs : List (Nat × List Value)) (w : World) : Prop where
  fr : Fr [] w0 w
  hd : ∀ p ∈ bs, Blk w p.1 p.2 ∧ w0.heap.size ≤ p.1
  nd : (bs.map (·.1)).Nodup

theorem Bag.new {w0 w : World} {bs : List (Nat × List Value)} (h : Bag w0 bs w) {c : Array Value} {T : TypeId} {F : Nat → World → Prop} (hF : ∀ b w', Bag w0 ((b, c.toList) :: bs) w' → F b w') : ∀ (b : Nat) (w' : World), NewAt w w' b c T → F b w' := by
  intro b w' n
  refine hF b w' ⟨h.fr.more (n.fr _), ?_, ?_⟩
  · intro p hp
    rcases List.mem_cons.1 hp with rfl | hp
    · exact ⟨n.blk, Nat.le_trans h.fr.size n.ge⟩
    · exact ⟨(h.hd p hp).1.fr (n.fr []) (by simp), (h.hd p hp).2⟩
  · rw [List.map_cons, List.nodup_cons]
    refine ⟨fun hb => ?_, h.nd⟩
    obtain ⟨p, hp, e⟩ := List.mem_map.1 hb
    have := (h.hd p hp).1.lt
    have := n.ge
    omega

theorem Bag.set0 {w0 w : World} {bs : List (Nat × List Value)} {b : Nat} {r vs : List Value} {k : Nat} (h : Bag w0 ((b, r) :: bs) w) (hk : k = r.length) (hl : vs.length = r.length) {F : World → Prop} (hF : ∀ w', Bag w0 ((b, vs) :: bs) w' → F w') :
    MayL w ⟨b, 0, none⟩ k ∧ ∀ w' : World, SetL w w' ⟨b, 0, none⟩ vs → F w' := by
  have B := (h.hd (b, r) (by simp)).1
  have nd := h.nd
  rw [List.map_cons, List.nodup_cons] at nd
  refine ⟨B.mayL (by simp [hk]), fun w' s => ?_⟩
  obtain ⟨B', f⟩ : Blk w' b vs ∧ Fr [b] w w' := by
    unfold SetL at s
    subst s
    obtain ⟨g1, g2⟩ := setL_blk vs 0 w r b 0 B (by omega)
    refine ⟨?_, g2⟩
    have : r.drop (0 + 0 + vs.length) = [] := by rw [List.drop_eq_nil_iff]; omega
    rw [this] at g1
    simpa using g1
  refine hF w' ⟨h.fr.trans f (fun k hk => .inr (by simp at hk; subst hk; exact (h.hd (k, r) (by simp)).2)), ?_, ?_⟩
  · intro p hp
    rcases List.mem_cons.1 hp with rfl | hp
    · exact ⟨B', (h.hd (b, r) (by simp)).2⟩
    · have := h.hd p (by simp [hp])
      refine ⟨this.1.fr f (fun he => ?_), this.2⟩
      simp at he
      exact nd.1 (List.mem_map.2 ⟨p, hp, he⟩)
  · rw [List.map_cons, List.nodup_cons]; exact nd

theorem Bag.swap {w0 w : World} {bs : List (Nat × List Value)} {p q : Nat × List Value} (h : Bag w0 (p :: q :: bs) w) : Bag w0 (q :: p :: bs) w := by
  refine ⟨h.fr, fun r hr => h.hd r (by simp only [List.mem_cons] at hr ⊢; rcases hr with h | h | h <;> simp [h]), ?_⟩
  have := h.nd
  simp only [List.map_cons, List.nodup_cons, List.mem_cons, not_or] at this ⊢
  exact ⟨⟨fun e => this.1.1 e.symm, this.2.1⟩, this.1.2, this.2.2⟩

theorem Bag.set1 {w0 w : World} {bs : List (Nat × List Value)} {b : Nat} {r vs : List Value} {k : Nat} {q : Nat × List Value} (h : Bag w0 (q :: (b, r) :: bs) w) (hk : k = r.length) (hl : vs.length = r.length) {F : World → Prop} (hF : ∀ w', Bag w0 (q :: (b, vs) :: bs) w' → F w') :
    MayL w ⟨b, 0, none⟩ k ∧ ∀ w' : World, SetL w w' ⟨b, 0, none⟩ vs → F w' :=
  h.swap.set0 hk hl fun w' h' => hF w' h'.swap

theorem Bag.cell {w0 w : World} {bs : List (Nat × List Value)} (h : Bag w0 bs w) {p : Addr} {v : Value} (hc : w0.cell? p = some v) : w.cell? p = some v := (SameU.of_fr h.fr (by simp) : SameU Al w0 w).cell trivial hc
theorem Bag.cells {w0 w : World} {bs : List (Nat × List Value)} (h : Bag w0 bs w) {p : Addr} {vs : List Value} (hc : CellsAt w0 p vs) : CellsAt w p vs := fun i v hv => h.cell (hc i v hv)

/-- Two of them lie in new blocks. -/
def Two (w0 : World) (r1 r2 : List Value) (q q' : Option Addr) (w : World) : Prop := ∃ b b', q = some ⟨b, 0, none⟩ ∧ q' = some ⟨b', 0, none⟩ ∧ Blk w b r1 ∧ Blk w b' r2 ∧ Fr [] w0 w
theorem Bag.two {w0 w : World} {r1 r2 : List Value} {b b' : Nat} (h : Bag w0 [(b, r1), (b', r2)] w) : Two w0 r1 r2 (some ⟨b, 0, none⟩) (some ⟨b', 0, none⟩) w :=
  ⟨b, b', rfl, rfl, (h.hd (b, r1) (by simp)).1, (h.hd (b', r2) (by simp)).1, h.fr⟩
theorem Bag.two' {w0 w : World} {r1 r2 : List Value} {b b' : Nat} (h : Bag w0 [(b', r2), (b, r1)] w) : Two w0 r1 r2 (some ⟨b, 0, none⟩) (some ⟨b', 0, none⟩) w :=
  ⟨b, b', rfl, rfl, (h.hd (b, r1) (by simp)).1, (h.hd (b', r2) (by simp)).1, h.fr⟩



end Go.Proofs.Ytmlhdmnnijapjaa.V

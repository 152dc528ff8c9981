/- The heap: a cell is let go. No condition. -/
import Derived.Test.YtfpghcdjfiggiaaHeapN
namespace Go.Proofs.Ytfpghcdjfiggiaa.V
open Go Go.RowKit

section
variable {w w' : World} {F S : List Nat} {hb hm s mb ab wb sb clk clk2 lc : Nat} {last room words : Int} {cs : List HC} {g : SG} {l : List Arr} {ws ss : List Int} {la : Option Addr}

theorem csum_filter (sz : ∀ c ∈ cs, 0 ≤ c.n) (p : HC → Bool) : csum (cs.filter p) ≤ csum cs := by
  induction cs with
  | nil => simp [csum]
  | cons c cs ih =>
    have := ih (fun x hx => sz x (by simp [hx]))
    have := sz c (by simp)
    rw [List.filter_cons]
    split <;> simp [csum] <;> omega

/-- Both rows lose the same. -/
theorem rel_drop2 : ∀ {cs : List HC} {l : List Arr} {c : HC} {x : Arr}, cs.map (fun c => (c.id, c.n)) = l.map (fun x => (x.id, x.n)) → (cs.map (·.ref)).Nodup → (l.map (·.id)).Nodup → c ∈ cs → x.id = c.id →
    (cs.filter fun y => !(c.ref == y.ref)).map (fun c => (c.id, c.n)) = (l.filter fun y => !(x.id == y.id)).map (fun x => (x.id, x.n))
  | [], l, c, x, _, _, _, h, _ => by simp at h
  | _ :: _, [], _, _, h, _, _, _, _ => by simp at h
  | d :: cs, y :: l, c, x, hr, n1, n2, hc, e => by
    simp only [List.map_cons, List.cons.injEq, Prod.mk.injEq] at hr
    rw [List.map_cons, List.nodup_cons] at n1 n2
    have ids : cs.map (·.id) = l.map (·.id) := by
      have := congrArg (List.map Prod.fst) hr.2
      rw [List.map_map, List.map_map] at this
      exact this
    rw [List.filter_cons, List.filter_cons]
    rcases List.mem_cons.1 hc with rfl | hc'
    · have h1 : (!(c.ref == c.ref)) = false := by simp
      have h2 : (!(x.id == y.id)) = false := by simp; omega
      rw [h1, h2, if_neg (by simp), if_neg (by simp)]
      have f1 : cs.filter (fun z => !(c.ref == z.ref)) = cs := by
        rw [List.filter_eq_self]
        intro z hz
        have : c.ref ≠ z.ref := fun e => n1.1 (List.mem_map.2 ⟨z, hz, e.symm⟩)
        simp [this]
      have f2 : l.filter (fun z => !(x.id == z.id)) = l := by
        rw [List.filter_eq_self]
        intro z hz
        have : x.id ≠ z.id := fun e2 => n2.1 (List.mem_map.2 ⟨z, hz, by rw [← e2]; omega⟩)
        simp [this]
      rw [f1, f2]; exact hr.2
    · have h1 : c.ref ≠ d.ref := fun e => n1.1 (List.mem_map.2 ⟨c, hc', e⟩)
      have h2 : x.id ≠ y.id := fun e2 => by
        have : y.id ∈ l.map (·.id) := by rw [← ids]; exact List.mem_map.2 ⟨c, hc', by omega⟩
        exact n2.1 this
      have ih := rel_drop2 hr.2 n1.2 n2.2 hc' e
      simp only [h1, h2, beq_iff_eq, Bool.not_eq_true', beq_eq_false_iff_ne, ne_eq, not_false_eq_true, if_true, List.map_cons, hr.1.1, hr.1.2, ih]
end
end Go.Proofs.Ytfpghcdjfiggiaa.V

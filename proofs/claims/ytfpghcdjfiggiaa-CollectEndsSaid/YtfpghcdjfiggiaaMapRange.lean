/- A range over a map with int keys. No condition. -/
import Derived.Test.YtfpghcdjfiggiaaMap
import Derived.Maps.RangeRun
namespace Go.Proofs.Ytfpghcdjfiggiaa.V
open Go Go.RowKit

theorem perm_of_mem {α : Type} : ∀ {l m : List α}, l.Nodup → m.Nodup → (∀ x, x ∈ l ↔ x ∈ m) → l.Perm m
  | [], m, _, _, h => by
    cases m with
    | nil => exact .refl _
    | cons x m => exact absurd ((h x).2 (by simp)) (by simp)
  | x :: l, m, hl, hm, h => by
    obtain ⟨s, t, rfl⟩ := List.append_of_mem ((h x).1 (by simp))
    rw [List.nodup_cons] at hl
    have hm' : (x :: (s ++ t)).Nodup := (List.perm_middle.nodup_iff).1 hm
    rw [List.nodup_cons] at hm'
    refine (List.Perm.cons x (perm_of_mem hl.2 hm'.2 fun y => ?_)).trans List.perm_middle.symm
    constructor
    · intro hy
      have := (h y).1 (List.mem_cons_of_mem _ hy)
      rcases List.mem_append.1 this with h1 | h1
      · exact List.mem_append.2 (.inl h1)
      · rcases List.mem_cons.1 h1 with e | h1
        · subst e; exact absurd hy hl.1
        · exact List.mem_append.2 (.inr h1)
    · intro hy
      have : y ∈ x :: l := (h y).2 (by rcases List.mem_append.1 hy with h1 | h1 <;> simp [h1])
      rcases List.mem_cons.1 this with e | h1
      · subst e; exact absurd hy hm'.1
      · exact h1

theorem nodup_of_map {α β : Type} (f : α → β) : ∀ {l : List α}, (l.map f).Nodup → l.Nodup
  | [], _ => List.nodup_nil
  | x :: l, h => by
    rw [List.map_cons, List.nodup_cons] at h
    rw [List.nodup_cons]
    exact ⟨fun hx => h.1 (List.mem_map.2 ⟨x, hx, rfl⟩), nodup_of_map f h.2⟩

theorem map_inj_of_nodup {α β : Type} (f : α → β) : ∀ {l : List α}, (l.map f).Nodup → ∀ {x y : α}, x ∈ l → y ∈ l → f x = f y → x = y
  | [], _, _, _, hx, _, _ => by simp at hx
  | z :: l, h, x, y, hx, hy, e => by
    rw [List.map_cons, List.nodup_cons] at h
    rcases List.mem_cons.1 hx with e1 | h1
    · rcases List.mem_cons.1 hy with e2 | h2
      · rw [e1, e2]
      · subst e1; exact absurd (List.mem_map.2 ⟨y, h2, e.symm⟩) h.1
    · rcases List.mem_cons.1 hy with e2 | h2
      · subst e2; exact absurd (List.mem_map.2 ⟨x, h1, e⟩) h.1
      · exact map_inj_of_nodup f h.2 h1 h2 e

/-- A range over block b's map is under way: 'done' have come. -/
structure RangeAt (w : World) (r b : Nat) (m : List Ent) (clk : Nat) (done : List Ent) : Prop where
  mi : MI w b m clk
  it : w.heap[r]? = some (.mapIter (some b) clk (done.map (·.2.2)).toArray clk)
  sub : ∀ e ∈ done, e ∈ m
  nd : (done.map (·.2.2)).Nodup

section
variable {P : Program} {w w' : World} {r b : Nat} {m done : List Ent} {clk : Nat} {S : List Nat}

theorem RangeAt.ne (h : RangeAt w r b m clk done) : r ≠ b := by
  intro e
  have h1 := h.it
  rw [e, h.mi.heap] at h1
  cases h1

theorem RangeAt.lt (h : RangeAt w r b m clk done) : r < w.heap.size := heap_lt h.it

theorem RangeAt.fr (h : RangeAt w r b m clk done) (f : Fr S w w') (h1 : b ∉ S) (h2 : r ∉ S) : RangeAt w' r b m clk done :=
  ⟨h.mi.fr f h1, by rw [f.same r h.lt h2, h.it], h.sub, h.nd⟩

theorem range_c {t kt et : TypeId} (h : MI w b m clk) (ht : P.underlying t = some (.map kt et)) {K : Value → World → Prop}
    (hK : ∀ w', RangeAt w' w.heap.size b m clk [] → (∀ S, Fr S w w') → w'.heap.size = w.heap.size + 1 → K (.pointer (some ⟨w.heap.size, 0, none⟩)) w') :
    RunF P (Instr.range t (.map (some b))) w [.leaf .any] K := by
  have hr := run_range_map (P := P) w t kt et b _ clk ht h.heap
  refine ⟨[.pointer (some ⟨w.heap.size, 0, none⟩)], _, hr, hK _ ⟨h.fr (Fr.alloc [] w _) (by simp), (MapKept.heap_alloc w _).1, by simp, by simp⟩ (fun S => Fr.alloc S w _) (by simp)⟩

theorem RangeAt.next (h : RangeAt w r b m clk done) (ty : TypeId) :
    (done.Perm m ∧ (Instr.next (.pointer (some ⟨r, 0, none⟩)) false ty).run P w = .ok (.tuple (List.toArray (.bool false :: []))) w) ∨
    ∃ e ∈ m, e ∉ done ∧ ∃ w', (Instr.next (.pointer (some ⟨r, 0, none⟩)) false ty).run P w = .ok (.tuple (List.toArray (.bool true :: [.int .i64 e.1, e.2.1]))) w' ∧
      RangeAt w' r b m clk (done ++ [e]) ∧ Fr [r] w w' ∧ w'.heap.size = w.heap.size ∧ (Instr.entry (.pointer (some ⟨r, 0, none⟩))).run P w' = .ok (.tuple #[.int .i64 e.1, e.2.1]) w' := by
  have hold : ∀ x ∈ (m.map toEnt).toArray.toList, x.born < clk := by
    intro x hx
    rw [List.mem_map] at hx
    obtain ⟨e, he, rfl⟩ := hx
    exact h.mi.lt e he
  rcases run_next_at (P := P) w ty r b clk clk _ _ clk h.it h.mi.heap hold (Nat.le_refl _) with ⟨h0, hrun⟩ | ⟨x, hx, w1, hal, hrun⟩
  · refine .inl ⟨?_, hrun⟩
    have hall : ∀ e ∈ m, e.2.2 ∈ done.map (·.2.2) := by
      intro e he
      have h1 : leftOf (m.map toEnt).toArray (done.map (·.2.2)).toArray = #[] := Array.eq_empty_of_size_eq_zero h0
      unfold leftOf at h1
      rw [Array.filter_eq_empty_iff] at h1
      have := h1 (toEnt e) (by simp; exact ⟨_, _, _, he, rfl⟩)
      simpa [toEnt] using this
    refine perm_of_mem (nodup_of_map _ h.nd) (nodup_of_map _ h.mi.born) fun e => ⟨h.sub e, fun he => ?_⟩
    obtain ⟨e', he', e1⟩ := List.mem_map.1 (hall e he)
    have := map_inj_of_nodup _ h.mi.born (h.sub e' he') he e1
    rw [← this]; exact he'
  · right
    unfold leftOf at hx
    rw [Array.mem_toList_iff, Array.mem_filter] at hx
    obtain ⟨hx1, hx2⟩ := hx
    simp only [List.mem_toArray, List.mem_map] at hx1
    obtain ⟨e, he, rfl⟩ := hx1
    have hno : e.2.2 ∉ done.map (·.2.2) := by simpa [toEnt] using hx2
    have hr1 : w1.heap = w.heap := by rcases hal with rfl | rfl <;> rfl
    have hset := MapKept.heap_set (o' := .mapIter (some b) clk ((done.map (·.2.2)).toArray.push (toEnt e).born) clk) (w := w1) (by rw [hr1]; exact h.it)
    have f1 : Fr [r] w (ChangeMaps.setBlock w1 r (.mapIter (some b) clk ((done.map (·.2.2)).toArray.push (toEnt e).born) clk)) := by
      refine ⟨?_, ?_, ?_, ?_, fun k hk hn => ?_⟩
      · rcases hal with rfl | rfl <;> rfl
      · rcases hal with rfl | rfl <;> rfl
      · rcases hal with rfl | rfl <;> rfl
      · rcases hal with rfl | rfl <;> simp [ChangeMaps.setBlock]
      · simp only [List.mem_singleton] at hn
        exact (hset.2 k hn).trans (by rw [hr1])
    have hR : RangeAt (ChangeMaps.setBlock w1 r (.mapIter (some b) clk ((done.map (·.2.2)).toArray.push (toEnt e).born) clk)) r b m clk (done ++ [e]) := by
      refine ⟨h.mi.fr f1 (by simpa using fun e => h.ne e.symm), ?_, ?_, ?_⟩
      · exact hset.1.trans (by simp [toEnt])
      · intro x hx
        rcases List.mem_append.1 hx with h1 | h1
        · exact h.sub x h1
        · simp at h1; subst h1; exact he
      · rw [List.map_append, List.nodup_append]
        refine ⟨h.nd, by simp, fun a ha c hc e1 => ?_⟩
        simp at hc; subst hc; subst e1; exact hno ha
    refine ⟨e, he, fun hd => hno (List.mem_map.2 ⟨e, hd, rfl⟩), _, hrun, hR, f1, ?_, ?_⟩
    · rcases hal with rfl | rfl <;> simp [ChangeMaps.setBlock]
    · refine run_entry_at (P := P) _ r b clk (done.map (fun (x : Ent) => x.2.2)).toArray _ clk (toEnt e) hset.1 hR.mi.heap (by simp; exact ⟨_, _, _, he, rfl⟩) ?_
      have := hR.mi.born
      simpa [Function.comp_def, toEnt] using this
end

end Go.Proofs.Ytfpghcdjfiggiaa.V

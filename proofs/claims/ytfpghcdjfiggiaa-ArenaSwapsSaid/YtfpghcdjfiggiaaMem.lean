/- Blocks of memory, and what stays as it was. No condition. -/
import Derived.Test.YtfpghcdjfiggiaaVCC
import Derived.Below
import Derived.Laws.MakeOwn
namespace Go.Proofs.Ytfpghcdjfiggiaa.V
open Go Go.RowKit

/-- Block b holds these cells. -/
def Blk (w : World) (b : Nat) (cs : List Value) : Prop := ∃ T, w.heap[b]? = some (.cells cs.toArray T (0, 0))

/-- Block b is a map of these entries. -/
def Mp (w : World) (b : Nat) (es : List MapEntry) (clk : Nat) : Prop := w.heap[b]? = some (.map es.toArray clk)

/-- All but the blocks of S is as it was. -/
structure Fr (S : List Nat) (w w' : World) : Prop where
  os : w'.os = w.os
  tape : w'.tape = w.tape
  output : w'.output = w.output
  size : w.heap.size ≤ w'.heap.size
  same : ∀ k, k < w.heap.size → k ∉ S → w'.heap[k]? = w.heap[k]?

theorem addr_add (b o n : Nat) : Addr.add ⟨b, o, none⟩ n = ⟨b, o + n, none⟩ := by
  unfold Addr.add
  split
  · rename_i h; subst h; rfl
  · rfl

theorem heap_lt {w : World} {b : Nat} {o : Obj} (h : w.heap[b]? = some o) : b < w.heap.size := (Array.getElem?_eq_some_iff.1 h).1

section
variable {w w' w'' : World} {b : Nat} {cs : List Value} {S S' : List Nat}

theorem Blk.lt (h : Blk w b cs) : b < w.heap.size := by obtain ⟨T, h⟩ := h; exact heap_lt h
theorem Mp.lt {es : List MapEntry} {c : Nat} (h : Mp w b es c) : b < w.heap.size := heap_lt h

theorem Blk.cell (h : Blk w b cs) {i : Nat} {v : Value} (hi : cs[i]? = some v) : w.cell? ⟨b, i, none⟩ = some v := by
  obtain ⟨T, h⟩ := h
  simp [World.cell?, h, hi]

theorem Blk.may (h : Blk w b cs) {i : Nat} (hi : i < cs.length) : May w ⟨b, i, none⟩ := by
  refine ⟨⟨cs[i], h.cell (by simp [hi])⟩, ?_⟩
  obtain ⟨T, h⟩ := h
  simp [World.frozen?, h]

theorem Blk.set (h : Blk w b cs) (i : Nat) (v : Value) : Blk (w.setCell ⟨b, i, none⟩ v) b (cs.set i v) := by
  obtain ⟨T, h⟩ := h
  exact ⟨T, by simp [World.setCell, Array.getElem?_modify, h]⟩

theorem Blk.set_ne (h : Blk w b cs) {p : Addr} {v : Value} (hne : p.block ≠ b) : Blk (w.setCell p v) b cs := by
  obtain ⟨T, h⟩ := h
  exact ⟨T, by simp [World.setCell, Array.getElem?_modify, hne, h]⟩

theorem Blk.drew (h : Blk w b cs) : Blk w.drew b cs := h
theorem Blk.alloc (h : Blk w b cs) (o : Obj) : Blk (w.alloc o) b cs := by
  have hl := h.lt
  obtain ⟨T, h⟩ := h
  refine ⟨T, ?_⟩
  simp only [World.alloc, Array.getElem?_push]
  rw [if_neg (by omega), h]
theorem Blk.new (w : World) (cs : Array Value) (T : TypeId) : Blk (w.alloc (.cells cs T)) w.heap.size cs.toList := ⟨T, by unfold World.alloc; simp⟩

theorem Fr.refl (S : List Nat) (w : World) : Fr S w w := ⟨rfl, rfl, rfl, Nat.le_refl _, fun _ _ _ => rfl⟩
theorem Fr.trans (h : Fr S w w') (h' : Fr S' w' w'') (hs : ∀ k ∈ S', k ∈ S ∨ w.heap.size ≤ k) : Fr S w w'' :=
  ⟨h'.os.trans h.os, h'.tape.trans h.tape, h'.output.trans h.output, Nat.le_trans h.size h'.size, fun k hk hn => by
    rw [h'.same k (Nat.lt_of_lt_of_le hk h.size) (fun hm => (hs k hm).elim hn (fun h => by omega)), h.same k hk hn]⟩
theorem Fr.more (h : Fr S w w') (h' : Fr S w' w'') : Fr S w w'' := h.trans h' fun _ hk => .inl hk
theorem Fr.mono (h : Fr S w w') (hs : ∀ k ∈ S, k ∈ S' ∨ w.heap.size ≤ k) : Fr S' w w' := (Fr.refl S' w).trans h hs
theorem Fr.setCell (w : World) {p : Addr} (v : Value) (hp : p.block ∈ S) : Fr S w (w.setCell p v) :=
  ⟨rfl, rfl, rfl, by simp, fun k _ hn => by
    have : p.block ≠ k := fun e => hn (e ▸ hp)
    simp [World.setCell, Array.getElem?_modify, this]⟩
theorem Fr.alloc (S : List Nat) (w : World) (o : Obj) : Fr S w (w.alloc o) :=
  ⟨rfl, rfl, rfl, by simp, fun k hk _ => by
    simp only [World.alloc, Array.getElem?_push]
    rw [if_neg (by omega)]⟩
theorem Fr.drew (S : List Nat) (w : World) : Fr S w w.drew := ⟨rfl, rfl, rfl, Nat.le_refl _, fun _ _ _ => rfl⟩

theorem Blk.fr (h : Blk w b cs) (f : Fr S w w') (hb : b ∉ S) : Blk w' b cs := by
  have hl := h.lt
  obtain ⟨T, h⟩ := h
  exact ⟨T, by rw [f.same b hl hb, h]⟩
theorem Mp.fr {es : List MapEntry} {c : Nat} (h : Mp w b es c) (f : Fr S w w') (hb : b ∉ S) : Mp w' b es c := by
  have hl := h.lt
  unfold Mp at h ⊢
  rw [f.same b hl hb, h]

theorem below_fr {n : Nat} {W : World} (h : Below n W w) (f : Fr S w w') (hn : n ≤ W.heap.size) (hs : ∀ k ∈ S, n ≤ k) : Below n W w' :=
  ⟨f.os.trans h.os, f.tape.trans h.tape, f.output.trans h.output, Nat.le_trans h.size f.size, fun k hk => by
    rw [f.same k (Nat.lt_of_lt_of_le hk (Nat.le_trans hn h.size)) (fun hm => by have := hs k hm; omega), h.block k hk]⟩
end

/-! ### Ints -/
@[reducible] def vi (n : Int) : Value := .int .i64 n

theorem vi_get {l : List Int} {i : Nat} {n : Int} (h : l[i]? = some n) : (l.map vi)[i]? = some (.int .i64 n) := by simp [h]
theorem vi_set (l : List Int) (i : Nat) (n : Int) : (l.map vi).set i (.int .i64 n) = (l.set i n).map vi := by rw [List.map_set]

theorem made_ints (n : Nat) : (madeCells #[.int .i64 0] n).toList = (List.replicate n (0 : Int)).map vi := by
  apply List.ext_getElem?
  intro i
  simp only [madeCells, Array.toList_map, Array.toList_range, List.getElem?_map, List.map_replicate, List.getElem?_replicate]
  by_cases h : i < n
  · simp [h, Nat.mod_one]
  · simp [h]

/-- A slice of ints is made. -/
theorem make_ints {P : Program} (t e : TypeId) (i : TypeInfo) (ht : P.underlying t = some (.slice e)) (hi : P.info? e = some i) (hz : i.zero = some (.int .i64 0)) (hs : i.size = 1) (hb : i.bytes = 8)
    {w : World} {n : Int} (h0 : 0 ≤ n) (h1 : n ≤ 2097152) (K : Option Addr → Nat → Nat → World → Prop)
    (hK : ∀ w', Blk w' w.heap.size ((List.replicate n.toNat (0 : Int)).map vi) → (∀ S, Fr S w w') → w'.heap.size = w.heap.size + 1 → K (some ⟨w.heap.size, 0, none⟩) n.toNat n.toNat w') :
    RunF P (Instr.makeSlice t (.int .i64 n) (.int .i64 n)) w [.leaf .slice] K := by
  have h2 : n.toNat * i.size ≤ 16777216 := by rw [hs]; omega
  have h3 : (i.bytes : Int) * n ≤ 281474976710656 := by rw [hb]; omega
  have hr := run_makeSlice (P := P) (w := w) t e i (.int .i64 0) ht hi hz .i64 .i64 n n h0 (Int.le_refl _) h2 h3 (by omega)
  refine ⟨[.slice (some ⟨w.heap.size, 0, none⟩) n.toNat n.toNat], _, hr, ?_⟩
  refine hK _ ?_ (fun S => Fr.alloc S w _) (by simp)
  have := Blk.new w (madeCells #[.int .i64 0] (n.toNat * i.size)) e
  rw [made_ints, hs, Nat.mul_one] at this
  simpa [Value.cells, hs] using this

theorem fit64 {n : Int} (h1 : -9223372036854775808 ≤ n) (h2 : n ≤ 9223372036854775807) : Fit .i64 n := ⟨h1, h2⟩

end Go.Proofs.Ytfpghcdjfiggiaa.V

/- Blocks of memory, and what stays as it was. No condition. -/
import Derived.Test.YtmlhdmnnijapjaaVCC
import Derived.Below
import Derived.Laws.MakeOwn
namespace Go.Proofs.Ytmlhdmnnijapjaa.V
open Go Go.RowKit

/-- Block b holds these cells. -/
def Blk (w : World) (b : Nat) (cs : List Value) : Prop := ∃ T, w.heap[b]? = some (.cells cs.toArray T (0, 0))

/-- Block b is a map of these entries. -/
def Mp (w : World) (b : Nat) (es : List MapEntry) (clk : Nat) : Prop := w.heap[b]? = some (.map es.toArray clk)

/-- All but the blocks of S is as it was. -/
structure Fr (S : List Nat) (w w' : World) : Prop where
  os : w'.os = w.os
  tape : w'.tape = w.tape
  output : w'.output = w.output
  size : w.heap.size ≤ w'.heap.size
  same : ∀ k, k < w.heap.size → k ∉ S → w'.heap[k]? = w.heap[k]?

theorem addr_add (b o n : Nat) : Addr.add ⟨b, o, none⟩ n = ⟨b, o + n, none⟩ := by
  unfold Addr.add
  split
  · rename_i h; subst h; rfl
  · rfl

theorem heap_lt {w : World} {b : Nat} {o : Obj} (h : w.heap[b]? = some o) : b < w.heap.size := (Array.getElem?_eq_some_iff.1 h).1

section
variable {w w' w'' : World} {b i : Nat} {v : Value} {cs : List Value} {S S' : List Nat}

theorem Blk.lt (h : Blk w b cs) : b < w.heap.size := by obtain ⟨T, h⟩ := h; exact heap_lt h
theorem Mp.lt {es : List MapEntry} {c : Nat} (h : Mp w b es c) : b < w.heap.size := heap_lt h

theorem Blk.cell (h : Blk w b cs) {i : Nat} {v : Value} (hi : cs[i]? = some v) : w.cell? ⟨b, i, none⟩ = some v := by
  obtain ⟨T, h⟩ := h
  simp [World.cell?, h, hi]

theorem Blk.may (h : Blk w b cs) {i : Nat} (hi : i < cs.length) : May w ⟨b, i, none⟩ := by
  refine ⟨⟨cs[i], h.cell (by simp [hi])⟩, ?_⟩
  obtain ⟨T, h⟩ := h
  simp [World.frozen?, h]

theorem Blk.set (h : Blk w b cs) (i : Nat) (v : Value) : Blk (w.setCell ⟨b, i, none⟩ v) b (cs.set i v) := by
  obtain ⟨T, h⟩ := h
  exact ⟨T, by simp [World.setCell, Array.getElem?_modify, h]⟩

theorem Blk.set_ne (h : Blk w b cs) {p : Addr} {v : Value} (hne : p.block ≠ b) : Blk (w.setCell p v) b cs := by
  obtain ⟨T, h⟩ := h
  exact ⟨T, by simp [World.setCell, Array.getElem?_modify, hne, h]⟩

theorem Blk.drew (h : Blk w b cs) : Blk w.drew b cs := h
theorem Blk.alloc (h : Blk w b cs) (o : Obj) : Blk (w.alloc o) b cs := by
  have hl := h.lt
  obtain ⟨T, h⟩ := h
  refine ⟨T, ?_⟩
  simp only [World.alloc, Array.getElem?_push]
  rw [if_neg (by omega), h]
theorem Blk.new (w : World) (cs : Array Value) (T : TypeId) : Blk (w.alloc (.cells cs T)) w.heap.size cs.toList := ⟨T, by unfold World.alloc; simp⟩

theorem Fr.refl (S : List Nat) (w : World) : Fr S w w := ⟨rfl, rfl, rfl, Nat.le_refl _, fun _ _ _ => rfl⟩
theorem Fr.trans (h : Fr S w w') (h' : Fr S' w' w'') (hs : ∀ k ∈ S', k ∈ S ∨ w.heap.size ≤ k) : Fr S w w'' :=
  ⟨h'.os.trans h.os, h'.tape.trans h.tape, h'.output.trans h.output, Nat.le_trans h.size h'.size, fun k hk hn => by
    rw [h'.same k (Nat.lt_of_lt_of_le hk h.size) (fun hm => (hs k hm).elim hn (fun h => by omega)), h.same k hk hn]⟩
theorem Fr.more (h : Fr S w w') (h' : Fr S w' w'') : Fr S w w'' := h.trans h' fun _ hk => .inl hk
theorem Fr.mono (h : Fr S w w') (hs : ∀ k ∈ S, k ∈ S' ∨ w.heap.size ≤ k) : Fr S' w w' := (Fr.refl S' w).trans h hs
theorem Fr.setCell (w : World) {p : Addr} (v : Value) (hp : p.block ∈ S) : Fr S w (w.setCell p v) :=
  ⟨rfl, rfl, rfl, by simp, fun k _ hn => by
    have : p.block ≠ k := fun e => hn (e ▸ hp)
    simp [World.setCell, Array.getElem?_modify, this]⟩
theorem Fr.alloc (S : List Nat) (w : World) (o : Obj) : Fr S w (w.alloc o) :=
  ⟨rfl, rfl, rfl, by simp, fun k hk _ => by
    simp only [World.alloc, Array.getElem?_push]
    rw [if_neg (by omega)]⟩
theorem Fr.drew (S : List Nat) (w : World) : Fr S w w.drew := ⟨rfl, rfl, rfl, Nat.le_refl _, fun _ _ _ => rfl⟩

theorem Blk.cella (h : Blk w b cs) {o i : Nat} {v : Value} (hi : cs[o + i]? = some v) : w.cell? (Addr.add ⟨b, o, none⟩ i) = some v := by
  rw [addr_add]; exact h.cell hi
theorem Blk.maya (h : Blk w b cs) {o i : Nat} (hi : o + i < cs.length) : May w (Addr.add ⟨b, o, none⟩ i) := by
  rw [addr_add]; exact h.may hi
theorem Blk.cells (h : Blk w b cs) : CellsAt w ⟨b, 0, none⟩ cs := fun i v hi => by
  rw [addr_add, Nat.zero_add]; exact h.cell hi
theorem Blk.cellsAt (h : Blk w b cs) {o : Nat} {vs : List Value} (hv : ∀ i v, vs[i]? = some v → cs[o + i]? = some v) : CellsAt w ⟨b, o, none⟩ vs := fun i v hi => by
  rw [addr_add]; exact h.cell (hv i v hi)
theorem Blk.mayL (h : Blk w b cs) {o n : Nat} (hn : o + n ≤ cs.length) : MayL w ⟨b, o, none⟩ n := fun i hi => by
  rw [addr_add]; exact h.may (by omega)
theorem SetC.blk (h : SetC w w' ⟨b, i, none⟩ v) (hb : Blk w b cs) : Blk w' b (cs.set i v) := by
  unfold SetC at h; subst h; exact hb.set i v
theorem SetC.fr {p : Addr} (h : SetC w w' p v) (hp : p.block ∈ S) : Fr S w w' := by
  unfold SetC at h; subst h; exact Fr.setCell w v hp
theorem SetC.ne {p : Addr} (h : SetC w w' p v) (hb : Blk w b cs) (hp : p.block ≠ b) : Blk w' b cs := by
  unfold SetC at h; subst h; exact hb.set_ne hp
theorem NewAt.blk {T : TypeId} {c : Array Value} (h : NewAt w w' b c T) : Blk w' b c.toList := by
  obtain ⟨rfl, rfl⟩ := h; exact Blk.new w c T
theorem NewAt.fr {T : TypeId} {c : Array Value} (h : NewAt w w' b c T) (S : List Nat) : Fr S w w' := by
  obtain ⟨rfl, rfl⟩ := h; exact Fr.alloc S w _
theorem NewAt.ge {T : TypeId} {c : Array Value} (h : NewAt w w' b c T) : w.heap.size ≤ b := by rw [h.1]; exact Nat.le_refl _
theorem NewMap.fr (h : NewMap w w' b) (S : List Nat) : Fr S w w' := by
  obtain ⟨rfl, rfl⟩ := h; exact Fr.alloc S w _
theorem NewMap.ge (h : NewMap w w' b) : w.heap.size ≤ b := by rw [h.1]; exact Nat.le_refl _
theorem NewMap.mp (h : NewMap w w' b) : Mp w' b [] 0 := by
  obtain ⟨rfl, rfl⟩ := h; unfold Mp World.alloc; simp
theorem Drew.fr (h : Drew w w') (S : List Nat) : Fr S w w' := by
  unfold Drew at h; subst h; exact Fr.drew S w

theorem setL_blk : ∀ (vs : List Value) (i : Nat) (w : World) (cs : List Value) (b o : Nat), Blk w b cs → o + i + vs.length ≤ cs.length →
    Blk (setL ⟨b, o, none⟩ vs i w) b (cs.take (o + i) ++ vs ++ cs.drop (o + i + vs.length)) ∧ Fr [b] w (setL ⟨b, o, none⟩ vs i w)
  | [], i, w, cs, b, o, h, _ => by simpa [setL] using ⟨h, Fr.refl _ _⟩
  | v :: r, i, w, cs, b, o, h, hl => by
    rw [List.length_cons] at hl
    rw [setL, addr_add]
    obtain ⟨g1, g2⟩ := setL_blk r (i + 1) (w.setCell ⟨b, o + i, none⟩ v) (cs.set (o + i) v) b o (h.set (o + i) v) (by rw [List.length_set]; omega)
    refine ⟨?_, (Fr.setCell w v (by simp)).more g2⟩
    have e1 : (cs.set (o + i) v).take (o + (i + 1)) = cs.take (o + i) ++ [v] := by
      rw [← Nat.add_assoc, List.take_succ_eq_append_getElem (by rw [List.length_set]; omega), List.take_set_of_le (Nat.le_refl _)]
      simp
    have e2 : (cs.set (o + i) v).drop (o + (i + 1) + r.length) = cs.drop (o + i + (v :: r).length) := by
      rw [List.drop_set, if_pos (by omega), List.length_cons]
      congr 1; omega
    rw [e1, e2] at g1
    simpa using g1

theorem SetL.blk {o : Nat} {vs : List Value} (h : SetL w w' ⟨b, o, none⟩ vs) (hb : Blk w b cs) (hl : o + vs.length ≤ cs.length) : Blk w' b (cs.take o ++ vs ++ cs.drop (o + vs.length)) := by
  unfold SetL at h; subst h
  exact (setL_blk vs 0 w cs b o hb (by omega)).1
theorem SetL.fr {o : Nat} {vs : List Value} (h : SetL w w' ⟨b, o, none⟩ vs) (hb : Blk w b cs) (hl : o + vs.length ≤ cs.length) (hS : b ∈ S) : Fr S w w' := by
  unfold SetL at h; subst h
  exact (setL_blk vs 0 w cs b o hb (by omega)).2.mono (by simpa using .inl hS)
/-- All of a block is written. -/
theorem SetL.all {vs : List Value} (h : SetL w w' ⟨b, 0, none⟩ vs) (hb : Blk w b cs) (hl : vs.length = cs.length) : Blk w' b vs ∧ Fr [b] w w' := by
  have h1 := h.blk hb (by omega)
  rw [hl, Nat.zero_add, List.drop_length] at h1
  exact ⟨by simpa using h1, h.fr hb (by omega) (by simp)⟩
/-- A new block, all of it written. -/
theorem newSet {w0 w1 w2 : World} {c : Array Value} {T : TypeId} {vs : List Value} (h : NewAt w0 w1 b c T) (h2 : SetL w1 w2 ⟨b, 0, none⟩ vs) (hl : vs.length = c.toList.length) : Blk w2 b vs ∧ (∀ S, Fr S w0 w2) := by
  obtain ⟨g1, g2⟩ := h2.all h.blk hl
  have hb := h.ge
  exact ⟨g1, fun S => (h.fr S).trans g2 (by simpa using .inr hb)⟩

theorem Blk.fr (h : Blk w b cs) (f : Fr S w w') (hb : b ∉ S) : Blk w' b cs := by
  have hl := h.lt
  obtain ⟨T, h⟩ := h
  exact ⟨T, by rw [f.same b hl hb, h]⟩
theorem Mp.fr {es : List MapEntry} {c : Nat} (h : Mp w b es c) (f : Fr S w w') (hb : b ∉ S) : Mp w' b es c := by
  have hl := h.lt
  unfold Mp at h ⊢
  rw [f.same b hl hb, h]

theorem below_fr {n : Nat} {W : World} (h : Below n W w) (f : Fr S w w') (hn : n ≤ W.heap.size) (hs : ∀ k ∈ S, n ≤ k) : Below n W w' :=
  ⟨f.os.trans h.os, f.tape.trans h.tape, f.output.trans h.output, Nat.le_trans h.size f.size, fun k hk => by
    rw [f.same k (Nat.lt_of_lt_of_le hk (Nat.le_trans hn h.size)) (fun hm => by have := hs k hm; omega), h.block k hk]⟩
end

/-! ### Ints -/
@[reducible] def vi (n : Int) : Value := .int .i64 n

theorem vi_get {l : List Int} {i : Nat} {n : Int} (h : l[i]? = some n) : (l.map vi)[i]? = some (.int .i64 n) := by simp [h]
theorem vi_set (l : List Int) (i : Nat) (n : Int) : (l.map vi).set i (.int .i64 n) = (l.set i n).map vi := by rw [List.map_set]

theorem made_ints (n : Nat) : (madeCells #[.int .i64 0] n).toList = (List.replicate n (0 : Int)).map vi := by
  apply List.ext_getElem?
  intro i
  simp only [madeCells, Array.toList_map, Array.toList_range, List.getElem?_map, List.map_replicate, List.getElem?_replicate]
  by_cases h : i < n
  · simp [h, Nat.mod_one]
  · simp [h]

/-- A slice of ints is made. -/
theorem make_ints {P : Program} (t e : TypeId) (i : TypeInfo) (ht : P.underlying t = some (.slice e)) (hi : P.info? e = some i) (hz : i.zero = some (.int .i64 0)) (hs : i.size = 1) (hb : i.bytes = 8)
    {w : World} {n : Int} (h0 : 0 ≤ n) (h1 : n ≤ 2097152) (K : Option Addr → Nat → Nat → World → Prop)
    (hK : ∀ w', Blk w' w.heap.size ((List.replicate n.toNat (0 : Int)).map vi) → (∀ S, Fr S w w') → w'.heap.size = w.heap.size + 1 → K (some ⟨w.heap.size, 0, none⟩) n.toNat n.toNat w') :
    RunF P (Instr.makeSlice t (.int .i64 n) (.int .i64 n)) w [.leaf .slice] K := by
  have h2 : n.toNat * i.size ≤ 16777216 := by rw [hs]; omega
  have h3 : (i.bytes : Int) * n ≤ 281474976710656 := by rw [hb]; omega
  have hr := run_makeSlice (P := P) (w := w) t e i (.int .i64 0) ht hi hz .i64 .i64 n n h0 (Int.le_refl _) h2 h3 (by omega)
  refine ⟨[.slice (some ⟨w.heap.size, 0, none⟩) n.toNat n.toNat], _, hr, ?_⟩
  refine hK _ ?_ (fun S => Fr.alloc S w _) (by simp)
  have := Blk.new w (madeCells #[.int .i64 0] (n.toNat * i.size)) e
  rw [made_ints, hs, Nat.mul_one] at this
  simpa [Value.cells, hs] using this

theorem fit64 {n : Int} (h1 : -9223372036854775808 ≤ n) (h2 : n ≤ 9223372036854775807) : Fit .i64 n := ⟨h1, h2⟩

end Go.Proofs.Ytmlhdmnnijapjaa.V

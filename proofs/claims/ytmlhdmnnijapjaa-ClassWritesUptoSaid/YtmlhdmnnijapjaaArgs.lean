/- Arguments that are slices of ints, or of things of ints. No condition. -/
import Derived.Test.YtmlhdmnnijapjaaMem
import Derived.OpenShut
namespace Go.Proofs.Ytmlhdmnnijapjaa.V
open Go Go.RowKit Go.WideShapes Go.ChangeShapes

def I64 (n : Int) : Prop := -9223372036854775808 ≤ n ∧ n ≤ 9223372036854775807

/-- A slice that came in: things of c ints each; its block lies below B. -/
structure ArgS (B : Nat) (w : World) (a : Option Addr) (l c : Nat) (z : Nat → Nat → Int) : Prop where
  ok : ∀ i, i < l → ∃ p, a = some p ∧ p.block < B ∧ ∀ j, j < c → w.cell? (Addr.add (Addr.add p (i * c)) j) = some (.int .i64 (z i j))
  wf : ∀ i, i < l → ∀ j, j < c → I64 (z i j)

/-- A slice of ints that came in. -/
structure ArgI (B : Nat) (w : World) (a : Option Addr) (zs : List Int) : Prop where
  ok : ∀ i, i < zs.length → ∃ p, a = some p ∧ p.block < B ∧ w.cell? (Addr.add p (i * 1)) = some (.int .i64 (zs.getD i 0))
  wf : ∀ n ∈ zs, I64 n

theorem cell_fr {w w' : World} {S : List Nat} (f : Fr S w w') {p : Addr} {v : Value} (h : w.cell? p = some v) (hb : p.block ∉ S) : w'.cell? p = some v := by
  have hlt : p.block < w.heap.size := by
    rcases Nat.lt_or_ge p.block w.heap.size with h1 | h1
    · exact h1
    · simp [World.cell?, Array.getElem?_eq_none h1] at h
  rw [World.cell?_of_block (f.same p.block hlt hb), h]

section
variable {w w' : World} {a : Option Addr} {l c B : Nat} {z : Nat → Nat → Int} {zs : List Int} {S : List Nat}

theorem add_blk (p : Addr) (n : Nat) : (Addr.add p n).block = p.block := by unfold Addr.add; split <;> rfl

theorem ArgS.fr (h : ArgS B w a l c z) (f : Fr S w w') (hS : ∀ k ∈ S, B ≤ k) : ArgS B w' a l c z := by
  refine ⟨fun i hi => ?_, h.wf⟩
  obtain ⟨p, h1, h2, h3⟩ := h.ok i hi
  refine ⟨p, h1, h2, fun j hj => cell_fr f (h3 j hj) ?_⟩
  rw [add_blk, add_blk]
  intro hk
  have := hS _ hk
  omega

theorem ArgI.fr (h : ArgI B w a zs) (f : Fr S w w') (hS : ∀ k ∈ S, B ≤ k) : ArgI B w' a zs := by
  refine ⟨fun i hi => ?_, h.wf⟩
  obtain ⟨p, h1, h2, h3⟩ := h.ok i hi
  refine ⟨p, h1, h2, cell_fr f h3 ?_⟩
  rw [add_blk]
  intro hk
  have := hS _ hk
  omega

theorem ArgI.get (h : ArgI B w a zs) {i : Int} (h0 : 0 ≤ i) (h1 : i < (zs.length : Int)) {F : Addr → Prop}
    (hF : ∀ p, w.cell? (Addr.add p (Int.toNat i * 1)) = some (.int .i64 (zs.getD i.toNat 0)) → I64 (zs.getD i.toNat 0) → F p) : PtrOK a F := by
  obtain ⟨p, rfl, _, h3⟩ := h.ok i.toNat (by omega)
  refine hF p h3 (h.wf _ ?_)
  have hlt : i.toNat < zs.length := by omega
  rw [List.getD_eq_getElem?_getD, List.getElem?_eq_getElem hlt]
  exact List.getElem_mem hlt

theorem ArgS.get (h : ArgS B w a l c z) {i : Int} (h0 : 0 ≤ i) (h1 : i < (l : Int)) {F : Addr → Prop}
    (hF : ∀ p, (∀ j, j < c → w.cell? (Addr.add (Addr.add p (Int.toNat i * c)) j) = some (.int .i64 (z i.toNat j))) → F p) : PtrOK a F := by
  obtain ⟨p, rfl, _, h3⟩ := h.ok i.toNat (by omega)
  exact hF p h3
end

def isI64 (P : Program) (t : TypeId) : Bool := match P.underlying t with | some (.int .i64) => true | _ => false

def intFields (P : Program) (fs : Array Field) : Bool := fs.toList.zipIdx.all fun p => isI64 P p.1.type && Nat.beq p.1.offset p.2 && Nat.beq (P.cellsOf p.1.type) 1

theorem isI64_und {P : Program} {t : TypeId} (h : isI64 P t = true) : P.underlying t = some (.int .i64) := by
  unfold isI64 at h
  split at h
  · assumption
  · cases h

theorem wf_i64 {n : Int} (h : (Lit.int .i64 n).wf = true) : I64 n := bounds_i64 h

section
variable {H : Type} {enc : TypeId × Value → H} {P : Program} {w : World} {spare : Nat → Bool} {held : Bool} {b0 : Nat}

theorem cell_low {w : World} {p : Addr} {v : Value} (h : w.cell? p = some v) : p.block < w.heap.size := by
  rcases Nat.lt_or_ge p.block w.heap.size with h1 | h1
  · exact h1
  · simp [World.cell?, Array.getElem?_eq_none h1] at h

theorem open_acts {t e : TypeId} {fs : Array Field} {v : Value} {d : DataW H} {ps : List MemPlace} (ht : P.underlying t = some (.slice e)) (he : P.underlying e = some (.struct fs)) (hc : P.cellsOf e = fs.size) (h0 : 0 < fs.size) (hf : intFields P fs = true)
    (hval : Value.okWide P w .any b0 t v) (hd : DataW.Trod enc P w 0 spare held t v d ps) :
    ∃ a l cc z, v = .slice a l cc ∧ l ≤ maxLen ∧ ArgS w.heap.size w a l fs.size z := by
  obtain ⟨a0, l0, c0, rfl⟩ := okWide_slice ht hval
  obtain ⟨fuel, hf0⟩ := hd
  rcases DataW.trod_slice ht hf0 with ⟨h1, _⟩ | ⟨a, len, cap, elems, rest, n, _, h1, _, _, hl, hm, hlen, hel, _, _⟩
  · simp [Value.cells] at h1
    obtain ⟨rfl, rfl, rfl⟩ := h1
    exact ⟨none, 0, 0, fun _ _ => 0, rfl, by decide, ⟨fun i hi => by omega, fun i hi => by omega⟩⟩
  · simp [Value.cells] at h1
    obtain ⟨rfl, rfl, rfl⟩ := h1
    have each : ∀ i, i < l0 → ∀ j, j < fs.size → ∃ m, w.cell? (Addr.add (Addr.add a (i * fs.size)) j) = some (.int .i64 m) ∧ I64 m := by
      intro i hi j hj
      have h2 := hel i hi
      rw [hc] at h2
      have h3 : elems[i]? = some (elems[i]'(by omega)) := List.getElem?_eq_getElem (by omega)
      rw [h3, Option.bind_eq_some_iff] at h2
      obtain ⟨cs, hcs, h2⟩ := h2
      obtain ⟨_, hcl, hcell⟩ := World.cells?_some hcs
      obtain ⟨xs, k, rfl, _, _, hxl, hfield⟩ := DataW.trod_struct he h2
      unfold intFields at hf
      rw [List.all_eq_true] at hf
      have h4 := hf (fs[j], j) (by rw [List.mem_zipIdx_iff_getElem?]; simp [hj])
      simp only [Bool.and_eq_true] at h4
      obtain ⟨⟨q1, q2⟩, q3⟩ := h4
      have q2 := Nat.eq_of_beq_eq_true q2
      have q3 := Nat.eq_of_beq_eq_true q3
      have h5 := hfield j fs[j] (by simp [hj])
      rw [q2, q3, List.getElem?_eq_getElem (by omega)] at h5
      obtain ⟨m, h6, _, hw⟩ := DataW.trod_int (isI64_und q1) h5
      refine ⟨m, ?_, wf_i64 hw⟩
      rw [hcell j hj]
      have : (List.take 1 (cs.drop j))[0]? = some (.int .i64 m) := by rw [h6]; rfl
      rw [List.getElem?_take_of_lt (by omega), List.getElem?_drop] at this
      simpa using this
    refine ⟨some a, l0, c0, fun i j => if h : i < l0 ∧ j < fs.size then Classical.choose (each i h.1 j h.2) else 0, rfl, Nat.le_trans hl hm, ⟨fun i hi => ?_, fun i hi j hj => ?_⟩⟩
    · refine ⟨a, rfl, ?_, fun j hj => ?_⟩
      · obtain ⟨_, h2, _⟩ := each i hi 0 h0
        have := cell_low h2
        rwa [add_blk, add_blk] at this
      · rw [dif_pos ⟨hi, hj⟩]
        exact (Classical.choose_spec (each i hi j hj)).1
    · rw [dif_pos ⟨hi, hj⟩]
      exact (Classical.choose_spec (each i hi j hj)).2

theorem open_nums {t e : TypeId} {v : Value} {d : DataW H} {ps : List MemPlace} (ht : P.underlying t = some (.slice e)) (he : P.underlying e = some (.int .i64)) (hc : P.cellsOf e = 1)
    (hval : Value.okWide P w .any b0 t v) (hd : DataW.Trod enc P w 0 spare held t v d ps) :
    ∃ a zs cc, v = .slice a zs.length cc ∧ zs.length ≤ maxLen ∧ ArgI w.heap.size w a zs := by
  obtain ⟨a0, l0, c0, rfl⟩ := okWide_slice ht hval
  obtain ⟨fuel, hf0⟩ := hd
  rcases open_ints ht he hc hf0 with ⟨h1, _⟩ | ⟨a, len, cap, zs, h1, _, hl, hm, hz, _, hcell, hwf⟩
  · simp [Value.cells] at h1
    obtain ⟨rfl, rfl, rfl⟩ := h1
    exact ⟨none, [], 0, rfl, by decide, ⟨fun i hi => by simp at hi, fun n hn => by simp at hn⟩⟩
  · simp [Value.cells] at h1
    obtain ⟨rfl, rfl, rfl⟩ := h1
    have hle : l0 ≤ zs.length := by rw [hz]; split <;> omega
    refine ⟨some a, zs.take l0, c0, by simp; omega, by simp; omega, ⟨fun i hi => ⟨a, rfl, ?_, ?_⟩, fun n hn => wf_i64 (hwf n (List.mem_of_mem_take hn))⟩⟩
    · rw [List.length_take] at hi
      have := cell_low (hcell i (by omega))
      rwa [add_blk] at this
    · rw [List.length_take] at hi
      rw [Nat.mul_one, hcell i (by omega)]
      have : (zs.take l0).getD i 0 = zs.getD i 0 := by simp [List.getD_eq_getElem?_getD, List.getElem?_take, show i < l0 by omega]
      rw [this]
end

theorem argCells2 {w : World} {p : Addr} {z : Nat → Int} (h : ∀ j, j < 2 → w.cell? (Addr.add p j) = some (.int .i64 (z j))) : CellsAt w p [.int .i64 (z 0), .int .i64 (z 1)] := by
  intro i v hi
  have hlt := (List.getElem?_eq_some_iff.1 hi).1
  rw [h i (by simpa using hlt)]
  match i, hi with
  | 0, hi => simpa using hi
  | 1, hi => simpa using hi
theorem argCells3 {w : World} {p : Addr} {z : Nat → Int} (h : ∀ j, j < 3 → w.cell? (Addr.add p j) = some (.int .i64 (z j))) : CellsAt w p [.int .i64 (z 0), .int .i64 (z 1), .int .i64 (z 2)] := by
  intro i v hi
  have hlt := (List.getElem?_eq_some_iff.1 hi).1
  rw [h i (by simpa using hlt)]
  match i, hi with
  | 0, hi => simpa using hi
  | 1, hi => simpa using hi
  | 2, hi => simpa using hi
theorem argCells4 {w : World} {p : Addr} {z : Nat → Int} (h : ∀ j, j < 4 → w.cell? (Addr.add p j) = some (.int .i64 (z j))) : CellsAt w p [.int .i64 (z 0), .int .i64 (z 1), .int .i64 (z 2), .int .i64 (z 3)] := by
  intro i v hi
  have hlt := (List.getElem?_eq_some_iff.1 hi).1
  rw [h i (by simpa using hlt)]
  match i, hi with
  | 0, hi => simpa using hi
  | 1, hi => simpa using hi
  | 2, hi => simpa using hi
  | 3, hi => simpa using hi
theorem argCells5 {w : World} {p : Addr} {z : Nat → Int} (h : ∀ j, j < 5 → w.cell? (Addr.add p j) = some (.int .i64 (z j))) : CellsAt w p [.int .i64 (z 0), .int .i64 (z 1), .int .i64 (z 2), .int .i64 (z 3), .int .i64 (z 4)] := by
  intro i v hi
  have hlt := (List.getElem?_eq_some_iff.1 hi).1
  rw [h i (by simpa using hlt)]
  match i, hi with
  | 0, hi => simpa using hi
  | 1, hi => simpa using hi
  | 2, hi => simpa using hi
  | 3, hi => simpa using hi
  | 4, hi => simpa using hi
theorem argCells6 {w : World} {p : Addr} {z : Nat → Int} (h : ∀ j, j < 6 → w.cell? (Addr.add p j) = some (.int .i64 (z j))) : CellsAt w p [.int .i64 (z 0), .int .i64 (z 1), .int .i64 (z 2), .int .i64 (z 3), .int .i64 (z 4), .int .i64 (z 5)] := by
  intro i v hi
  have hlt := (List.getElem?_eq_some_iff.1 hi).1
  rw [h i (by simpa using hlt)]
  match i, hi with
  | 0, hi => simpa using hi
  | 1, hi => simpa using hi
  | 2, hi => simpa using hi
  | 3, hi => simpa using hi
  | 4, hi => simpa using hi
  | 5, hi => simpa using hi

end Go.Proofs.Ytmlhdmnnijapjaa.V

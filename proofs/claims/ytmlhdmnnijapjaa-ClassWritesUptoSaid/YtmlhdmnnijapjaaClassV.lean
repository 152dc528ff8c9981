/- Writing a program: the writer in memory. No condition. -/
import Derived.Test.YtmlhdmnnijapjaaClassE
import Derived.Test.YtmlhdmnnijapjaaClassR
import Derived.Test.YtmlhdmnnijapjaaGClsW
import Derived.Lib.AppendStr
import Derived.Lib.SlBytesConst
namespace Go.Proofs.Ytmlhdmnnijapjaa.V
open Go Go.RowKit Go.Proofs.Ytmlhdmnnijapjaa.WirePlain

/-- The blocks of N are as they were. -/
def Keep (N : Nat → Prop) (w w' : World) : Prop := ∃ S, Fr S w w' ∧ ∀ b, N b → b ∉ S

theorem Keep.refl (N : Nat → Prop) (w : World) : Keep N w w := ⟨[], Fr.refl _ _, by simp⟩
theorem Keep.of {N : Nat → Prop} {w w' : World} {S : List Nat} (f : Fr S w w') (h : ∀ b ∈ S, ¬ N b) : Keep N w w' := ⟨S, f, fun b hb hs => h b hs hb⟩
theorem Keep.mono {N N' : Nat → Prop} {w w' : World} (h : Keep N w w') (hN : ∀ b, N' b → N b) : Keep N' w w' := by
  obtain ⟨S, f, hS⟩ := h
  exact ⟨S, f, fun b hb => hS b (hN b hb)⟩
theorem Keep.trans {N : Nat → Prop} {w w' w'' : World} (h : Keep N w w') (h' : Keep N w' w'') : Keep N w w'' := by
  obtain ⟨S, f, hS⟩ := h
  obtain ⟨S', f', hS'⟩ := h'
  refine ⟨S ++ S', (f.mono (S' := S ++ S') (fun k hk => .inl (by simp [hk]))).trans f' (fun k hk => .inl (by simp [hk])), fun b hb hm => ?_⟩
  rcases List.mem_append.1 hm with h | h
  · exact hS b hb h
  · exact hS' b hb h
theorem Keep.blk {N : Nat → Prop} {w w' : World} (h : Keep N w w') {b : Nat} {cs : List Value} (hb : Blk w b cs) (hN : N b) : Blk w' b cs := by
  obtain ⟨S, f, hS⟩ := h
  exact hb.fr f (hS b hN)
theorem Keep.size {N : Nat → Prop} {w w' : World} (h : Keep N w w') : w.heap.size ≤ w'.heap.size := by obtain ⟨S, f, _⟩ := h; exact f.size
theorem Keep.same {N : Nat → Prop} {w w' : World} (h : Keep N w w') : SameU N w w' := by
  obtain ⟨S, f, hS⟩ := h
  exact SameU.of_fr f hS
theorem Keep.fr0 {w w' : World} (h : Keep (fun b => b < w.heap.size) w w') : Fr [] w w' := by
  obtain ⟨S, f, hS⟩ := h
  exact ⟨f.os, f.tape, f.output, f.size, fun k hk _ => f.same k hk (hS k hk)⟩

def u8s (l : List Nat) : List Value := l.map fun (n : Nat) => Value.int .u8 (n : Int)
theorem strCells_u8 (s : ByteArray) : Lib.strCells s = u8s (nats s) := by
  unfold Lib.strCells u8s nats
  simp

/-- A row of bytes of one's own. -/
structure Row (w : World) (g c : Nat) (l : List Nat) : Prop where
  ex : ∃ cur fr, w.heap[g]? = some (.cells cur 5 fr) ∧ (fr = (0, 0) ∨ l.length = c) ∧ cur.size = c ∧ cur.toList.take l.length = u8s l
  le : l.length ≤ c
  mx : c ≤ maxLen

theorem Row.fr {w w' : World} {g c : Nat} {l : List Nat} {S : List Nat} (h : Row w g c l) (f : Fr S w w') (hg : g ∉ S) : Row w' g c l := by
  obtain ⟨⟨cur, fr, h1, h2⟩, h3, h4⟩ := h
  exact ⟨⟨cur, fr, by rw [f.same g (heap_lt h1) hg]; exact h1, h2⟩, h3, h4⟩
theorem Row.lt {w : World} {g c : Nat} {l : List Nat} (h : Row w g c l) : g < w.heap.size := by
  obtain ⟨⟨cur, fr, h1, _⟩, _⟩ := h
  exact heap_lt h1

theorem app_str {w : World} {g c : Nat} {l : List Nat} (h : Row w g c l) (s : ByteArray) (h40 : l.length + s.size ≤ 1099511627776) {K : Option Addr → Nat → Nat → World → Prop}
    (hK : ∀ g' c' w', Row w' g' c' (l ++ nats s) → (g' = g ∨ w.heap.size ≤ g') → Fr [g] w w' → K (some ⟨g', 0, none⟩) (l ++ nats s).length c' w') :
    RunF Try.prog (Builtin.append_ #[24, 9] 24 #[.slice (some ⟨g, 0, none⟩) l.length c, .string s]) w [.leaf .slice] K := by
  obtain ⟨⟨cur, fr, hg, hfr, hcs, htake⟩, hle, hmx⟩ := h
  have hu : (u8s l).length = l.length := by simp [u8s]
  have hs : (Lib.strCells s).length = s.size := Lib.strCells_length s
  have hln : (l ++ nats s).length = l.length + s.size := by rw [List.length_append, nats_length]
  have hap : u8s (l ++ nats s) = u8s l ++ Lib.strCells s := by rw [strCells_u8]; simp [u8s]
  have h9 : (9223372036854775807 : Nat) ≥ 1099511627776 := by decide
  by_cases hroom : l.length + s.size ≤ c
  · by_cases h0 : s.size = 0
    · have hn : Lib.strCells s = [] := List.eq_nil_of_length_eq_zero (by rw [hs]; exact h0)
      have hn2 : nats s = [] := List.eq_nil_of_length_eq_zero (by rw [nats_length]; exact h0)
      have hr : (Builtin.append_ #[24, 9] 24 #[.slice (some ⟨g, 0, none⟩) l.length c, .string s]).run Try.prog w = .ok (.slice (some ⟨g, 0, none⟩) l.length c) w := by
        have hf := Lib.run_firstCells_string (P := Try.prog) w 1 s
        rw [hn, h0] at hf
        have hu : Try.prog.underlying 9 = some .string := by kernel_rfl
        have ht : Try.prog.underlying 24 = some (.slice 5) := by kernel_rfl
        have hi : Try.prog.info? 5 = some Try.t5 := by kernel_rfl
        have hs1 : Try.t5.size = 1 := by decide
        simp [Builtin.append_, run_underlying ht, run_underlying hu, sizeOf, typeInfo, hi, hs1, Builtin.lenOf, h0, hle, hf, Addr.add_lit, storeCells]
      refine ⟨[.slice (some ⟨g, 0, none⟩) l.length c], w, hr, ?_⟩
      have := hK g c w (by rw [hn2, List.append_nil]; exact ⟨⟨cur, fr, hg, hfr, hcs, htake⟩, hle, hmx⟩) (.inl rfl) (Fr.refl _ _)
      rw [hn2, List.append_nil] at this
      exact this
    obtain rfl : fr = (0, 0) := hfr.elim id (fun h => by omega)
    have hr := Lib.run_append_room_string (P := Try.prog) w 24 9 24 5 Try.t5 (by kernel_rfl) (by kernel_rfl) (by kernel_rfl) (by decide) g l.length c cur hg s hroom (by omega)
    refine ⟨[.slice (some ⟨g, 0, none⟩) (l.length + s.size) c], _, hr, ?_⟩
    have := hK g c (w.setRow g (cur.toList.take l.length ++ Lib.strCells s ++ cur.toList.drop (l.length + s.size)).toArray) ⟨⟨_, _, setRow_heap w g cur _ 5 _ hg, .inl rfl, ?_, ?_⟩, by omega, hmx⟩ (.inl rfl) ⟨rfl, rfl, rfl, by simp, fun k _ hk => setRow_other w g k _ (fun e => hk (by simp [e]))⟩
    · rw [hln] at this; exact this
    · simp only [List.size_toArray, List.length_append, List.length_take, List.length_drop, Array.length_toList, hs]
      omega
    · rw [htake, hap, hln]
      have : l.length + s.size = (u8s l ++ Lib.strCells s).length := by rw [List.length_append, hu, hs]
      rw [this]
      exact List.take_left
  · have holds : ∀ j u, (u8s l)[j]? = some u → w.cell? ((⟨g, 0, none⟩ : Addr).add j) = some u := fun j u hj => by
      rw [addr_add]
      have hjl : j < l.length := by rw [← hu]; exact (List.getElem?_eq_some_iff.1 hj).1
      rw [Nat.zero_add]
      have hcl : w.cell? ⟨g, j, none⟩ = cur[j]? := by simp [World.cell?, hg]
      rw [hcl, ← hj, ← htake, List.getElem?_take_of_lt hjl, Array.getElem?_toList]
    have hr := Lib.run_append_grow_string (P := Try.prog) w 24 9 24 5 Try.t5 (.int .u8 0) (by kernel_rfl) (by kernel_rfl) (by kernel_rfl) rfl ⟨g, 0, none⟩ l.length c (u8s l) (by rw [hu]; show _ = _ * 1; omega) holds s (by omega) (by omega)
      (growslice_fits (by omega) (by show _ * 1 ≤ _; omega))
    have hge := grownCap_ge w (l.length + s.size) c 5
    have hcm : grownCap w (l.length + s.size) c 5 ≤ maxLen := grownCap_le_maxLen w (l.length + s.size) c 5 (by unfold maxLen; omega)
    refine ⟨[.slice (some ⟨w.heap.size, 0, none⟩) (l.length + s.size) (grownCap w (l.length + s.size) c 5)], _, hr, ?_⟩
    have := hK w.heap.size (grownCap w (l.length + s.size) c 5) _ ⟨⟨_, _, heap_alloc_new w.drew (.cells ((u8s l).toArray ++ (Lib.strCells s).toArray ++ Builtin.zeroCells (Value.int .u8 0).cells (grownCap w (l.length + s.size) c 5 - (l.length + s.size))) 5), .inl rfl, ?_, ?_⟩, by omega, hcm⟩ (.inr (Nat.le_refl _)) ((Fr.drew _ w).more (Fr.alloc _ _ _))
    · rw [hln] at this; exact this
    · have hz1 : (Value.int IntKind.u8 0).cells.size = 1 := rfl
      simp only [Array.size_append, List.size_toArray, size_zeroCells, hz1, hu, hs]
      omega
    · simp only [Array.toList_append, List.append_assoc]
      rw [← List.append_assoc, hap, hln]
      have : l.length + s.size = (u8s l ++ Lib.strCells s).length := by rw [List.length_append, hu, hs]
      rw [this]
      exact List.take_left

/-- The writer at t holds W; N: what is not the writer's. -/
structure WrAt (N : Nat → Prop) (w : World) (t : Nat) (W : Wr) : Prop where
  nt : ¬ N t
  lo : ∀ b, N b → b < w.heap.size
  ex : ∃ g c, Blk w t [.slice (some ⟨g, 0, none⟩) W.bs.length c, .bool W.many, .bool W.nm, .bool W.fm] ∧ ¬ N g ∧ g ≠ t ∧ Row w g c W.bs

section
variable {N N' : Nat → Prop} {w w' : World} {t : Nat} {W : Wr}

theorem WrAt.fr (h : WrAt N w t W) {S : List Nat} (f : Fr S w w') (hS : ∀ b ∈ S, N b) : WrAt N w' t W := by
  obtain ⟨h1, h2, g, c, h3, h4, h5, h6⟩ := h
  exact ⟨h1, fun b hb => Nat.lt_of_lt_of_le (h2 b hb) f.size, g, c, h3.fr f (fun h => h1 (hS _ h)), h4, h5, h6.fr f (fun h => h4 (hS _ h))⟩
theorem WrAt.mono (h : WrAt N w t W) (hN : ∀ b, N' b → N b) : WrAt N' w t W := by
  obtain ⟨h1, h2, g, c, h3, h4, h5⟩ := h
  exact ⟨fun h => h1 (hN _ h), fun b hb => h2 b (hN b hb), g, c, h3, fun h => h4 (hN _ h), h5⟩
/-- A new block is not the writer's. -/
theorem WrAt.grow (h : WrAt N w t W) (f : Fr [] w w') {b : Nat} (h1 : w.heap.size ≤ b) (h2 : b < w'.heap.size) : WrAt (fun x => N x ∨ x = b) w' t W := by
  obtain ⟨n1, n2, g, c, h3, h4, h5, h6⟩ := h.fr f (by simp)
  have lt := h.ex
  obtain ⟨g0, c0, h30, h40, h50, h60⟩ := lt
  have hl := h30.lt
  have hg := h60.lt
  have e : g0 = g := by
    have e1 := h3.cell (i := 0) rfl
    have e2 := (h30.fr f (by simp)).cell (i := 0) rfl
    rw [e2] at e1
    simp at e1
    exact e1.1
  subst e
  refine ⟨fun h => h.elim n1 (fun e => by omega), fun x hx => hx.elim (n2 x) (fun e => by omega), g0, c, h3, fun h => h.elim h4 (fun e => by omega), h5, h6⟩
theorem WrAt.tlt (h : WrAt N w t W) : t < w.heap.size := by obtain ⟨_, _, g, c, h3, _⟩ := h; exact h3.lt

/-- One of the writer's flags, or its bytes. -/
theorem WrAt.setB (h : WrAt N w t W) {i : Nat} {v : Value} {W' : Wr} (hi : ∀ (g c : Nat), ([.slice (some ⟨g, 0, none⟩) W.bs.length c, .bool W.many, .bool W.nm, .bool W.fm] : List Value).set i v = [.slice (some ⟨g, 0, none⟩) W'.bs.length c, .bool W'.many, .bool W'.nm, .bool W'.fm]) (hb : W'.bs = W.bs)
    (s : SetC w w' ⟨t, i, none⟩ v) : WrAt N w' t W' ∧ Keep N w w' := by
  obtain ⟨h1, h2, g, c, h3, h4, h5, h6⟩ := h
  have f : Fr [t] w w' := s.fr (by simp)
  refine ⟨⟨h1, fun b hb => Nat.lt_of_lt_of_le (h2 b hb) f.size, g, c, ?_, h4, h5, ?_⟩, Keep.of f (by simpa using h1)⟩
  · have := s.blk h3
    rw [hi] at this
    exact this
  · rw [hb]; exact h6.fr f (by simpa using h5)

theorem app_w {K : World → Prop} {W0 : Wr} (h : WrAt N w t W) (s : ByteArray) (hl : W.bs.length + s.size ≤ 1099511627776) {w1 : World} (h1 : ∀ S, Fr S w w1) (hK : ∀ w', WrAt N w' t ⟨W.bs ++ nats s, W.many, W.nm, W.fm⟩ → Keep N w1 w' → K w') :
    ∃ (a12 : Option Addr) (l12 c12 : Nat), World.cell? w ⟨t, 0, none⟩ = some (.slice a12 l12 c12) ∧
      RunF Try.prog (Builtin.append_ #[24, 9] 24 #[.slice a12 l12 c12, .string s]) w1 [.leaf .slice] fun (a13 : Option Addr) (l13 c13 : Nat) (w14 : World) =>
      May w14 ⟨t, 0, none⟩ ∧ ∀ w15 : World, SetC w14 w15 ⟨t, 0, none⟩ (.slice a13 l13 c13) → K w15 := by
  have h0 := h.fr (h1 []) (by simp)
  obtain ⟨_, _, g, c, h3, _, _, h6⟩ := h
  obtain ⟨n1, n2, _⟩ := h0
  rename_i h4 h5 _
  refine ⟨_, _, _, h3.cell rfl, app_str (h6.fr (h1 []) (by simp)) s hl fun g' c' w2 R2 hg' f2 => ?_⟩
  have B2 := (h3.fr (h1 []) (by simp)).fr f2 (by simpa using fun e => h5 e.symm)
  refine ⟨B2.may (by simp), fun w3 s3 => ?_⟩
  have f3 : Fr [t] w2 w3 := s3.fr (by simp)
  have hlt := h3.lt
  have hlt2 := (h1 []).size
  have gt : g' ≠ t := hg'.elim (fun e => by rw [e]; exact h5) (fun h => by omega)
  refine hK w3 ⟨n1, fun b hb => Nat.lt_of_lt_of_le (n2 b hb) (Nat.le_trans f2.size f3.size), g', c', s3.blk B2, fun hn => hg'.elim (fun e => h4 (e ▸ hn)) (fun h => by have := n2 _ hn; omega), gt, R2.fr f3 (by simpa using gt)⟩ ?_
  exact (Keep.of f2 (by simpa using h4)).trans (Keep.of f3 (by simpa using n1))
end
end Go.Proofs.Ytmlhdmnnijapjaa.V

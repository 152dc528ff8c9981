/- So many, and no more: the loops. No condition. -/
import Derived.Test.YtmlhdmnnijapjaaCnt11
import Derived.Test.YtmlhdmnnijapjaaBits
namespace Go.Proofs.Ytmlhdmnnijapjaa.V
open Go Go.RowKit Go.Proofs.Ytmlhdmnnijapjaa.WirePlain

theorem rseq_sv {α : Type} {R : List Value → α → Prop} {w : World} {a : Option Addr} {l c k : Nat} {rows : List (List Value)} {xs : List α} (h : SV w a l c k rows.flatten) (hk : 0 < k) (hr : ∀ r ∈ rows, r.length = k) (hl : l = xs.length) (hl2 : rows.length = xs.length)
    (hR : ∀ (i : Nat) (r : List Value) (x : α), rows[i]? = some r → xs[i]? = some x → R r x) : rSeq Al False w k R a l xs := by
  refine ⟨hl, fun i x hx => ?_⟩
  have hi : i < xs.length := (List.getElem?_eq_some_iff.1 hx).1
  have hr1 : rows[i]? = some (rows[i]'(by omega)) := List.getElem?_eq_getElem (by omega)
  generalize rows[i]'(by omega) = r at hr1
  have hrl : r.length = k := hr r (List.mem_of_getElem? hr1)
  obtain ⟨b, off, rfl, hc⟩ := h.at (i := i) (by omega)
  refine ⟨_, r, rfl, trivial, h.low b (by simp [ablk]), hrl, fun j v hj => ?_, fun h => h.elim, hR i r x hr1 hx⟩
  have hjk : j < k := by have := (List.getElem?_eq_some_iff.1 hj).1; omega
  rw [(hc j hjk).1, rows_get hr hr1 hjk]
  exact hj

theorem rep_get {α : Type} {n i : Nat} {y x : α} (h : (List.replicate n y)[i]? = some x) : x = y := List.eq_of_mem_replicate (List.mem_of_getElem? h)
theorem cons_rep_get {α β : Type} {R : α → β → Prop} {n : Nat} {a0 a : α} {b0 b : β} (h0 : R a0 b0) (h1 : R a b) {i : Nat} {r : α} {x : β} (hr : (a0 :: List.replicate n a)[i]? = some r) (hx : (b0 :: List.replicate n b)[i]? = some x) : R r x := by
  cases i with
  | zero => simp at hr hx; subst hr hx; exact h0
  | succ i =>
    rw [List.getElem?_cons_succ] at hr hx
    rw [rep_get hr, rep_get hx]; exact h1

/-- A slice that lies in a block grows to n things. -/
theorem grow_loop {w : World} {hb rb ix k n : Nat} {hs row0 row : List Value} {t e T : TypeId} {i : TypeInfo} {z : Value} (ht : Try.prog.underlying t = some (.slice e)) (hi : Try.prog.info? e = some i) (hz : i.zero = some z) (hsz : i.size = k) (hzs : z.cells.size = k) (hk : 0 < k) (hby : i.bytes ≤ 1048576)
    (H : Blk w hb (hs.set ix (.slice (some ⟨rb, 0, none⟩) 1 1))) (hix : ix < hs.length) (R0 : Blk w rb row0) (ne : rb ≠ hb) (l0 : row0.length = k) (l1 : row.length = k) (hcell : ∀ u ∈ row, isCell u = true) (hn : 1 ≤ n) (hn2 : n ≤ 1000) {n15 : Int} (hn15 : n15 = n) {K : World → Prop}
    (hK : ∀ w' a c, Blk w' hb (hs.set ix (.slice a n c)) → SV w' a n c k ((row0 :: List.replicate (n - 1) row).flatten) → Fr [hb, rb] w w' → K w') :
    ∃ (I : World → Prop) (m : World → Nat), I w ∧ ∀ (_ : Env) (w21 : World), I w21 → ∃ (a22 : Option Addr) (l22 c22 : Nat), World.cell? w21 ⟨hb, ix, none⟩ = some (.slice a22 l22 c22) ∧
      IfB (decide (((l22 : Int) : Int) < n15)) (∃ (a23 : Option Addr) (l23 c23 : Nat), World.cell? w21 ⟨hb, ix, none⟩ = some (.slice a23 l23 c23) ∧ ∀ (b24 : Nat) (w25 : World), NewAt w21 w25 b24 row.toArray T →
        RunF Try.prog (Builtin.append_ #[t, t] t #[.slice a23 l23 c23, .slice (some ⟨b24, 0, none⟩) 1 1]) w25 [.leaf .slice] fun (a26 : Option Addr) (l26 c26 : Nat) (w27 : World) =>
        May w27 ⟨hb, ix, none⟩ ∧ ∀ w28 : World, SetC w27 w28 ⟨hb, ix, none⟩ (.slice a26 l26 c26) → (I w28 ∧ m w28 < m w21)) (K w21) := by
  subst hn15
  have hbl := H.lt
  refine ⟨fun w' => ∃ j a c, 1 ≤ j ∧ j ≤ n ∧ Blk w' hb (hs.set ix (.slice a j c)) ∧ SV w' a j c k ((row0 :: List.replicate (j - 1) row).flatten) ∧ (∀ b ∈ ablk a, b = rb ∨ w.heap.size ≤ b) ∧ Fr [hb, rb] w w',
    fun w' => match w'.cell? ⟨hb, ix, none⟩ with | some (.slice _ l _) => n - l | _ => 0, ⟨1, _, 1, Nat.le_refl _, hn, H, ?_, by simp [ablk], Fr.refl _ _⟩, ?_⟩
  · refine ⟨by simp [l0], Nat.le_refl _, by decide, .inr ⟨rb, 0, row0, rfl, R0, by omega, ?_⟩⟩
    simp [← l0]
  rintro - w21 ⟨j, a, c, h1, h2, B, S, hA, f⟩
  have hcl : World.cell? w21 ⟨hb, ix, none⟩ = some (.slice a j c) := B.cell (by rw [List.getElem?_set_self hix])
  refine ⟨_, _, _, hcl, IfB.dec (fun hlt => ⟨_, _, _, hcl, fun b24 w25 n24 => ?_⟩) (fun hge => ?_)⟩
  · obtain ⟨rfl, rfl⟩ := n24
    refine append_new (m := 1) ht hi hz hsz hzs hk S row.toArray T (by omega) (by simpa using l1) (by simpa using hcell) (by omega) hby t (fun a' c' w' q1 q2 q3 => ?_)
    have nb : hb ∉ ablk a := fun h => (hA hb h).elim (fun e => ne e.symm) (fun h => by omega)
    have B' := B.fr q2 nb
    refine ⟨B'.may (by rw [List.length_set]; exact hix), fun w28 s28 => ?_⟩
    have f28 : Fr [hb] w' w28 := s28.fr (by simp)
    have hA' : ∀ b ∈ ablk a', b = rb ∨ w.heap.size ≤ b := fun b hb' => (q3 b hb').elim (hA b) (fun h => .inr (Nat.le_trans f.size h))
    have B28 := s28.blk B'
    rw [List.set_set] at B28
    have hc28 : World.cell? w28 ⟨hb, ix, none⟩ = some (.slice a' (j + 1) c') := B28.cell (by rw [List.getElem?_set_self hix])
    refine ⟨⟨j + 1, a', c', by omega, by omega, B28, ?_, hA', (f.trans q2 fun b hb' => (hA b hb').elim (fun e => .inl (by simp [e])) .inr).trans f28 (fun b hb' => .inl (by simp at hb'; simp [hb']))⟩, ?_⟩
    · have e : (row0 :: List.replicate (j + 1 - 1) row).flatten = (row0 :: List.replicate (j - 1) row).flatten ++ row.toArray.toList := by
        obtain ⟨i, rfl⟩ : ∃ i, j = i + 1 := ⟨j - 1, by omega⟩
        simp [List.replicate_succ']
      rw [e]
      exact q1.fr f28 (fun b hb' h => by simp at h; subst h; exact (hA' _ hb').elim (fun e => ne e.symm) (fun h => by omega))
    · simp only [hc28, hcl]
      omega
  · have : j = n := by omega
    subst this
    exact hK w21 a c B S f

/-- A slice of one's own gathers n things. -/
theorem fold_loop {w : World} {k n : Nat} {row : List Value} {t e T : TypeId} {i : TypeInfo} {z : Value} (ht : Try.prog.underlying t = some (.slice e)) (hi : Try.prog.info? e = some i) (hz : i.zero = some z) (hsz : i.size = k) (hzs : z.cells.size = k) (hk : 0 < k) (hby : i.bytes ≤ 1048576)
    (l1 : row.length = k) (hcell : ∀ u ∈ row, isCell u = true) (hn2 : n ≤ 1000) {n15 : Int} (hn15 : n15 = n) {K : Option Addr → Nat → Nat → World → Prop}
    (hK : ∀ w' a c, SV w' a n c k ((List.replicate n row).flatten) → (∀ b ∈ ablk a, w.heap.size ≤ b) → (∀ S, Fr S w w') → K a n c w') :
    ∃ (I : Option Addr → Nat → Nat → Int → World → Prop) (m : Option Addr → Nat → Nat → Int → World → Nat), I none 0 0 0 w ∧ ∀ (_ : Env) (a34 : Option Addr) (l34 c34 : Nat) (n35 : Int) (w36 : World), I a34 l34 c34 n35 w36 →
      IfB (decide ((n35 : Int) < n15)) (∀ (b37 : Nat) (w38 : World), NewAt w36 w38 b37 row.toArray T →
        RunF Try.prog (Builtin.append_ #[t, t] t #[.slice a34 l34 c34, .slice (some ⟨b37, 0, none⟩) 1 1]) w38 [.leaf .slice] fun (a39 : Option Addr) (l39 c39 : Nat) (w40 : World) =>
        Fit .i64 (n35 + 1) ∧ (I a39 l39 c39 (n35 + 1) w40 ∧ m a39 l39 c39 (n35 + 1) w40 < m a34 l34 c34 n35 w36)) (K a34 l34 c34 w36) := by
  subst hn15
  refine ⟨fun a l c j w' => ∃ i : Nat, j = i ∧ i ≤ n ∧ l = i ∧ SV w' a i c k ((List.replicate i row).flatten) ∧ (∀ b ∈ ablk a, w.heap.size ≤ b) ∧ (∀ S, Fr S w w'), fun _ _ _ j _ => (n - j).toNat, ⟨0, rfl, Nat.zero_le _, rfl, SV.nil _ _, by simp [ablk], fun S => Fr.refl S w⟩, ?_⟩
  rintro - a l c j w36 ⟨i', rfl, h2, rfl, S, hA, f⟩
  refine IfB.dec (fun hlt b37 w38 n37 => ?_) (fun hge => ?_)
  · obtain ⟨rfl, rfl⟩ := n37
    refine append_new (m := 1) ht hi hz hsz hzs hk S row.toArray T (by omega) (by simpa using l1) (by simpa using hcell) (by omega) hby t (fun a' c' w' q1 q2 q3 => ?_)
    refine ⟨fit64 (by omega) (by omega), ⟨l + 1, by simp, by omega, rfl, ?_, fun b hb' => (q3 b hb').elim (hA b) (fun h => Nat.le_trans (f []).size h), fun S => ((f S).trans q2 fun b hb' => .inr (hA b hb'))⟩, by (try dsimp only); omega⟩
    have e : (List.replicate (l + 1) row).flatten = (List.replicate l row).flatten ++ row.toArray.toList := by simp [List.replicate_succ']
    rw [e]; exact q1
  · have : l = n := by omega
    subst this
    exact hK w36 a c S hA f
end Go.Proofs.Ytmlhdmnnijapjaa.V

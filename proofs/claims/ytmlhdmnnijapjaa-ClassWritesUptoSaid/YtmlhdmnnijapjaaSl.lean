/- Slices and what is appended to them; what belongs to whom. No condition. -/
import Derived.Test.YtmlhdmnnijapjaaMem
import Derived.ArgAppend
import Derived.Maps.AppendAt
namespace Go.Proofs.Ytmlhdmnnijapjaa.V
open Go Go.RowKit

/-! ### Whose blocks -/
def Apart (F G : List Nat) : Prop := ∀ b ∈ F, b ∉ G
def Grw (F F' : List Nat) (n : Nat) : Prop := ∀ b ∈ F', b ∈ F ∨ n ≤ b
def Low (F : List Nat) (n : Nat) : Prop := ∀ b ∈ F, b < n

theorem Apart.symm {F G : List Nat} (h : Apart F G) : Apart G F := fun b h1 h2 => h b h2 h1
theorem Apart.grow {F G F' : List Nat} {n : Nat} (h : Apart F G) (hg : Low G n) (hf : Grw F F' n) : Apart F' G := fun b hb hb2 =>
  (hf b hb).elim (fun h1 => h b h1 hb2) (fun h1 => by have := hg b hb2; omega)
theorem Apart.growr {F G G' : List Nat} {n : Nat} (h : Apart F G) (hg : Low F n) (hf : Grw G G' n) : Apart F G' := (h.symm.grow hg hf).symm
theorem Grw.refl (F : List Nat) (n : Nat) : Grw F F n := fun _ h => .inl h
theorem Grw.trans {F F' F'' : List Nat} {n m : Nat} (h : Grw F F' n) (h' : Grw F' F'' m) (hn : n ≤ m) : Grw F F'' n := fun b hb =>
  (h' b hb).elim (fun h1 => h b h1) (fun h1 => .inr (Nat.le_trans hn h1))
theorem Grw.up {F F' : List Nat} {n B : Nat} (h : Grw F F' n) (hf : ∀ b ∈ F, B ≤ b) (hn : B ≤ n) : ∀ b ∈ F', B ≤ b := fun b hb =>
  (h b hb).elim (fun h1 => hf b h1) (fun h1 => Nat.le_trans hn h1)
theorem Low.mono {F : List Nat} {n m : Nat} (h : Low F n) (hn : n ≤ m) : Low F m := fun b hb => Nat.lt_of_lt_of_le (h b hb) hn

def ablk (a : Option Addr) : List Nat := match a with | some p => [p.block] | none => []

/-- A slice of pieces of k cells holds xs. -/
def SV (w : World) (a : Option Addr) (l c k : Nat) (xs : List Value) : Prop :=
  xs.length = l * k ∧ l ≤ c ∧ c ≤ maxLen ∧ ((a = none ∧ c = 0) ∨ ∃ b off cs, a = some ⟨b, off, none⟩ ∧ Blk w b cs ∧ off + c * k ≤ cs.length ∧ (cs.drop off).take (l * k) = xs)

section
variable {w w' : World} {a : Option Addr} {l c k : Nat} {xs : List Value} {S : List Nat}

theorem SV.fr (h : SV w a l c k xs) (f : Fr S w w') (ha : Apart (ablk a) S) : SV w' a l c k xs := by
  obtain ⟨h1, h2, h3, h4⟩ := h
  refine ⟨h1, h2, h3, h4.imp id ?_⟩
  rintro ⟨b, off, cs, rfl, hb, h5, h6⟩
  exact ⟨b, off, cs, rfl, hb.fr f (ha b (by simp [ablk])), h5, h6⟩

theorem SV.nil (w : World) (k : Nat) : SV w none 0 0 k [] := ⟨by simp, Nat.le_refl _, by decide, .inl ⟨rfl, rfl⟩⟩
theorem SV.none_nil {l c : Nat} (h : SV w none l c k xs) : l = 0 ∧ c = 0 ∧ xs = [] := by
  obtain ⟨h1, h2, h3, h4 | ⟨b, off, cs, h4, _⟩⟩ := h
  · have : l = 0 := by omega
    subst this
    exact ⟨rfl, h4.2, List.eq_nil_of_length_eq_zero (by simpa using h1)⟩
  · cases h4
theorem SV.low (h : SV w a l c k xs) : Low (ablk a) w.heap.size := by
  obtain ⟨h1, h2, h3, h4 | ⟨b, off, cs, rfl, hb, _⟩⟩ := h
  · rw [h4.1]; intro b hb; simp [ablk] at hb
  · intro b' hb'; simp [ablk] at hb'; subst hb'; exact hb.lt

theorem getElem?_dt {α : Type} {cs xs : List α} {off n j : Nat} (h : (cs.drop off).take n = xs) (hj : j < xs.length) : cs[off + j]? = xs[j]? := by
  subst h
  rw [List.length_take] at hj
  rw [List.getElem?_take_of_lt (by omega), List.getElem?_drop]

theorem SV.at (h : SV w a l c k xs) {i : Nat} (hi : i < l) : ∃ b off, a = some ⟨b, off, none⟩ ∧ ∀ j, j < k → w.cell? (Addr.add (Addr.add ⟨b, off, none⟩ (i * k)) j) = xs[i * k + j]? ∧ May w (Addr.add (Addr.add ⟨b, off, none⟩ (i * k)) j) := by
  obtain ⟨h1, h2, h3, h4 | ⟨b, off, cs, rfl, hb, h5, h6⟩⟩ := h
  · omega
  · refine ⟨b, off, rfl, fun j hj => ?_⟩
    have e1 : (i + 1) * k ≤ l * k := Nat.mul_le_mul_right k hi
    have e2 : l * k ≤ c * k := Nat.mul_le_mul_right k h2
    rw [Nat.succ_mul] at e1
    rw [addr_add, addr_add]
    have hx : i * k + j < xs.length := by omega
    have := getElem?_dt h6 hx
    have hlt : off + i * k + j < cs.length := by omega
    refine ⟨?_, hb.may hlt⟩
    rw [← this, ← Nat.add_assoc, hb.cell (v := cs[off + i * k + j]) (by simp [hlt])]
    simp [hlt]

/-- One piece's cell is written. -/
theorem SV.set (h : SV w a l c k xs) {b off : Nat} (ha : a = some ⟨b, off, none⟩) {i j : Nat} (hi : i < l) (hj : j < k) (v : Value) :
    SV (w.setCell (Addr.add (Addr.add ⟨b, off, none⟩ (i * k)) j) v) a l c k (xs.set (i * k + j) v) ∧ Fr (ablk a) w (w.setCell (Addr.add (Addr.add ⟨b, off, none⟩ (i * k)) j) v) := by
  obtain ⟨h1, h2, h3, h4 | ⟨b', off', cs, hab, hb, h5, h6⟩⟩ := h
  · rw [h4.1] at ha; cases ha
  · rw [ha] at hab
    cases hab
    subst ha
    rw [addr_add, addr_add]
    have e1 : (i + 1) * k ≤ l * k := Nat.mul_le_mul_right k hi
    rw [Nat.succ_mul] at e1
    refine ⟨⟨by rw [List.length_set]; exact h1, h2, h3, .inr ⟨b, off, _, rfl, hb.set _ v, by rw [List.length_set]; exact h5, ?_⟩⟩, Fr.setCell _ _ (by simp [ablk])⟩
    rw [← h6, show off + i * k + j = off + (i * k + j) from Nat.add_assoc .., List.drop_set, if_neg (by omega), List.take_set]
    congr 1
    omega

/-- A slice of a slice. -/
theorem SV.cut (h : SV w a l c k xs) {lo hi : Nat} (h1 : lo ≤ hi) (h2 : hi ≤ l) : SV w (Adv a c lo k) (hi - lo) (c - lo) k ((xs.drop (lo * k)).take ((hi - lo) * k)) ∧ ablk (Adv a c lo k) = ablk a := by
  obtain ⟨g1, g2, g3, g4 | ⟨b, off, cs, rfl, hb, g5, g6⟩⟩ := h
  · have : lo = 0 ∧ hi = 0 := by omega
    obtain ⟨rfl, rfl⟩ := this
    rw [g4.1]
    refine ⟨⟨by simp, by omega, by omega, .inl ⟨?_, by omega⟩⟩, ?_⟩ <;> simp [Adv, ablk]
  · have e1 : lo * k ≤ hi * k := Nat.mul_le_mul_right k h1
    have e2 : hi * k ≤ l * k := Nat.mul_le_mul_right k h2
    have e3 : lo * k ≤ c * k := Nat.mul_le_mul_right k (by omega)
    have e4 : (hi - lo) * k = hi * k - lo * k := Nat.sub_mul ..
    have e5 : (c - lo) * k = c * k - lo * k := Nat.sub_mul ..
    constructor
    · refine ⟨by rw [List.length_take, List.length_drop, g1, e4]; omega, by omega, by omega, .inr ?_⟩
      unfold Adv
      split
      · rename_i hc
        refine ⟨b, off, cs, rfl, hb, by rw [e5]; subst hc; omega, ?_⟩
        have : hi = lo := by omega
        subst this
        simp
      · refine ⟨b, off + lo * k, cs, by simp [addr_add], hb, by rw [e5]; omega, ?_⟩
        rw [← g6, List.drop_take, List.drop_drop, List.take_take]
        congr 1
        rw [e4]; omega
    · unfold Adv
      split
      · rfl
      · simp [ablk, addr_add]

theorem SV.made {e : TypeId} {n : Nat} (cs : Array Value) (hn : n ≤ maxLen) (hl : cs.toList.length = n * k) : SV (w.alloc (.cells cs e)) (some ⟨w.heap.size, 0, none⟩) n n k cs.toList :=
  ⟨hl, Nat.le_refl _, hn, .inr ⟨_, 0, _, rfl, Blk.new w cs e, by omega, by rw [List.drop_zero, ← hl, List.take_length]⟩⟩

end

/-! ### Ints -/
def SI (w : World) (a : Option Addr) (c : Nat) (xs : List Int) : Prop := SV w a xs.length c 1 (xs.map vi)

section
variable {w w' : World} {a : Option Addr} {c : Nat} {xs : List Int} {S : List Nat}

theorem SI.fr (h : SI w a c xs) (f : Fr S w w') (ha : Apart (ablk a) S) : SI w' a c xs := SV.fr h f ha
theorem SI.nil (w : World) : SI w none 0 [] := SV.nil w 1
theorem SI.low (h : SI w a c xs) : Low (ablk a) w.heap.size := SV.low h
theorem SI.le (h : SI w a c xs) : xs.length ≤ c ∧ c ≤ maxLen := ⟨h.2.1, h.2.2.1⟩

theorem SI.at (h : SI w a c xs) {i : Int} (h0 : 0 ≤ i) (h1 : i < (xs.length : Int)) : ∃ b off, a = some ⟨b, off, none⟩ ∧ w.cell? (Addr.add ⟨b, off, none⟩ (Int.toNat i * 1)) = some (.int .i64 (xs.getD i.toNat 0)) ∧ May w (Addr.add ⟨b, off, none⟩ (Int.toNat i * 1)) := by
  obtain ⟨b, off, rfl, h2⟩ := SV.at h (i := i.toNat) (by omega)
  obtain ⟨h3, h4⟩ := h2 0 (by omega)
  have e : ∀ p : Addr, Addr.add p 0 = p := fun p => by cases p; simp [Addr.add]
  rw [e] at h3 h4
  refine ⟨b, off, rfl, ?_, h4⟩
  rw [h3, Nat.mul_one, Nat.add_zero, List.getElem?_map, List.getD_eq_getElem?_getD]
  have hlt : i.toNat < xs.length := by omega
  simp [hlt]

/-- An element is read. -/
theorem SI.get (h : SI w a c xs) {i : Int} (h0 : 0 ≤ i) (h1 : i < (xs.length : Int)) {F : Addr → Prop}
    (hF : ∀ p, w.cell? (Addr.add p (Int.toNat i * 1)) = some (.int .i64 (xs.getD i.toNat 0)) → F p) : PtrOK a F := by
  obtain ⟨b, off, rfl, h2, _⟩ := h.at h0 h1
  exact hF _ h2

/-- An element is written. -/
theorem SI.put (h : SI w a c xs) {i : Int} (h0 : 0 ≤ i) (h1 : i < (xs.length : Int)) (n : Int) {F : Addr → Prop}
    (hF : ∀ p, May w (Addr.add p (Int.toNat i * 1)) → w.cell? (Addr.add p (Int.toNat i * 1)) = some (.int .i64 (xs.getD i.toNat 0)) →
      (∀ w', SetC w w' (Addr.add p (Int.toNat i * 1)) (.int .i64 n) → SI w' a c (xs.set i.toNat n) ∧ Fr (ablk a) w w') → F p) : PtrOK a F := by
  obtain ⟨b, off, rfl, h2, h3⟩ := h.at h0 h1
  have e : ∀ p : Addr, Addr.add p 0 = p := fun p => by cases p; simp [Addr.add]
  obtain ⟨g1, g2⟩ := SV.set h (i := i.toNat) (j := 0) rfl (by omega) (by omega) (.int .i64 n)
  rw [e] at g1 g2
  refine hF _ h3 h2 fun w' s => ?_
  unfold SetC at s
  subst s
  refine ⟨?_, g2⟩
  unfold SI
  rw [List.length_set, ← vi_set]
  simpa using g1

theorem SI.cut (h : SI w a c xs) {lo hi : Nat} (h1 : lo ≤ hi) (h2 : hi ≤ xs.length) : SI w (Adv a c lo 1) (c - lo) ((xs.drop lo).take (hi - lo)) ∧ ablk (Adv a c lo 1) = ablk a := by
  obtain ⟨g1, g2⟩ := SV.cut h h1 h2
  refine ⟨?_, g2⟩
  unfold SI
  rw [show ((xs.drop lo).take (hi - lo)).length = hi - lo from by simp; omega]
  rw [List.map_take, List.map_drop]
  simpa using g1
end

/-! ### Bools -/
@[reducible] def vb (b : Bool) : Value := .bool b
theorem vb_set (l : List Bool) (i : Nat) (n : Bool) : (l.map vb).set i (.bool n) = (l.set i n).map vb := by rw [List.map_set]
def SB (w : World) (a : Option Addr) (c : Nat) (xs : List Bool) : Prop := SV w a xs.length c 1 (xs.map vb)

section
variable {w w' : World} {a : Option Addr} {c : Nat} {xs : List Bool} {S : List Nat}

theorem SB.fr (h : SB w a c xs) (f : Fr S w w') (ha : Apart (ablk a) S) : SB w' a c xs := SV.fr h f ha
theorem SB.nil (w : World) : SB w none 0 [] := SV.nil w 1
theorem SB.low (h : SB w a c xs) : Low (ablk a) w.heap.size := SV.low h
theorem SB.le (h : SB w a c xs) : xs.length ≤ c ∧ c ≤ maxLen := ⟨h.2.1, h.2.2.1⟩

theorem SB.at (h : SB w a c xs) {i : Int} (h0 : 0 ≤ i) (h1 : i < (xs.length : Int)) : ∃ b off, a = some ⟨b, off, none⟩ ∧ w.cell? (Addr.add ⟨b, off, none⟩ (Int.toNat i * 1)) = some (.bool (xs.getD i.toNat false)) ∧ May w (Addr.add ⟨b, off, none⟩ (Int.toNat i * 1)) := by
  obtain ⟨b, off, rfl, h2⟩ := SV.at h (i := i.toNat) (by omega)
  obtain ⟨h3, h4⟩ := h2 0 (by omega)
  have e : ∀ p : Addr, Addr.add p 0 = p := fun p => by cases p; simp [Addr.add]
  rw [e] at h3 h4
  refine ⟨b, off, rfl, ?_, h4⟩
  rw [h3, Nat.mul_one, Nat.add_zero, List.getElem?_map, List.getD_eq_getElem?_getD]
  have hlt : i.toNat < xs.length := by omega
  simp [hlt]

/-- An element is read. -/
theorem SB.get (h : SB w a c xs) {i : Int} (h0 : 0 ≤ i) (h1 : i < (xs.length : Int)) {F : Addr → Prop}
    (hF : ∀ p, w.cell? (Addr.add p (Int.toNat i * 1)) = some (.bool (xs.getD i.toNat false)) → F p) : PtrOK a F := by
  obtain ⟨b, off, rfl, h2, _⟩ := h.at h0 h1
  exact hF _ h2

/-- An element is written. -/
theorem SB.put (h : SB w a c xs) {i : Int} (h0 : 0 ≤ i) (h1 : i < (xs.length : Int)) (n : Bool) {F : Addr → Prop}
    (hF : ∀ p, May w (Addr.add p (Int.toNat i * 1)) → w.cell? (Addr.add p (Int.toNat i * 1)) = some (.bool (xs.getD i.toNat false)) →
      (∀ w', SetC w w' (Addr.add p (Int.toNat i * 1)) (.bool n) → SB w' a c (xs.set i.toNat n) ∧ Fr (ablk a) w w') → F p) : PtrOK a F := by
  obtain ⟨b, off, rfl, h2, h3⟩ := h.at h0 h1
  have e : ∀ p : Addr, Addr.add p 0 = p := fun p => by cases p; simp [Addr.add]
  obtain ⟨g1, g2⟩ := SV.set h (i := i.toNat) (j := 0) rfl (by omega) (by omega) (.bool n)
  rw [e] at g1 g2
  refine hF _ h3 h2 fun w' s => ?_
  unfold SetC at s
  subst s
  refine ⟨?_, g2⟩
  unfold SB
  rw [List.length_set, ← vb_set]
  simpa using g1

theorem SB.cut (h : SB w a c xs) {lo hi : Nat} (h1 : lo ≤ hi) (h2 : hi ≤ xs.length) : SB w (Adv a c lo 1) (c - lo) ((xs.drop lo).take (hi - lo)) ∧ ablk (Adv a c lo 1) = ablk a := by
  obtain ⟨g1, g2⟩ := SV.cut h h1 h2
  refine ⟨?_, g2⟩
  unfold SB
  rw [show ((xs.drop lo).take (hi - lo)).length = hi - lo from by simp; omega]
  rw [List.map_take, List.map_drop]
  simpa using g1
end

/-! ### make -/
theorem made_list (z : Array Value) (n : Nat) (hz : 0 < z.toList.length) : (madeCells z (n * z.toList.length)).toList = (List.replicate n z.toList).flatten := by
  have := repL_range z.toList n hz
  unfold repL at this
  rw [← this]
  rfl

/-- A slice is made. -/
theorem make_c {P : Program} (t e : TypeId) (i : TypeInfo) (z : Value) (k : Nat) (ht : P.underlying t = some (.slice e)) (hi : P.info? e = some i) (hz : i.zero = some z) (hs : i.size = k) (hzs : z.cells.toList.length = k) (hk : 0 < k) (hk2 : k ≤ 64) (hb : i.bytes ≤ 1024)
    {w : World} {n : Int} (h0 : 0 ≤ n) (h1 : n ≤ 131072) (K : Option Addr → Nat → Nat → World → Prop)
    (hK : ∀ b w', SV w' (some ⟨b, 0, none⟩) n.toNat n.toNat k (List.replicate n.toNat z.cells.toList).flatten → (∀ S, Fr S w w') → w.heap.size ≤ b → K (some ⟨b, 0, none⟩) n.toNat n.toNat w') :
    RunF P (Instr.makeSlice t (.int .i64 n) (.int .i64 n)) w [.leaf .slice] K := by
  have h2 : n.toNat * i.size ≤ 16777216 := by rw [hs]; exact Nat.le_trans (Nat.mul_le_mul (show n.toNat ≤ 131072 by omega) hk2) (by decide)
  have h3 : (i.bytes : Int) * n ≤ 281474976710656 := by
    have : i.bytes * n.toNat ≤ 1024 * 131072 := Nat.mul_le_mul hb (by omega)
    have e : (i.bytes : Int) * n = ((i.bytes * n.toNat : Nat) : Int) := by rw [Int.natCast_mul, Int.toNat_of_nonneg h0]
    rw [e]; omega
  have hr := run_makeSlice (P := P) (w := w) t e i z ht hi hz .i64 .i64 n n h0 (Int.le_refl _) h2 h3 (by omega)
  refine ⟨[.slice (some ⟨w.heap.size, 0, none⟩) n.toNat n.toNat], _, hr, ?_⟩
  refine hK w.heap.size _ ?_ (fun S => Fr.alloc S w _) (Nat.le_refl _)
  have hm := made_list z.cells n.toNat (by omega)
  rw [hzs, ← hs] at hm
  rw [← hm]
  refine SV.made (k := k) (e := e) (n := n.toNat) _ (by unfold maxLen; omega) ?_
  rw [hm]
  simp [hzs]

theorem flat_one {α : Type} (n : Nat) (x : α) : (List.replicate n [x]).flatten = List.replicate n x := by
  induction n with
  | zero => rfl
  | succ n ih => simp [List.replicate_succ, ih]

theorem make_int {P : Program} (t e : TypeId) (i : TypeInfo) (ht : P.underlying t = some (.slice e)) (hi : P.info? e = some i) (hz : i.zero = some (.int .i64 0)) (hs : i.size = 1) (hb : i.bytes ≤ 1024)
    {w : World} {n : Int} (h0 : 0 ≤ n) (h1 : n ≤ 131072) (K : Option Addr → Nat → Nat → World → Prop)
    (hK : ∀ b w', SI w' (some ⟨b, 0, none⟩) n.toNat (List.replicate n.toNat 0) → (∀ S, Fr S w w') → w.heap.size ≤ b → K (some ⟨b, 0, none⟩) n.toNat n.toNat w') :
    RunF P (Instr.makeSlice t (.int .i64 n) (.int .i64 n)) w [.leaf .slice] K := by
  refine make_c t e i _ 1 ht hi hz hs rfl (by omega) (by omega) hb h0 h1 K (fun b w' g1 g2 g3 => hK b w' ?_ g2 g3)
  unfold SI
  rw [List.length_replicate, List.map_replicate]
  have := flat_one n.toNat (Value.int .i64 0)
  rw [← this]
  exact g1

theorem make_bool {P : Program} (t e : TypeId) (i : TypeInfo) (ht : P.underlying t = some (.slice e)) (hi : P.info? e = some i) (hz : i.zero = some (.bool false)) (hs : i.size = 1) (hb : i.bytes ≤ 1024)
    {w : World} {n : Int} (h0 : 0 ≤ n) (h1 : n ≤ 131072) (K : Option Addr → Nat → Nat → World → Prop)
    (hK : ∀ b w', SB w' (some ⟨b, 0, none⟩) n.toNat (List.replicate n.toNat false) → (∀ S, Fr S w w') → w.heap.size ≤ b → K (some ⟨b, 0, none⟩) n.toNat n.toNat w') :
    RunF P (Instr.makeSlice t (.int .i64 n) (.int .i64 n)) w [.leaf .slice] K := by
  refine make_c t e i _ 1 ht hi hz hs rfl (by omega) (by omega) hb h0 h1 K (fun b w' g1 g2 g3 => hK b w' ?_ g2 g3)
  unfold SB
  rw [List.length_replicate, List.map_replicate]
  have := flat_one n.toNat (Value.bool false)
  rw [← this]
  exact g1

/-! ### append -/
theorem cells_blk {w : World} {b off : Nat} {cs : List Value} (hb : Blk w b cs) {n : Nat} {xs : List Value} (h : (cs.drop off).take n = xs) : ∀ j u, xs[j]? = some u → w.cell? (Addr.add ⟨b, off, none⟩ j) = some u := by
  intro j u hj
  have hlt := (List.getElem?_eq_some_iff.1 hj).1
  rw [addr_add]
  exact hb.cell (by rw [getElem?_dt h hlt, hj])

section
variable {P : Program} {w : World} {a : Option Addr} {l c k m : Nat} {xs news : List Value} {t e : TypeId} {i : TypeInfo} {z : Value}

theorem oneCell_of {u : Value} (h : isCell u = true) : u.oneCell' = true := by cases u <;> simp_all [isCell, Value.oneCell']

theorem setCells_blk {b : Nat} : ∀ (news : List Value) (o : Nat) (w : World) (cs : List Value), Blk w b cs → o + news.length ≤ cs.length → Blk (w.setCells b o news) b (cs.take o ++ news ++ cs.drop (o + news.length)) ∧ Fr [b] w (w.setCells b o news)
  | [], o, w, cs, h, _ => by simpa [World.setCells] using ⟨h, Fr.refl _ _⟩
  | v :: r, o, w, cs, h, hl => by
    rw [List.length_cons] at hl
    obtain ⟨g1, g2⟩ := setCells_blk r (o + 1) (w.setCell ⟨b, o, none⟩ v) (cs.set o v) (h.set o v) (by rw [List.length_set]; omega)
    refine ⟨?_, (Fr.setCell w v (by simp)).more g2⟩
    have e1 : (cs.set o v).take (o + 1) = cs.take o ++ [v] := by
      rw [List.take_succ_eq_append_getElem (by rw [List.length_set]; omega), List.take_set_of_le (Nat.le_refl _)]
      simp
    have e2 : (cs.set o v).drop (o + 1 + r.length) = cs.drop (o + (v :: r).length) := by
      rw [List.drop_set, if_pos (by omega), List.length_cons]
      congr 1; omega
    rw [e1, e2] at g1
    simpa [World.setCells] using g1

theorem SV.of_owns {base : Nat} {v : Value} {n : Nat} {w' : World} (h : w'.ownsRow base e k v n xs) (hn : 0 < n) : ∃ a c, v = .slice a n c ∧ SV w' a n c k xs ∧ ∀ b ∈ ablk a, base ≤ b := by
  obtain ⟨h1, ⟨rfl, h2⟩ | ⟨g, cap, cur, rfl, h2, h3, h4, h5, h6, h7⟩⟩ := h
  · omega
  · refine ⟨_, _, rfl, ⟨h1, h4, h5, .inr ⟨g, 0, cur.toList, rfl, ⟨e, h3⟩, by simp [h6], by simpa using h7⟩⟩, by simpa [ablk] using h2⟩

theorem Fr.of_grown {w w' : World} {row : Option Nat} {S : List Nat} (h : w.grownBy w' row) (hs : ∀ k, row = some k → k ∈ S) : Fr S w w' :=
  ⟨h.os, h.tape, h.output, h.size, fun k hk hn => h.block k hk (fun e => hn (hs k e.symm))⟩

/-- One thing is appended, or more, that lie at an address. -/
theorem append_c (ht : P.underlying t = some (.slice e)) (hi : P.info? e = some i) (hz : i.zero = some z) (hs : i.size = k) (hzs : z.cells.size = k) (hk : 0 < k) (h : SV w a l c k xs)
    {p : Addr} {mc : Nat} (hm : 0 < m) (hl : news.length = m * k) (hnews : ∀ j u, news[j]? = some u → w.cell? (Addr.add p j) = some u) (h1 : ∀ u ∈ news, isCell u = true)
    (h63 : l + m ≤ 1048576) (hby : i.bytes ≤ 1048576) (ty : TypeId) {K : Option Addr → Nat → Nat → World → Prop}
    (hK : ∀ a' c' w', SV w' a' (l + m) c' k (xs ++ news) → Fr (ablk a) w w' → Grw (ablk a) (ablk a') w.heap.size → K a' (l + m) c' w') :
    RunF P (Builtin.append_ #[t, t] ty #[.slice a l c, .slice (some p) m mc]) w [.leaf .slice] K := by
  have hbytes : (l + m) * i.bytes ≤ 140737488355328 := Nat.le_trans (Nat.mul_le_mul h63 hby) (by decide)
  have hmax : l + m ≤ maxLen := Nat.le_trans h63 (by decide)
  have fin : ∀ (v' : Value) (w' : World), (Builtin.append_ #[t, t] ty #[.slice a l c, .slice (some p) m mc]).run P w = .ok v' w' → w'.ownsRow w.heap.size e k v' (l + m) (xs ++ news) → w.grownBy w' none →
      RunF P (Builtin.append_ #[t, t] ty #[.slice a l c, .slice (some p) m mc]) w [.leaf .slice] K := by
    intro v' w' hr ho hg
    obtain ⟨a', c', rfl, hsv, hb⟩ := SV.of_owns ho (by omega)
    exact ⟨[.slice a' (l + m) c'], w', hr, hK a' c' w' hsv (Fr.of_grown hg (by simp)) (fun b hb' => .inr (hb b hb'))⟩
  obtain ⟨g1, g2, g3, ⟨rfl, rfl⟩ | ⟨b, off, cs, rfl, hb, g5, g6⟩⟩ := id h
  · have : l = 0 := by omega
    subst this
    have hx : xs = [] := List.eq_nil_of_length_eq_zero (by simpa using g1)
    subst hx
    obtain ⟨v', w', hr, ho, hg, _⟩ := run_append_own_at (P := P) w w.heap.size t ty e i z k i.bytes ht hi hz hs rfl hzs hk (.slice none 0 0) 0 [] (World.ownsRow_nil w _ e k) p m mc news hl hnews (fun u hu => oneCell_of (h1 u hu)) hmax hbytes (Nat.le_refl _)
    exact fin v' w' hr ho hg
  · by_cases hroom : l + m ≤ c
    · have q1 : (l + m) * k ≤ c * k := Nat.mul_le_mul_right k hroom
      rw [Nat.add_mul] at q1
      have hr := run_append_room_cells (P := P) w t ty e i ht hi b off l c p m mc news (by rw [hs]; exact hl) hnews (fun u hu => oneCell_of (h1 u hu)) hroom
        (fun j hj => by obtain ⟨⟨v, hv⟩, _⟩ := hb.may (i := off + l * i.size + j) (by rw [hs]; omega); rw [hv]; rfl)
        (fun j hj => (hb.may (i := off + l * i.size + j) (by rw [hs]; omega)).2)
      rw [hs] at hr
      obtain ⟨q2, q3⟩ := setCells_blk news (off + l * k) w cs hb (by omega)
      refine ⟨[.slice (some ⟨b, off, none⟩) (l + m) c], _, hr, hK _ _ _ ⟨by rw [List.length_append, g1, hl, Nat.add_mul], hroom, g3, .inr ⟨b, off, _, rfl, q2, ?_, ?_⟩⟩ q3 (Grw.refl _ _)⟩
      · simp only [List.length_append, List.length_take, List.length_drop]
        omega
      · have e1 : (cs.take (off + l * k)).drop off = xs := by
          rw [List.drop_take, show off + l * k - off = l * k by omega, g6]
        rw [List.append_assoc, List.drop_append_of_le_length (by rw [List.length_take]; omega), e1, ← List.append_assoc]
        have : (l + m) * k = (xs ++ news).length := by rw [List.length_append, g1, hl, Nat.add_mul]
        rw [this, List.take_left]
    · obtain ⟨v', w', hr, ho, hg⟩ := run_append_arg_grows (P := P) w t ty e i z k i.bytes ht hi hz hs rfl hzs hk ⟨b, off, none⟩ l c xs g1 (cells_blk hb g6) p m mc news hl hnews (by omega) hmax hbytes
      exact fin v' w' hr ho hg

/-- What is appended stands in a new block. -/
theorem append_new (ht : P.underlying t = some (.slice e)) (hi : P.info? e = some i) (hz : i.zero = some z) (hs : i.size = k) (hzs : z.cells.size = k) (hk : 0 < k) (h : SV w a l c k xs)
    (cs : Array Value) (T : TypeId) {mc : Nat} (hm : 0 < m) (hl : cs.toList.length = m * k) (h1 : ∀ u ∈ cs.toList, isCell u = true)
    (h63 : l + m ≤ 1048576) (hby : i.bytes ≤ 1048576) (ty : TypeId) {K : Option Addr → Nat → Nat → World → Prop}
    (hK : ∀ a' c' w', SV w' a' (l + m) c' k (xs ++ cs.toList) → Fr (ablk a) w w' → Grw (ablk a) (ablk a') w.heap.size → K a' (l + m) c' w') :
    RunF P (Builtin.append_ #[t, t] ty #[.slice a l c, .slice (some ⟨w.heap.size, 0, none⟩) m mc]) (w.alloc (.cells cs T)) [.leaf .slice] K := by
  have f := Fr.alloc (ablk a) w (.cells cs T)
  refine append_c ht hi hz hs hzs hk (h.fr (Fr.alloc [] w (.cells cs T)) (by intro b _; simp)) hm hl ?_ h1 h63 hby ty (fun a' c' w' g1 g2 g3 => hK a' c' w' g1 (f.more g2) (fun b hb => (g3 b hb).imp id (fun h => Nat.le_trans f.size h)))
  intro j u hj
  rw [addr_add]
  exact (Blk.new w cs T).cell (by simpa using hj)

theorem append_int (ht : P.underlying t = some (.slice e)) (hi : P.info? e = some i) (hz : i.zero = some (.int .i64 0)) (hs : i.size = 1) {xs : List Int} (h : SI w a c xs) (n : Int) (T : TypeId)
    (h63 : xs.length + 1 ≤ 1048576) (hby : i.bytes ≤ 1048576) (ty : TypeId) {K : Option Addr → Nat → Nat → World → Prop}
    (hK : ∀ a' c' w', SI w' a' c' (xs ++ [n]) → Fr (ablk a) w w' → Grw (ablk a) (ablk a') w.heap.size → K a' (xs.length + 1) c' w') :
    RunF P (Builtin.append_ #[t, t] ty #[.slice a xs.length c, .slice (some ⟨w.heap.size, 0, none⟩) 1 1]) (w.alloc (.cells #[.int .i64 n] T)) [.leaf .slice] K := by
  refine append_new (m := 1) ht hi hz hs rfl (by omega) h #[.int .i64 n] T (by omega) rfl (by simp [isCell]) h63 hby ty (fun a' c' w' g1 g2 g3 => hK a' c' w' ?_ g2 g3)
  unfold SI
  simpa using g1
end

end Go.Proofs.Ytmlhdmnnijapjaa.V

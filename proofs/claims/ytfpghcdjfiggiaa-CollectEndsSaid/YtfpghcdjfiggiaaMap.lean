/- Maps with int keys. No condition. -/
import Derived.Test.YtfpghcdjfiggiaaMem
import Derived.MapKept
namespace Go.Proofs.Ytfpghcdjfiggiaa.V
open Go Go.RowKit

/-- A map's entry: key, value, stamp. -/
abbrev Ent := Int × Value × Nat
def toEnt (e : Ent) : MapEntry := { key := .int .i64 e.1, val := e.2.1, born := e.2.2 }

/-- Block b is a map of these entries. -/
structure MI (w : World) (b : Nat) (m : List Ent) (clk : Nat) : Prop where
  heap : w.heap[b]? = some (.map (m.map toEnt).toArray clk)
  nodup : (m.map (·.1)).Nodup
  lt : ∀ e ∈ m, e.2.2 < clk
  born : (m.map (·.2.2)).Nodup

def mfind (m : List Ent) (k : Int) : Option Ent := m.find? (fun p => k == p.1)
def mget (m : List Ent) (k : Int) : Option Value := (mfind m k).map (·.2.1)
def mdel (m : List Ent) (k : Int) : List Ent := m.filter (fun p => !(k == p.1))
def mput (m : List Ent) (k : Int) (v : Value) : List Ent := m.map (fun p => if k == p.1 then (p.1, v, p.2.2) else p)

theorem MI.fr {w w' : World} {b : Nat} {m : List Ent} {clk : Nat} {S : List Nat} (h : MI w b m clk) (f : Fr S w w') (hb : b ∉ S) : MI w' b m clk :=
  ⟨by rw [f.same b (heap_lt h.heap) hb, h.heap], h.nodup, h.lt, h.born⟩

/-- Where the key is found. -/
theorem findNow_eq (k : Int) : ∀ (m : List Ent) (i : Nat), Instr.findNow (.int .i64) (.int .i64 k) (m.map toEnt) i =
    some (match m.findIdx? (fun p => k == p.1) with | some j => some (i + j, (m.map (·.2.1)).getD j undef) | none => none) := by
  intro m
  induction m with
  | nil => intro i; rfl
  | cons p m ih =>
    intro i
    simp only [List.map_cons, Instr.findNow, toEnt, Instr.sameNow, if_true, List.findIdx?_cons]
    by_cases h : (k == p.1) = true
    · simp [h]
    · simp only [Bool.not_eq_true] at h
      simp only [h]
      rw [ih (i + 1)]
      cases hf : m.findIdx? (fun p => k == p.1) with
      | none => simp
      | some j =>
        simp
        omega

section
variable {P : Program} {w : World} {b : Nat} {m : List Ent} {clk : Nat} {t kt et : TypeId}

theorem run_findKey (hk : P.underlying kt = some (.int .i64)) (k : Int) :
    (Instr.findKey kt (.int .i64 k) (m.map toEnt)).run P w = .ok (match m.findIdx? (fun p => k == p.1) with | some j => some (j, (m.map (·.2.1)).getD j undef) | none => none) w := by
  unfold Instr.findKey
  rw [Sem.run_bind, run_underlying hk]
  simp only [Result.andThen_ok, findNow_eq, Nat.zero_add]
  rfl

theorem run_check (hk : P.underlying kt = some (.int .i64)) (k : Int) (e : Bool) : (Instr.checkKey e 10000 kt (.int .i64 k)).run P w = .ok () w := by
  unfold Instr.checkKey
  rw [Sem.run_bind, run_underlying hk]
  rfl

theorem len_map (h : MI w b m clk) (ht : P.underlying t = some (.map kt et)) (ty : TypeId) {K : Int → World → Prop} (hK : K (m.length : Int) w) :
    RunF P (Builtin.len_ #[t] ty #[.map (some b)]) w [.leaf (.int .i64)] K := by
  refine ⟨[.int .i64 (m.length : Int)], w, ?_, hK⟩
  have hg := MapKept.run_getObj_map (P := P) h.heap
  simp [Builtin.len_, run_underlying ht, hg, goInt]
  rfl

theorem find_get (k : Int) : ∀ m : List Ent, (match m.findIdx? (fun p => k == p.1) with | some j => some ((m.map (·.2.1)).getD j undef) | none => none) = mget m k := by
  intro m
  induction m with
  | nil => rfl
  | cons p m ih =>
    unfold mget mfind at ih ⊢
    rw [List.findIdx?_cons, List.find?_cons]
    by_cases h : (k == p.1) = true
    · simp [h]
    · simp only [Bool.not_eq_true] at h
      simp only [h, Bool.false_eq_true, if_false]
      rw [← ih]
      cases m.findIdx? (fun p => k == p.1) <;> simp

/-- What a lookup reads. -/
theorem run_lookup (h : MI w b m clk) (ht : P.underlying t = some (.map kt et)) (hk : P.underlying kt = some (.int .i64)) (i : TypeInfo) (z : Value) (hi : P.info? et = some i) (hz : i.zero = some z) (k : Int) (ok : Bool) :
    (Instr.lookup t (.map (some b)) (.int .i64 k) ok).run P w = .ok (if ok then .tuple #[(mget m k).getD z, .bool (mget m k).isSome] else (mget m k).getD z) w := by
  have hg := MapKept.run_getObj_map (P := P) h.heap
  have hc := run_check (w := w) hk k (m.map toEnt).toArray.isEmpty
  have hf := run_findKey (w := w) (m := m) hk k
  have hm := find_get k m
  unfold Instr.lookup
  simp only [Sem.run_bind, run_underlying ht, Result.andThen_ok, hg, Sem.run_pure, hc, hf]
  cases hx : m.findIdx? (fun p => k == p.1) with
  | none =>
    rw [hx] at hm
    simp only at hm
    rw [← hm]
    simp [zeroValue, typeInfo, hi, hz]
  | some j =>
    rw [hx] at hm
    simp only at hm
    rw [← hm]
    simp

theorem MI.put {w' : World} {m' : List Ent} {clk' : Nat} (hw : w' = { w with heap := w.heap.setIfInBounds b (.map (m'.map toEnt).toArray clk') }) (hb : b < w.heap.size)
    (h1 : (m'.map (·.1)).Nodup) (h2 : ∀ e ∈ m', e.2.2 < clk') (h3 : (m'.map (·.2.2)).Nodup) : MI w' b m' clk' ∧ Fr [b] w w' := by
  subst hw
  refine ⟨⟨by simp [hb], h1, h2, h3⟩, ⟨rfl, rfl, rfl, by simp, fun k hk hn => ?_⟩⟩
  simp only [List.mem_singleton] at hn
  simp only [Array.getElem?_setIfInBounds]
  rw [if_neg (fun h => hn h.symm)]

theorem mput_keys (k : Int) (v : Value) (m : List Ent) : (mput m k v).map (·.1) = m.map (·.1) := by
  unfold mput
  rw [List.map_map]
  refine List.map_congr_left fun p _ => ?_
  simp only [Function.comp]
  split <;> rfl
theorem mput_borns (k : Int) (v : Value) (m : List Ent) : (mput m k v).map (·.2.2) = m.map (·.2.2) := by
  unfold mput
  rw [List.map_map]
  refine List.map_congr_left fun p _ => ?_
  simp only [Function.comp]
  split <;> rfl

theorem mput_absent (k : Int) (v : Value) (m : List Ent) (h : k ∉ m.map (·.1)) : mput m k v = m := by
  unfold mput
  conv => rhs; rw [← List.map_id m]
  refine List.map_congr_left fun p hp => ?_
  have : k ≠ p.1 := fun e => h (List.mem_map.2 ⟨p, hp, e.symm⟩)
  simp [this]

theorem modify_put (k : Int) (v : Value) : ∀ (m : List Ent) (j : Nat), (m.map (·.1)).Nodup → m.findIdx? (fun p => k == p.1) = some j →
    (m.map toEnt).modify j (fun e => { e with key := .int .i64 k, val := v }) = (mput m k v).map toEnt ∧ ((m.map toEnt)[j]?).map (·.key) = some (.int .i64 k) := by
  intro m
  induction m with
  | nil => intro j _ h; simp at h
  | cons p m ih =>
    intro j hn h
    rw [List.findIdx?_cons] at h
    rw [List.map_cons, List.nodup_cons] at hn
    by_cases hp : (k == p.1) = true
    · rw [if_pos hp] at h
      simp only [Option.some.injEq] at h
      subst h
      have e : k = p.1 := by simpa using hp
      have hm : mput (p :: m) k v = (p.1, v, p.2.2) :: m := by
        have := mput_absent k v m (by rw [e]; exact hn.1)
        unfold mput at this ⊢
        rw [List.map_cons, if_pos hp, this]
      rw [hm]
      constructor
      · simp [toEnt, e]
      · simp [toEnt, e]
    · rw [if_neg hp] at h
      simp only [Option.map_eq_some_iff] at h
      obtain ⟨j', h1, rfl⟩ := h
      obtain ⟨a1, a2⟩ := ih j' hn.2 h1
      have hm : mput (p :: m) k v = p :: mput m k v := by
        unfold mput
        rw [List.map_cons, if_neg hp]
      rw [hm]
      constructor
      · simp only [List.map_cons, List.modify_succ_cons, a1]
      · simpa using a2

/-- An update. -/
theorem run_update (h : MI w b m clk) (ht : P.underlying t = some (.map kt et)) (hk : P.underlying kt = some (.int .i64)) (k : Int) (v : Value) :
    ∃ w' m' clk', (Instr.mapUpdate t (.map (some b)) (.int .i64 k) v).run P w = .ok () w' ∧ MI w' b m' clk' ∧ Fr [b] w w' ∧
      ((mget m k ≠ none ∧ m' = mput m k v ∧ clk' = clk) ∨ (mget m k = none ∧ m' = m ++ [(k, v, clk)] ∧ clk' = clk + 1)) := by
  have hg := MapKept.run_getObj_map (P := P) h.heap
  have hc := run_check (w := w) hk k false
  have hf := run_findKey (w := w) (m := m) hk k
  have hm := find_get k m
  have hb := heap_lt h.heap
  cases hx : m.findIdx? (fun p => k == p.1) with
  | none =>
    rw [hx] at hm hf
    simp only at hm hf
    have hno : k ∉ m.map (·.1) := by
      intro hmem
      obtain ⟨p, hp, e⟩ := List.mem_map.1 hmem
      rw [List.findIdx?_eq_none_iff] at hx
      have := hx p hp
      simp [e] at this
    obtain ⟨g1, g2⟩ := MI.put (w := w) (b := b) (m' := m ++ [(k, v, clk)]) (clk' := clk + 1) rfl hb
      (by rw [List.map_append, List.nodup_append]; exact ⟨h.nodup, by simp, fun a ha c hc e => by simp at hc; subst hc; subst e; exact hno ha⟩)
      (by intro e he; rcases List.mem_append.1 he with he | he; · have := h.lt e he; omega
          · simp at he; subst he; simp)
      (by rw [List.map_append, List.nodup_append]; refine ⟨h.born, by simp, fun a ha c hc e => ?_⟩; simp at hc; subst hc; subst e; obtain ⟨p, hp, e⟩ := List.mem_map.1 ha; have := h.lt p hp; omega)
    refine ⟨_, _, _, ?_, g1, g2, .inr ⟨hm.symm, rfl, rfl⟩⟩
    have hs := MapKept.run_setObj_map (P := P) (.map ((m ++ [(k, v, clk)]).map toEnt).toArray (clk + 1)) h.heap
    unfold Instr.mapUpdate
    simp only [Sem.run_bind, run_underlying ht, Result.andThen_ok, hg, hc, hf]
    rw [← hs]
    congr 2
    simp [toEnt]
  | some j =>
    rw [hx] at hm hf
    simp only at hm hf
    obtain ⟨a1, a2⟩ := modify_put k v m j h.nodup hx
    obtain ⟨g1, g2⟩ := MI.put (w := w) (b := b) (m' := mput m k v) (clk' := clk) rfl hb (by rw [mput_keys]; exact h.nodup)
      (by intro e he; have : e.2.2 ∈ (mput m k v).map (·.2.2) := List.mem_map.2 ⟨e, he, rfl⟩
          rw [mput_borns] at this; obtain ⟨p, hp, e1⟩ := List.mem_map.1 this; rw [← e1]; exact h.lt p hp)
      (by rw [mput_borns]; exact h.born)
    refine ⟨_, _, _, ?_, g1, g2, .inl ⟨by rw [← hm]; simp, rfl, rfl⟩⟩
    have hs := MapKept.run_setObj_map (P := P) (.map ((mput m k v).map toEnt).toArray clk) h.heap
    have hkk : (Instr.keyThatStays ((((m.map toEnt).toArray[j]?).map (·.key)).getD (.int .i64 k)) (.int .i64 k)).run P w = .ok (.int .i64 k) w := by
      rw [List.getElem?_toArray, a2]
      unfold Instr.keyThatStays
      have : Instr.sameBits 10000 (.int .i64 k) (.int .i64 k) = true := by simp [Instr.sameBits]
      simp [this]
    unfold Instr.mapUpdate
    simp only [Sem.run_bind, run_underlying ht, Result.andThen_ok, hg, hc, hf, hkk]
    rw [← hs, ← a1]
    congr 2
    simp

theorem mdel_absent (k : Int) (m : List Ent) (h : k ∉ m.map (·.1)) : mdel m k = m := by
  unfold mdel
  rw [List.filter_eq_self]
  intro p hp
  have : k ≠ p.1 := fun e => h (List.mem_map.2 ⟨p, hp, e.symm⟩)
  simp [this]

theorem erase_del (k : Int) : ∀ (m : List Ent) (j : Nat), (m.map (·.1)).Nodup → m.findIdx? (fun p => k == p.1) = some j → (m.map toEnt).eraseIdx j = (mdel m k).map toEnt := by
  intro m
  induction m with
  | nil => intro j _ h; simp at h
  | cons p m ih =>
    intro j hn h
    rw [List.findIdx?_cons] at h
    rw [List.map_cons, List.nodup_cons] at hn
    by_cases hp : (k == p.1) = true
    · rw [if_pos hp] at h
      simp only [Option.some.injEq] at h
      subst h
      have e : k = p.1 := by simpa using hp
      have hm : mdel (p :: m) k = m := by
        have := mdel_absent k m (by rw [e]; exact hn.1)
        unfold mdel at this ⊢
        rw [List.filter_cons]
        simp [hp, this]
      rw [hm]
      rfl
    · rw [if_neg hp] at h
      simp only [Option.map_eq_some_iff] at h
      obtain ⟨j', h1, rfl⟩ := h
      have a1 := ih j' hn.2 h1
      have hm : mdel (p :: m) k = p :: mdel m k := by
        unfold mdel
        rw [List.filter_cons]
        simp [hp]
      rw [hm]
      simp only [List.map_cons, List.eraseIdx_cons_succ, a1]

theorem mdel_sub (k : Int) (m : List Ent) {α : Type} (f : Ent → α) : ((mdel m k).map f).Sublist (m.map f) := List.Sublist.map f List.filter_sublist

/-- A deletion. -/
theorem run_delete (h : MI w b m clk) (ht : P.underlying t = some (.map kt et)) (hk : P.underlying kt = some (.int .i64)) (k : Int) (ty : TypeId) :
    ∃ w', (Builtin.delete_ #[t, kt] ty #[.map (some b), .int .i64 k]).run P w = .ok (.tuple #[]) w' ∧ MI w' b (mdel m k) clk ∧ Fr [b] w w' := by
  have hg := MapKept.run_getObj_map (P := P) h.heap
  have hc := fun e => run_check (w := w) hk k e
  have hf := run_findKey (w := w) (m := m) hk k
  have hb := heap_lt h.heap
  obtain ⟨g1, g2⟩ := MI.put (w := w) (b := b) (m' := mdel m k) (clk' := clk) rfl hb (h.nodup.sublist (mdel_sub k m _)) (fun e he => h.lt e (List.mem_filter.1 he).1) (h.born.sublist (mdel_sub k m _))
  have hs := MapKept.run_setObj_map (P := P) (.map ((mdel m k).map toEnt).toArray clk) h.heap
  cases hx : m.findIdx? (fun p => k == p.1) with
  | none =>
    rw [hx] at hf
    simp only at hf
    have hno : k ∉ m.map (·.1) := by
      intro hmem
      obtain ⟨p, hp, e⟩ := List.mem_map.1 hmem
      rw [List.findIdx?_eq_none_iff] at hx
      have := hx p hp
      simp [e] at this
    rw [mdel_absent k m hno] at *
    refine ⟨_, ?_, g1, g2⟩
    unfold Builtin.delete_
    simp [run_underlying ht, hg, hc, hf, hs]
  | some j =>
    rw [hx] at hf
    simp only at hf
    have a1 := erase_del k m j h.nodup hx
    rw [← a1] at hs
    refine ⟨_, ?_, g1, g2⟩
    rw [← a1]
    have he : (m.map toEnt).toArray.eraseIdxIfInBounds j = ((m.map toEnt).eraseIdx j).toArray := by simp
    unfold Builtin.delete_
    simp [run_underlying ht, hg, hc, hf, hs, he]
end

end Go.Proofs.Ytfpghcdjfiggiaa.V

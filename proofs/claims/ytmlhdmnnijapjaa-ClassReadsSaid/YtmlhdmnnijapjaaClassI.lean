/- The document's reader: loops that gather in a field. No condition. -/
import Derived.Test.YtmlhdmnnijapjaaClassH
import Derived.Test.YtmlhdmnnijapjaaClassL
namespace Go.Proofs.Ytmlhdmnnijapjaa.V
open Go Go.RowKit Go.Proofs.Ytmlhdmnnijapjaa.WirePlain

section
variable {rb : Nat} {s : ByteArray} {w w' : World} {st : St} {α : Type}

/-- A thing that is being read: its reader, its place, and where it is handed back. -/
structure EnvR (w0 w : World) (rb b1 b3 : Nat) (z cs : List Value) (s : ByteArray) (st : St) : Prop where
  f : Fr [rb] w0 w
  R : RefW w rb s st
  Z : Blk w b1 z
  M : Blk w b3 cs
  d : w0.heap.size ≤ b1 ∧ w0.heap.size ≤ b3 ∧ b1 ≠ b3 ∧ rb ≠ b1 ∧ rb ≠ b3

theorem EnvR.call {w0 : World} {b1 b3 : Nat} {z cs : List Value} {st' : St} (h : EnvR w0 w rb b1 b3 z cs s st) (R : RefW w' rb s st') (f : Fr [rb] w w') : EnvR w0 w' rb b1 b3 z cs s st' := by
  have d := h.d
  exact ⟨h.f.more f, R, h.Z.fr f (by simp; omega), h.M.fr f (by simp; omega), h.d⟩
theorem EnvR.fr {w0 : World} {b1 b3 : Nat} {z cs : List Value} {S : List Nat} (h : EnvR w0 w rb b1 b3 z cs s st) (f : Fr S w w') (hS : ∀ b ∈ S, rb < b ∧ b1 < b ∧ b3 < b) : EnvR w0 w' rb b1 b3 z cs s st := by
  have d := h.d
  exact ⟨h.f.trans f (fun b hb => .inr (by have := hS b hb; omega)), h.R.fr f (fun hb => by have := hS _ hb; omega), h.Z.fr f (fun hb => by have := hS _ hb; omega), h.M.fr f (fun hb => by have := hS _ hb; omega), h.d⟩
theorem EnvR.set {w0 : World} {b1 b3 : Nat} {z cs : List Value} {i : Nat} {v : Value} (h : EnvR w0 w rb b1 b3 z cs s st) (c : SetC w w' ⟨b3, i, none⟩ v) : EnvR w0 w' rb b1 b3 z (cs.set i v) s st := by
  have d := h.d
  have f : Fr [b3] w w' := c.fr (by simp)
  exact ⟨h.f.trans f (by simp; omega), h.R.fr f (by simp; omega), h.Z.fr f (by simp; omega), c.blk h.M, h.d⟩
theorem EnvR.lt {w0 : World} {b1 b3 : Nat} {z cs : List Value} (h : EnvR w0 w rb b1 b3 z cs s st) : rb < w.heap.size ∧ b1 < w.heap.size ∧ b3 < w.heap.size := ⟨h.R.lt, h.Z.lt, h.M.lt⟩
theorem EnvR.g {w0 : World} {b1 b3 : Nat} {z cs : List Value} {i : Nat} {v : Value} (_ : EnvR w0 w rb b1 b3 z cs s st) (c : SetC w w' ⟨b3, i, none⟩ v) : Fr [rb, b1, b3] w w' := c.fr (by simp)
theorem rcall {b1 b3 : Nat} (f : Fr [rb] w w') : Fr [rb, b1, b3] w w' := f.mono (by simp)

/-- A piece that was read stays. -/
theorem EnvR.keep {R : (Nat → Prop) → Prop → World → List Value → α → Prop} (hR : Rel1 R) {w0 w1 : World} {b1 b3 : Nat} {z cs : List Value} (h : EnvR w0 w rb b1 b3 z cs s st) {k : Nat} {a : Option Addr} {l : Nat} {xs : List α}
    (g : rSeq (fun b => w.heap.size ≤ b) True w1 k (R (fun b => w.heap.size ≤ b) True w1) a l xs) (f : Fr [rb, b1, b3] w1 w') : rSeq (fun b => w0.heap.size ≤ b) True w' k (R (fun b => w0.heap.size ≤ b) True w') a l xs := by
  have d := h.d
  have lt := h.lt
  have hz := h.f.size
  refine rel_seq hR g (SameU.of_fr f fun b hb hm => ?_) f.size fun b hb _ => Nat.le_trans hz hb
  simp at hm
  omega

/-- A thing is put behind the slice in a field. -/
def App7 (b3 j : Nat) (t : TypeId) (row : List Value) (w : World) (T : TypeId) (J : World → Prop) : Prop :=
  ∃ (a : Option Addr) (l c : Nat), World.cell? w ⟨b3, j, none⟩ = some (.slice a l c) ∧ ∀ (b : Nat) (w2 : World), NewAt w w2 b row.toArray T →
    RunF Try.prog (Builtin.append_ #[t, t] t #[.slice a l c, .slice (some ⟨b, 0, none⟩) 1 1]) w2 [.leaf .slice] fun (a' : Option Addr) (l' c' : Nat) (w3 : World) =>
    May w3 ⟨b3, j, none⟩ ∧ ∀ w4 : World, SetC w3 w4 ⟨b3, j, none⟩ (.slice a' l' c') → J w4

theorem loopB {R : (Nat → Prop) → Prop → World → List Value → α → Prop} (hR : Rel1 R) {one : Int → Rs α} {kk : Nat} (hk : 0 < kk)
    {t e T : TypeId} {ti : TypeInfo} {zv : Value} (ht : Try.prog.underlying t = some (.slice e)) (hi : Try.prog.info? e = some ti) (hz : ti.zero = some zv) (hs : ti.size = kk) (hzs : zv.cells.size = kk) (hby : ti.bytes ≤ 1048576)
    (body : World → (World → Prop) → Prop) {w0 w5 : World} {b1 b3 j : Nat} {z cs : List Value} {st1 : St} (E5 : EnvR w0 w5 rb b1 b3 z cs s st1) (hj : cs[j]? = some (.slice none 0 0))
    (hbody : ∀ w p cs' J, EnvR w0 w rb b1 b3 z cs' s (.ok p) → w5.heap.size ≤ w.heap.size → (∀ x st' row w', Stp one (.ok p) x st' → EnvR w0 w' rb b1 b3 z cs' s st' → Fr [rb] w w' → (∀ q, st' = .ok q → R (fun b => w.heap.size ≤ b) True w' row x) → row.length = kk → (∀ u ∈ row, isCell u = true) → App7 b3 j t row w' T J) → body w J)
    {n : Int} (hn : ∀ q, st1 = .ok q → 0 ≤ n ∧ n ≤ 1000) {E : World → Prop}
    (hE : ∀ xs st' a l c w', Stp (fun q => repD one n.toNat q) st1 xs st' → EnvR w0 w' rb b1 b3 z (cs.set j (.slice a l c)) s st' → Fr [rb, b1, b3] w5 w' → (∀ q, st' = .ok q → l = xs.length ∧ rSeq (fun b => w5.heap.size ≤ b) True w' kk (R (fun b => w5.heap.size ≤ b) True w') a l xs) → E w') :
    ∃ (I : Int → World → Prop) (m : Int → World → Nat), I 0 w5 ∧ ∀ (_ : Env) (n9 : Int) (w10 : World), I n9 w10 →
      IfB (decide ((n9 : Int) < n)) (∃ n8 : Int, World.cell? w10 ⟨rb, 2, none⟩ = some (.int .i64 n8) ∧ IfB (decide ((n8 : Int) = 0))
        (body w10 fun w48 => Fit .i64 (n9 + 1) ∧ (I (n9 + 1) w48 ∧ m (n9 + 1) w48 < m n9 w10)) (E w10)) (E w10) := by
  have d := E5.d
  have hb3 := E5.lt
  have hjl : j < cs.length := (List.getElem?_eq_some_iff.1 hj).1
  have hset : cs.set j (.slice none 0 0) = cs := by
    apply List.ext_getElem?
    intro i
    rw [List.getElem?_set]
    split
    · rename_i h; subst h; first | rw [if_pos hjl, hj] | rw [hj]
    · rfl
  refine ⟨fun i w' => ∃ st' a l c, EnvR w0 w' rb b1 b3 z (cs.set j (.slice a l c)) s st' ∧ Fr [rb, b1, b3] w5 w' ∧ (∀ p, st' = .ok p → ∃ q, st1 = .ok q) ∧ LSt R one w5.heap.size kk n (tgt one n st1) w' st' a l c i, fun i _ => (n - i).toNat,
    ⟨st1, none, 0, 0, by rw [hset]; exact E5, Fr.refl _ _, fun p h => ⟨p, h⟩, LSt.start fun q hq => (hn q hq).1⟩, ?_⟩
  rintro - i w10 ⟨st', a, l, c, E10, f10, hst, L⟩
  have fin : (i < n → ∃ e, st' = .error e) → E w10 := fun hend => by
    obtain ⟨xs, hS, hL⟩ := L.done hR hk hend
    exact hE xs st' a l c w10 hS E10 f10 hL
  refine IfB.dec (fun hlt => ?_) (fun hge => fin fun h => absurd h hge)
  obtain ⟨n8, hn8, hz8, hnz⟩ := E10.R.code
  refine ⟨n8, hn8, IfB.dec (fun h0 => ?_) (fun h0 => fin fun _ => hnz h0)⟩
  obtain ⟨p, rfl⟩ := hz8 h0
  obtain ⟨j0, j1, _⟩ := L.step
  obtain ⟨q1, rfl⟩ := hst p rfl
  have hnn := (hn q1 rfl).2
  refine hbody w10 p _ _ E10 f10.size fun x st'' row w13 hS E13 f13 hx hrow hc => ?_
  refine ⟨a, l, c, E13.M.cell (by rw [List.getElem?_set, if_pos rfl, if_pos hjl]), fun b w45 nb => ?_⟩
  refine L.app hR hk hlt hnn hS f13 (by simp; omega) f10.size hx hrow hc ht hi hz hs hzs hby nb fun a' l' c' w47 L' f' up => ?_
  have E47 := E13.fr f' fun b hb => by have := up b hb; omega
  refine ⟨E47.M.may (by rw [List.length_set]; exact hjl), fun w48 s48 => ?_⟩
  have E48 := E47.set s48
  rw [List.set_set] at E48
  have f48 : Fr [b3] w47 w48 := s48.fr (by simp)
  refine ⟨fit64 (by omega) (by omega), ⟨st'', a', l', c', E48, ((f10.more (rcall f13)).trans f' fun b hb => .inr (up b hb)).more (f48.mono (by simp)), fun _ _ => ⟨q1, rfl⟩, L'.fr hR f48 (by simp; omega)⟩, by (try dsimp only); omega⟩
end
end Go.Proofs.Ytmlhdmnnijapjaa.V

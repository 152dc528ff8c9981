/- Programs in memory: rows of cells, and what they stand for; read only. No condition. -/
import Derived.Test.YtmlhdmnnijapjaaClassP
import Derived.Test.YtmlhdmnnijapjaaArgs
import Derived.Test.YtmlhdmnnijapjaaRec
namespace Go.Proofs.Ytmlhdmnnijapjaa.V
open Go Go.RowKit

/-- The blocks of U are as they were. -/
def SameU (U : Nat → Prop) (w w' : World) : Prop := ∀ b, U b → b < w.heap.size → w'.heap[b]? = w.heap[b]?

theorem SameU.of_fr {U : Nat → Prop} {w w' : World} {S : List Nat} (f : Fr S w w') (h : ∀ b, U b → b ∉ S) : SameU U w w' := fun b hb hl => f.same b hl (h b hb)
theorem SameU.cell {U : Nat → Prop} {w w' : World} (h : SameU U w w') {p : Addr} {v : Value} (hp : U p.block) (hc : w.cell? p = some v) : w'.cell? p = some v := by
  rw [World.cell?_of_block (h _ hp (cell_low hc))]; exact hc
theorem SameU.may {U : Nat → Prop} {w w' : World} (h : SameU U w w') {p : Addr} (hp : U p.block) (hm : May w p) : May w' p := by
  obtain ⟨⟨v, hv⟩, hf⟩ := hm
  refine ⟨⟨v, h.cell hp hv⟩, ?_⟩
  rw [World.frozen?_of_block (h _ hp (cell_low hv))]; exact hf

/-- Things in a row, of k cells each; R: what the cells of one stand for; U: the blocks they lie in; m: may they be written? -/
def rSeq {α : Type} (U : Nat → Prop) (m : Prop) (w : World) (k : Nat) (R : List Value → α → Prop) (a : Option Addr) (l : Nat) (xs : List α) : Prop :=
  l = xs.length ∧ ∀ i x, xs[i]? = some x → ∃ p vs, a = some p ∧ U p.block ∧ p.block < w.heap.size ∧ vs.length = k ∧ CellsAt w (Addr.add p (i * k)) vs ∧ (m → MayL w (Addr.add p (i * k)) k) ∧ R vs x

section
variable {α : Type} {U U' : Nat → Prop} {m : Prop} {w w' : World} {k : Nat} {R R' : List Value → α → Prop} {a : Option Addr} {l : Nat} {xs : List α}

theorem CellsAt.same {p : Addr} {vs : List Value} (h : CellsAt w p vs) (hS : SameU U w w') (hp : U p.block) : CellsAt w' p vs := fun i v hv => hS.cell (by rw [add_blk]; exact hp) (h i v hv)
theorem MayL.same {p : Addr} {n : Nat} (h : MayL w p n) (hS : SameU U w w') (hp : U p.block) : MayL w' p n := fun i hi => hS.may (by rw [add_blk]; exact hp) (h i hi)

theorem rSeq.same (h : rSeq U m w k R a l xs) (hS : SameU U w w') (hz : w.heap.size ≤ w'.heap.size) (hR : ∀ vs x, R vs x → R' vs x) : rSeq U m w' k R' a l xs := by
  refine ⟨h.1, fun i x hx => ?_⟩
  obtain ⟨p, vs, h1, h2, h3, h4, h5, h6, h7⟩ := h.2 i x hx
  exact ⟨p, vs, h1, h2, Nat.lt_of_lt_of_le h3 hz, h4, h5.same hS (by rw [add_blk]; exact h2), fun hm => (h6 hm).same hS (by rw [add_blk]; exact h2), hR _ _ h7⟩

theorem rSeq.mono (h : rSeq U m w k R a l xs) (hU : ∀ b, U b → b < w.heap.size → U' b) (hR : ∀ vs x, R vs x → R' vs x) : rSeq U' m w k R' a l xs := by
  refine ⟨h.1, fun i x hx => ?_⟩
  obtain ⟨p, vs, h1, h2, h3, h4, h5, h6, h7⟩ := h.2 i x hx
  exact ⟨p, vs, h1, hU _ h2 h3, h3, h4, h5, h6, hR _ _ h7⟩

theorem rSeq.nil : rSeq U m w k R a 0 [] := ⟨rfl, fun i x hx => by simp at hx⟩

theorem rSeq.get (h : rSeq U m w k R a l xs) {i : Int} (h0 : 0 ≤ i) (h1 : i < (xs.length : Int)) {F : Addr → Prop}
    (hF : ∀ p x vs, xs[i.toNat]? = some x → vs.length = k → U p.block → CellsAt w (Addr.add p (Int.toNat i * k)) vs → (m → MayL w (Addr.add p (Int.toNat i * k)) k) → R vs x → F p) : PtrOK a F := by
  have hlt : i.toNat < xs.length := by omega
  obtain ⟨p, vs, rfl, h2, h3, h4, h5, h6, h7⟩ := h.2 i.toNat _ (List.getElem?_eq_getElem hlt)
  exact hF p _ vs (List.getElem?_eq_getElem hlt) h4 h2 h5 h6 h7
end

def RInt (vs : List Value) (x : Int) : Prop := vs = [.int .i64 x]
def RIns (vs : List Value) (x : Ins) : Prop := vs = [.int .i64 x.op, .int .i64 x.a, .int .i64 x.b]
def RHnd (vs : List Value) (x : Hnd) : Prop := vs = [.int .i64 x.lo, .int .i64 x.hi, .int .i64 x.pl, .int .i64 x.cl]
def RFld (vs : List Value) (x : Fld) : Prop := vs = [.string x.name, .int .i64 x.ty]
def RMpe (U : Nat → Prop) (m : Prop) (w : World) (vs : List Value) (x : Mpe) : Prop := ∃ a1 l1 c1 a2 l2 c2, vs = [.int .i64 x.pl, .slice a1 l1 c1, .slice a2 l2 c2] ∧ rSeq U m w 1 RInt a1 l1 x.ls ∧ rSeq U m w 1 RInt a2 l2 x.st
def RMth (U : Nat → Prop) (m : Prop) (w : World) (vs : List Value) (x : Mth) : Prop := ∃ a1 l1 c1 a2 l2 c2 a3 l3 c3 a4 l4 c4,
  vs = [.string x.name, .bool x.stat, .slice a1 l1 c1, .int .i64 x.ret, .int .i64 x.locs, .int .i64 x.stk, .slice a2 l2 c2, .slice a3 l3 c3, .slice a4 l4 c4] ∧
  rSeq U m w 1 RInt a1 l1 x.args ∧ rSeq U m w 3 RIns a2 l2 x.code ∧ rSeq U m w 4 RHnd a3 l3 x.tab ∧ rSeq U m w 3 (RMpe U m w) a4 l4 x.maps
def RCls (U : Nat → Prop) (m : Prop) (w : World) (vs : List Value) (x : Cls) : Prop := ∃ a1 l1 c1 a2 l2 c2 a3 l3 c3 a4 l4 c4,
  vs = [.string x.name, .bool x.face, .bool x.fin, .int .i64 x.sup, .slice a1 l1 c1, .slice a2 l2 c2, .slice a3 l3 c3, .slice a4 l4 c4] ∧
  rSeq U m w 1 RInt a1 l1 x.faces ∧ rSeq U m w 2 RFld a2 l2 x.flds ∧ rSeq U m w 2 RFld a3 l3 x.stats ∧ rSeq U m w 9 (RMth U m w) a4 l4 x.mths
/-- A program: its main class, its slice of classes. -/
def rPrg (U : Nat → Prop) (m : Prop) (w : World) (n : Int) (a : Option Addr) (l : Nat) (x : Prg) : Prop := n = x.main ∧ rSeq U m w 8 (RCls U m w) a l x.clss

/-- What cells stand for, where it hangs on blocks of U alone. -/
structure Rel1 {α : Type} (R : (Nat → Prop) → Prop → World → List Value → α → Prop) : Prop where
  same : ∀ {U m w w' vs x}, R U m w vs x → SameU U w w' → w.heap.size ≤ w'.heap.size → R U m w' vs x
  mono : ∀ {U U' m w vs x}, R U m w vs x → (∀ b, U b → b < w.heap.size → U' b) → R U' m w vs x

theorem rel_plain {α : Type} {R : List Value → α → Prop} : Rel1 (fun _ _ _ vs x => R vs x) := ⟨fun h _ _ => h, fun h _ => h⟩
theorem rel_seq {α : Type} {R : (Nat → Prop) → Prop → World → List Value → α → Prop} (h : Rel1 R) {U U' : Nat → Prop} {m : Prop} {w w' : World} {k : Nat} {a : Option Addr} {l : Nat} {xs : List α} (g : rSeq U m w k (R U m w) a l xs)
    (hS : SameU U w w') (hz : w.heap.size ≤ w'.heap.size) (hU : ∀ b, U b → b < w.heap.size → U' b) : rSeq U' m w' k (R U' m w') a l xs := by
  refine ⟨g.1, fun i x hx => ?_⟩
  obtain ⟨p, vs, h1, h2, h3, h4, h5, h6, h7⟩ := g.2 i x hx
  refine ⟨p, vs, h1, hU _ h2 h3, Nat.lt_of_lt_of_le h3 hz, h4, h5.same hS (by rw [add_blk]; exact h2), fun hm => (h6 hm).same hS (by rw [add_blk]; exact h2), ?_⟩
  have h8 : R (fun b => U b ∧ b < w.heap.size) m w vs x := h.mono h7 fun b hb hl => ⟨hb, hl⟩
  have h9 := h.same h8 (fun b hb hl => hS b hb.1 hl) hz
  exact h.mono h9 fun b hb _ => hU b hb.1 hb.2
theorem rel_seq1 {α : Type} {R : List Value → α → Prop} {U U' : Nat → Prop} {m : Prop} {w w' : World} {k : Nat} {a : Option Addr} {l : Nat} {xs : List α} (g : rSeq U m w k R a l xs)
    (hS : SameU U w w') (hz : w.heap.size ≤ w'.heap.size) (hU : ∀ b, U b → b < w.heap.size → U' b) : rSeq U' m w' k R a l xs := rel_seq (R := fun _ _ _ vs x => R vs x) rel_plain g hS hz hU

theorem sameU_refl (U : Nat → Prop) (w : World) : SameU U w w := fun _ _ _ => rfl

theorem rel_mpe : Rel1 RMpe := by
  constructor
  · rintro U m w w' vs x ⟨a1, l1, c1, a2, l2, c2, rfl, h1, h2⟩ hS hz
    exact ⟨a1, l1, c1, a2, l2, c2, rfl, rel_seq1 h1 hS hz fun b h _ => h, rel_seq1 h2 hS hz fun b h _ => h⟩
  · rintro U U' m w vs x ⟨a1, l1, c1, a2, l2, c2, rfl, h1, h2⟩ hU
    exact ⟨a1, l1, c1, a2, l2, c2, rfl, rel_seq1 h1 (sameU_refl _ _) (Nat.le_refl _) hU, rel_seq1 h2 (sameU_refl _ _) (Nat.le_refl _) hU⟩
theorem rel_mth : Rel1 RMth := by
  constructor
  · rintro U m w w' vs x ⟨a1, l1, c1, a2, l2, c2, a3, l3, c3, a4, l4, c4, rfl, h1, h2, h3, h4⟩ hS hz
    exact ⟨a1, l1, c1, a2, l2, c2, a3, l3, c3, a4, l4, c4, rfl, rel_seq1 h1 hS hz fun b h _ => h, rel_seq1 h2 hS hz fun b h _ => h, rel_seq1 h3 hS hz fun b h _ => h, rel_seq rel_mpe h4 hS hz fun b h _ => h⟩
  · rintro U U' m w vs x ⟨a1, l1, c1, a2, l2, c2, a3, l3, c3, a4, l4, c4, rfl, h1, h2, h3, h4⟩ hU
    exact ⟨a1, l1, c1, a2, l2, c2, a3, l3, c3, a4, l4, c4, rfl, rel_seq1 h1 (sameU_refl _ _) (Nat.le_refl _) hU, rel_seq1 h2 (sameU_refl _ _) (Nat.le_refl _) hU, rel_seq1 h3 (sameU_refl _ _) (Nat.le_refl _) hU, rel_seq rel_mpe h4 (sameU_refl _ _) (Nat.le_refl _) hU⟩
theorem rel_cls : Rel1 RCls := by
  constructor
  · rintro U m w w' vs x ⟨a1, l1, c1, a2, l2, c2, a3, l3, c3, a4, l4, c4, rfl, h1, h2, h3, h4⟩ hS hz
    exact ⟨a1, l1, c1, a2, l2, c2, a3, l3, c3, a4, l4, c4, rfl, rel_seq1 h1 hS hz fun b h _ => h, rel_seq1 h2 hS hz fun b h _ => h, rel_seq1 h3 hS hz fun b h _ => h, rel_seq rel_mth h4 hS hz fun b h _ => h⟩
  · rintro U U' m w vs x ⟨a1, l1, c1, a2, l2, c2, a3, l3, c3, a4, l4, c4, rfl, h1, h2, h3, h4⟩ hU
    exact ⟨a1, l1, c1, a2, l2, c2, a3, l3, c3, a4, l4, c4, rfl, rel_seq1 h1 (sameU_refl _ _) (Nat.le_refl _) hU, rel_seq1 h2 (sameU_refl _ _) (Nat.le_refl _) hU, rel_seq1 h3 (sameU_refl _ _) (Nat.le_refl _) hU, rel_seq rel_mth h4 (sameU_refl _ _) (Nat.le_refl _) hU⟩
theorem rPrg.fr {U U' : Nat → Prop} {m : Prop} {w w' : World} {n : Int} {a : Option Addr} {l : Nat} {x : Prg} (h : rPrg U m w n a l x) (hS : SameU U w w') (hz : w.heap.size ≤ w'.heap.size) (hU : ∀ b, U b → b < w.heap.size → U' b) : rPrg U' m w' n a l x :=
  ⟨h.1, rel_seq rel_cls h.2 hS hz hU⟩

/-! ### What is gathered -/
/-- Rows gathered in a slice of one's own; what they stand for lies in other blocks, from n on. -/
structure oSeq {α : Type} (R : (Nat → Prop) → Prop → World → List Value → α → Prop) (n : Nat) (w : World) (k : Nat) (a : Option Addr) (c : Nat) (xs : List α) : Prop where
  up : ∀ b ∈ ablk a, n ≤ b
  sv : ∃ rows : List (List Value), SV w a xs.length c k rows.flatten ∧ rows.length = xs.length ∧ (∀ r ∈ rows, r.length = k) ∧
    ∀ (i : Nat) (r : List Value) (x : α), rows[i]? = some r → xs[i]? = some x → R (fun b => n ≤ b ∧ b < w.heap.size ∧ b ∉ ablk a) True w r x

theorem rows_get : ∀ {rows : List (List Value)} {k : Nat}, (∀ r ∈ rows, r.length = k) → ∀ {i : Nat} {r : List Value}, rows[i]? = some r → ∀ {j : Nat}, j < k → rows.flatten[i * k + j]? = r[j]?
  | [], k, _, i, r, h, j, hj => by simp at h
  | x :: rs, k, hk, 0, r, h, j, hj => by
    simp only [List.getElem?_cons_zero, Option.some.injEq] at h
    subst h
    rw [List.flatten_cons, Nat.zero_mul, Nat.zero_add, List.getElem?_append_left (by rw [hk x (by simp)]; exact hj)]
  | x :: rs, k, hk, i + 1, r, h, j, hj => by
    rw [List.getElem?_cons_succ] at h
    have hx := hk x (by simp)
    rw [List.flatten_cons, List.getElem?_append_right (by rw [hx, Nat.succ_mul]; omega), hx, Nat.succ_mul, ← rows_get (fun r hr => hk r (by simp [hr])) h hj]
    congr 1
    omega

section
variable {α : Type} {R : (Nat → Prop) → Prop → World → List Value → α → Prop} {n : Nat} {w w' : World} {k : Nat} {a : Option Addr} {c : Nat} {xs : List α}

theorem oSeq.nil (n : Nat) (w : World) (k : Nat) : oSeq R n w k none 0 ([] : List α) := ⟨by simp [ablk], [], SV.nil _ _, rfl, by simp, fun i r x h => by simp at h⟩

theorem oSeq.low (h : oSeq R n w k a c xs) : Low (ablk a) w.heap.size := by
  obtain ⟨rows, h1, _⟩ := h.sv
  exact h1.low

/-- Blocks below n may turn. -/
theorem oSeq.fr (hR : Rel1 R) (h : oSeq R n w k a c xs) {S : List Nat} (f : Fr S w w') (hS : ∀ b ∈ S, b < n) : oSeq R n w' k a c xs := by
  obtain ⟨up, rows, h1, h2, h3, h4⟩ := h
  refine ⟨up, rows, h1.fr f (fun b hb hb2 => by have := up b hb; have := hS b hb2; omega), h2, h3, fun i r x hi hx => ?_⟩
  refine hR.mono (hR.same (h4 i r x hi hx) (SameU.of_fr f fun b hb hb2 => ?_) f.size) fun b hb _ => ⟨hb.1, Nat.lt_of_lt_of_le hb.2.1 f.size, hb.2.2⟩
  have := hS b hb2
  omega

/-- It is handed over. -/
theorem oSeq.done (hR : Rel1 R) (h : oSeq R n w k a c xs) (hk : 0 < k) : rSeq (fun b => n ≤ b) True w k (R (fun b => n ≤ b) True w) a xs.length xs := by
  obtain ⟨up, rows, h1, h2, h3, h4⟩ := h
  refine ⟨rfl, fun i x hx => ?_⟩
  have hi : i < xs.length := (List.getElem?_eq_some_iff.1 hx).1
  have hr : rows[i]? = some (rows[i]'(by omega)) := List.getElem?_eq_getElem (by omega)
  generalize rows[i]'(by omega) = r at hr
  have hrl : r.length = k := h3 r (List.mem_of_getElem? hr)
  obtain ⟨b, off, rfl, hc⟩ := h1.at hi
  refine ⟨_, r, rfl, up b (by simp [ablk]), h1.low b (by simp [ablk]), hrl, fun j v hj => ?_, fun _ j hj => (hc j hj).2, hR.mono (h4 i r x hr hx) fun b hb _ => hb.1⟩
  have hjk : j < k := by have := (List.getElem?_eq_some_iff.1 hj).1; omega
  rw [(hc j hjk).1, rows_get h3 hr hjk]
  exact hj

/-- One more is put behind: it lies in blocks from w.heap.size on. -/
theorem oSeq.app (hR : Rel1 R) (hk : 0 < k) {w1 w2 : World} (h : oSeq R n w k a c xs) {row : List Value} {x : α} (hrow : row.length = k) (hx : R (fun b => w.heap.size ≤ b) True w1 row x) {S : List Nat} (f : Fr S w w1) (hS : ∀ b ∈ S, b < n) (hn : n ≤ w.heap.size)
    {t e : TypeId} {i : TypeInfo} {z : Value} (ht : Try.prog.underlying t = some (.slice e)) (hi : Try.prog.info? e = some i) (hz : i.zero = some z) (hs : i.size = k) (hzs : z.cells.size = k)
    (h1 : ∀ u ∈ row, isCell u = true) (h63 : xs.length + 1 ≤ 1048576) (hby : i.bytes ≤ 1048576) {b : Nat} {T : TypeId} (nb : NewAt w1 w2 b row.toArray T) {K : Option Addr → Nat → Nat → World → Prop}
    (hK : ∀ a' c' w', oSeq R n w' k a' c' (xs ++ [x]) → Fr (ablk a) w1 w' → K a' (xs.length + 1) c' w') :
    RunF Try.prog (Builtin.append_ #[t, t] t #[.slice a xs.length c, .slice (some ⟨b, 0, none⟩) 1 1]) w2 [.leaf .slice] K := by
  obtain ⟨up, rows, g1, g2, g3, g4⟩ := h
  obtain ⟨rfl, rfl⟩ := nb
  have lowA := g1.low
  refine append_new (m := 1) ht hi hz hs hzs hk (g1.fr f (fun b hb hb2 => by have := up b hb; have := hS b hb2; omega)) row.toArray T (by omega) (by simpa using hrow) (by simpa using h1) h63 hby t (fun a' c' w' q1 q2 q3 => hK a' c' w' ⟨?_, rows ++ [row], ?_, by simp [g2], ?_, ?_⟩ q2)
  · exact q3.up up (Nat.le_trans hn f.size)
  · rw [List.length_append, List.flatten_append]
    simpa using q1
  · intro r hr
    rcases List.mem_append.1 hr with h | h
    · exact g3 r h
    · simp at h; subst h; exact hrow
  · intro j r y hj hy
    have out : ∀ b, b < w1.heap.size → b ∉ ablk a → b ∉ ablk a' := fun b hb hna hba => (q3 b hba).elim hna (fun h => by omega)
    by_cases hlt : j < rows.length
    · rw [List.getElem?_append_left hlt] at hj
      rw [List.getElem?_append_left (by omega)] at hy
      have r1 := hR.same (g4 j r y hj hy) (SameU.of_fr f fun b hb hb2 => by have := hS b hb2; omega) f.size
      have r2 := hR.same r1 (SameU.of_fr q2 fun b hb => hb.2.2) q2.size
      exact hR.mono r2 fun b hb _ => ⟨hb.1, Nat.lt_of_lt_of_le hb.2.1 (Nat.le_trans f.size q2.size), out b (Nat.lt_of_lt_of_le hb.2.1 f.size) hb.2.2⟩
    · have hj1 := (List.getElem?_eq_some_iff.1 hj).1
      simp at hj1
      have e : j = rows.length := by omega
      subst e
      rw [List.getElem?_append_right (Nat.le_refl _), Nat.sub_self] at hj
      rw [g2, List.getElem?_append_right (Nat.le_refl _), Nat.sub_self] at hy
      simp at hj hy
      subst hj hy
      have r0 : R (fun b => w.heap.size ≤ b ∧ b < w1.heap.size) True w1 row x := hR.mono hx fun b hb hl => ⟨hb, hl⟩
      have na : ∀ b, w.heap.size ≤ b → b ∉ ablk a := fun b hb hba => by have := lowA b hba; omega
      have r2 := hR.same r0 (SameU.of_fr q2 fun b hb => na b hb.1) q2.size
      exact hR.mono r2 fun b hb _ => ⟨Nat.le_trans hn hb.1, Nat.lt_of_lt_of_le hb.2 q2.size, out b hb.2 (na b hb.1)⟩
end

end Go.Proofs.Ytmlhdmnnijapjaa.V

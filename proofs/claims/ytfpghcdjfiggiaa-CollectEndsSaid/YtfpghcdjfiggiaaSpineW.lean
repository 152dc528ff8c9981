/- Arrays that move: the cells they lie in. No condition. -/
import Derived.Test.YtfpghcdjfiggiaaSpineP3
import Derived.Test.YtfpghcdjfiggiaaArena
import Derived.Test.YtfpghcdjfiggiaaInts
import Derived.Test.YtfpghcdjfiggiaaGSpine
namespace Go.Proofs.Ytfpghcdjfiggiaa.V
open Go Go.RowKit

theorem SetC.blka {w w' : World} {b o i : Nat} {v : Value} {cs : List Value} (h : SetC w w' (Addr.add ⟨b, o, none⟩ i) v) (hb : Blk w b cs) : Blk w' b (cs.set (o + i) v) := by
  rw [addr_add] at h; exact h.blk hb
theorem SetC.fra {w w' : World} {b o i : Nat} {v : Value} (h : SetC w w' (Addr.add ⟨b, o, none⟩ i) v) : Fr [b] w w' := h.fr (by rw [addr_add]; simp)

def encR (x : Arr) : List Value := [.int .i64 x.n, .int .i64 x.pl, .int .i64 x.to, .int .i64 x.cp, .bool x.mv]
def ptrV (b : Nat) : Value := .pointer (some ⟨b, 0, none⟩)
def ent (x : Arr) : Ent := (x.id, ptrV x.b, x.st)
def spHd (ab mb : Nat) (g : SG) (la : Option Addr) (ll lc : Nat) : List Value :=
  [ptrV ab, .int .i64 g.base, .int .i64 g.half, .bool g.other, .int .i64 g.top, .map (some mb), .int .i64 g.last, .int .i64 g.owed, .int .i64 g.late, .slice la ll lc, .bool g.act]

theorem mget_some {m : List Ent} {k : Int} {v : Value} (hn : (m.map (·.1)).Nodup) {st : Nat} (h : (k, v, st) ∈ m) : mget m k = some v := by
  unfold mget mfind
  induction m with
  | nil => simp at h
  | cons e m ih =>
    rw [List.map_cons, List.nodup_cons] at hn
    rcases List.mem_cons.1 h with e1 | h
    · subst e1; simp
    · have : k ≠ e.1 := fun e2 => hn.1 (List.mem_map.2 ⟨_, h, e2⟩)
      simp [this]
      simpa using ih hn.2 h
theorem mget_no {m : List Ent} {k : Int} (h : ∀ e ∈ m, e.1 ≠ k) : mget m k = none := by
  unfold mget mfind
  rw [List.find?_eq_none.2 (fun e he => by simpa using fun e2 => h e he e2.symm)]
  rfl

structure SpAt (w : World) (F : List Nat) (s mb ab wb sb : Nat) (g : SG) (l : List Arr) (ws ss : List Int) (la : Option Addr) (lc clk : Nat) : Prop where
  hd : Blk w s (spHd ab mb g la g.left.length lc)
  mi : MI w mb (l.map ent) clk
  rc : ∀ x ∈ l, Blk w x.b (encR x)
  lf : SI w la lc g.left
  ar : ArenaAt w ab wb sb ws ss
  d0 : s ≠ mb ∧ s ≠ ab ∧ s ≠ wb ∧ s ≠ sb ∧ mb ≠ ab ∧ mb ≠ wb ∧ mb ≠ sb
  d1 : ∀ k ∈ ablk la, k ≠ s ∧ k ≠ mb ∧ k ≠ ab ∧ k ≠ wb ∧ k ≠ sb
  d2 : ∀ x ∈ l, x.b ≠ s ∧ x.b ≠ mb ∧ x.b ≠ ab ∧ x.b ≠ wb ∧ x.b ≠ sb ∧ x.b ∉ ablk la
  d3 : (l.map (·.b)).Nodup
  F : F = s :: mb :: ab :: wb :: sb :: (ablk la ++ l.map (·.b))

section
variable {w w' : World} {F S : List Nat} {s mb ab wb sb clk lc : Nat} {g : SG} {l : List Arr} {ws ss : List Int} {la : Option Addr}

theorem SpAt.low (h : SpAt w F s mb ab wb sb g l ws ss la lc clk) : Low F w.heap.size := by
  intro b hb
  rw [h.F] at hb
  simp only [List.mem_cons, List.mem_append, List.mem_map] at hb
  rcases hb with rfl | rfl | rfl | rfl | rfl | hb | ⟨x, hx, rfl⟩
  · exact h.hd.lt
  · exact heap_lt h.mi.heap
  · exact h.ar.hd.lt
  · exact h.ar.ws.lt
  · exact h.ar.ss.lt
  · exact h.lf.low b hb
  · exact (h.rc x hx).lt

theorem SpAt.mem (h : SpAt w F s mb ab wb sb g l ws ss la lc clk) : s ∈ F ∧ mb ∈ F ∧ ab ∈ F ∧ wb ∈ F ∧ sb ∈ F ∧ (∀ b ∈ ablk la, b ∈ F) ∧ ∀ x ∈ l, x.b ∈ F := by
  rw [h.F]
  refine ⟨by simp, by simp, by simp, by simp, by simp, fun b hb => by simp [hb], fun x hx => ?_⟩
  simp only [List.mem_cons, List.mem_append, List.mem_map]
  exact .inr (.inr (.inr (.inr (.inr (.inr ⟨x, hx, rfl⟩)))))

theorem SpAt.frame (h : SpAt w F s mb ab wb sb g l ws ss la lc clk) (f : Fr S w w') (hS : Apart F S) : SpAt w' F s mb ab wb sb g l ws ss la lc clk := by
  obtain ⟨m1, m2, m3, m4, m5, m6, m7⟩ := h.mem
  exact ⟨h.hd.fr f (hS _ m1), h.mi.fr f (hS _ m2), fun x hx => (h.rc x hx).fr f (hS _ (m7 x hx)), h.lf.fr f (fun b hb => hS b (m6 b hb)), h.ar.fr f (hS _ m3) (hS _ m4) (hS _ m5), h.d0, h.d1, h.d2, h.d3, h.F⟩
theorem SpAt.fr0 (h : SpAt w F s mb ab wb sb g l ws ss la lc clk) (f : Fr [] w w') : SpAt w' F s mb ab wb sb g l ws ss la lc clk := h.frame f (fun _ _ => by simp)

/-- The head is another; the row of what is left is the same. -/
theorem SpAt.head (h : SpAt w F s mb ab wb sb g l ws ss la lc clk) {g' : SG} (hl : g'.left = g.left) (B : Blk w' s (spHd ab mb g' la g'.left.length lc)) (f : Fr [s] w w') : SpAt w' F s mb ab wb sb g' l ws ss la lc clk := by
  obtain ⟨d1, d2, d3, d4, d5, d6, d7⟩ := h.d0
  refine ⟨B, h.mi.fr f (by simp; omega), fun x hx => (h.rc x hx).fr f (by have := h.d2 x hx; simp; omega), ?_, h.ar.fr f (by simp; omega) (by simp; omega) (by simp; omega), h.d0, h.d1, h.d2, h.d3, h.F⟩
  rw [hl]
  exact h.lf.fr f (fun b hb hb2 => by have := h.d1 b hb; simp at hb2; omega)

/-- A record is another. -/
theorem SpAt.rec_ (h : SpAt w F s mb ab wb sb g l ws ss la lc clk) {x x' : Arr} (hx : x ∈ l) (hu : ∀ y ∈ l, y.id = x.id → y = x) (e1 : x'.id = x.id) (e2 : x'.b = x.b) (e3 : x'.st = x.st) (B : Blk w' x.b (encR x')) (f : Fr [x.b] w w') :
    SpAt w' F s mb ab wb sb g (rep l x') ws ss la lc clk := by
  have dx := h.d2 x hx
  have em : ∀ {β : Type} (f : Arr → β), f x' = f x → (rep l x').map f = l.map f := fun f hf => rep_map f fun y hy e => by rw [hf, hu y hy (e.trans e1)]
  have eb : ∀ y ∈ l, y.b = x.b → y = x := fun y hy e => map_inj_of_nodup (·.b) h.d3 hy hx e
  refine ⟨h.hd.fr f (by simp; omega), ?_, fun y hy => ?_, h.lf.fr f (fun b hb hb2 => by simp at hb2; subst hb2; exact dx.2.2.2.2.2 hb), h.ar.fr f (by simp; omega) (by simp; omega) (by simp; omega), h.d0, h.d1, fun y hy => ?_, ?_, ?_⟩
  · rw [em ent (by unfold ent; rw [e1, e2, e3])]
    exact h.mi.fr f (by simp; omega)
  · rcases mem_rep hy with rfl | ⟨hy, hn⟩
    · rw [e2]; exact B
    · exact (h.rc y hy).fr f (by simp; exact fun e => hn (by rw [eb y hy e]; exact e1.symm))
  · rcases mem_rep hy with rfl | ⟨hy, _⟩
    · rw [e2]; exact dx
    · exact h.d2 y hy
  · rw [em (·.b) e2]; exact h.d3
  · rw [em (·.b) e2]; exact h.F

/-- Words of the arena are others. -/
theorem SpAt.words (h : SpAt w F s mb ab wb sb g l ws ss la lc clk) {ws' ss' : List Int} (A : ArenaAt w' ab wb sb ws' ss') (f : Fr [wb, sb] w w') : SpAt w' F s mb ab wb sb g l ws' ss' la lc clk := by
  obtain ⟨d1, d2, d3, d4, d5, d6, d7⟩ := h.d0
  exact ⟨h.hd.fr f (by simp; omega), h.mi.fr f (by simp; omega), fun x hx => (h.rc x hx).fr f (by have := h.d2 x hx; simp; omega), h.lf.fr f (fun b hb hb2 => by have := h.d1 b hb; simp at hb2; omega), A, h.d0, h.d1, h.d2, h.d3, h.F⟩

theorem SpAt.ghost (h : SpAt w F s mb ab wb sb g l ws ss la lc clk) {l' : List Arr} (e : ∀ {β : Type} (f : Arr → β) (q : Int × Nat × Nat × Int × Int × Int × Int × Bool → β), (∀ x, f x = q (x.id, x.b, x.st, x.n, x.pl, x.to, x.cp, x.mv)) → l'.map f = l.map f) : SpAt w F s mb ab wb sb g l' ws ss la lc clk := by
  have e1 := e ent (fun p => (p.1, ptrV p.2.1, p.2.2.1)) (fun _ => rfl)
  have e2 := e (·.b) (fun p => p.2.1) (fun _ => rfl)
  have e3 : ∀ x ∈ l', ∃ y ∈ l, y.b = x.b ∧ encR y = encR x := fun x hx => by
    have e3 := e (fun x => (x.b, encR x)) (fun p => (p.2.1, [.int .i64 p.2.2.2.1, .int .i64 p.2.2.2.2.1, .int .i64 p.2.2.2.2.2.1, .int .i64 p.2.2.2.2.2.2.1, .bool p.2.2.2.2.2.2.2])) (fun _ => rfl)
    have : (x.b, encR x) ∈ l.map (fun x => (x.b, encR x)) := by rw [← e3]; exact List.mem_map.2 ⟨x, hx, rfl⟩
    obtain ⟨y, hy, e4⟩ := List.mem_map.1 this
    exact ⟨y, hy, (Prod.mk.inj e4).1, (Prod.mk.inj e4).2⟩
  refine ⟨h.hd, by rw [e1]; exact h.mi, fun x hx => ?_, h.lf, h.ar, h.d0, h.d1, fun x hx => ?_, by rw [e2]; exact h.d3, by rw [e2]; exact h.F⟩
  · obtain ⟨y, hy, q1, q2⟩ := e3 x hx
    rw [← q1, ← q2]; exact h.rc y hy
  · obtain ⟨y, hy, q1, _⟩ := e3 x hx
    rw [← q1]; exact h.d2 y hy

/-- An id is looked up. -/
theorem SpAt.look (h : SpAt w F s mb ab wb sb g l ws ss la lc clk) (k : Int) {K : Option Addr → Bool → World → Prop} (hyes : ∀ x ∈ l, x.id = k → K (some ⟨x.b, 0, none⟩) true w) (hno : (∀ x ∈ l, x.id ≠ k) → K none false w) :
    RunF Try.prog (Instr.lookup 185 (.map (some mb)) (.int .i64 k) true) w [.leaf .ptr, .leaf .bool] K := by
  have hr := run_lookup (P := Try.prog) h.mi (t := 185) (kt := 3) (et := 188) (by kernel_rfl) (by kernel_rfl) Try.t188 (.pointer none) (by kernel_rfl) rfl k true
  by_cases hk : ∃ x ∈ l, x.id = k
  · obtain ⟨x, hx, rfl⟩ := hk
    have hg : mget (l.map ent) x.id = some (ptrV x.b) := mget_some h.mi.nodup (st := x.st) (List.mem_map.2 ⟨x, hx, rfl⟩)
    rw [hg] at hr
    exact ⟨[ptrV x.b, .bool true], w, hr, hyes x hx rfl⟩
  · have hk : ∀ x ∈ l, x.id ≠ k := fun x hx e => hk ⟨x, hx, e⟩
    have hg : mget (l.map ent) k = none := mget_no fun e he => by
      obtain ⟨x, hx, rfl⟩ := List.mem_map.1 he
      exact hk x hx
    rw [hg] at hr
    exact ⟨[.pointer none, .bool false], w, hr, hno hk⟩
theorem SpAt.look1 (h : SpAt w F s mb ab wb sb g l ws ss la lc clk) {x : Arr} (hx : x ∈ l) {K : Option Addr → World → Prop} (hyes : K (some ⟨x.b, 0, none⟩) w) :
    RunF Try.prog (Instr.lookup 185 (.map (some mb)) (.int .i64 x.id) false) w [.leaf .ptr] K := by
  have hr := run_lookup (P := Try.prog) h.mi (t := 185) (kt := 3) (et := 188) (by kernel_rfl) (by kernel_rfl) Try.t188 (.pointer none) (by kernel_rfl) rfl x.id false
  have hg : mget (l.map ent) x.id = some (ptrV x.b) := mget_some h.mi.nodup (st := x.st) (List.mem_map.2 ⟨x, hx, rfl⟩)
  rw [hg] at hr
  exact ⟨[ptrV x.b], w, hr, hyes⟩
theorem SpAt.len (h : SpAt w F s mb ab wb sb g l ws ss la lc clk) {K : Int → World → Prop} (hK : K (l.length : Int) w) :
    RunF Try.prog (Builtin.len_ #[185] 3 #[.map (some mb)]) w [.leaf (.int .i64)] K := by
  refine len_map (t := 185) (kt := 3) (et := 188) h.mi (by kernel_rfl) 3 ?_
  simpa using hK
end
end Go.Proofs.Ytfpghcdjfiggiaa.V

/- Weak references and finalizers: a whole collection. No condition. -/
import Derived.Test.YtfpghcdjfiggiaaRefsD
namespace Go.Proofs.Ytfpghcdjfiggiaa.V
open Go Go.RowKit

/-- A weak reference that leads to nothing that is reached. -/
def stale (B : List Int) (x : XC) : Bool := decide (x.kind = 4 ∧ x.vs.getD 0 0 ≠ 0 ∧ x.vs.getD 0 0 ∉ B)
def clear1 (B : List Int) (x : XC) : XC := if stale B x = true then { x with vs := x.vs.set 0 0 } else x
def clr (B : List Int) (xs : List XC) : List Int := (xs.filter (stale B)).map (·.ref)
def que (B fin : List Int) (xs : List XC) : List Int := (xs.filter fun x => decide (x.ref ∈ fin ∧ x.ref ∉ B)).map (·.ref)
def gone (B : List Int) (xs : List XC) : List Int := (xs.filter fun x => decide (x.ref ∉ B)).map (·.ref)
def notIn (q : List Int) (fin : List Int) : List Int := fin.filter fun r => decide (r ∉ q)

theorem clear1_ref (B : List Int) (x : XC) : (clear1 B x).ref = x.ref ∧ (clear1 B x).kind = x.kind ∧ (clear1 B x).n = x.n := by unfold clear1; split <;> simp
theorem notIn_snoc (q fin : List Int) (r : Int) : (notIn q fin).filter (fun x => !(r == x)) = notIn (q ++ [r]) fin := by
  unfold notIn
  rw [List.filter_filter]
  refine List.filter_congr fun x _ => ?_
  rw [Bool.eq_iff_iff]
  simp only [Bool.and_eq_true, Bool.not_eq_true', beq_eq_false_iff_ne, decide_eq_true_eq, List.mem_append, List.mem_singleton, not_or]
  constructor
  · rintro ⟨h1, h2⟩; exact ⟨h2, fun e => h1 e.symm⟩
  · rintro ⟨h1, h2⟩; exact ⟨fun e => h2 e.symm, h1⟩
theorem notIn_nil (fin : List Int) : notIn [] fin = fin := by simp [notIn]

/-- A map of what holds, of tag k. -/
def Mk (w : World) (own : Nat → Nat) (mb k : Nat) (B : List Int) : Prop := (∃ m clk, MI w mb m clk ∧ m.map (·.1) = B ∧ ∀ e ∈ m, e.2.1 = .bool true) ∧ Tag own [mb] k
theorem Mk.step {n k mb : Nat} {w w' : World} {own own' : Nat → Nat} {B : List Int} (h : Mk w own mb k B) (s : StN n w w' own own') (hk : n ≤ k) : Mk w' own' mb k B := by
  obtain ⟨⟨m, clk, hm, q⟩, t⟩ := h
  obtain ⟨m1, t1⟩ := s.mi hm t hk
  exact ⟨⟨m, clk, m1, q⟩, t1⟩
theorem Mk.other {k mb j : Nat} {w w' : World} {own : Nat → Nat} {B S : List Nat} {C : List Int} (h : Mk w own mb k C) (f : Fr S w w') (t : Tag own S j) (hk : k ≠ j) (i : Nat) : Mk w' (ext own w.heap.size i) mb k C := by
  obtain ⟨⟨m, clk, hm, q⟩, t1⟩ := h
  have hl := heap_lt hm.heap
  exact ⟨⟨m, clk, hm.fr f (fun hb => (t1.apart t hk) mb (by simp) hb), q⟩, t1.keep (by intro c hc; simp at hc; subst hc; exact hl) i⟩
theorem Mk.look {w : World} {own : Nat → Nat} {mb k : Nat} {B : List Int} (h : Mk w own mb k B) (r : Int) {K : Bool → World → Prop} (hK : K (decide (r ∈ B)) w) : RunF Try.prog (Instr.lookup 162 (.map (some mb)) (.int .i64 r) false) w [.leaf .bool] K := by
  obtain ⟨⟨m, clk, hm, rfl, hv⟩, _⟩ := h
  exact look_true hm hv r hK

theorem StN.fresh {n : Nat} {w w1 w2 : World} {own own1 own2 : Nat → Nat} {S : List Nat} (s : StN n w w1 own own1) (f : Fr S w1 w2) (hS : ∀ b ∈ S, w.heap.size ≤ b) (ag : ∀ b, b < w1.heap.size → own2 b = own1 b) : StN n w w2 own own2 := by
  have z := s.size
  obtain ⟨⟨S0, f0, h0⟩, a0⟩ := s
  exact ⟨⟨S0, f0.trans f (fun k hk => .inr (hS k hk)), h0⟩, fun b hb => by rw [ag b (Nat.lt_of_lt_of_le hb z), a0 b hb]⟩
theorem ext_ag (own : Nat → Nat) (n k : Nat) : ∀ b, b < n → ext own n k b = own b := fun b hb => by unfold ext; rw [if_pos hb]

theorem xput_at {xs ys : List XC} {x : XC} {i v : Int} (h : ((xs ++ x :: ys).map (·.ref)).Pairwise (· < ·)) : xput (xs ++ x :: ys) x.ref i v = xs ++ { x with vs := x.vs.set i.toNat v } :: ys := by
  rw [List.map_append, List.map_cons, List.pairwise_append, List.pairwise_cons] at h
  unfold xput
  rw [List.map_append, List.map_cons, if_pos rfl]
  congr 1
  · conv => rhs; rw [← List.map_id xs]
    refine List.map_congr_left fun y hy => ?_
    have := h.2.2 y.ref (List.mem_map.2 ⟨y, hy, rfl⟩) x.ref (by simp)
    rw [if_neg (by omega)]; rfl
  · congr 1
    conv => rhs; rw [← List.map_id ys]
    refine List.map_congr_left fun y hy => ?_
    have := h.2.1.1 y.ref (List.mem_map.2 ⟨y, hy, rfl⟩)
    rw [if_neg (by omega)]; rfl
theorem xfree_at {xs ys : List XC} {x : XC} (h : ((xs ++ x :: ys).map (·.ref)).Pairwise (· < ·)) : (xs ++ x :: ys).filter (fun y => !(x.ref == y.ref)) = xs ++ ys := by
  rw [List.map_append, List.map_cons, List.pairwise_append, List.pairwise_cons] at h
  rw [List.filter_append, List.filter_cons, if_neg (by simp)]
  congr 1
  · rw [List.filter_eq_self]
    intro y hy
    have := h.2.2 y.ref (List.mem_map.2 ⟨y, hy, rfl⟩) x.ref (by simp)
    simp; omega
  · rw [List.filter_eq_self]
    intro y hy
    have := h.2.1.1 y.ref (List.mem_map.2 ⟨y, hy, rfl⟩)
    simp; omega
theorem xsum_append (a b : List XC) : xsum (a ++ b) = xsum a + xsum b := by
  induction a with
  | nil => simp [xsum]
  | cons c a ih => simp [xsum, ih]; omega
theorem xsum_nonneg : ∀ (ys : List XC), (∀ y ∈ ys, 0 ≤ y.n) → 0 ≤ xsum ys
  | [], _ => Int.le_refl 0
  | y :: ys, h => by have := xsum_nonneg ys (fun z hz => h z (by simp [hz])); have := h y (by simp); simp only [xsum]; omega

theorem drop_cons {α : Type} {l : List α} {n : Nat} {x : α} (h : l[n]? = some x) : l.drop n = x :: l.drop (n + 1) := by
  obtain ⟨h1, h2⟩ := List.getElem?_eq_some_iff.1 h
  rw [List.drop_eq_getElem_cons h1, h2]
theorem take_snoc {α : Type} {l : List α} {n : Nat} {x : α} (h : l[n]? = some x) : l.take (n + 1) = l.take n ++ [x] := by
  obtain ⟨h1, h2⟩ := List.getElem?_eq_some_iff.1 h
  rw [List.take_succ_eq_append_getElem h1, h2]

section
variable {w w' : World} {own own' : Nat → Nat} {rb hb fm rc qc k : Nat} {G G' S : List Nat} {ra qa : Option Addr} {ts : List RT} {words taken last : Int} {ss : List Int} {xs : List XC} {fin queue : List Int}

theorem Rx.srt (h : Rx w own rb hb fm G ra rc ts qa qc words taken last ss xs fin queue) : (xs.map (·.ref)).Pairwise (· < ·) := h.H.facts.2.2.2.2.2.1

/-- A slice of ints of one's own grows. -/
theorem Sd.app {a : Option Addr} {c k : Nat} {xs : List Int} (h : Sd w own a c k xs) {n : Int} {b : Nat} {w1 : World} (n1 : NewAt w w1 b #[.int .i64 n] 3) (h63 : xs.length + 1 ≤ 1048576) {K : Option Addr → Nat → Nat → World → Prop}
    (hK : ∀ a' c' w', Sd w' (ext own w.heap.size k) a' c' k (xs ++ [n]) → Fr (ablk a) w w' → Grw (ablk a) (ablk a') w.heap.size → K a' (xs.length + 1) c' w') :
    RunF Try.prog (Builtin.append_ #[42, 42] 42 #[.slice a xs.length c, .slice (some ⟨b, 0, none⟩) 1 1]) w1 [.leaf .slice] K :=
  app_int h.si n1 h63 fun a' c' w' S' f' g' => hK a' c' w' ⟨S', h.tg.grow h.si.low g'⟩ f' g'

/-- A cell's words, told. -/
theorem rcell_c (h : Rx w own rb hb fm G ra rc ts qa qc words taken last ss xs fin queue) {x : XC} (hx : x ∈ xs) {ref : Int} (ex : x.ref = ref) {F : Int → Int → Int → Int → World → Prop}
    (hF : ∀ w1, (∀ S, Fr S w w1) → F x.kind x.cls x.n 0 w1) : C94 (some ⟨hb, 0, none⟩) ref w F :=
  xcell_c h.H ref (fun hn => absurd ex (hn x hx)) (fun y hy ey w1 f1 => by rw [h.H.same hy hx (ey.trans ex.symm)]; exact hF w1 f1)

/-- A told cell, in a new block. -/
theorem told_y {a b c : Int} {b1 : Nat} {w1 : World} (n1 : NewAt w w1 b1 #[.int .i64 0, .int .i64 0, .int .i64 0] 133) {F : World → Prop} (hF : ∀ w2, Blk w2 b1 [.int .i64 a, .int .i64 b, .int .i64 c] → (∀ S, Fr S w w2) → F w2) :
    MayL w1 ⟨b1, 0, none⟩ 3 ∧ ∀ w2 : World, SetL w1 w2 ⟨b1, 0, none⟩ [.int .i64 a, .int .i64 b, .int .i64 c] → F w2 :=
  ⟨n1.blk.mayL (by simp), fun w2 s2 => by obtain ⟨X, f⟩ := newSet n1 s2 rfl; exact hF w2 X f⟩

theorem fold_toNat {n : Int} (h : 0 ≤ n) : (n + 1).toNat = n.toNat + 1 := by omega

/-- A whole collection. -/
theorem rcycle_c {kc kd : Nat} (hk : 1000 ≤ kc ∧ 1000 ≤ kd ∧ kc ≠ kd) (h : Rx w own rb hb fm G ra rc ts qa qc words taken last ss xs fin queue) (htk : taken = xsum xs) (hss : ss.length = ts.length) (h1t : 1 ≤ ts.length) (hxl : xs.length ≤ 10000) (hql : queue.length ≤ 10000)
    {K : Option Addr → Nat → Nat → Option Addr → Nat → Nat → Int → World → Prop}
    (hK : ∀ w' own' G' qa' qc' ss' B1 B2 ca cc da dc, (∀ r, r ∈ B1 ↔ Rch kindR xs (rootsL ts queue) r) → (∀ r, r ∈ B2 ↔ Rch kindR (xs.map (clear1 B1)) (rootsL ts (queue ++ que B1 fin xs)) r) →
      Rx w' own' rb hb fm G' ra rc ts qa' qc' words (xsum ((xs.map (clear1 B1)).filter fun x => decide (x.ref ∈ B2))) last ss' ((xs.map (clear1 B1)).filter fun x => decide (x.ref ∈ B2)) (notIn (gone B2 xs) (notIn (que B1 fin xs) fin)) (queue ++ que B1 fin xs) → ss'.length = ss.length →
      Sd w' own' ca cc kc (clr B1 xs) → Sd w' own' da dc kd (que B1 fin xs) → StN 40 w w' own own' → K ca (clr B1 xs).length cc da (que B1 fin xs).length dc 0 w') : C106 (some ⟨rb, 0, none⟩) w K := by
  refine r_f106 _ _ _ (rreached_c (km := 30) (by decide) h hss h1t (by omega) fun w1 own1 ss1 m1 B1 R1 es1 hm1 tm1 hB1 st1 => ⟨_, R1.hd.cell rfl, xrefs_c R1.H (by omega) fun a4 c4 w5 A5 f5 g5 => ?_⟩)
  have M5 : Mk w5 (ext own1 w1.heap.size 60) m1 30 B1 := Mk.other (B := []) (S := []) ⟨hm1, tm1⟩ (f5 []) (j := 60) (by simp [Tag]) (by decide) 60
  have R5 := R1.other (f5 []) (by simp) 60
  have L5 : Sd w5 (ext own1 w1.heap.size 60) a4 c4 60 (xs.map (·.ref)) := ⟨A5, Tag.fresh _ g5⟩
  have st5 : StN 40 w w5 own (ext own1 w1.heap.size 60) := st1.fresh (f5 []) (by simp) (ext_ag _ _ _)
  generalize ext own1 w1.heap.size 60 = own5 at *
  have lenr : (xs.map (·.ref)).length = xs.length := by simp
  -- the weak references are looked at
  refine ⟨fun a l c n w' => 0 ≤ n ∧ n ≤ xs.length ∧ ∃ own' ss', l = (clr B1 (xs.take n.toNat)).length ∧ Rx w' own' rb hb fm G ra rc ts qa qc words taken last ss' ((xs.take n.toNat).map (clear1 B1) ++ xs.drop n.toNat) fin queue ∧ ss'.length = ss.length ∧ Mk w' own' m1 30 B1 ∧ Sd w' own' a4 c4 60 (xs.map (·.ref)) ∧ Sd w' own' a c kc (clr B1 (xs.take n.toNat)) ∧ (∀ b ∈ ablk a, w.heap.size ≤ b) ∧ StN 40 w w' own own',
    fun _ _ _ n _ => (xs.length - n).toNat, ⟨by decide, by omega, own5, ss1, by simp [clr], by simpa using R5, es1, M5, L5, by simpa [clr] using Sd.nil w5 own5 kc, by simp [ablk], st5⟩, ?_⟩
  rintro - a8 l8 c8 n w6 ⟨hn0, hn1, own6, ss6, rfl, R6, es6, M6, L6, C6, g6, st6⟩
  have zw := st6.size
  refine IfB.dec (fun hlt => ?_) (fun hge => ?_)
  · obtain ⟨x, hxn⟩ : ∃ x, xs[n.toNat]? = some x := ⟨_, List.getElem?_eq_getElem (show n.toNat < xs.length by omega)⟩
    have ed := drop_cons hxn
    have etk := take_snoc hxn
    have en := fold_toNat hn0
    have er : (xs.map (·.ref)).getD n.toNat 0 = x.ref := by rw [List.getD_eq_getElem?_getD, List.getElem?_map, hxn]; rfl
    have exs : (xs.take n.toNat).map (clear1 B1) ++ xs.drop n.toNat = (xs.take n.toNat).map (clear1 B1) ++ x :: xs.drop (n.toNat + 1) := by rw [ed]
    rw [exs] at R6
    have hx : x ∈ (xs.take n.toNat).map (clear1 B1) ++ x :: xs.drop (n.toNat + 1) := by simp
    have enx : (xs.take (n + 1).toNat).map (clear1 B1) ++ xs.drop (n + 1).toNat = (xs.take n.toNat).map (clear1 B1) ++ clear1 B1 x :: xs.drop (n.toNat + 1) := by rw [en, etk, List.map_append]; simp
    have ecl : clr B1 (xs.take (n + 1).toNat) = clr B1 (xs.take n.toNat) ++ (if stale B1 x = true then [x.ref] else []) := by
      rw [en, etk]; unfold clr; rw [List.filter_append, List.map_append, List.filter_cons]
      split <;> simp
    have fitn : Fit .i64 (n + 1) := fit64 (by omega) (by omega)
    have clen : (clr B1 (xs.take n.toNat)).length ≤ xs.length := by
      unfold clr; rw [List.length_map]
      exact Nat.le_trans (List.length_filter_le _ _) (by rw [List.length_take]; omega)
    refine L6.si.get hn0 (by rw [lenr]; exact hlt) fun p hp => ⟨⟨hn0, hlt⟩, x.ref, (by rw [er] at hp; exact hp), _, R6.hd.cell rfl, rcell_c R6 hx rfl fun w7 f7 => fun b8 w8 n8 => told_y n8 fun w9 X9 f9 => ?_⟩
    have fA : ∀ S, Fr S w6 w9 := fun S => (f7 S).more (f9 S)
    have R9 := R6.still fA
    -- nothing is cleared
    have skip : ∀ (w10 : World) (own10 : Nat → Nat) (ss10 : List Int), Rx w10 own10 rb hb fm G ra rc ts qa qc words taken last ss10 ((xs.take n.toNat).map (clear1 B1) ++ x :: xs.drop (n.toNat + 1)) fin queue → ss10.length = ss.length → StN 13 w6 w10 own6 own10 → stale B1 x = false →
        Fit .i64 (n + 1) ∧ ((0 ≤ n + 1 ∧ n + 1 ≤ xs.length ∧ ∃ own' ss', (clr B1 (xs.take n.toNat)).length = (clr B1 (xs.take (n + 1).toNat)).length ∧ Rx w10 own' rb hb fm G ra rc ts qa qc words taken last ss' ((xs.take (n + 1).toNat).map (clear1 B1) ++ xs.drop (n + 1).toNat) fin queue ∧ ss'.length = ss.length ∧ Mk w10 own' m1 30 B1 ∧ Sd w10 own' a4 c4 60 (xs.map (·.ref)) ∧ Sd w10 own' a8 c8 kc (clr B1 (xs.take (n + 1).toNat)) ∧ (∀ b ∈ ablk a8, w.heap.size ≤ b) ∧ StN 40 w w10 own own') ∧
          (xs.length - (n + 1)).toNat < (xs.length - n).toNat) := by
      intro w10 own10 ss10 R10 es10 st10 hs
      have e1 : clear1 B1 x = x := by unfold clear1; rw [hs]; rfl
      rw [enx, ecl, e1, hs]
      refine ⟨fitn, ⟨by omega, by omega, own10, ss10, by simp, R10, es10, M6.step st10 (by decide), L6.step st10 (by decide), by simpa using C6.step st10 (by omega), g6, st6.trans (st10.up (by decide))⟩, by omega⟩
    refine ⟨_, X9.cell rfl, IfB.nd (fun hk4 => ?_) (fun hk4 => skip w9 own6 ss6 R9 es6 (St.still fA) (by unfold stale; exact decide_eq_false (fun hc => hk4 hc.1)))⟩
    refine ⟨_, R9.hd.cell rfl, ?_⟩
    have after : ∀ (w10 : World) (own10 : Nat → Nat) (ss10 : List Int) (v : Int), v = x.vs.getD 0 0 → (v ≠ 0 → 1 ≤ x.n) → Rx w10 own10 rb hb fm G ra rc ts qa qc words taken last ss10 ((xs.take n.toNat).map (clear1 B1) ++ x :: xs.drop (n.toNat + 1)) fin queue → ss10.length = ss.length → StN 13 w6 w10 own6 own10 →
        IfB (!decide (v = 0))
        (RunF Try.prog (Instr.lookup 162 (.map (some m1)) (.int .i64 v) false) w10 [.leaf .bool] fun (b27 : Bool) (w28 : World) =>
        IfB (!b27)
        (∃ (q29 : Option Addr), World.cell? w28 ⟨rb, 0, none⟩ = some (.pointer q29) ∧
        C83 q29 0 x.ref 0 0 w28 fun n30 w31 =>
        ∀ (b32 : Nat) (w33 : World), NewAt w31 w33 b32 #[.int .i64 x.ref] 3 →
        RunF Try.prog (Builtin.append_ #[42, 42] 42 #[.slice a8 (clr B1 (xs.take n.toNat)).length c8, .slice (some ⟨b32, 0, none⟩) 1 1]) w33 [.leaf .slice] fun (a34 : Option Addr) (l34 c34 : Nat) (w35 : World) =>
        Fit .i64 (n + 1) ∧
        ((0 ≤ n + 1 ∧ n + 1 ≤ xs.length ∧ ∃ own' ss', l34 = (clr B1 (xs.take (n + 1).toNat)).length ∧ Rx w35 own' rb hb fm G ra rc ts qa qc words taken last ss' ((xs.take (n + 1).toNat).map (clear1 B1) ++ xs.drop (n + 1).toNat) fin queue ∧ ss'.length = ss.length ∧ Mk w35 own' m1 30 B1 ∧ Sd w35 own' a4 c4 60 (xs.map (·.ref)) ∧ Sd w35 own' a34 c34 kc (clr B1 (xs.take (n + 1).toNat)) ∧ (∀ b ∈ ablk a34, w.heap.size ≤ b) ∧ StN 40 w w35 own own') ∧
        (xs.length - (n + 1)).toNat < (xs.length - n).toNat))
        (Fit .i64 (n + 1) ∧
        ((0 ≤ n + 1 ∧ n + 1 ≤ xs.length ∧ ∃ own' ss', (clr B1 (xs.take n.toNat)).length = (clr B1 (xs.take (n + 1).toNat)).length ∧ Rx w28 own' rb hb fm G ra rc ts qa qc words taken last ss' ((xs.take (n + 1).toNat).map (clear1 B1) ++ xs.drop (n + 1).toNat) fin queue ∧ ss'.length = ss.length ∧ Mk w28 own' m1 30 B1 ∧ Sd w28 own' a4 c4 60 (xs.map (·.ref)) ∧ Sd w28 own' a8 c8 kc (clr B1 (xs.take (n + 1).toNat)) ∧ (∀ b ∈ ablk a8, w.heap.size ≤ b) ∧ StN 40 w w28 own own') ∧
        (xs.length - (n + 1)).toNat < (xs.length - n).toNat)))
        (Fit .i64 (n + 1) ∧
        ((0 ≤ n + 1 ∧ n + 1 ≤ xs.length ∧ ∃ own' ss', (clr B1 (xs.take n.toNat)).length = (clr B1 (xs.take (n + 1).toNat)).length ∧ Rx w10 own' rb hb fm G ra rc ts qa qc words taken last ss' ((xs.take (n + 1).toNat).map (clear1 B1) ++ xs.drop (n + 1).toNat) fin queue ∧ ss'.length = ss.length ∧ Mk w10 own' m1 30 B1 ∧ Sd w10 own' a4 c4 60 (xs.map (·.ref)) ∧ Sd w10 own' a8 c8 kc (clr B1 (xs.take (n + 1).toNat)) ∧ (∀ b ∈ ablk a8, w.heap.size ≤ b) ∧ StN 40 w w10 own own') ∧
        (xs.length - (n + 1)).toNat < (xs.length - n).toNat)) := by
      intro w10 own10 ss10 v hv hv1 R10 es10 st10
      refine IfB.nd (fun hv0 => skip w10 own10 ss10 R10 es10 st10 (by unfold stale; exact decide_eq_false (fun hc => hc.2.1 (by omega)))) (fun hv0 => ?_)
      have M10 := M6.step st10 (by decide)
      refine M10.look v ?_
      by_cases hin : v ∈ B1
      · rw [decide_eq_true hin]
        exact ifb_f (skip w10 own10 ss10 R10 es10 st10 (by unfold stale; exact decide_eq_false (fun hc => hc.2.2 (by rw [← hv]; exact hin))))
      · rw [decide_eq_false hin]
        have hs : stale B1 x = true := by unfold stale; exact decide_eq_true ⟨hk4, by rw [← hv]; exact hv0, by rw [← hv]; exact hin⟩
        have hx1 := hv1 hv0
        refine ifb_t ⟨_, R10.hd.cell rfl, xput_c R10.H 0 x.ref 0 0 (fun hn2 => absurd ⟨by rw [es10, hss]; omega, x, hx, rfl⟩ hn2) (fun z hz e' _ hn2 => ?_) (fun z hz e' _ _ _ w11 ss11 H11 t11 f11 => fun b12 w12 n12 => ?_)⟩
        · have : z = x := R10.H.same hz hx e'
          subst this
          omega
        · obtain ⟨R11, st11⟩ := R10.heap H11 f11 (fun b hb => .inl hb)
          rw [xput_at R10.srt] at R11
          have e1 : clear1 B1 x = { x with vs := x.vs.set (Int.toNat 0) 0 } := by unfold clear1; rw [if_pos hs]; rfl
          rw [← e1] at R11
          have stA := st10.trans st11
          generalize ext own10 w10.heap.size 1 = own11 at *
          have C11 := C6.step stA (by omega)
          have M11 := M6.step stA (by decide)
          have L11 := L6.step stA (by decide)
          refine C11.app n12 (by omega) fun a13 c13 w13 C13 f13 g13 => ⟨fitn, ⟨by omega, by omega, _, ss11, ?_, ?_, t11.1.trans es10, Mk.other (B := []) M11 f13 C11.tg (by omega) kc, L11.other f13 C11.tg (by omega) kc, ?_, ?_, ?_⟩, by omega⟩
          · rw [ecl, if_pos hs]; simp
          · rw [enx]; exact R11.other f13 (by intro b hb2; rw [C11.tg b hb2]; omega) kc
          · rw [ecl, if_pos hs]; exact C13
          · intro b hb2
            rcases g13 b hb2 with q | q
            · exact g6 b q
            · have := stA.size; omega
          · exact (st6.trans (stA.up (by decide))).fresh f13 g6 (ext_ag _ _ _)
    refine xload_c R9.H 0 x.ref 0 (fun hn2 => absurd ⟨by rw [es6, hss]; omega, x, hx, rfl⟩ hn2) (fun z hz e' _ hn2 w10 f10 => ?_) (fun z hz e' _ h0 h1 w10 H10 f10 => ?_)
    · have : z = x := R9.H.same hz hx e'
      subst this
      have xf := R9.H.facts.2.2.2.1 z hz
      have hz0 : z.vs.getD 0 0 = 0 := by
        have : z.vs = [] := List.eq_nil_of_length_eq_zero (by omega)
        rw [this]; rfl
      exact after w10 own6 ss6 0 hz0.symm (fun h => absurd rfl h) (R9.still f10) es6 (St.still fun S => (fA S).more (f10 S))
    · have : z = x := R9.H.same hz hx e'
      subst this
      obtain ⟨R10, st10⟩ := R9.heap H10 f10 (fun b hb => .inl hb)
      exact after w10 _ _ _ rfl (fun _ => by omega) R10 (by simp [tickA, es6]) ((St.still fA).trans st10)
  · -- what is finalizable
    have hnl : n.toNat = xs.length := by omega
    rw [hnl, List.take_length, List.drop_length, List.append_nil] at R6
    rw [hnl, List.take_length] at C6 ⊢
    have x1len : (xs.map (clear1 B1)).length = xs.length := by simp
    have x1ref : (xs.map (clear1 B1)).map (·.ref) = xs.map (·.ref) := by rw [List.map_map]; exact List.map_congr_left fun x _ => (clear1_ref B1 x).1
    have x1at : ∀ {n : Nat} {x : XC}, xs[n]? = some x → (xs.map (clear1 B1))[n]? = some (clear1 B1 x) := fun h => by rw [List.getElem?_map, h]; rfl
    refine ⟨_, R6.hd.cell rfl, xrefs_c R6.H (by rw [x1len]; omega) fun a37 c37 w7 A7 f7 g7 => ?_⟩
    rw [x1ref] at A7
    rw [x1len]
    have zw := st6.size
    have M7 : Mk w7 (ext own6 w6.heap.size 61) m1 30 B1 := Mk.other (B := []) (S := []) M6 (f7 []) (j := 61) (by simp [Tag]) (by decide) 61
    have R7 := R6.other (f7 []) (by simp) 61
    have C7 := C6.other (j := 61) (f7 []) (by simp [Tag]) (by omega) 61
    have L7 : Sd w7 (ext own6 w6.heap.size 61) a37 c37 61 (xs.map (·.ref)) := ⟨A7, Tag.fresh _ g7⟩
    have st7 : StN 40 w w7 own (ext own6 w6.heap.size 61) := st6.fresh (f7 []) (by simp) (ext_ag _ _ _)
    generalize ext own6 w6.heap.size 61 = own7 at *
    clear L6 M6 R6 C6
    refine ⟨fun a l c n w' => 0 ≤ n ∧ n ≤ xs.length ∧ ∃ own', l = (que B1 fin (xs.take n.toNat)).length ∧ Rx w' own' rb hb fm G ra rc ts qa qc words taken last ss6 (xs.map (clear1 B1)) (notIn (que B1 fin (xs.take n.toNat)) fin) queue ∧ Mk w' own' m1 30 B1 ∧ Sd w' own' a37 c37 61 (xs.map (·.ref)) ∧ Sd w' own' a8 c8 kc (clr B1 xs) ∧ Sd w' own' a c 63 (que B1 fin (xs.take n.toNat)) ∧ (∀ b ∈ ablk a, w.heap.size ≤ b) ∧ StN 40 w w' own own',
      fun _ _ _ n _ => (xs.length - n).toNat, ⟨by decide, by omega, own7, by simp [que], by simpa [que, notIn_nil] using R7, M7, L7, C7, by simpa [que] using Sd.nil w7 own7 63, by simp [ablk], st7⟩, ?_⟩
    rintro - a41 l41 c41 n2 w8 ⟨hm0, hm1', own8, rfl, R8, M8, L8, C8, Q8, g8, st8⟩
    refine IfB.dec (fun hlt => ?_) (fun hge => ?_)
    · obtain ⟨x, hxn⟩ : ∃ x, xs[n2.toNat]? = some x := ⟨_, List.getElem?_eq_getElem (show n2.toNat < xs.length by omega)⟩
      have etk := take_snoc hxn
      have en := fold_toNat hm0
      have er : (xs.map (·.ref)).getD n2.toNat 0 = x.ref := by rw [List.getD_eq_getElem?_getD, List.getElem?_map, hxn]; rfl
      have fitn : Fit .i64 (n2 + 1) := fit64 (by omega) (by omega)
      have equ : que B1 fin (xs.take (n2 + 1).toNat) = que B1 fin (xs.take n2.toNat) ++ (if x.ref ∈ fin ∧ x.ref ∉ B1 then [x.ref] else []) := by
        rw [en, etk]; unfold que; rw [List.filter_append, List.map_append, List.filter_cons]
        by_cases hc : x.ref ∈ fin ∧ x.ref ∉ B1
        · rw [if_pos (by simpa using hc), if_pos hc]; simp
        · rw [if_neg (by simpa using hc), if_neg hc]; simp
      have qlen : (que B1 fin (xs.take n2.toNat)).length ≤ xs.length := by
        unfold que; rw [List.length_map]
        exact Nat.le_trans (List.length_filter_le _ _) (by rw [List.length_take]; omega)
      -- earlier refs are others
      have notyet : x.ref ∉ que B1 fin (xs.take n2.toNat) := fun hm => by
        unfold que at hm
        obtain ⟨y, hy, ey⟩ := List.mem_map.1 hm
        have hs := h.srt
        rw [← List.take_append_drop n2.toNat xs, drop_cons hxn, List.map_append, List.map_cons, List.pairwise_append] at hs
        have := hs.2.2 y.ref (List.mem_map.2 ⟨y, (List.mem_filter.1 hy).1, rfl⟩) x.ref (by simp)
        omega
      have skip : ¬ (x.ref ∈ fin ∧ x.ref ∉ B1) → Fit .i64 (n2 + 1) ∧ ((0 ≤ n2 + 1 ∧ n2 + 1 ≤ xs.length ∧ ∃ own', (que B1 fin (xs.take n2.toNat)).length = (que B1 fin (xs.take (n2 + 1).toNat)).length ∧ Rx w8 own' rb hb fm G ra rc ts qa qc words taken last ss6 (xs.map (clear1 B1)) (notIn (que B1 fin (xs.take (n2 + 1).toNat)) fin) queue ∧ Mk w8 own' m1 30 B1 ∧ Sd w8 own' a37 c37 61 (xs.map (·.ref)) ∧ Sd w8 own' a8 c8 kc (clr B1 xs) ∧ Sd w8 own' a41 c41 63 (que B1 fin (xs.take (n2 + 1).toNat)) ∧ (∀ b ∈ ablk a41, w.heap.size ≤ b) ∧ StN 40 w w8 own own') ∧
          (xs.length - (n2 + 1)).toNat < (xs.length - n2).toNat) := by
        intro hc
        rw [equ, if_neg hc, List.append_nil]
        exact ⟨fitn, ⟨by omega, by omega, own8, rfl, R8, M8, L8, C8, Q8, g8, st8⟩, by omega⟩
      obtain ⟨m, clk, hm, hkm, hv⟩ := R8.M
      refine L8.si.get hm0 (by rw [lenr]; exact hlt) fun p hp => ⟨⟨hm0, hlt⟩, x.ref, (by rw [er] at hp; exact hp), _, R8.hd.cell rfl, look_true hm hv x.ref ?_⟩
      rw [hkm]
      have hfin : x.ref ∈ notIn (que B1 fin (xs.take n2.toNat)) fin ↔ x.ref ∈ fin := by
        unfold notIn; rw [List.mem_filter]; simp [notyet]
      by_cases hf : x.ref ∈ fin
      · rw [decide_eq_true (hfin.2 hf)]
        refine ifb_t (M8.look x.ref ?_)
        by_cases hB : x.ref ∈ B1
        · rw [decide_eq_true hB]
          exact ifb_f (skip (fun hc => hc.2 hB))
        · rw [decide_eq_false hB]
          refine ifb_t ⟨_, R8.hd.cell rfl, del_true hm hv x.ref fun w9 M9 f9 => fun b10 w10 n10 => ?_⟩
          rw [hkm, notIn_snoc] at M9
          obtain ⟨R9, st9⟩ := R8.final M9 f9
          generalize ext own8 w8.heap.size 3 = own9 at *
          have M9' := M8.step st9 (by decide)
          have L9 := L8.step st9 (by decide)
          have C9 := C8.step st9 (by omega)
          have Q9 := Q8.step st9 (by decide)
          refine Q9.app n10 (by omega) fun a11 c11 w11 Q11 f11 g11 => ⟨fitn, ⟨by omega, by omega, _, ?_, ?_, Mk.other (B := []) M9' f11 Q9.tg (by decide) 63, L9.other f11 Q9.tg (by decide) 63, C9.other f11 Q9.tg (by omega) 63, ?_, ?_, ?_⟩, by dsimp only; omega⟩
          · rw [equ, if_pos ⟨hf, hB⟩]; simp
          · rw [equ, if_pos ⟨hf, hB⟩]; exact R9.other f11 (by intro b hb2; rw [Q9.tg b hb2]; decide) 63
          · rw [equ, if_pos ⟨hf, hB⟩]; exact Q11
          · intro b hb2
            rcases g11 b hb2 with q | q
            · exact g8 b q
            · have := st9.size; have := st8.size; omega
          · exact (st8.trans (st9.up (by decide))).fresh f11 g8 (ext_ag _ _ _)
      · rw [decide_eq_false (fun hc => hf (hfin.1 hc))]
        exact ifb_f (skip (fun hc => hf hc.1))
    · -- the queue grows; what is reached now
      have hnl2 : n2.toNat = xs.length := by omega
      rw [hnl2, List.take_length] at R8 Q8 ⊢
      have qlen : (que B1 fin xs).length ≤ xs.length := by
        unfold que; rw [List.length_map]; exact List.length_filter_le _ _
      have z8 := st8.size
      refine ⟨_, _, _, R8.hd.cell rfl, SI.appends (P := Try.prog) (t := 42) (e := 3) (i := Try.t3) (by kernel_rfl) (by kernel_rfl) rfl rfl R8.Q Q8.si (by omega) (by decide) 42 fun a9 c9 w9 S9 f9 g9 => ?_⟩
      have B9 := R8.hd.fr f9 (fun hb2 => (R8.o0.apart R8.o4 (by decide)) rb (by simp) hb2)
      refine ⟨B9.may (by simp), fun w10 s10 => ?_⟩
      have B10 := s10.blk B9
      have f10 : Fr [rb] w9 w10 := s10.fr (by simp)
      obtain ⟨R10, st10⟩ := R8.row (qa' := a9) (qc' := c9) (queue' := queue ++ que B1 fin xs) S9 f9 g9 (by simpa using B10) f10
      generalize ext own8 w8.heap.size 4 = own10 at *
      have C10 := C8.step st10 (by omega)
      have Q10 := Q8.step st10 (by decide)
      have stA := st8.trans (st10.up (by decide))
      clear R8 C8 Q8 L8 M8 B9 S9
      refine rreached_c (km := 31) (by decide) R10 (by rw [es6, hss]) h1t (by rw [x1len]; omega) fun w11 own11 ss11 m2 B2 R11 es11 hm11 tm11 hB2 st11 => ⟨_, R11.hd.cell rfl, xrefs_c R11.H (by rw [x1len]; omega) fun a12 c12 w12 A12 f12 g12 => ?_⟩
      rw [x1ref] at A12
      rw [x1len]
      have C11 := C10.step st11 (by omega)
      have Q11 := Q10.step st11 (by decide)
      have stB := stA.trans st11
      have z11 := stB.size
      have M12 : Mk w12 (ext own11 w11.heap.size 62) m2 31 B2 := Mk.other (B := []) (S := []) ⟨hm11, tm11⟩ (f12 []) (j := 62) (by simp [Tag]) (by decide) 62
      have R12 := R11.other (f12 []) (by simp) 62
      have C12 := C11.other (j := 62) (f12 []) (by simp [Tag]) (by omega) 62
      have Q12 := Q11.other (j := 62) (f12 []) (by simp [Tag]) (by decide) 62
      have L12 : Sd w12 (ext own11 w11.heap.size 62) a12 c12 62 (xs.map (·.ref)) := ⟨A12, Tag.fresh _ g12⟩
      have st12 : StN 40 w w12 own (ext own11 w11.heap.size 62) := stB.fresh (f12 []) (by simp) (ext_ag _ _ _)
      generalize ext own11 w11.heap.size 62 = own12 at *
      have es12 : ss11.length = ss.length := es11.trans es6
      clear R10 C10 Q10 R11 C11 Q11
      refine ⟨fun n w' => 0 ≤ n ∧ n ≤ xs.length ∧ ∃ own' G', Rx w' own' rb hb fm G' ra rc ts a9 c9 words (xsum (((xs.map (clear1 B1)).take n.toNat).filter (fun x => decide (x.ref ∈ B2)) ++ (xs.map (clear1 B1)).drop n.toNat)) last ss11 (((xs.map (clear1 B1)).take n.toNat).filter (fun x => decide (x.ref ∈ B2)) ++ (xs.map (clear1 B1)).drop n.toNat) (notIn (gone B2 (xs.take n.toNat)) (notIn (que B1 fin xs) fin)) (queue ++ que B1 fin xs) ∧ Mk w' own' m2 31 B2 ∧ Sd w' own' a12 c12 62 (xs.map (·.ref)) ∧ Sd w' own' a8 c8 kc (clr B1 xs) ∧ Sd w' own' a41 c41 63 (que B1 fin xs) ∧ StN 40 w w' own own',
        fun n _ => (xs.length - n).toNat, ⟨by decide, by omega, own12, G, ?_, M12, L12, C12, Q12, st12⟩, ?_⟩
      · have e1 : xsum (xs.map (clear1 B1)) = taken := by
          rw [htk]
          have : ∀ ys : List XC, xsum (ys.map (clear1 B1)) = xsum ys := fun ys => by
            induction ys with
            | nil => rfl
            | cons y ys ih => simp only [List.map_cons, xsum, ih, (clear1_ref B1 y).2.2]
          exact this xs
        simpa [gone, notIn_nil, e1] using R12
      rintro - n3 w13 ⟨hp0, hp1, own13, G13, R13, M13, L13, C13, Q13, st13⟩
      refine IfB.dec (fun hlt => ?_) (fun hge => ?_)
      · obtain ⟨x, hxn⟩ : ∃ x, xs[n3.toNat]? = some x := ⟨_, List.getElem?_eq_getElem (show n3.toNat < xs.length by omega)⟩
        have etk := take_snoc hxn
        have en := fold_toNat hp0
        have er : (xs.map (·.ref)).getD n3.toNat 0 = x.ref := by rw [List.getD_eq_getElem?_getD, List.getElem?_map, hxn]; rfl
        have fitn : Fit .i64 (n3 + 1) := fit64 (by omega) (by omega)
        have cref := (clear1_ref B1 x).1
        have etk1 := take_snoc (x1at hxn)
        have ed1 := drop_cons (x1at hxn)
        have ego : gone B2 (xs.take (n3 + 1).toNat) = gone B2 (xs.take n3.toNat) ++ (if x.ref ∈ B2 then [] else [x.ref]) := by
          rw [en, etk]; unfold gone; rw [List.filter_append, List.map_append, List.filter_cons]
          by_cases hc : x.ref ∈ B2
          · rw [if_neg (by simpa using hc), if_pos hc]; simp
          · rw [if_pos (by simpa using hc), if_neg hc]; simp
        rw [ed1] at R13
        have efi : ((xs.map (clear1 B1)).take (n3 + 1).toNat).filter (fun x => decide (x.ref ∈ B2)) = ((xs.map (clear1 B1)).take n3.toNat).filter (fun x => decide (x.ref ∈ B2)) ++ (if x.ref ∈ B2 then [clear1 B1 x] else []) := by
          rw [en, etk1, List.filter_append, List.filter_cons, cref]
          by_cases hc : x.ref ∈ B2
          · rw [if_pos (by simpa using hc), if_pos hc]; simp
          · rw [if_neg (by simpa using hc), if_neg hc]; simp
        refine L13.si.get hp0 (by rw [lenr]; exact hlt) fun p hp => ⟨⟨hp0, hlt⟩, x.ref, (by rw [er] at hp; exact hp), M13.look x.ref ?_⟩
        by_cases hB : x.ref ∈ B2
        · rw [decide_eq_true hB]
          refine ifb_f ⟨fitn, ⟨by omega, by omega, own13, G13, ?_, M13, L13, C13, Q13, st13⟩, by dsimp only; omega⟩
          rw [efi, if_pos hB, ego, if_pos hB, List.append_nil, en]
          simpa using R13
        · rw [decide_eq_false hB]
          have hx : clear1 B1 x ∈ ((xs.map (clear1 B1)).take n3.toNat).filter (fun x => decide (x.ref ∈ B2)) ++ clear1 B1 x :: (xs.map (clear1 B1)).drop (n3.toNat + 1) := by simp
          have xf := R13.H.facts
          have hxf := xf.2.2.2.1 _ hx
          have hsm : xsum (((xs.map (clear1 B1)).take n3.toNat).filter (fun x => decide (x.ref ∈ B2)) ++ clear1 B1 x :: (xs.map (clear1 B1)).drop (n3.toNat + 1)) = xsum (((xs.map (clear1 B1)).take n3.toNat).filter (fun x => decide (x.ref ∈ B2)) ++ (xs.map (clear1 B1)).drop (n3.toNat + 1)) + ((clear1 B1 x).n + 16) := by
            rw [xsum_append, xsum_append]; simp only [xsum]; omega
          have hps : 0 ≤ xsum (((xs.map (clear1 B1)).take n3.toNat).filter (fun x => decide (x.ref ∈ B2)) ++ (xs.map (clear1 B1)).drop (n3.toNat + 1)) := xsum_nonneg _ fun y hy => (xf.2.2.2.1 y (by
            rcases List.mem_append.1 hy with q | q
            · exact List.mem_append.2 (.inl q)
            · exact List.mem_append.2 (.inr (by simp [q])))).1
          have hfit := xf.2.2.2.2.1
          have hwd := xf.2.2.2.2.2.2
          refine ifb_t ⟨_, R13.hd.cell rfl, rcell_c R13 hx cref fun w14 f14 => fun b15 w15 n15 => told_y n15 fun w16 X16 f16 => fun w17 d17 => ?_⟩
          have fA : ∀ S, Fr S w13 w17 := fun S => ((f14 S).more (f16 S)).more (d17.fr S)
          have R17 := R13.still fA
          have X17 := X16.fr (d17.fr []) (by simp)
          refine ⟨_, R17.hd.cell rfl, _, X17.cell rfl, fit64 (by omega) (by omega), fit64 (by omega) (by omega), R17.hd.may (by simp), fun w18 s18 => ?_⟩
          obtain ⟨R18, st18⟩ := R17.head (taken' := _) (by simpa using s18.blk R17.hd) (s18.fr (by simp))
          generalize ext own13 w17.heap.size 0 = own18 at *
          refine ⟨_, R18.hd.cell rfl, xfree_c R18.H 0 x.ref (fun hn2 => absurd ⟨by rw [es12, hss]; omega, _, hx, cref⟩ hn2) (fun _ _ w19 G19 H19 f19 g19 => ?_)⟩
          obtain ⟨R19, st19⟩ := R18.heap H19 f19 (fun b hb => .inl (g19 b hb))
          generalize ext own18 w18.heap.size 1 = own19 at *
          have efr := xfree_at R13.srt
          rw [cref] at efr
          rw [efr] at R19
          obtain ⟨m, clk, hm, hkm, hv⟩ := R19.M
          refine ⟨_, R19.hd.cell rfl, del_true hm hv x.ref fun w20 M20 f20 => ⟨fitn, ?_⟩⟩
          rw [hkm, notIn_snoc] at M20
          obtain ⟨R20, st20⟩ := R19.final M20 f20
          generalize ext own19 w19.heap.size 3 = own20 at *
          have stC : StN 13 w13 w20 own13 own20 := (((St.still fA).trans st18).trans st19).trans st20
          refine ⟨⟨by omega, by omega, own20, G19, ?_, M13.step stC (by decide), L13.step stC (by decide), C13.step stC (by omega), Q13.step stC (by decide), st13.trans (stC.up (by decide))⟩, by dsimp only; omega⟩
          rw [efi, if_neg hB, List.append_nil, ego, if_neg hB, en]
          have esm : xsum (((xs.map (clear1 B1)).take n3.toNat).filter (fun x => decide (x.ref ∈ B2)) ++ clear1 B1 x :: (xs.map (clear1 B1)).drop (n3.toNat + 1)) - ((clear1 B1 x).n + 16) = xsum (((xs.map (clear1 B1)).take n3.toNat).filter (fun x => decide (x.ref ∈ B2)) ++ (xs.map (clear1 B1)).drop (n3.toNat + 1)) := by omega
          rw [esm] at R20
          exact R20
      · have hnl3 : n3.toNat = xs.length := by omega
        rw [hnl3, ← x1len, List.take_length, List.drop_length, List.append_nil, x1len, List.take_length] at R13
        have z13 := st13.size
        refine SI.appends (P := Try.prog) (t := 42) (e := 3) (i := Try.t3) (by kernel_rfl) (by kernel_rfl) rfl rfl (SI.nil w13) Q13.si (by simp; omega) (by decide) 42 fun a92 c92 w14 S14 f14 g14 => ?_
        have e92 : ∀ b ∈ ablk a92, w13.heap.size ≤ b := fun b hb2 => by
          rcases g14 b hb2 with q | q
          · simp [ablk] at q
          · exact q
        have fS : ∀ S, Fr S w13 w14 := fun S => f14.mono (by simp [ablk])
        have R14 := R13.other (fS []) (by simp) kd
        have C14 := C13.other (j := kd) (fS []) (by simp [Tag]) (by omega) kd
        have e0 : ([] : List Int).length + (que B1 fin xs).length = (que B1 fin xs).length := by simp
        rw [e0]
        exact hK w14 _ G13 a9 c9 ss11 B1 B2 a8 c8 a92 c92 hB1 hB2 R14 es12 C14 ⟨by simpa using S14, Tag.fresh _ e92⟩ (st13.fresh (fS []) (by simp) (ext_ag _ _ _))
end
end Go.Proofs.Ytfpghcdjfiggiaa.V

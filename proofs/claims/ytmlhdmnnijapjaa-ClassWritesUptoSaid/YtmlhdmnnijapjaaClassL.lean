/- Reading a program: lists of things, one by one. No condition. -/
import Derived.Test.YtmlhdmnnijapjaaClassR
namespace Go.Proofs.Ytmlhdmnnijapjaa.V
open Go Go.RowKit Go.Proofs.Ytmlhdmnnijapjaa.WirePlain

section
variable {X : List PanicEntry → World → Prop} {rb : Nat} {s : ByteArray} {α : Type}

/-- So many things, each in its turn. -/
theorem list_loop {R : (Nat → Prop) → Prop → World → List Value → α → Prop} (hR : Rel1 R) {one : Int → Rs α} {kk : Nat} (hk : 0 < kk)
    {t e T : TypeId} {i : TypeInfo} {z : Value} (ht : Try.prog.underlying t = some (.slice e)) (hi : Try.prog.info? e = some i) (hz : i.zero = some z) (hs : i.size = kk) (hzs : z.cells.size = kk) (hby : i.bytes ≤ 1048576)
    (call : World → (List Value → World → Prop) → Prop)
    {w5 : World} (hcall : ∀ w p (k : α → Int → World → Prop) F, Fr [rb] w5 w → RdW w rb s p → Out X rb s (one p) w k → (∀ x q row w', RdW w' rb s q → Fr [rb] w w' → R (fun b => w.heap.size ≤ b) True w' row x → row.length = kk → (∀ u ∈ row, isCell u = true) → k x q w' → F row w') → call w F)
    {n q : Int} (hn : 0 ≤ n) (hn2 : n ≤ 1000) (R5 : RdW w5 rb s q) {k : List α → Int → World → Prop} (h : Out X rb s (repD one n.toNat q) w5 k) {K : Option Addr → Nat → Nat → World → Prop}
    (hK : ∀ xs q' a c w', RdW w' rb s q' → Fr [rb] w5 w' → k xs q' w' → rSeq (fun b => w5.heap.size ≤ b) True w' kk (R (fun b => w5.heap.size ≤ b) True w') a xs.length xs → K a xs.length c w') :
    ∃ (I : Option Addr → Nat → Nat → Int → World → Prop) (m : Option Addr → Nat → Nat → Int → World → Nat), I none 0 0 0 w5 ∧
      ∀ (_ : Env) (a8 : Option Addr) (l8 c8 : Nat) (n9 : Int) (w10 : World), I a8 l8 c8 n9 w10 →
      IfB (decide ((n9 : Int) < n)) (call w10 fun row w13 => ∀ (b14 : Nat) (w15 : World), NewAt w13 w15 b14 row.toArray T →
        RunF Try.prog (Builtin.append_ #[t, t] t #[.slice a8 l8 c8, .slice (some ⟨b14, 0, none⟩) 1 1]) w15 [.leaf .slice] fun (a16 : Option Addr) (l16 c16 : Nat) (w17 : World) =>
        Fit .i64 (n9 + 1) ∧ (I a16 l16 c16 (n9 + 1) w17 ∧ m a16 l16 c16 (n9 + 1) w17 < m a8 l8 c8 n9 w10)) (K a8 l8 c8 w10) := by
  have hrb := R5.hd.lt
  refine ⟨fun a l c j w' => ∃ acc p, l = acc.length ∧ (acc.length : Int) = j ∧ j ≤ n ∧ RdW w' rb s p ∧ Fr [rb] w5 w' ∧ oSeq R w5.heap.size w' kk a c acc ∧ Out X rb s (bindD (repD one (n - j).toNat p) fun ys q => .ok (acc ++ ys, q)) w5 k,
    fun _ _ _ j _ => (n - j).toNat, ⟨[], q, rfl, rfl, hn, R5, Fr.refl _ _, oSeq.nil _ _ _, ?_⟩, ?_⟩
  · rw [Int.sub_zero]
    have : (bindD (repD one n.toNat q) fun ys q => (.ok ([] ++ ys, q) : Rs (List α))) = repD one n.toNat q := bind_ok _
    rw [this]; exact h
  rintro - a _ c j w10 ⟨acc, p, rfl, rfl, hj, R10, f10, O, ho⟩
  refine IfB.dec (fun hlt => ?_) (fun hge => ?_)
  · obtain ⟨m, hm⟩ : ∃ m, (n - acc.length).toNat = m + 1 := ⟨(n - acc.length).toNat - 1, by omega⟩
    rw [hm, repD_acc] at ho
    refine hcall w10 p _ _ f10 R10 (ho.from f10) fun x q' row w13 R13 f13 hx hl hc ⟨_, ho2⟩ b14 w15 n15 => ?_
    refine O.app hR hk hl hx f13 (by simpa using hrb) f10.size ht hi hz hs hzs hc (by omega) hby n15 fun a' c' w' O' f' => ⟨fit64 (by omega) (by omega), ⟨acc ++ [x], q', by simp, by simp, by omega, ?_, ?_, O', ?_⟩, by (try dsimp only); omega⟩
    · refine R13.fr f' fun hb => ?_
      have := O.up rb hb
      omega
    · exact (f10.more f13).trans f' fun b hb => .inr (O.up b hb)
    · have hm2 : (n - ((acc.length : Int) + 1)).toNat = m := by omega
      rw [hm2]
      exact ho2
  · have e0 : (n - acc.length).toNat = 0 := by omega
    rw [e0] at ho
    simp only [repD, bindD, List.append_nil] at ho
    exact hK acc p a c w10 R10 f10 (ho.ret R10 f10) (O.done hR hk)

theorem setAll {w w' : World} {b : Nat} {cs vs : List Value} (h : SetL w w' ⟨b, 0, none⟩ vs) (hb : Blk w b cs) (hl : vs.length = cs.length) : Blk w' b vs ∧ Fr [b] w w' := by
  unfold SetL at h
  subst h
  obtain ⟨g1, g2⟩ := setL_blk vs 0 w cs b 0 hb (by omega)
  refine ⟨?_, g2⟩
  have : cs.drop (0 + 0 + vs.length) = [] := by rw [List.drop_eq_nil_iff]; omega
  rw [this] at g1
  simpa using g1

variable {w : World} {p : Int} {cb : Nat}

/-- A captured reader. -/
structure Cap (w : World) (cb rb : Nat) : Prop where
  hd : Blk w cb [.pointer (some ⟨rb, 0, none⟩)]
  ne : cb ≠ rb

theorem Cap.fr {w w' : World} {cb : Nat} {S : List Nat} (h : Cap w cb rb) (f : Fr S w w') (hn : cb ∉ S) : Cap w' cb rb := ⟨h.hd.fr f hn, h.ne⟩
theorem Cap.fr1 {w w' : World} {cb : Nat} (h : Cap w cb rb) (f : Fr [rb] w w') : Cap w' cb rb := h.fr f (by simp; exact h.ne)

theorem fld_x {k : Fld → Int → World → Prop} {K : ByteArray → Int → World → Prop} (C : Cap w cb rb) (R : RdW w rb s p) (hs : s.size ≤ 32768) (h : Out X rb s (fldD s p) w k) (hK : ∀ x q w', RdW w' rb s q → Fr [rb] w w' → k x q w' → K x.name x.ty w') : CX70 X (some ⟨cb, 0, none⟩) w K := by
  refine r_f70 _ _ _ _ fun b1 w2 n1 => ?_
  have lr := R.hd.lt
  have hb : b1 ≠ rb := by have := n1.ge; omega
  have R2 := R.fr (n1.fr []) (by simp)
  have f2 : Fr [rb] w w2 := n1.fr _
  refine ⟨_, (C.fr1 f2).hd.cell rfl, name_x R2 hs (h.from f2) fun nm q w5 R5 f5 ⟨_, h⟩ => ?_⟩
  have f5' := f2.more f5
  refine ⟨_, (C.fr1 f5').hd.cell rfl, num_x R5 hs (h.from f5') fun t q w8 R8 f8 ⟨_, h⟩ => ?_⟩
  have N8 := (n1.blk.fr f5 (by simp; exact hb)).fr f8 (by simp; exact hb)
  refine ⟨N8.mayL (by simp), fun w9 s9 => ?_⟩
  obtain ⟨B9, f9⟩ := setAll s9 N8 rfl
  have f9' : Fr [rb] w w9 := (f5'.more f8).trans f9 (by simp; exact .inr n1.ge)
  have R9 := R8.fr f9 (by simp; exact fun e => hb e.symm)
  exact ⟨_, _, B9.cells, hK _ _ _ R9 f9' (h.ret R9 f9')⟩

theorem ins_x {k : Ins → Int → World → Prop} {K : Int → Int → Int → World → Prop} (C : Cap w cb rb) (R : RdW w rb s p) (hs : s.size ≤ 32768) (h : Out X rb s (insD s p) w k) (hK : ∀ x q w', RdW w' rb s q → Fr [rb] w w' → k x q w' → K x.op x.a x.b w') : CX96 X (some ⟨cb, 0, none⟩) w K := by
  refine r_f96 _ _ _ _ fun b1 w2 n1 w3 d3 => ?_
  have lr := R.hd.lt
  have hb : b1 ≠ rb := by have := n1.ge; omega
  have f3 : Fr [rb] w w3 := (n1.fr _).more (d3.fr _)
  have R3 := (R.fr (n1.fr []) (by simp)).fr (d3.fr []) (by simp)
  have C3 := C.fr1 f3
  have N3 := n1.blk.fr (d3.fr []) (by simp)
  have fin : ∀ a b q w6 w9, RdW w9 rb s q → Fr [rb] w w6 → Fr [rb] w6 w9 → Blk w6 b1 [.int .i64 0, .int .i64 0, .int .i64 0] → Out X rb s (bindD (numD s q) fun c q => .ok (⟨a, b, c⟩, q)) w k → 
      ∃ (q10 : Option Addr), World.cell? w9 ⟨cb, 0, none⟩ = some (.pointer q10) ∧ CX47 X q10 w9 fun n11 w12 => MayL w12 ⟨b1, 0, none⟩ 3 ∧ ∀ w13 : World, SetL w12 w13 ⟨b1, 0, none⟩ [.int .i64 a, .int .i64 b, .int .i64 n11] →
      ∃ (n14 : Int), ∃ (n15 : Int), ∃ (n16 : Int), CellsAt w13 ⟨b1, 0, none⟩ [.int .i64 n14, .int .i64 n15, .int .i64 n16] ∧ K n14 n15 n16 w13 := by
    intro a b q w6 w9 R9 f6 f9 N6 h
    refine ⟨_, ((C.fr1 f6).fr1 f9).hd.cell rfl, num_x R9 hs (h.from (f6.more f9)) fun c q w12 R12 f12 ⟨_, h⟩ => ?_⟩
    have N12 := (N6.fr f9 (by simp; exact hb)).fr f12 (by simp; exact hb)
    refine ⟨N12.mayL (by simp), fun w13 s13 => ?_⟩
    obtain ⟨B13, f13⟩ := setAll s13 N12 rfl
    have f13' : Fr [rb] w w13 := ((f6.more f9).more f12).trans f13 (by simp; exact .inr n1.ge)
    have R13 := R12.fr f13 (by simp; exact fun e => hb e.symm)
    exact ⟨_, _, _, B13.cells, hK _ _ _ R13 f13' (h.ret R13 f13')⟩
  refine ⟨_, C3.hd.cell rfl, num_x R3 hs (h.from f3) fun a q w6 R6 f6 ⟨_, h⟩ => ⟨_, (C3.fr1 f6).hd.cell rfl, num_x R6 hs (h.from (f3.more f6)) fun b q w9 R9 f9 ⟨_, h⟩ => ?_⟩,
    _, C3.hd.cell rfl, num_x R3 hs (h.from f3) fun a q w6 R6 f6 ⟨_, h⟩ => num_x R6 hs (h.from (f3.more f6)) fun b q w9 R9 f9 ⟨_, h⟩ => ?_⟩
  all_goals exact fin a b q w6 w9 R9 (f3.more f6) f9 (N3.fr f6 (by simp; exact hb)) h

theorem hnd_x {k : Hnd → Int → World → Prop} {K : Int → Int → Int → Int → World → Prop} (C : Cap w cb rb) (R : RdW w rb s p) (hs : s.size ≤ 32768) (h : Out X rb s (hndD s p) w k) (hK : ∀ x q w', RdW w' rb s q → Fr [rb] w w' → k x q w' → K x.lo x.hi x.pl x.cl w') : CX98 X (some ⟨cb, 0, none⟩) w K := by
  refine r_f98 _ _ _ _ fun b1 w2 n1 w3 d3 => ?_
  have lr := R.hd.lt
  have hb : b1 ≠ rb := by have := n1.ge; omega
  have f3 : Fr [rb] w w3 := (n1.fr _).more (d3.fr _)
  have R3 := (R.fr (n1.fr []) (by simp)).fr (d3.fr []) (by simp)
  have C3 := C.fr1 f3
  have N3 := n1.blk.fr (d3.fr []) (by simp)
  have fin : ∀ a b c q w9, RdW w9 rb s q → Fr [rb] w w9 → Blk w9 b1 [.int .i64 0, .int .i64 0, .int .i64 0, .int .i64 0] → Out X rb s (bindD (numD s q) fun d q => .ok (⟨a, b, c, d⟩, q)) w k → 
      ∃ (q10 : Option Addr), World.cell? w9 ⟨cb, 0, none⟩ = some (.pointer q10) ∧ CX47 X q10 w9 fun n11 w12 => MayL w12 ⟨b1, 0, none⟩ 4 ∧ ∀ w13 : World, SetL w12 w13 ⟨b1, 0, none⟩ [.int .i64 a, .int .i64 b, .int .i64 c, .int .i64 n11] →
      ∃ (n14 : Int), ∃ (n15 : Int), ∃ (n16 : Int), ∃ (n17 : Int), CellsAt w13 ⟨b1, 0, none⟩ [.int .i64 n14, .int .i64 n15, .int .i64 n16, .int .i64 n17] ∧ K n14 n15 n16 n17 w13 := by
    intro a b c q w9 R9 f9 N9 h
    refine ⟨_, (C.fr1 f9).hd.cell rfl, num_x R9 hs (h.from f9) fun c q w12 R12 f12 ⟨_, h⟩ => ?_⟩
    have N12 := N9.fr f12 (by simp; exact hb)
    refine ⟨N12.mayL (by simp), fun w13 s13 => ?_⟩
    obtain ⟨B13, f13⟩ := setAll s13 N12 rfl
    have f13' : Fr [rb] w w13 := (f9.more f12).trans f13 (by simp; exact .inr n1.ge)
    have R13 := R12.fr f13 (by simp; exact fun e => hb e.symm)
    exact ⟨_, _, _, _, B13.cells, hK _ _ _ R13 f13' (h.ret R13 f13')⟩
  have hb' : b1 ∉ [rb] := by simp; exact hb
  repeat' first
    | with_reducible refine And.intro ?_ ?_
    | (refine ⟨_, C3.hd.cell rfl, ?_⟩; done)
    | (with_reducible refine Exists.intro _ (And.intro (C3.hd.cell rfl) ?_))
    | (refine num_x R3 hs (h.from f3) fun a q w6 R6 f6 ⟨_, h⟩ => ?_
       have C6 := C3.fr1 f6
       have N6 := N3.fr f6 hb'
       have g6 := f3.more f6
       first
       | (refine num_x R6 hs (h.from g6) fun b q w9 R9 f9 ⟨_, h⟩ => ?_
          first
          | exact num_x R9 hs (h.from (g6.more f9)) fun c q w12 R12 f12 ⟨_, h⟩ => fin a b c q w12 R12 ((g6.more f9).more f12) ((N6.fr f9 hb').fr f12 hb') h
          | exact ⟨_, (C6.fr1 f9).hd.cell rfl, num_x R9 hs (h.from (g6.more f9)) fun c q w12 R12 f12 ⟨_, h⟩ => fin a b c q w12 R12 ((g6.more f9).more f12) ((N6.fr f9 hb').fr f12 hb') h⟩)
       | exact ⟨_, C6.hd.cell rfl, num_x R6 hs (h.from g6) fun b q w9 R9 f9 ⟨_, h⟩ => num_x R9 hs (h.from (g6.more f9)) fun c q w12 R12 f12 ⟨_, h⟩ => fin a b c q w12 R12 ((g6.more f9).more f12) ((N6.fr f9 hb').fr f12 hb') h⟩
       | (refine ⟨_, C6.hd.cell rfl, num_x R6 hs (h.from g6) fun b q w9 R9 f9 ⟨_, h⟩ => ⟨_, (C6.fr1 f9).hd.cell rfl, num_x R9 hs (h.from (g6.more f9)) fun c q w12 R12 f12 ⟨_, h⟩ => fin a b c q w12 R12 ((g6.more f9).more f12) ((N6.fr f9 hb').fr f12 hb') h⟩, ?_⟩
          exact ⟨_, C6.hd.cell rfl, num_x R6 hs (h.from g6) fun b q w9 R9 f9 ⟨_, h⟩ => num_x R9 hs (h.from (g6.more f9)) fun c q w12 R12 f12 ⟨_, h⟩ => fin a b c q w12 R12 ((g6.more f9).more f12) ((N6.fr f9 hb').fr f12 hb') h⟩)
       | (refine ⟨num_x R6 hs (h.from g6) fun b q w9 R9 f9 ⟨_, h⟩ => ⟨_, (C6.fr1 f9).hd.cell rfl, num_x R9 hs (h.from (g6.more f9)) fun c q w12 R12 f12 ⟨_, h⟩ => fin a b c q w12 R12 ((g6.more f9).more f12) ((N6.fr f9 hb').fr f12 hb') h⟩, ?_⟩
          exact ⟨_, C6.hd.cell rfl, num_x R6 hs (h.from g6) fun b q w9 R9 f9 ⟨_, h⟩ => num_x R9 hs (h.from (g6.more f9)) fun c q w12 R12 f12 ⟨_, h⟩ => fin a b c q w12 R12 ((g6.more f9).more f12) ((N6.fr f9 hb').fr f12 hb') h⟩))
end
end Go.Proofs.Ytmlhdmnnijapjaa.V

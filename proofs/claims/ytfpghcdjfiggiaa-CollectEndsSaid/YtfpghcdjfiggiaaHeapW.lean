/- The heap: the cells it lies in. No condition. -/
import Derived.Test.YtfpghcdjfiggiaaSpineB
import Derived.Test.YtfpghcdjfiggiaaGHeap
namespace Go.Proofs.Ytfpghcdjfiggiaa.V
open Go Go.RowKit

/-- A cell: its kind, class, size, and its array. -/
structure HC where
  ref : Int
  kind : Int
  cls : Int
  n : Int
  id : Int
  st : Nat

def aggC (c : HC) : Value := .agg #[.int .i64 c.kind, .int .i64 c.cls, .int .i64 c.n, .int .i64 c.id]
def hent (c : HC) : Ent := (c.ref, aggC c, c.st)
def csum : List HC → Int
  | [] => 0
  | c :: l => c.n + 16 + csum l

/-- The heap's own block and map; the space lies in blocks F. -/
structure HpAt (w : World) (F : List Nat) (hb hm s ab : Nat) (last room : Int) (cs : List HC) (clk : Nat) : Prop where
  hd : Blk w hb [ptrV ab, ptrV s, .map (some hm), .int .i64 last, .int .i64 room]
  mi : MI w hm (cs.map hent) clk
  ne : hb ≠ hm ∧ hb ∉ F ∧ hm ∉ F

/-- The heap's cells are the space's arrays. -/
structure HInv (g : SG) (l : List Arr) (last room words : Int) (cs : List HC) : Prop where
  rel : cs.map (fun c => (c.id, c.n)) = l.map (fun x => (x.id, x.n))
  ids : ∀ c ∈ cs, 1 ≤ c.ref ∧ c.ref ≤ last
  l0 : 0 ≤ last
  sz : ∀ c ∈ cs, 0 ≤ c.n
  fit : csum cs ≤ room
  geo : room = (words + 3) / 4 ∧ g.half = words / 2 ∧ 512 ≤ words ∧ words ≤ 65536
  act : g.act = false

section
variable {w w' : World} {F S : List Nat} {hb hm s ab clk : Nat} {last room words : Int} {cs : List HC} {g : SG} {l : List Arr}

theorem HpAt.fr (h : HpAt w F hb hm s ab last room cs clk) (f : Fr S w w') (h1 : hb ∉ S) (h2 : hm ∉ S) : HpAt w' F hb hm s ab last room cs clk := ⟨h.hd.fr f h1, h.mi.fr f h2, h.ne⟩
theorem HpAt.fr0 (h : HpAt w F hb hm s ab last room cs clk) (f : Fr [] w w') : HpAt w' F hb hm s ab last room cs clk := h.fr f (by simp) (by simp)

/-- The space has moved. -/
theorem HpAt.sp {F' : List Nat} (h : HpAt w F hb hm s ab last room cs clk) (f : Fr F w w') (gr : Grw F F' w.heap.size) : HpAt w' F' hb hm s ab last room cs clk := by
  obtain ⟨n1, n2, n3⟩ := h.ne
  have l1 := h.hd.lt
  have l2 := heap_lt h.mi.heap
  refine ⟨h.hd.fr f n2, h.mi.fr f n3, n1, fun hb2 => ?_, fun hb2 => ?_⟩
  · rcases gr _ hb2 with q | q
    · exact n2 q
    · omega
  · rcases gr _ hb2 with q | q
    · exact n3 q
    · omega

/-- A ref is looked up. -/
theorem HpAt.look (h : HpAt w F hb hm s ab last room cs clk) (k : Int) {K : Int → Int → Int → Int → Bool → World → Prop} (hyes : ∀ c ∈ cs, c.ref = k → K c.kind c.cls c.n c.id true w) (hno : (∀ c ∈ cs, c.ref ≠ k) → K 0 0 0 0 false w) :
    RunF Try.prog (Instr.lookup 195 (.map (some hm)) (.int .i64 k) true) w [.agg [.int .i64, .int .i64, .int .i64, .int .i64], .leaf .bool] K := by
  have hr := run_lookup (P := Try.prog) h.mi (t := 195) (kt := 3) (et := 199) (by kernel_rfl) (by kernel_rfl) Try.t199 (.agg #[.int .i64 0, .int .i64 0, .int .i64 0, .int .i64 0]) (by kernel_rfl) rfl k true
  by_cases hk : ∃ c ∈ cs, c.ref = k
  · obtain ⟨c, hc, rfl⟩ := hk
    have hg : mget (cs.map hent) c.ref = some (aggC c) := mget_some h.mi.nodup (st := c.st) (List.mem_map.2 ⟨c, hc, rfl⟩)
    rw [hg] at hr
    exact ⟨[.int .i64 c.kind, .int .i64 c.cls, .int .i64 c.n, .int .i64 c.id, .bool true], w, hr, hyes c hc rfl⟩
  · have hk : ∀ c ∈ cs, c.ref ≠ k := fun c hc e => hk ⟨c, hc, e⟩
    have hg : mget (cs.map hent) k = none := mget_no fun e he => by
      obtain ⟨c, hc, rfl⟩ := List.mem_map.1 he
      exact hk c hc
    rw [hg] at hr
    exact ⟨[.int .i64 0, .int .i64 0, .int .i64 0, .int .i64 0, .bool false], w, hr, hno hk⟩

/-- A cell is found. -/
theorem hfind_c {mb wb sb lc clk2 : Nat} {ws ss : List Int} {la : Option Addr} (h : HpAt w F hb hm s ab last room cs clk) (H : SpAt w F s mb ab wb sb g l ws ss la lc clk2) (agent ref : Int) {K : Int → Int → Int → Int → Int → World → Prop}
    (hno : ¬ ((0 ≤ agent ∧ agent < ss.length) ∧ ∃ c ∈ cs, c.ref = ref) → ∀ w', (∀ S, Fr S w w') → K 0 0 0 0 904 w') (hok : ∀ c ∈ cs, c.ref = ref → (0 ≤ agent ∧ agent < ss.length) → ∀ w', (∀ S, Fr S w w') → K c.kind c.cls c.n c.id 0 w') :
    C153 (some ⟨hb, 0, none⟩) agent ref w K := by
  refine r_f153 _ _ _ _ _ fun b1 w1 n1 => ?_
  have h1 := h.fr0 (n1.fr [])
  have H1 := H.fr0 (n1.fr [])
  have l1 := n1.blk.lt
  have tail : ∀ (kd cl nn id : Int) (is : Bool), (is = true → ∃ c ∈ cs, c.ref = ref ∧ kd = c.kind ∧ cl = c.cls ∧ nn = c.n ∧ id = c.id) → (is = false → ∀ c ∈ cs, c.ref ≠ ref) →
      ∀ (b10 : Nat) (w11 : World), NewAt w1 w11 b10 #[.int .i64 0, .int .i64 0, .int .i64 0, .int .i64 0] 199 →
      MayL w11 ⟨b10, 0, none⟩ 4 ∧ ∀ w12 : World, SetL w11 w12 ⟨b10, 0, none⟩ [.int .i64 kd, .int .i64 cl, .int .i64 nn, .int .i64 id] →
      ∃ (q13 : Option Addr), World.cell? w12 ⟨hb, 0, none⟩ = some (.pointer q13) ∧
      C135 q13 agent w12 fun b14 w15 =>
      IfB (!b14)
      (MayL w15 ⟨b1, 0, none⟩ 4 ∧ ∀ w16 : World, SetL w15 w16 ⟨b1, 0, none⟩ [.int .i64 0, .int .i64 0, .int .i64 0, .int .i64 0] →
      ∃ (n17 : Int), ∃ (n18 : Int), ∃ (n19 : Int), ∃ (n20 : Int), CellsAt w16 ⟨b1, 0, none⟩ [.int .i64 n17, .int .i64 n18, .int .i64 n19, .int .i64 n20] ∧
      K n17 n18 n19 n20 904 w16)
      (IfB (!is)
      (MayL w15 ⟨b1, 0, none⟩ 4 ∧ ∀ w21 : World, SetL w15 w21 ⟨b1, 0, none⟩ [.int .i64 0, .int .i64 0, .int .i64 0, .int .i64 0] →
      ∃ (n22 : Int), ∃ (n23 : Int), ∃ (n24 : Int), ∃ (n25 : Int), CellsAt w21 ⟨b1, 0, none⟩ [.int .i64 n22, .int .i64 n23, .int .i64 n24, .int .i64 n25] ∧
      K n22 n23 n24 n25 904 w21)
      (∃ (n26 : Int), ∃ (n27 : Int), ∃ (n28 : Int), ∃ (n29 : Int), CellsAt w15 ⟨b10, 0, none⟩ [.int .i64 n26, .int .i64 n27, .int .i64 n28, .int .i64 n29] ∧
      MayL w15 ⟨b1, 0, none⟩ 4 ∧ ∀ w30 : World, SetL w15 w30 ⟨b1, 0, none⟩ [.int .i64 n26, .int .i64 n27, .int .i64 n28, .int .i64 n29] →
      ∃ (n31 : Int), ∃ (n32 : Int), ∃ (n33 : Int), ∃ (n34 : Int), CellsAt w30 ⟨b1, 0, none⟩ [.int .i64 n31, .int .i64 n32, .int .i64 n33, .int .i64 n34] ∧
      K n31 n32 n33 n34 0 w30)) := by
    intro kd cl nn id is hy hn b10 w11 n11
    refine ⟨n11.blk.mayL (by simp), fun w12 s12 => ?_⟩
    obtain ⟨X12, f12⟩ := newSet n11 s12 rfl
    have h12 := h1.fr0 (f12 [])
    have H12 := H1.fr0 (f12 [])
    have g10 := n11.ge
    have Y12 := n1.blk.fr (f12 []) (by simp)
    have fin : ∀ (w' : World) (vs : List Value), Fr [b1] w12 w' → ∀ S, Fr S w w' := fun w' vs f S => ((n1.fr S).more (f12 S)).trans f (by simp; exact .inr n1.ge)
    refine ⟨_, h12.hd.cell rfl, agent_c H12.ar agent (IfB.nd (fun ha => ?_) (fun ha => ?_))⟩
    · cases is with
      | false =>
        refine ifb_nno rfl ⟨Y12.mayL (by simp), fun w13 s13 => ?_⟩
        obtain ⟨Y13, f13⟩ := s13.all Y12 rfl
        exact ⟨0, 0, 0, 0, Y13.cells, hno (fun p => by obtain ⟨c, hc, e⟩ := p.2; exact hn rfl c hc e) w13 (fin w13 [] f13)⟩
      | true =>
        obtain ⟨c, hc, e, rfl, rfl, rfl, rfl⟩ := hy rfl
        refine ifb_nyes rfl ⟨_, _, _, _, X12.cells, Y12.mayL (by simp), fun w13 s13 => ?_⟩
        obtain ⟨Y13, f13⟩ := s13.all Y12 rfl
        exact ⟨_, _, _, _, Y13.cells, hok c hc e ha w13 (fin w13 [] f13)⟩
    · refine ⟨Y12.mayL (by simp), fun w13 s13 => ?_⟩
      obtain ⟨Y13, f13⟩ := s13.all Y12 rfl
      exact ⟨0, 0, 0, 0, Y13.cells, hno (fun p => ha p.1) w13 (fin w13 [] f13)⟩
  exact ⟨_, h1.hd.cell rfl, h1.look ref (fun c hc e => tail _ _ _ _ true (fun _ => ⟨c, hc, e, rfl, rfl, rfl, rfl⟩) (fun h => by cases h)) (fun hn => tail 0 0 0 0 false (fun h => by cases h) (fun _ => hn))⟩
end
end Go.Proofs.Ytfpghcdjfiggiaa.V

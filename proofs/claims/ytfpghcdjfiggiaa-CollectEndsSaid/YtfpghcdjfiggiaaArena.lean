/- The arena: what its operations do. No condition. -/
import Derived.Test.YtfpghcdjfiggiaaBase
import Derived.Test.YtfpghcdjfiggiaaGArena
namespace Go.Proofs.Ytfpghcdjfiggiaa.V
open Go Go.RowKit

/-- An arena lies at block ab: its words in block wb, its counts in block sb. -/
structure ArenaAt (w : World) (ab wb sb : Nat) (ws ss : List Int) : Prop where
  hd : Blk w ab [.slice (some ⟨wb, 0, none⟩) ws.length ws.length, .slice (some ⟨sb, 0, none⟩) ss.length ss.length]
  ws : Blk w wb (ws.map vi)
  ss : Blk w sb (ss.map vi)
  d1 : ab ≠ wb
  d2 : ab ≠ sb
  d3 : wb ≠ sb

def mayA (ws ss : List Int) (agent a : Int) : Int := if agent < 0 ∨ (ss.length : Int) ≤ agent then 302 else if a < 0 ∨ (ws.length : Int) ≤ a then 301 else 0

/-- One step more of an agent. -/
def tickA (ss : List Int) (agent : Int) : List Int := ss.set agent.toNat (IntKind.wrap .i64 (ss.getD agent.toNat 0 + 1))

section
variable {w w' : World} {ab wb sb : Nat} {ws ss : List Int} {S : List Nat}

theorem ArenaAt.fr (h : ArenaAt w ab wb sb ws ss) (f : Fr S w w') (h1 : ab ∉ S) (h2 : wb ∉ S) (h3 : sb ∉ S) : ArenaAt w' ab wb sb ws ss :=
  ⟨h.hd.fr f h1, h.ws.fr f h2, h.ss.fr f h3, h.d1, h.d2, h.d3⟩

theorem ArenaAt.c0 (h : ArenaAt w ab wb sb ws ss) : w.cell? ⟨ab, 0, none⟩ = some (.slice (some ⟨wb, 0, none⟩) ws.length ws.length) := by
  exact h.hd.cell rfl
theorem ArenaAt.c1 (h : ArenaAt w ab wb sb ws ss) : w.cell? ⟨ab, 1, none⟩ = some (.slice (some ⟨sb, 0, none⟩) ss.length ss.length) := by
  exact h.hd.cell rfl

theorem agent_c (h : ArenaAt w ab wb sb ws ss) (agent : Int) {K : Bool → World → Prop} (hK : K (decide (0 ≤ agent ∧ agent < (ss.length : Int))) w) :
    C135 (some ⟨ab, 0, none⟩) agent w K := by
  refine r_f135 _ _ _ _ (IfB.dec (fun h0 => ?_) (fun h0 => ?_))
  · refine ⟨_, _, _, h.c1, ?_⟩
    simpa [h0] using hK
  · simpa [h0] using hK

theorem mayA_c (h : ArenaAt w ab wb sb ws ss) (agent a : Int) {K : Int → World → Prop} (hK : K (mayA ws ss agent a) w) :
    C130 (some ⟨ab, 0, none⟩) agent a w K := by
  refine r_f130 _ _ _ _ _ (agent_c h agent (ifb_not (IfB.dec (fun h0 => ?_) (fun h0 => ?_))))
  · have n1 : ¬ (agent < 0 ∨ (ss.length : Int) ≤ agent) := by omega
    refine IfB.dec (fun h1 => ?_) (fun h1 => ?_)
    · simpa [mayA, n1, h1] using hK
    · refine ⟨_, _, _, h.c0, IfB.dec (fun h2 => ?_) (fun h2 => ?_)⟩
      · simpa [mayA, n1, h1, h2] using hK
      · simpa [mayA, n1, h1, h2] using hK
  · have n1 : agent < 0 ∨ (ss.length : Int) ≤ agent := by omega
    simpa [mayA, n1] using hK

theorem words_c (h : ArenaAt w ab wb sb ws ss) {K : Int → World → Prop} (hK : K ws.length w) :
    C129 (some ⟨ab, 0, none⟩) w K :=
  r_f129 _ _ _ ⟨_, _, _, h.c0, hK⟩

theorem steps_c (h : ArenaAt w ab wb sb ws ss) (agent : Int) {K : Int → World → Prop} (hK : K (if 0 ≤ agent ∧ agent < (ss.length : Int) then ss.getD agent.toNat 0 else 0) w) :
    C128 (some ⟨ab, 0, none⟩) agent w K := by
  refine r_f128 _ _ _ _ (agent_c h agent (ifb_not (IfB.dec (fun h0 => ?_) (fun h0 => ?_))))
  · rw [if_pos h0] at hK
    exact ⟨_, _, _, h.c1, h0, _, cell_int h.ss h0.1 h0.2, hK⟩
  · rw [if_neg h0] at hK; exact hK

theorem mayA_zero {agent a : Int} (h : mayA ws ss agent a = 0) : (0 ≤ agent ∧ agent < (ss.length : Int)) ∧ 0 ≤ a ∧ a < (ws.length : Int) := by
  unfold mayA at h
  split at h
  · omega
  · split at h
    · omega
    · omega

theorem ArenaAt.tick (h : ArenaAt w ab wb sb ws ss) {agent n : Int} (s : SetC w w' (Addr.add ⟨sb, 0, none⟩ (Int.toNat agent * 1)) (.int .i64 n)) :
    ArenaAt w' ab wb sb ws (ss.set agent.toNat n) ∧ Fr [wb, sb] w w' := by
  obtain ⟨g1, g2⟩ := set_int s h.ss
  refine ⟨⟨?_, h.ws.fr g2 (by simpa using h.d3), g1, h.d1, h.d2, h.d3⟩, g2.mono (by simp)⟩
  rw [List.length_set]; exact h.hd.fr g2 (by simpa using h.d2)

theorem ArenaAt.word (h : ArenaAt w ab wb sb ws ss) {a n : Int} (s : SetC w w' (Addr.add ⟨wb, 0, none⟩ (Int.toNat a * 1)) (.int .i64 n)) :
    ArenaAt w' ab wb sb (ws.set a.toNat n) ss ∧ Fr [wb] w w' := by
  obtain ⟨g1, g2⟩ := set_int s h.ws
  refine ⟨⟨?_, g1, h.ss.fr g2 (by simpa using fun e => h.d3 e.symm), h.d1, h.d2, h.d3⟩, g2⟩
  rw [List.length_set]; exact h.hd.fr g2 (by simpa using h.d1)

theorem load_c (h : ArenaAt w ab wb sb ws ss) (agent a : Int) {K : Int → Int → World → Prop}
    (hbad : mayA ws ss agent a ≠ 0 → K 0 (mayA ws ss agent a) w)
    (hok : mayA ws ss agent a = 0 → ∀ w', ArenaAt w' ab wb sb ws (tickA ss agent) → Fr [wb, sb] w w' → K (ws.getD a.toNat 0) 0 w') :
    C42 (some ⟨ab, 0, none⟩) agent a w K := by
  refine r_f42 _ _ _ _ _ (mayA_c h agent a (IfB.nd (fun h0 => ?_) (fun h0 => hbad h0)))
  obtain ⟨hg, ha⟩ := mayA_zero h0
  refine ⟨_, _, _, h.c1, hg, _, cell_int h.ss hg.1 hg.2, hg, may_int h.ss hg.1 hg.2, fun w1 s1 => ?_⟩
  obtain ⟨ht, f⟩ := h.tick s1
  exact ⟨_, _, _, ht.c0, ha, _, cell_int ht.ws ha.1 ha.2, hok h0 _ ht f⟩

theorem store_c (h : ArenaAt w ab wb sb ws ss) (agent a v : Int) {K : Int → World → Prop}
    (hbad : mayA ws ss agent a ≠ 0 → K (mayA ws ss agent a) w)
    (hok : mayA ws ss agent a = 0 → ∀ w', ArenaAt w' ab wb sb (ws.set a.toNat v) (tickA ss agent) → Fr [wb, sb] w w' → K 0 w') :
    C43 (some ⟨ab, 0, none⟩) agent a v w K := by
  refine r_f43 _ _ _ _ _ _ (mayA_c h agent a (IfB.dec (fun h0 => ?_) (fun h0 => hbad h0)))
  obtain ⟨hg, ha⟩ := mayA_zero h0
  refine ⟨_, _, _, h.c1, hg, _, cell_int h.ss hg.1 hg.2, hg, may_int h.ss hg.1 hg.2, fun w1 s1 => ?_⟩
  obtain ⟨ht, f⟩ := h.tick s1
  refine ⟨_, _, _, ht.c0, ha, may_int ht.ws ha.1 ha.2, fun w2 s2 => ?_⟩
  obtain ⟨hv, f2⟩ := ht.word s2
  rw [h0]
  exact hok h0 _ hv (f.trans f2 (by simp))

theorem swap_c (h : ArenaAt w ab wb sb ws ss) (agent a old v : Int) {K : Bool → Int → World → Prop}
    (hbad : mayA ws ss agent a ≠ 0 → K false (mayA ws ss agent a) w)
    (hno : mayA ws ss agent a = 0 → ws.getD a.toNat 0 ≠ old → ∀ w', ArenaAt w' ab wb sb ws (tickA ss agent) → Fr [wb, sb] w w' → K false 0 w')
    (hok : mayA ws ss agent a = 0 → ws.getD a.toNat 0 = old → ∀ w', ArenaAt w' ab wb sb (ws.set a.toNat v) (tickA ss agent) → Fr [wb, sb] w w' → K true 0 w') :
    C44 (some ⟨ab, 0, none⟩) agent a old v w K := by
  refine r_f44 _ _ _ _ _ _ _ (mayA_c h agent a (IfB.nd (fun h0 => ?_) (fun h0 => hbad h0)))
  obtain ⟨hg, ha⟩ := mayA_zero h0
  refine ⟨_, _, _, h.c1, hg, _, cell_int h.ss hg.1 hg.2, hg, may_int h.ss hg.1 hg.2, fun w1 s1 => ?_⟩
  obtain ⟨ht, f⟩ := h.tick s1
  refine ⟨_, _, _, ht.c0, ha, _, cell_int ht.ws ha.1 ha.2, IfB.nd (fun he => ?_) (fun he => hno h0 he _ ht f)⟩
  refine ⟨_, _, _, ht.c0, ha, may_int ht.ws ha.1 ha.2, fun w2 s2 => ?_⟩
  obtain ⟨hv, f2⟩ := ht.word s2
  exact hok h0 he _ hv (f.trans f2 (by simp))

def newA (words agents : Int) : Bool := decide (1 ≤ words ∧ words ≤ 65536 ∧ 1 ≤ agents ∧ agents ≤ 12)

theorem arena_new_c (words agents : Int) {K : Option Addr → Int → World → Prop}
    (hbad : newA words agents = false → K none 300 w)
    (hok : newA words agents = true → ∀ w' ab wb sb, ArenaAt w' ab wb sb (List.replicate words.toNat 0) (List.replicate agents.toNat 0) → (∀ S, Fr S w w') →
      w.heap.size ≤ ab → w.heap.size ≤ wb → w.heap.size ≤ sb → K (some ⟨ab, 0, none⟩) 0 w') :
    C40 words agents w K := by
  refine r_f40 _ _ _ _ (IfB.dec (fun h1 => hbad (by simp [newA]; omega)) (fun h1 => IfB.dec (fun h2 => hbad (by simp [newA]; omega)) (fun h2 =>
    IfB.dec (fun h3 => hbad (by simp [newA]; omega)) (fun h3 => IfB.dec (fun h4 => hbad (by simp [newA]; omega)) (fun h4 => ?_)))))
  have hb : newA words agents = true := by simp [newA]; omega
  intro w0 d0
  constructor
  · refine make_ints 42 3 Try.t3 (by kernel_rfl) (by kernel_rfl) rfl rfl rfl (by omega) (by omega) _ fun w1 b1 f1 z1 => ?_
    refine make_ints 42 3 Try.t3 (by kernel_rfl) (by kernel_rfl) rfl rfl rfl (by omega) (by omega) _ fun w2 b2 f2 z2 => ?_
    intro ab w3 n3
    have q0 := (d0.fr []).size
    have q3 := n3.ge
    refine hok hb _ _ w0.heap.size w1.heap.size ⟨?_, ?_, ?_, by omega, by omega, by omega⟩ (fun S => (((d0.fr S).more (f1 S)).more (f2 S)).more (n3.fr S)) (by omega) (by omega) (by omega)
    · simpa using n3.blk
    · exact (b1.fr (f2 []) (by simp)).fr (n3.fr []) (by simp)
    · exact b2.fr (n3.fr []) (by simp)
  · refine make_ints 42 3 Try.t3 (by kernel_rfl) (by kernel_rfl) rfl rfl rfl (by omega) (by omega) _ fun w1 b1 f1 z1 => ?_
    refine make_ints 42 3 Try.t3 (by kernel_rfl) (by kernel_rfl) rfl rfl rfl (by omega) (by omega) _ fun w2 b2 f2 z2 => ?_
    intro ab w3 n3
    have q0 := (d0.fr []).size
    have q3 := n3.ge
    refine hok hb _ _ w1.heap.size w0.heap.size ⟨?_, ?_, ?_, by omega, by omega, by omega⟩ (fun S => (((d0.fr S).more (f1 S)).more (f2 S)).more (n3.fr S)) (by omega) (by omega) (by omega)
    · simpa using n3.blk
    · exact b2.fr (n3.fr []) (by simp)
    · exact (b1.fr (f2 []) (by simp)).fr (n3.fr []) (by simp)
end

end Go.Proofs.Ytfpghcdjfiggiaa.V

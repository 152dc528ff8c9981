/- The arena: what its operations do. No condition. -/
import Derived.Test.YtfpghcdjfiggiaaMem
import Derived.Test.YtfpghcdjfiggiaaGArena
namespace Go.Proofs.Ytfpghcdjfiggiaa.V
open Go Go.RowKit

theorem ifb_not {b : Bool} {A B : Prop} (h : IfB b B A) : IfB (!b) A B := by
  cases b <;> exact h

theorem ifb_t {A B : Prop} (h : A) : IfB true A B := h
theorem ifb_f {A B : Prop} (h : B) : IfB false A B := h

theorem num_c {n : Int} {w : World} {K : Int → World → Prop} (h : K n w) : Calls Try.prog 33 #[.int .i64 n] w (Ret [.leaf (.int .i64)] K) := r_f33 n w K h

/-- An arena lies at block ab: its words in block wb, its counts in block sb. -/
structure ArenaAt (w : World) (ab wb sb : Nat) (ws ss : List Int) : Prop where
  hd : Blk w ab [.slice (some ⟨wb, 0, none⟩) ws.length ws.length, .slice (some ⟨sb, 0, none⟩) ss.length ss.length]
  ws : Blk w wb (ws.map vi)
  ss : Blk w sb (ss.map vi)
  d1 : ab ≠ wb
  d2 : ab ≠ sb
  d3 : wb ≠ sb

def mayA (ws ss : List Int) (agent a : Int) : Int := if agent < 0 ∨ (ss.length : Int) ≤ agent then 302 else if a < 0 ∨ (ws.length : Int) ≤ a then 301 else 0

/-- One step more of an agent. -/
def tickA (ss : List Int) (agent : Int) : List Int := ss.set agent.toNat (IntKind.wrap .i64 (ss.getD agent.toNat 0 + 1))

section
variable {w w' : World} {ab wb sb : Nat} {ws ss : List Int} {S : List Nat}

theorem ArenaAt.fr (h : ArenaAt w ab wb sb ws ss) (f : Fr S w w') (h1 : ab ∉ S) (h2 : wb ∉ S) (h3 : sb ∉ S) : ArenaAt w' ab wb sb ws ss :=
  ⟨h.hd.fr f h1, h.ws.fr f h2, h.ss.fr f h3, h.d1, h.d2, h.d3⟩

theorem ArenaAt.c0 (h : ArenaAt w ab wb sb ws ss) : w.cell? (Addr.add ⟨ab, 0, none⟩ 0) = some (.slice (some ⟨wb, 0, none⟩) ws.length ws.length) := by
  rw [addr_add]; exact h.hd.cell rfl
theorem ArenaAt.c1 (h : ArenaAt w ab wb sb ws ss) : w.cell? (Addr.add ⟨ab, 0, none⟩ 1) = some (.slice (some ⟨sb, 0, none⟩) ss.length ss.length) := by
  rw [addr_add]; exact h.hd.cell rfl

theorem agent_c (h : ArenaAt w ab wb sb ws ss) (agent : Int) {K : Bool → World → Prop} (hK : K (decide (0 ≤ agent ∧ agent < (ss.length : Int))) w) :
    Calls Try.prog 135 #[.pointer (some ⟨ab, 0, none⟩), .int .i64 agent] w (Ret [.leaf .bool] K) := by
  refine r_f135 _ _ _ _ (IfB.dec (fun h0 => ?_) (fun h0 => ?_))
  · refine ⟨_, _, _, h.c1, ?_⟩
    simpa [h0] using hK
  · simpa [h0] using hK

theorem mayA_c (h : ArenaAt w ab wb sb ws ss) (agent a : Int) {K : Int → World → Prop} (hK : K (mayA ws ss agent a) w) :
    Calls Try.prog 130 #[.pointer (some ⟨ab, 0, none⟩), .int .i64 agent, .int .i64 a] w (Ret [.leaf (.int .i64)] K) := by
  refine r_f130 _ _ _ _ _ (agent_c h agent (ifb_not (IfB.dec (fun h0 => ?_) (fun h0 => ?_))))
  · have n1 : ¬ (agent < 0 ∨ (ss.length : Int) ≤ agent) := by omega
    refine IfB.dec (fun h1 => ?_) (fun h1 => ?_)
    · simpa [mayA, n1, h1] using hK
    · refine ⟨_, _, _, h.c0, IfB.dec (fun h2 => ?_) (fun h2 => ?_)⟩
      · simpa [mayA, n1, h1, h2] using hK
      · simpa [mayA, n1, h1, h2] using hK
  · have n1 : agent < 0 ∨ (ss.length : Int) ≤ agent := by omega
    simpa [mayA, n1] using hK

theorem words_c (h : ArenaAt w ab wb sb ws ss) {K : Int → World → Prop} (hK : K ws.length w) :
    Calls Try.prog 129 #[.pointer (some ⟨ab, 0, none⟩)] w (Ret [.leaf (.int .i64)] K) :=
  r_f129 _ _ _ ⟨_, _, _, h.c0, hK⟩

theorem getD_some {l : List Int} {i : Nat} (h : i < l.length) : l[i]? = some (l.getD i 0) := by simp [List.getD_eq_getElem?_getD, h]

theorem cell_int {b : Nat} {l : List Int} (h : Blk w b (l.map vi)) {i : Int} (h0 : 0 ≤ i) (h1 : i < (l.length : Int)) : w.cell? (Addr.add ⟨b, 0, none⟩ (Int.toNat i * 1)) = some (.int .i64 (l.getD i.toNat 0)) := by
  rw [addr_add, Nat.zero_add, Nat.mul_one]
  exact h.cell (vi_get (getD_some (by omega)))

theorem may_int {b : Nat} {l : List Int} (h : Blk w b (l.map vi)) {i : Int} (h0 : 0 ≤ i) (h1 : i < (l.length : Int)) : May w (Addr.add ⟨b, 0, none⟩ (Int.toNat i * 1)) := by
  rw [addr_add, Nat.zero_add, Nat.mul_one]
  exact h.may (by simp; omega)

theorem steps_c (h : ArenaAt w ab wb sb ws ss) (agent : Int) {K : Int → World → Prop} (hK : K (if 0 ≤ agent ∧ agent < (ss.length : Int) then ss.getD agent.toNat 0 else 0) w) :
    Calls Try.prog 128 #[.pointer (some ⟨ab, 0, none⟩), .int .i64 agent] w (Ret [.leaf (.int .i64)] K) := by
  refine r_f128 _ _ _ _ (agent_c h agent (ifb_not (IfB.dec (fun h0 => ?_) (fun h0 => ?_))))
  · rw [if_pos h0] at hK
    exact ⟨_, _, _, h.c1, h0, _, cell_int h.ss h0.1 h0.2, hK⟩
  · rw [if_neg h0] at hK; exact hK

theorem mayA_zero {agent a : Int} (h : mayA ws ss agent a = 0) : (0 ≤ agent ∧ agent < (ss.length : Int)) ∧ 0 ≤ a ∧ a < (ws.length : Int) := by
  unfold mayA at h
  split at h
  · omega
  · split at h
    · omega
    · omega

theorem ArenaAt.tick (h : ArenaAt w ab wb sb ws ss) (agent : Int) (n : Int) :
    ArenaAt (w.setCell (Addr.add ⟨sb, 0, none⟩ (Int.toNat agent * 1)) (.int .i64 n)) ab wb sb ws (ss.set agent.toNat n) := by
  rw [addr_add, Nat.zero_add, Nat.mul_one]
  refine ⟨?_, h.ws.set_ne h.d3.symm, ?_, h.d1, h.d2, h.d3⟩
  · rw [List.length_set]; exact h.hd.set_ne h.d2.symm
  · rw [← vi_set]; exact h.ss.set _ _

theorem ArenaAt.word (h : ArenaAt w ab wb sb ws ss) (a : Int) (n : Int) :
    ArenaAt (w.setCell (Addr.add ⟨wb, 0, none⟩ (Int.toNat a * 1)) (.int .i64 n)) ab wb sb (ws.set a.toNat n) ss := by
  rw [addr_add, Nat.zero_add, Nat.mul_one]
  refine ⟨?_, ?_, h.ss.set_ne h.d3, h.d1, h.d2, h.d3⟩
  · rw [List.length_set]; exact h.hd.set_ne h.d1.symm
  · rw [← vi_set]; exact h.ws.set _ _

theorem add_block (b o n : Nat) : (Addr.add ⟨b, o, none⟩ n).block = b := by rw [addr_add]

theorem load_c (h : ArenaAt w ab wb sb ws ss) (agent a : Int) {K : Int → Int → World → Prop}
    (hbad : mayA ws ss agent a ≠ 0 → K 0 (mayA ws ss agent a) w)
    (hok : mayA ws ss agent a = 0 → ∀ w', ArenaAt w' ab wb sb ws (tickA ss agent) → Fr [wb, sb] w w' → K (ws.getD a.toNat 0) 0 w') :
    Calls Try.prog 42 #[.pointer (some ⟨ab, 0, none⟩), .int .i64 agent, .int .i64 a] w (Ret [.leaf (.int .i64), .leaf (.int .i64)] K) := by
  refine r_f42 _ _ _ _ _ (mayA_c h agent a (ifb_not (IfB.dec (fun h0 => ?_) (fun h0 => hbad h0))))
  obtain ⟨hg, ha⟩ := mayA_zero h0
  have ht := h.tick agent (IntKind.wrap .i64 (ss.getD agent.toNat 0 + 1))
  exact ⟨_, _, _, h.c1, hg, _, cell_int h.ss hg.1 hg.2, hg, may_int h.ss hg.1 hg.2,
    _, _, _, ht.c0, ha, _, cell_int ht.ws ha.1 ha.2, hok h0 _ ht (Fr.setCell _ _ (by simp [add_block]))⟩

theorem store_c (h : ArenaAt w ab wb sb ws ss) (agent a v : Int) {K : Int → World → Prop}
    (hbad : mayA ws ss agent a ≠ 0 → K (mayA ws ss agent a) w)
    (hok : mayA ws ss agent a = 0 → ∀ w', ArenaAt w' ab wb sb (ws.set a.toNat v) (tickA ss agent) → Fr [wb, sb] w w' → K 0 w') :
    Calls Try.prog 43 #[.pointer (some ⟨ab, 0, none⟩), .int .i64 agent, .int .i64 a, .int .i64 v] w (Ret [.leaf (.int .i64)] K) := by
  refine r_f43 _ _ _ _ _ _ (mayA_c h agent a (IfB.dec (fun h0 => ?_) (fun h0 => hbad h0)))
  obtain ⟨hg, ha⟩ := mayA_zero h0
  have ht := h.tick agent (IntKind.wrap .i64 (ss.getD agent.toNat 0 + 1))
  have hv := ht.word a v
  refine ⟨_, _, _, h.c1, hg, _, cell_int h.ss hg.1 hg.2, hg, may_int h.ss hg.1 hg.2,
    _, _, _, ht.c0, ha, may_int ht.ws ha.1 ha.2, ?_⟩
  rw [h0]
  exact hok h0 _ hv ((Fr.setCell _ _ (by simp [add_block])).more (Fr.setCell _ _ (by simp [add_block])))

theorem swap_c (h : ArenaAt w ab wb sb ws ss) (agent a old v : Int) {K : Bool → Int → World → Prop}
    (hbad : mayA ws ss agent a ≠ 0 → K false (mayA ws ss agent a) w)
    (hno : mayA ws ss agent a = 0 → ws.getD a.toNat 0 ≠ old → ∀ w', ArenaAt w' ab wb sb ws (tickA ss agent) → Fr [wb, sb] w w' → K false 0 w')
    (hok : mayA ws ss agent a = 0 → ws.getD a.toNat 0 = old → ∀ w', ArenaAt w' ab wb sb (ws.set a.toNat v) (tickA ss agent) → Fr [wb, sb] w w' → K true 0 w') :
    Calls Try.prog 44 #[.pointer (some ⟨ab, 0, none⟩), .int .i64 agent, .int .i64 a, .int .i64 old, .int .i64 v] w (Ret [.leaf .bool, .leaf (.int .i64)] K) := by
  refine r_f44 _ _ _ _ _ _ _ (mayA_c h agent a (ifb_not (IfB.dec (fun h0 => ?_) (fun h0 => hbad h0))))
  obtain ⟨hg, ha⟩ := mayA_zero h0
  have ht := h.tick agent (IntKind.wrap .i64 (ss.getD agent.toNat 0 + 1))
  have hv := ht.word a v
  refine ⟨_, _, _, h.c1, hg, _, cell_int h.ss hg.1 hg.2, hg, may_int h.ss hg.1 hg.2,
    _, _, _, ht.c0, ha, _, cell_int ht.ws ha.1 ha.2, ifb_not (IfB.dec (fun he => ?_) (fun he => hno h0 he _ ht (Fr.setCell _ _ (by simp [add_block]))))⟩
  exact ⟨_, _, _, ht.c0, ha, may_int ht.ws ha.1 ha.2, hok h0 he _ hv ((Fr.setCell _ _ (by simp [add_block])).more (Fr.setCell _ _ (by simp [add_block])))⟩

def newA (words agents : Int) : Bool := decide (1 ≤ words ∧ words ≤ 65536 ∧ 1 ≤ agents ∧ agents ≤ 12)

theorem arena_new_c (words agents : Int) {K : Option Addr → Int → World → Prop}
    (hbad : newA words agents = false → K none 300 w)
    (hok : newA words agents = true → ∀ w' ab wb sb, ArenaAt w' ab wb sb (List.replicate words.toNat 0) (List.replicate agents.toNat 0) → (∀ S, Fr S w w') →
      w.heap.size ≤ ab → w.heap.size ≤ wb → w.heap.size ≤ sb → K (some ⟨ab, 0, none⟩) 0 w') :
    Calls Try.prog 40 #[.int .i64 words, .int .i64 agents] w (Ret [.leaf .ptr, .leaf (.int .i64)] K) := by
  refine r_f40 _ _ _ _ (IfB.dec (fun h1 => hbad (by simp [newA]; omega)) (fun h1 => IfB.dec (fun h2 => hbad (by simp [newA]; omega)) (fun h2 =>
    IfB.dec (fun h3 => hbad (by simp [newA]; omega)) (fun h3 => IfB.dec (fun h4 => hbad (by simp [newA]; omega)) (fun h4 => ?_)))))
  have hb : newA words agents = true := by simp [newA]; omega
  have d0 := Fr.drew
  constructor
  · refine make_ints 42 3 Try.t3 (by kernel_rfl) (by kernel_rfl) rfl rfl rfl (by omega) (by omega) _ fun w1 b1 f1 z1 => ?_
    refine make_ints 42 3 Try.t3 (by kernel_rfl) (by kernel_rfl) rfl rfl rfl (by omega) (by omega) _ fun w2 b2 f2 z2 => ?_
    have hz : w.drew.heap.size = w.heap.size := rfl
    refine hok hb _ _ w.heap.size w1.heap.size ⟨?_, ?_, ?_, by omega, by omega, by omega⟩ (fun S => ((d0 S w).more (f1 S)).more ((f2 S).more (Fr.alloc S _ _))) (by omega) (by omega) (by omega)
    · have := Blk.new w2 #[.slice (some ⟨w.drew.heap.size, 0, none⟩) words.toNat words.toNat, .slice (some ⟨w1.heap.size, 0, none⟩) agents.toNat agents.toNat] 167
      simpa using this
    · exact (b1.fr (f2 []) (by simp)).alloc _
    · exact b2.alloc _
  · refine make_ints 42 3 Try.t3 (by kernel_rfl) (by kernel_rfl) rfl rfl rfl (by omega) (by omega) _ fun w1 b1 f1 z1 => ?_
    refine make_ints 42 3 Try.t3 (by kernel_rfl) (by kernel_rfl) rfl rfl rfl (by omega) (by omega) _ fun w2 b2 f2 z2 => ?_
    have hz : w.drew.heap.size = w.heap.size := rfl
    refine hok hb _ _ w1.heap.size w.heap.size ⟨?_, ?_, ?_, by omega, by omega, by omega⟩ (fun S => ((d0 S w).more (f1 S)).more ((f2 S).more (Fr.alloc S _ _))) (by omega) (by omega) (by omega)
    · have := Blk.new w2 #[.slice (some ⟨w1.heap.size, 0, none⟩) words.toNat words.toNat, .slice (some ⟨w.drew.heap.size, 0, none⟩) agents.toNat agents.toNat] 167
      simpa using this
    · exact b2.alloc _
    · exact (b1.fr (f2 []) (by simp)).alloc _
end

end Go.Proofs.Ytfpghcdjfiggiaa.V

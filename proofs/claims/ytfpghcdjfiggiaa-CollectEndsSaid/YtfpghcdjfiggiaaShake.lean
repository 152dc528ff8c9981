/- The handshake: what its operations do. No condition. -/
import Derived.Test.YtfpghcdjfiggiaaMap
import Derived.Test.YtfpghcdjfiggiaaBase
import Derived.Test.YtfpghcdjfiggiaaGShake
namespace Go.Proofs.Ytfpghcdjfiggiaa.V
open Go Go.RowKit

theorem mget_none {m : List Ent} {k : Int} : mget m k = none ↔ k ∉ m.map (·.1) := by
  unfold mget mfind
  rw [Option.map_eq_none_iff, List.find?_eq_none]
  simp only [List.mem_map, not_exists, not_and, beq_iff_eq]
  exact ⟨fun h p hp e => h p hp e.symm, fun h p hp e => h p hp e.symm⟩

theorem mget_all {m : List Ent} {k : Int} {v : Value} (hv : ∀ e ∈ m, e.2.1 = v) (hk : k ∈ m.map (·.1)) : mget m k = some v := by
  cases h : mget m k with
  | none => exact absurd hk (mget_none.1 h)
  | some u =>
    unfold mget mfind at h
    rw [Option.map_eq_some_iff] at h
    obtain ⟨p, hp, rfl⟩ := h
    rw [hv p (List.mem_of_find?_eq_some hp)]

theorem mdel_keys (m : List Ent) (k : Int) : (mdel m k).map (·.1) = (m.map (·.1)).filter (fun x => !(k == x)) := by
  unfold mdel
  rw [List.filter_map]
  rfl

theorem mput_all {m : List Ent} {k : Int} {v u : Value} (hv : ∀ e ∈ m, e.2.1 = v) (hu : u = v) : ∀ e ∈ mput m k u, e.2.1 = v := by
  intro e he
  unfold mput at he
  obtain ⟨p, hp, rfl⟩ := List.mem_map.1 he
  split
  · exact hu
  · exact hv p hp

/-- A handshake of n threads: those of ks are asked. -/
structure ShakeAt (w : World) (sb mb : Nat) (n : Int) (ks : List Int) (what rounds : Int) : Prop where
  hd : Blk w sb [.int .i64 n, .map (some mb), .int .i64 what, .int .i64 rounds]
  mp : ∃ m clk, MI w mb m clk ∧ m.map (·.1) = ks ∧ ∀ e ∈ m, e.2.1 = .bool true
  ne : sb ≠ mb

section
variable {w w' : World} {sb mb : Nat} {n : Int} {ks : List Int} {what rounds : Int} {S : List Nat}

theorem ShakeAt.fr (h : ShakeAt w sb mb n ks what rounds) (f : Fr S w w') (h1 : sb ∉ S) (h2 : mb ∉ S) : ShakeAt w' sb mb n ks what rounds := by
  obtain ⟨m, clk, hm, hk, hv⟩ := h.mp
  exact ⟨h.hd.fr f h1, ⟨m, clk, hm.fr f h2, hk, hv⟩, h.ne⟩

theorem ShakeAt.c0 (h : ShakeAt w sb mb n ks what rounds) : w.cell? ⟨sb, 0, none⟩ = some (.int .i64 n) := by
  exact h.hd.cell rfl
theorem ShakeAt.c1 (h : ShakeAt w sb mb n ks what rounds) : w.cell? ⟨sb, 1, none⟩ = some (.map (some mb)) := by
  exact h.hd.cell rfl
theorem ShakeAt.c2 (h : ShakeAt w sb mb n ks what rounds) : w.cell? ⟨sb, 2, none⟩ = some (.int .i64 what) := by
  exact h.hd.cell rfl
theorem ShakeAt.c3 (h : ShakeAt w sb mb n ks what rounds) : w.cell? ⟨sb, 3, none⟩ = some (.int .i64 rounds) := by
  exact h.hd.cell rfl

theorem ShakeAt.len (h : ShakeAt w sb mb n ks what rounds) {K : Int → World → Prop} (hK : K (ks.length : Int) w) :
    RunF Try.prog (Builtin.len_ #[163] 3 #[.map (some mb)]) w [.leaf (.int .i64)] K := by
  obtain ⟨m, clk, hm, rfl, _⟩ := h.mp
  refine len_map hm (kt := 3) (et := 4) (by kernel_rfl) 3 ?_
  rwa [List.length_map] at hK

theorem shakeDone_c (h : ShakeAt w sb mb n ks what rounds) {K : Bool → World → Prop} (hK : K (decide (ks = [])) w) :
    C38 (some ⟨sb, 0, none⟩) w K := by
  refine r_f38 _ _ _ ⟨_, h.c1, h.len ?_⟩
  have : (decide ((ks.length : Int) = 0)) = decide (ks = []) := by
    cases ks <;> simp <;> omega
  rw [this]; exact hK

theorem shakeRounds_c (h : ShakeAt w sb mb n ks what rounds) {K : Int → World → Prop} (hK : K rounds w) :
    C39 (some ⟨sb, 0, none⟩) w K := r_f39 _ _ _ ⟨_, h.c3, hK⟩

theorem shakeSee_c (h : ShakeAt w sb mb n ks what rounds) (t : Int) {K : Int → Bool → Int → World → Prop}
    (hK : K (if (0 ≤ t ∧ t < n) ∧ t ∈ ks then what else 0) (decide ((0 ≤ t ∧ t < n) ∧ t ∈ ks)) (if 0 ≤ t ∧ t < n then 0 else 1002) w) :
    C36 (some ⟨sb, 0, none⟩) t w K := by
  refine r_f36 _ _ _ _ (IfB.dec (fun h1 => ?_) (fun h1 => ⟨_, h.c0, IfB.dec (fun h2 => ?_) (fun h2 => ?_)⟩))
  · have e : ¬ (0 ≤ t ∧ t < n) := by omega
    simpa [e] using hK
  · have e : ¬ (0 ≤ t ∧ t < n) := by omega
    simpa [e] using hK
  · have e : 0 ≤ t ∧ t < n := by omega
    obtain ⟨m, clk, hm, hk, hv⟩ := h.mp
    refine ⟨_, h.c1, [.bool (decide (t ∈ ks))], w, ?_, ?_⟩
    · rw [run_lookup hm (t := 163) (kt := 3) (et := 4) (by kernel_rfl) (by kernel_rfl) Try.t4 (.bool false) (by kernel_rfl) rfl]
      by_cases hin : t ∈ ks
      · rw [mget_all hv (by rw [hk]; exact hin)]
        simp [hin]; rfl
      · rw [mget_none.2 (by rw [hk]; exact hin)]
        simp [hin]; rfl
    · show IfB (!decide (t ∈ ks)) _ _
      refine ifb_not (IfB.dec (fun h3 => ⟨_, h.c2, ?_⟩) (fun h3 => ?_))
      · simpa [e, h3] using hK
      · simpa [e, h3] using hK

theorem shakeAnswer_c (h : ShakeAt w sb mb n ks what rounds) (t : Int) {K : Int → World → Prop}
    (hbad : ¬ (0 ≤ t ∧ t < n) → K 1002 w)
    (hok : 0 ≤ t ∧ t < n → ∀ w', ShakeAt w' sb mb n (ks.filter (fun x => !(t == x))) what rounds → Fr [mb] w w' → K 0 w') :
    C37 (some ⟨sb, 0, none⟩) t w K := by
  refine r_f37 _ _ _ _ (IfB.dec (fun h1 => hbad (by omega)) (fun h1 => ⟨_, h.c0, IfB.dec (fun h2 => hbad (by omega)) (fun h2 => ?_)⟩))
  obtain ⟨m, clk, hm, hk, hv⟩ := h.mp
  obtain ⟨w', hr, g1, g2⟩ := run_delete hm (P := Try.prog) (t := 163) (kt := 3) (et := 4) (by kernel_rfl) (by kernel_rfl) t 0
  refine ⟨_, h.c1, [], w', hr, ?_⟩
  exact hok (by omega) w' ⟨h.hd.fr g2 (by simp [h.ne]), ⟨_, _, g1, by rw [mdel_keys, hk], fun e he => hv e (List.mem_filter.1 he).1⟩, h.ne⟩ g2

theorem shakeAsk_c (h : ShakeAt w sb mb n ks what rounds) (x : Int) (hn : 0 ≤ n ∧ n ≤ 1000) (hr : 0 ≤ rounds ∧ rounds ≤ 1000000) {K : Int → World → Prop}
    (hbad : ks ≠ [] → K 1001 w)
    (hok : ks = [] → ∀ w', ShakeAt w' sb mb n (upTo n.toNat) x (rounds + 1) → Fr [sb, mb] w w' → K 0 w') :
    C35 (some ⟨sb, 0, none⟩) x w K := by
  refine r_f35 _ _ _ _ ⟨_, h.c1, h.len (IfB.dec (fun h1 => hbad (fun e => by simp [e] at h1)) (fun h1 => ?_))⟩
  have e0 : ks = [] := by
    cases ks with
    | nil => rfl
    | cons a l => simp at h1 <;> omega
  subst e0
  obtain ⟨m, clk, hm, hk, hv⟩ := h.mp
  refine ⟨h.hd.may (by simp), fun w1 s1 => ?_⟩
  have b1 := s1.blk h.hd
  have f1 := s1.fr (S := [sb]) (by simp)
  refine ⟨rounds, b1.cell rfl, fit64 (by omega) (by omega), b1.may (by simp), fun w2 s2 => ?_⟩
  have b2 := s2.blk b1
  have f2 := f1.more (s2.fr (S := [sb]) (by simp))
  refine ⟨n, b2.cell rfl, ?_⟩
  have A0 : ShakeAt w2 sb mb n [] x (rounds + 1) := ⟨b2, ⟨m, clk, hm.fr f2 (by simp; exact fun e => h.ne e.symm), hk, hv⟩, h.ne⟩
  refine ⟨fun i w' => 0 ≤ i ∧ i ≤ n ∧ ShakeAt w' sb mb n (upTo i.toNat) x (rounds + 1) ∧ Fr [sb, mb] w w', fun i _ => (n - i).toNat, ⟨by omega, by omega, A0, f2.mono (by simp)⟩, ?_⟩
  rintro - i w1 ⟨hi0, hi1, A, f⟩
  refine IfB.dec (fun hlt => ?_) (fun hge => ?_)
  · obtain ⟨m2, clk2, hm2, hk2, hv2⟩ := A.mp
    have hno : mget m2 i = none := by
      rw [mget_none, hk2, mem_upTo]; omega
    obtain ⟨w2, m3, clk3, hrun, hm3, f3, hor⟩ := run_update hm2 (P := Try.prog) (t := 163) (kt := 3) (et := 4) (by kernel_rfl) (by kernel_rfl) i (.bool true)
    refine ⟨_, A.c1, w2, hrun, fit64 (by omega) (by omega), ⟨by omega, by omega, ?_, f.trans f3 (by simp)⟩, by dsimp only; omega⟩
    rcases hor with ⟨h5, _⟩ | ⟨_, rfl, rfl⟩
    · exact absurd hno h5
    · refine ⟨A.hd.fr f3 (by simp [A.ne]), ⟨_, _, hm3, ?_, ?_⟩, A.ne⟩
      · rw [List.map_append, hk2]
        have : (i + 1).toNat = i.toNat + 1 := by omega
        rw [this, upTo_succ]
        simp; omega
      · intro e he
        rcases List.mem_append.1 he with he | he
        · exact hv2 e he
        · simp at he; subst he; rfl
  · have : i = n := by omega
    subst this
    exact hok rfl w1 A f

theorem shakeNew_c (t : Int) {K : Option Addr → Int → World → Prop}
    (hbad : ¬ (1 ≤ t ∧ t ≤ 8) → K none 1000 w)
    (hok : 1 ≤ t ∧ t ≤ 8 → ∀ w' sb mb, ShakeAt w' sb mb t [] 0 0 → (∀ S, Fr S w w') → w.heap.size ≤ sb → w.heap.size ≤ mb → K (some ⟨sb, 0, none⟩) 0 w') :
    C32 t w K := by
  refine r_f32 _ _ _ (IfB.dec (fun h1 => hbad (by omega)) (fun h1 => IfB.dec (fun h2 => hbad (by omega)) (fun h2 => ?_)))
  intro mb w1 n1 sb w2 n2
  obtain ⟨rfl, rfl⟩ := id n1
  have hm : MI (w.alloc (.map #[] 0)) w.heap.size [] 0 := ⟨n1.mp, by simp, by simp, by simp⟩
  have q := n2.ge
  have hlt : w.heap.size < (w.alloc (.map #[] 0)).heap.size := by simp
  refine hok (by omega) _ _ w.heap.size ⟨n2.blk, ⟨[], 0, hm.fr (n2.fr []) (by simp), rfl, by simp⟩, by omega⟩ (fun S => (n1.fr S).more (n2.fr S)) (by omega) (Nat.le_refl _)

theorem awake10_c {K : Bool → World → Prop} (hK : ∀ w', Fr [] w w' → K true w') : C34 w K := by
  refine r_f34 _ _ (shakeNew_c 2 (fun h => absurd (by decide) h) (fun _ w1 sb mb A f1 l1 l2 => ?_))
  refine shakeAsk_c A 5 (by decide) (by decide) (fun h => absurd rfl h) (fun _ w2 A f2 => ?_)
  refine shakeAsk_c A 6 (by decide) (by decide) (fun _ => ?_) (fun h => absurd h (by decide))
  refine shakeSee_c A 1 ?_
  refine shakeAnswer_c A 0 (fun h => absurd (by decide) h) (fun _ w3 A f3 => ?_)
  refine shakeAnswer_c A 1 (fun h => absurd (by decide) h) (fun _ w4 A f4 => ?_)
  refine shakeSee_c A 2 ?_
  have f : Fr [] w w4 := (((f1 []).trans f2 (by simp; omega)).trans f3 (by simp; omega)).trans f4 (by simp; omega)
  refine IfB.yes rfl (IfB.yes rfl (IfB.yes rfl (IfB.yes (by decide) (ifb_t (IfB.yes (by decide) (IfB.yes rfl (shakeDone_c A (ifb_t ?_))))))))
  exact shakeRounds_c A (IfB.yes rfl (hK _ f))
end

end Go.Proofs.Ytfpghcdjfiggiaa.V

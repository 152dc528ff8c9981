/- The heap: what the operations do. No condition. -/
import Derived.Test.YtfpghcdjfiggiaaHeapW
namespace Go.Proofs.Ytfpghcdjfiggiaa.V
open Go Go.RowKit

theorem entry_c {P : Program} {sm : Sem Value} {w w' : World} {k a b c d : Int} {K : Int → Int → Int → Int → Int → World → Prop} (h : sm.run P w = .ok (.tuple #[.int .i64 k, .agg #[.int .i64 a, .int .i64 b, .int .i64 c, .int .i64 d]]) w') (hK : K k a b c d w') :
    RunF P sm w [.leaf (.int .i64), .agg [.int .i64, .int .i64, .int .i64, .int .i64]] K := ⟨[.int .i64 k, .int .i64 a, .int .i64 b, .int .i64 c, .int .i64 d], w', h, hK⟩

/-- A cell's words, by its ref. -/
def cneed (cs : List HC) (k : Int) : Int := match cs.find? (fun x => x.ref == k) with
  | some x => x.n + 16
  | none => 0

theorem cneed_some {cs : List HC} {x : HC} (h : (cs.map (·.ref)).Nodup) (hx : x ∈ cs) : cneed cs x.ref = x.n + 16 := by
  unfold cneed
  have : cs.find? (fun y => y.ref == x.ref) = some x := by
    induction cs with
    | nil => simp at hx
    | cons y l ih =>
      rw [List.map_cons, List.nodup_cons] at h
      rcases List.mem_cons.1 hx with e | hx'
      · subst e; simp
      · have : y.ref ≠ x.ref := fun e => h.1 (List.mem_map.2 ⟨x, hx', e.symm⟩)
        simp [this, ih h.2 hx']
  rw [this]

theorem csum_fold : ∀ cs : List HC, csum cs = (cs.map fun x => x.n + 16).foldr (· + ·) 0
  | [] => rfl
  | x :: l => by simp only [csum, List.map_cons, List.foldr_cons]; rw [csum_fold l]

theorem sumK_refs (f : Int → Int) (p : HC → Int) : ∀ cs : List HC, (∀ x ∈ cs, f x.ref = p x) → sumK f (cs.map (·.ref)) = (cs.map p).foldr (· + ·) 0
  | [], _ => rfl
  | x :: l, h => by
    simp only [List.map_cons, sumK, List.foldr_cons]
    rw [h x (by simp), sumK_refs f p l (fun y hy => h y (by simp [hy]))]

theorem csum_perm {cs : List HC} {done : List Ent} (h : done.Perm (cs.map hent)) (nd : (cs.map (·.ref)).Nodup) : sumK (cneed cs) (done.map (·.1)) = csum cs := by
  have hp := List.Perm.map (·.1) h
  rw [List.map_map] at hp
  have e : cs.map ((fun x : Ent => x.1) ∘ hent) = cs.map (·.ref) := rfl
  rw [e] at hp
  rw [sumK_perm _ hp, sumK_refs _ (fun x => x.n + 16) cs (fun x hx => cneed_some nd hx), csum_fold]

section
variable {w w' : World} {F S : List Nat} {hb hm s ab clk : Nat} {last room words : Int} {cs : List HC} {g : SG} {l : List Arr}

theorem HpAt.nd (h : HpAt w F hb hm s ab last room cs clk) : (cs.map (·.ref)).Nodup := by
  have := h.mi.nodup
  rw [List.map_map] at this
  exact this

/-- How much room there is. -/
theorem hroom_c (h : HpAt w F hb hm s ab last room cs clk) (sz : ∀ c ∈ cs, 0 ≤ c.n) (hr : csum cs ≤ room ∧ room ≤ 100000) {K : Int → World → Prop} (hK : ∀ w', (∀ S, Fr S w w') → K (room - csum cs) w') : C98 (some ⟨hb, 0, none⟩) w K := by
  refine r_f98 _ _ _ ⟨_, h.hd.cell rfl, _, h.hd.cell rfl, range_c (kt := 3) (et := 199) h.mi (by kernel_rfl) fun w2 R2 f2 _ => ?_⟩
  have hnd := h.nd
  generalize hrr : w.heap.size = r at *
  have inv : ∀ done : List Ent, (∀ e ∈ done, e ∈ cs.map hent) → (done.map (·.2.2)).Nodup → 0 ≤ sumK (cneed cs) (done.map (·.1)) ∧ sumK (cneed cs) (done.map (·.1)) ≤ csum cs := by
    intro done hs hn
    classical
    have all : ∀ k, 0 ≤ cneed cs k := fun k => by
      unfold cneed
      cases hf : cs.find? (fun x => x.ref == k) with
      | none => simp
      | some x => have := sz x (List.mem_of_find?_eq_some hf); simp; omega
    have nn : ∀ r : List Int, 0 ≤ sumK (cneed cs) r := fun r => by
      induction r with
      | nil => simp [sumK]
      | cons k r ih => have := all k; simp [sumK]; omega
    refine ⟨nn _, ?_⟩
    have hsub : done.Nodup := nodup_of_map _ hn
    have hm : (cs.map hent).Nodup := nodup_of_map (·.2.2) h.mi.born
    have rest : (done ++ (cs.map hent).filter (fun e => decide (e ∉ done))).Perm (cs.map hent) := by
      refine perm_of_mem ?_ hm fun e => ?_
      · rw [List.nodup_append]
        refine ⟨hsub, hm.filter _, fun a ha b hb e => ?_⟩
        have := (List.mem_filter.1 hb).2
        simp at this
        exact this (e ▸ ha)
      · rw [List.mem_append, List.mem_filter]
        constructor
        · rintro (h | h)
          · exact hs e h
          · exact h.1
        · intro h
          by_cases hd : e ∈ done
          · exact .inl hd
          · exact .inr ⟨h, by simpa using hd⟩
    rw [← csum_perm rest hnd, List.map_append, sumK_app]
    have := nn (((cs.map hent).filter (fun e => decide (e ∉ done))).map (·.1))
    omega
  refine ⟨fun v w' => ∃ done, v = room - sumK (cneed cs) (done.map (·.1)) ∧ RangeAt w' r hm (cs.map hent) clk done ∧ ∀ S, Fr (r :: S) w w', fun v _ => v.toNat + 0, ⟨[], by simp [sumK], R2, fun S => f2 _⟩, ?_⟩
  rintro - v w3 ⟨done, rfl, R3, f3⟩
  rcases R3.next (P := Try.prog) 0 with ⟨hperm, hrun⟩ | ⟨e, he, hnd2, w4, hrun, R4, f4, _, hent4⟩
  · refine ⟨false, [], w3, hrun, ifb_f ?_⟩
    rw [csum_perm hperm hnd]
    exact hK w3 fun S => (f3 S).mono (fun k hk => by
      rcases List.mem_cons.1 hk with rfl | hk
      · exact .inr (by omega)
      · exact .inl hk)
  · obtain ⟨c, hc, rfl⟩ := List.mem_map.1 he
    have szc := sz c hc
    have i3 := inv _ R3.sub R3.nd
    have i4 := inv _ R4.sub R4.nd
    have e4 : sumK (cneed cs) ((done ++ [hent c]).map (·.1)) = sumK (cneed cs) (done.map (·.1)) + (c.n + 16) := by
      rw [List.map_append, sumK_app]
      simp only [List.map_cons, List.map_nil, sumK]
      have : (hent c).1 = c.ref := rfl
      rw [this, cneed_some hnd hc]
      omega
    rw [e4] at i4
    refine ⟨true, _, w4, hrun, ifb_t (entry_c hent4 fun b5 w5 n5 => ⟨n5.blk.mayL (by simp), fun w6 s6 => ?_⟩)⟩
    obtain ⟨X6, f6⟩ := newSet n5 s6 rfl
    exact ⟨_, X6.cell rfl, fit64 (by omega) (by omega), fit64 (by omega) (by omega), ⟨_, by rw [e4]; omega, R4.fr (f6 []) (by simp) (by simp), fun S => ((f3 S).trans f4 (fun k hk => by simp at hk; subst hk; exact .inl (by simp))).more (f6 _)⟩, by dsimp only; omega⟩
end
end Go.Proofs.Ytfpghcdjfiggiaa.V

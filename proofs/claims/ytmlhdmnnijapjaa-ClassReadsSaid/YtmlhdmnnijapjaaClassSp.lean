/- A program written over: what it still is. No condition. -/
import Derived.Test.YtmlhdmnnijapjaaClassA
import Derived.Test.YtmlhdmnnijapjaaClassO
import Derived.Test.YtmlhdmnnijapjaaClassK
import Derived.Test.YtmlhdmnnijapjaaGClsL4
namespace Go.Proofs.Ytmlhdmnnijapjaa.V
open Go Go.RowKit Go.Proofs.Ytmlhdmnnijapjaa.WirePlain

def Sim (k : Nat) (v v' : Value) : Prop := v' = v ∨ (∃ a b, v = .int .i64 a ∧ v' = .int .i64 b) ∨ ∃ s t : ByteArray, v = .string s ∧ v' = .string t ∧ t.size ≤ s.size + k
theorem Sim.trans {k j : Nat} {u v x : Value} (h : Sim k u v) (h' : Sim j v x) : Sim (k + j) u x := by
  rcases h with rfl | ⟨a, b, rfl, rfl⟩ | ⟨s, t, rfl, rfl, hz⟩
  · rcases h' with rfl | h | ⟨s, t, rfl, rfl, hz⟩
    · exact .inl rfl
    · exact .inr (.inl h)
    · exact .inr (.inr ⟨s, t, rfl, rfl, by omega⟩)
  · rcases h' with rfl | ⟨c, d, _, rfl⟩ | ⟨s, t, h, _⟩
    · exact .inr (.inl ⟨a, b, rfl, rfl⟩)
    · exact .inr (.inl ⟨a, d, rfl, rfl⟩)
    · cases h
  · rcases h' with rfl | ⟨c, d, h, _⟩ | ⟨s2, t2, h, rfl, hz2⟩
    · exact .inr (.inr ⟨s, t, rfl, rfl, by omega⟩)
    · cases h
    · cases h
      exact .inr (.inr ⟨s, t2, rfl, rfl, by omega⟩)

/-- Only ints turned, and strings that grew a little; only blocks of U. -/
structure Spo (U : Nat → Prop) (k : Nat) (w w' : World) : Prop where
  fr : ∃ S, Fr S w w' ∧ ∀ b ∈ S, U b
  sim : ∀ q v, w.cell? q = some v → ∃ v', w'.cell? q = some v' ∧ Sim k v v'
  may : ∀ q, May w q → May w' q

section
variable {U : Nat → Prop} {k j : Nat} {w w' w'' : World}
theorem Spo.of0 (f : ∀ S, Fr S w w') : Spo U 0 w w' := ⟨⟨[], f [], by simp⟩, fun q v h => ⟨v, (same_al f).cell trivial h, .inl rfl⟩, fun q h => (same_al f).may trivial h⟩
theorem Spo.trans (h : Spo U k w w') (h' : Spo U j w' w'') : Spo U (k + j) w w'' := by
  obtain ⟨⟨S, f, hS⟩, a, b⟩ := h
  obtain ⟨⟨S', f', hS'⟩, a', b'⟩ := h'
  refine ⟨⟨S ++ S', (f.mono (S' := S ++ S') (fun k hk => .inl (by simp [hk]))).trans f' (fun k hk => .inl (by simp [hk])), fun b hb => (List.mem_append.1 hb).elim (hS b) (hS' b)⟩, fun q v hq => ?_, fun q hq => b' q (b q hq)⟩
  obtain ⟨v1, h1, s1⟩ := a q v hq
  obtain ⟨v2, h2, s2⟩ := a' q v1 h1
  exact ⟨v2, h2, s1.trans s2⟩
theorem Spo.mono (h : Spo U k w w') (hk : k ≤ j) : Spo U j w w' := ⟨h.fr, fun q v hq => by
  obtain ⟨v', h1, h2⟩ := h.sim q v hq
  refine ⟨v', h1, ?_⟩
  rcases h2 with h | h | ⟨s, t, h1, h2, h3⟩
  · exact .inl h
  · exact .inr (.inl h)
  · exact .inr (.inr ⟨s, t, h1, h2, by omega⟩), h.may⟩
theorem Spo.set {q : Addr} {v x : Value} (hc : w.cell? q = some v) (hU : U q.block) (hs : Sim k v x) (s : SetC w w' q x) : Spo U k w w' := by
  have f : Fr [q.block] w w' := s.fr (by simp)
  have e : w' = w.setCell q x := s
  have e1 : (w.setCell q x).cell? q = some x := by apply World.cell?_setCell_same; exact hc
  have e2 : ∀ a, q ≠ a → (w.setCell q x).cell? a = w.cell? a := fun a h => by apply World.cell?_setCell_other; exact h
  have e3 : ∀ a, (w.setCell q x).frozen? a = w.frozen? a := fun a => by apply World.frozen?_setCell
  rw [← e] at e1 e2 e3
  refine ⟨⟨_, f, by simpa using hU⟩, fun a u hu => ?_, fun a ha => ?_⟩
  · by_cases h : q = a
    · subst h
      rw [hc] at hu
      cases hu
      exact ⟨x, e1, hs⟩
    · exact ⟨u, by rw [e2 a h]; exact hu, .inl rfl⟩
  · obtain ⟨⟨u, hu⟩, hf⟩ := ha
    refine ⟨?_, by rw [e3]; exact hf⟩
    by_cases h : q = a
    · subst h; exact ⟨x, e1⟩
    · exact ⟨u, by rw [e2 a h]; exact hu⟩
theorem Spo.blk (h : Spo U k w w') {b : Nat} {cs : List Value} (B : Blk w b cs) (hb : ¬ U b) : Blk w' b cs := by
  obtain ⟨S, f, hS⟩ := h.fr
  exact B.fr f fun h => hb (hS b h)
theorem Spo.size (h : Spo U k w w') : w.heap.size ≤ w'.heap.size := by obtain ⟨S, f, _⟩ := h.fr; exact f.size

/-- Things in a row: of this form, in blocks of U, at most a thousand. -/
def Shp (U : Nat → Prop) (w : World) (k : Nat) (R : List Value → Prop) (a : Option Addr) (l : Nat) : Prop := l ≤ 1000 ∧ ∀ i, i < l → ∃ p vs, a = some p ∧ U p.block ∧ vs.length = k ∧ CellsAt w (Addr.add p (i * k)) vs ∧ MayL w (Addr.add p (i * k)) k ∧ R vs

theorem Shp.of {α : Type} {R : List Value → α → Prop} {Q : List Value → Prop} {a : Option Addr} {l n : Nat} {xs : List α} (h : rSeq U True w n R a l xs) (hl : xs.length ≤ 1000) (hQ : ∀ vs x, x ∈ xs → R vs x → Q vs) : Shp U w n Q a l := by
  obtain ⟨e, h⟩ := h
  refine ⟨by omega, fun i hi => ?_⟩
  have hi' : i < xs.length := by omega
  obtain ⟨p, vs, h1, h2, h3, h4, h5, h6, h7⟩ := h i _ (List.getElem?_eq_getElem hi')
  exact ⟨p, vs, h1, h2, h4, h5, h6 trivial, hQ _ _ (List.getElem_mem hi') h7⟩

def Sims (k : Nat) (vs vs' : List Value) : Prop := vs'.length = vs.length ∧ ∀ (i : Nat) (v v' : Value), vs[i]? = some v → vs'[i]? = some v' → Sim k v v'
theorem Shp.spo {R R' : List Value → Prop} {a : Option Addr} {l n : Nat} (h : Shp U w n R a l) (s : Spo U k w w') (hR : ∀ vs vs', R vs → Sims k vs vs' → R' vs') : Shp U w' n R' a l := by
  refine ⟨h.1, fun i hi => ?_⟩
  obtain ⟨p, vs, h1, h2, h3, h4, h5, h6⟩ := h.2 i hi
  have each : ∀ j, j < vs.length → ∃ v', w'.cell? (Addr.add (Addr.add p (i * n)) j) = some v' ∧ ∀ v, vs[j]? = some v → Sim k v v' := fun j hj => by
    obtain ⟨v', g1, g2⟩ := s.sim _ _ (h4 j _ (List.getElem?_eq_getElem hj))
    exact ⟨v', g1, fun v hv => by rw [List.getElem?_eq_getElem hj] at hv; cases hv; exact g2⟩
  refine ⟨p, List.ofFn fun j : Fin vs.length => Classical.choose (each j j.2), h1, h2, by simp [h3], fun j v hj => ?_, fun j hj => s.may _ (h5 j hj), hR vs _ h6 ⟨by simp, fun j v v' hv hv' => ?_⟩⟩
  · have hlt : j < vs.length := by have := (List.getElem?_eq_some_iff.1 hj).1; simpa using this
    rw [List.getElem?_ofFn, dif_pos hlt] at hj
    cases hj
    exact (Classical.choose_spec (each j hlt)).1
  · have hlt : j < vs.length := (List.getElem?_eq_some_iff.1 hv).1
    rw [List.getElem?_ofFn, dif_pos hlt] at hv'
    cases hv'
    exact (Classical.choose_spec (each j hlt)).2 v hv

theorem Shp.get {R : List Value → Prop} {a : Option Addr} {l n : Nat} (h : Shp U w n R a l) {i : Int} (h0 : 0 ≤ i) (h1 : i < (l : Int)) : ∃ p vs, a = some p ∧ U p.block ∧ vs.length = n ∧ CellsAt w (Addr.add p (Int.toNat i * n)) vs ∧ MayL w (Addr.add p (Int.toNat i * n)) n ∧ R vs := h.2 i.toNat (by omega)

theorem len8' {l : List Value} (h : l.length = 8) : ∃ x0 x1 x2 x3 x4 x5 x6 x7, l = [x0, x1, x2, x3, x4, x5, x6, x7] := by
  match l, h with
  | [x0, x1, x2, x3, x4, x5, x6, x7], _ => exact ⟨x0, x1, x2, x3, x4, x5, x6, x7, rfl⟩
theorem len9' {l : List Value} (h : l.length = 9) : ∃ x0 x1 x2 x3 x4 x5 x6 x7 x8, l = [x0, x1, x2, x3, x4, x5, x6, x7, x8] := by
  match l, h with
  | [x0, x1, x2, x3, x4, x5, x6, x7, x8], _ => exact ⟨x0, x1, x2, x3, x4, x5, x6, x7, x8, rfl⟩
theorem sims1 {a : Value} {vs' : List Value} (h : Sims k [a] vs') : ∃ a', vs' = [a'] ∧ Sim k a a' := by
  match vs', h.1 with
  | [a'], _ => exact ⟨a', rfl, h.2 0 _ _ rfl rfl⟩
theorem sims2 {a b : Value} {vs' : List Value} (h : Sims k [a, b] vs') : ∃ a' b', vs' = [a', b'] ∧ Sim k a a' ∧ Sim k b b' := by
  match vs', h.1 with
  | [a', b'], _ => exact ⟨a', b', rfl, h.2 0 _ _ rfl rfl, h.2 1 _ _ rfl rfl⟩
theorem sims3 {a b c : Value} {vs' : List Value} (h : Sims k [a, b, c] vs') : ∃ a' b' c', vs' = [a', b', c'] ∧ Sim k a a' ∧ Sim k b b' ∧ Sim k c c' := by
  match vs', h.1 with
  | [a', b', c'], _ => exact ⟨a', b', c', rfl, h.2 0 _ _ rfl rfl, h.2 1 _ _ rfl rfl, h.2 2 _ _ rfl rfl⟩
theorem sim_i {n : Int} {v : Value} (h : Sim k (.int .i64 n) v) : ∃ n', v = .int .i64 n' := by
  rcases h with rfl | ⟨a, b, _, rfl⟩ | ⟨s, t, h, _⟩
  · exact ⟨n, rfl⟩
  · exact ⟨b, rfl⟩
  · cases h
theorem sim_s {s : ByteArray} {v : Value} (h : Sim k (.string s) v) : ∃ t, v = .string t ∧ t.size ≤ s.size + k := by
  rcases h with rfl | ⟨a, b, h, _⟩ | ⟨s', t, h, rfl, hz⟩
  · exact ⟨s, rfl, by omega⟩
  · cases h
  · cases h; exact ⟨t, rfl, hz⟩
theorem sim_b {b : Bool} {v : Value} (h : Sim k (.bool b) v) : v = .bool b := by
  rcases h with rfl | ⟨a, c, h, _⟩ | ⟨s, t, h, _⟩
  · rfl
  · cases h
  · cases h
theorem sim_l {a : Option Addr} {l c : Nat} {v : Value} (h : Sim k (.slice a l c) v) : v = .slice a l c := by
  rcases h with rfl | ⟨a, c, h, _⟩ | ⟨s, t, h, _⟩
  · rfl
  · cases h
  · cases h

def HInt (vs : List Value) : Prop := ∃ n, vs = [.int .i64 n]
def HFld (N : Nat) (vs : List Value) : Prop := ∃ s n, vs = [.string s, .int .i64 n] ∧ s.size ≤ N
def HIns (vs : List Value) : Prop := ∃ a b c, vs = [.int .i64 a, .int .i64 b, .int .i64 c]
def HMpe (U : Nat → Prop) (w : World) (vs : List Value) : Prop := ∃ n a1 l1 c1 a2 l2 c2, vs = [.int .i64 n, .slice a1 l1 c1, .slice a2 l2 c2] ∧ Shp U w 1 HInt a1 l1
def HMth (U : Nat → Prop) (w : World) (vs : List Value) : Prop := ∃ s b a1 l1 c1 n1 n2 n3 a2 l2 c2 a3 l3 c3 a4 l4 c4, vs = [.string s, .bool b, .slice a1 l1 c1, .int .i64 n1, .int .i64 n2, .int .i64 n3, .slice a2 l2 c2, .slice a3 l3 c3, .slice a4 l4 c4] ∧
  Shp U w 1 HInt a1 l1 ∧ Shp U w 3 HIns a2 l2 ∧ Shp U w 3 (HMpe U w) a4 l4
def HCls (U : Nat → Prop) (N : Nat) (w : World) (vs : List Value) : Prop := ∃ s b b2 n a1 l1 c1 a2 l2 c2 a3 l3 c3 a4 l4 c4, vs = [.string s, .bool b, .bool b2, .int .i64 n, .slice a1 l1 c1, .slice a2 l2 c2, .slice a3 l3 c3, .slice a4 l4 c4] ∧ s.size ≤ N ∧
  Shp U w 1 HInt a1 l1 ∧ Shp U w 2 (HFld N) a2 l2 ∧ Shp U w 9 (HMth U w) a4 l4

theorem HInt.spo {vs vs' : List Value} (h : HInt vs) (s : Sims k vs vs') : HInt vs' := by
  obtain ⟨n, rfl⟩ := h
  obtain ⟨a, rfl, h⟩ := sims1 s
  obtain ⟨n', rfl⟩ := sim_i h
  exact ⟨n', rfl⟩
theorem HFld.spo {N : Nat} {vs vs' : List Value} (h : HFld N vs) (s : Sims k vs vs') : HFld (N + k) vs' := by
  obtain ⟨t, n, rfl, hz⟩ := h
  obtain ⟨a, b, rfl, h1, h2⟩ := sims2 s
  obtain ⟨t', rfl, hz'⟩ := sim_s h1
  obtain ⟨n', rfl⟩ := sim_i h2
  exact ⟨t', n', rfl, by omega⟩
theorem HIns.spo {vs vs' : List Value} (h : HIns vs) (s : Sims k vs vs') : HIns vs' := by
  obtain ⟨a, b, c, rfl⟩ := h
  obtain ⟨a', b', c', rfl, h1, h2, h3⟩ := sims3 s
  obtain ⟨n1, rfl⟩ := sim_i h1
  obtain ⟨n2, rfl⟩ := sim_i h2
  obtain ⟨n3, rfl⟩ := sim_i h3
  exact ⟨n1, n2, n3, rfl⟩
theorem HMpe.spo {vs vs' : List Value} (h : HMpe U w vs) (q : Spo U j w w') (s : Sims k vs vs') : HMpe U w' vs' := by
  obtain ⟨n, a1, l1, c1, a2, l2, c2, rfl, h⟩ := h
  obtain ⟨a', b', c', rfl, h1, h2, h3⟩ := sims3 s
  obtain ⟨n1, rfl⟩ := sim_i h1
  obtain rfl := sim_l h2
  obtain rfl := sim_l h3
  exact ⟨n1, _, _, _, _, _, _, rfl, h.spo q fun _ _ => HInt.spo⟩
theorem HMth.spo {vs vs' : List Value} (h : HMth U w vs) (q : Spo U j w w') (s : Sims k vs vs') : HMth U w' vs' := by
  obtain ⟨t, b, a1, l1, c1, n1, n2, n3, a2, l2, c2, a3, l3, c3, a4, l4, c4, rfl, d1, d2, d4⟩ := h
  obtain ⟨x0, x1, x2, x3, x4, x5, x6, x7, x8, rfl⟩ := len9' s.1
  obtain ⟨t', rfl, _⟩ := sim_s (s.2 0 _ _ rfl rfl)
  obtain rfl := sim_b (s.2 1 _ _ rfl rfl)
  obtain rfl := sim_l (s.2 2 _ _ rfl rfl)
  obtain ⟨m1, rfl⟩ := sim_i (s.2 3 _ _ rfl rfl)
  obtain ⟨m2, rfl⟩ := sim_i (s.2 4 _ _ rfl rfl)
  obtain ⟨m3, rfl⟩ := sim_i (s.2 5 _ _ rfl rfl)
  obtain rfl := sim_l (s.2 6 _ _ rfl rfl)
  obtain rfl := sim_l (s.2 7 _ _ rfl rfl)
  obtain rfl := sim_l (s.2 8 _ _ rfl rfl)
  exact ⟨_, _, _, _, _, _, _, _, _, _, _, _, _, _, _, _, _, rfl, d1.spo q fun _ _ => HInt.spo, d2.spo q fun _ _ => HIns.spo, d4.spo q fun _ _ h s => h.spo q s⟩
theorem HCls.spo {N : Nat} {vs vs' : List Value} (h : HCls U N w vs) (q : Spo U k w w') (s : Sims k vs vs') : HCls U (N + k) w' vs' := by
  obtain ⟨t, b, b2, n, a1, l1, c1, a2, l2, c2, a3, l3, c3, a4, l4, c4, rfl, hz, d1, d2, d4⟩ := h
  obtain ⟨x0, x1, x2, x3, x4, x5, x6, x7, rfl⟩ := len8' s.1
  obtain ⟨t', rfl, hz'⟩ := sim_s (s.2 0 _ _ rfl rfl)
  obtain rfl := sim_b (s.2 1 _ _ rfl rfl)
  obtain rfl := sim_b (s.2 2 _ _ rfl rfl)
  obtain ⟨m1, rfl⟩ := sim_i (s.2 3 _ _ rfl rfl)
  obtain rfl := sim_l (s.2 4 _ _ rfl rfl)
  obtain rfl := sim_l (s.2 5 _ _ rfl rfl)
  obtain rfl := sim_l (s.2 6 _ _ rfl rfl)
  obtain rfl := sim_l (s.2 7 _ _ rfl rfl)
  exact ⟨_, _, _, _, _, _, _, _, _, _, _, _, _, _, _, _, rfl, by omega, d1.spo q fun _ _ => HInt.spo, d2.spo q fun _ _ => HFld.spo, d4.spo q fun _ _ h s => h.spo q s⟩

/-- Ints are written over. -/
theorem spoil44 {a : Option Addr} {l c : Nat} (D : Shp U w 1 HInt a l) {K : World → Prop} (hK : ∀ w', Spo U 0 w w' → K w') : C44 a l c w K := by
  have hl := D.1
  refine r_f44 _ _ _ _ _ ⟨fun n w' => 0 ≤ n ∧ n ≤ l ∧ Spo U 0 w w', fun n _ => (l - n).toNat, ⟨Int.le_refl _, by omega, Spo.of0 fun S => Fr.refl S w⟩, ?_⟩
  rintro - n w4 ⟨h0, h1, s4⟩
  refine IfB.dec (fun hlt => ?_) (fun _ => hK w4 s4)
  obtain ⟨p, vs, rfl, hU, hv, hc, hm, n', rfl⟩ := (D.spo s4 fun _ _ => HInt.spo).get h0 hlt
  have c0 := hc 0 _ rfl
  have m0 := hm 0 (by decide)
  rw [add0] at c0 m0
  refine PtrOK.of rfl ⟨⟨h0, hlt⟩, _, c0, PtrOK.of rfl ⟨⟨h0, hlt⟩, m0, fun w8 s8 => ?_⟩⟩
  have e : IntKind.wrap .i64 (n + 1) = n + 1 := by
    have := wrap_small (n := (n + 1).toNat) (by omega)
    rwa [Int.toNat_of_nonneg (by omega)] at this
  rw [e]
  exact ⟨⟨by omega, by omega, s4.trans (Spo.set (k := 0) c0 (by rw [add_blk]; exact hU) (.inr (.inl ⟨_, _, rfl, rfl⟩)) s8)⟩, by (try dsimp only); omega⟩

theorem tilde_size (s : ByteArray) : (ByteArray.mk #[126] ++ s).size = s.size + 1 := by
  rw [ByteArray.size_append]
  have : (ByteArray.mk #[126]).size = 1 := rfl
  omega

/-- Fields are written over. -/
theorem spoil58 {N : Nat} {a : Option Addr} {l c : Nat} (hN : N ≤ 1000000000) (D : Shp U w 2 (HFld N) a l) {K : World → Prop} (hK : ∀ w', Spo U 1000 w w' → K w') : C58 a l c w K := by
  have hl := D.1
  refine r_f58 _ _ _ _ _ ⟨fun n w' => 0 ≤ n ∧ n ≤ l ∧ Spo U n.toNat w w', fun n _ => (l - n).toNat, ⟨Int.le_refl _, by omega, Spo.of0 fun S => Fr.refl S w⟩, ?_⟩
  rintro - n w4 ⟨h0, h1, s4⟩
  refine IfB.dec (fun hlt => ?_) (fun _ => hK w4 (s4.mono (by omega)))
  obtain ⟨p, vs, rfl, hU, hv, hc, hm, t, n', rfl, hz⟩ := (D.spo s4 fun _ _ => HFld.spo).get h0 hlt
  have c0 := hc 0 _ rfl
  have m0 := hm 0 (by decide)
  have e1 : (ByteArray.mk #[126]).size = 1 := rfl
  refine PtrOK.of rfl ⟨⟨h0, hlt⟩, _, c0, by rw [e1]; omega, PtrOK.of rfl ⟨⟨h0, hlt⟩, m0, fun w8 s8 => ?_⟩⟩
  refine ⟨fit64 (by omega) (by omega), ⟨by omega, by omega, ?_⟩, by (try dsimp only); omega⟩
  exact (s4.trans (Spo.set (k := 1) c0 (by rw [add_blk, add_blk]; exact hU) (.inr (.inr ⟨_, _, rfl, rfl, by rw [tilde_size]; exact Nat.le_refl _⟩)) s8)).mono (by omega)
end
end Go.Proofs.Ytmlhdmnnijapjaa.V

/- The law HeapAgain: what it computes. No condition. -/
import Derived.Test.YtfpghcdjfiggiaaLaws9
import Derived.Test.YtfpghcdjfiggiaaArgs
namespace Go.Proofs.Ytfpghcdjfiggiaa.V
open Go Go.RowKit

theorem wu_pos9 (z : Int) : 0 ≤ IntKind.wrap .u64 z := by
  simp only [IntKind.wrap, IntKind.signed, IntKind.bits]
  simp
  omega
theorem w64_9 {z : Int} (h0 : -9223372036854775808 ≤ z) (h1 : z < 9223372036854775808) : IntKind.wrap .i64 z = z := by
  simp only [IntKind.wrap, IntKind.signed, IntKind.bits]
  simp
  omega
theorem xsum_app (a b : List XC) : xsum (a ++ b) = xsum a + xsum b := by
  induction a with
  | nil => simp [xsum]
  | cons c a ih => simp [xsum, ih]; omega
theorem xsum_put (xs : List XC) (ref i v : Int) : xsum (xput xs ref i v) = xsum xs := by
  induction xs with
  | nil => rfl
  | cons x xs ih =>
    unfold xput at ih ⊢
    simp only [List.map_cons, xsum, ih]
    split <;> rfl

/-- A slice of ints beside own blocks. -/
structure Side (W w : World) (a : Option Addr) (c : Nat) (G : List Nat) (xs : List Int) : Prop where
  si : SI w a c xs
  up : ∀ b ∈ ablk a, W.heap.size ≤ b
  ap : Apart (ablk a) G

section
variable {W w w' : World} {a : Option Addr} {c : Nat} {G G' : List Nat} {xs : List Int}
theorem Side.nil (W w : World) (G : List Nat) : Side W w none 0 G [] := ⟨SI.nil w, by simp [ablk], by simp [Apart, ablk]⟩
theorem Side.step (s : Side W w a c G xs) (f : Fr G w w') (g : Grw G G' w.heap.size) : Side W w' a c G' xs := ⟨s.si.fr f s.ap, s.up, s.ap.growr s.si.low g⟩
theorem Side.same (s : Side W w a c G xs) (f : Fr G w w') : Side W w' a c G xs := s.step f (fun _ h => .inl h)
theorem Side.still (s : Side W w a c G xs) (f : ∀ S, Fr S w w') : Side W w' a c G xs := s.same (f G)
theorem Side.less (s : Side W w a c G xs) (f : Fr G w w') (g : ∀ b ∈ G', b ∈ G) : Side W w' a c G' xs := s.step f (fun b hb => .inl (g b hb))
/-- One more, beside a heap. -/
theorem Side.app (s : Side W w a c G xs) (o : Own W w G) {hb : Nat} {ss : List Int} {words last : Int} {cs : List XC} (h : Hx w G hb ss words last cs) {n : Int} {b : Nat} {w1 : World} (n1 : NewAt w w1 b #[.int .i64 n] 3) (h63 : xs.length + 1 ≤ 1048576)
    {K : Option Addr → Nat → Nat → World → Prop} (hK : ∀ a' c' w', Side W w' a' c' G (xs ++ [n]) → Own W w' G → Hx w' G hb ss words last cs → K a' (xs.length + 1) c' w') :
    RunF Try.prog (Builtin.append_ #[42, 42] 42 #[.slice a xs.length c, .slice (some ⟨b, 0, none⟩) 1 1]) w1 [.leaf .slice] K := by
  refine app_int s.si n1 h63 fun a' c' w' S' f' g' => hK a' c' w' ⟨S', fun b hb => ?_, (s.ap.grow h.low g')⟩ ⟨o.up, o.fr.trans f' (fun k hk => .inr (s.up k hk))⟩ (h.frame f' s.ap.symm)
  rcases g' b hb with q | q
  · exact s.up b q
  · exact Nat.le_trans o.fr.size q
end

theorem head_free : ∀ {xs : List XC} {r : Int} {rs : List Int}, xs.map (·.ref) = r :: rs → (xs.map (·.ref)).Pairwise (· < ·) → (xs.filter fun y => !(r == y.ref)).map (·.ref) = rs ∧ ∃ x ∈ xs, x.ref = r
  | [], _, _, h, _ => by simp at h
  | x :: xs, r, rs, h, hp => by
    simp only [List.map_cons, List.cons.injEq] at h
    rw [List.map_cons, List.pairwise_cons] at hp
    have : (x :: xs).filter (fun y => !(r == y.ref)) = xs := by
      rw [List.filter_cons, if_neg (by simp [h.1]), List.filter_eq_self]
      intro y hy
      have := hp.1 y.ref (List.mem_map.2 ⟨y, hy, rfl⟩)
      simp; omega
    rw [this]
    exact ⟨h.2, x, by simp, h.1⟩

theorem heapAgain_c {W : World} {za : Option Addr} {zs : List Int} {zc : Nat} (ga : ArgI W.heap.size W za zs) (rounds : Int) {K : Bool → World → Prop} (hK : ∀ w', Fr [] W w' → K true w') : C22 za zs.length zc rounds W K := by
  obtain ⟨r1, r2⟩ := and_range 31 5 (by decide) (by decide) rounds
  refine r_f22 _ _ _ _ _ _ ?_
  unfold V_f22
  generalize bits .and .i64 rounds 31 = rn at *
  refine awake9_c fun w0 f0 => ifb_nyes rfl (xnew_c 4096 1 (fun h => absurd (by decide) h) (fun _ w1 G1 hb H1 f1 hG => ?_))
  have z0 := f0.size
  have O1 : Own W w1 G1 := ⟨fun b hb => by have := hG b hb; omega, f0.more (f1 [])⟩
  refine ⟨fun n w' => 0 ≤ n ∧ n ≤ 32 ∧ ∃ G ss last, Hx w' G hb ss 4096 last [] ∧ Own W w' G ∧ ss.length = 1 ∧ 0 ≤ last ∧ last ≤ 10 * n, fun n _ => (32 - n).toNat, ⟨by decide, by decide, G1, _, 0, H1, O1, rfl, by decide, by decide⟩, ?_⟩
  rintro - n w2 ⟨hn0, hn1, G2, ss2, last2, H2, O2, e2, l20, l21⟩
  refine IfB.dec (fun hle => ?_) (fun _ => ifb_t (xrefs_c H2 (by simp) fun a c w3 _ f3 _ => ?_))
  · refine ⟨fun a l c w' => ∃ G ss last rs xs, l = rs.length ∧ Hx w' G hb ss 4096 last xs ∧ Own W w' G ∧ Side W w' a c G rs ∧ ss.length = 1 ∧ xs.map (·.ref) = rs ∧ 0 ≤ last ∧ last ≤ 10 * (n + 1),
      ⟨fun a l c left j w' => 0 ≤ j ∧ j ≤ 10 ∧ ∃ G ss last rs xs, l = rs.length ∧ (rs.length : Int) ≤ j ∧ Hx w' G hb ss 4096 last xs ∧ Own W w' G ∧ Side W w' a c G rs ∧ ss.length = 1 ∧ xs.map (·.ref) = rs ∧ 0 ≤ last ∧ last ≤ 10 * n + j ∧ left = 1024 - xsum xs,
       fun _ _ _ _ j _ => (10 - j).toNat, ⟨by decide, by decide, G2, ss2, last2, [], [], rfl, by decide, H2, O2, Side.nil _ _ _, e2, rfl, l20, by omega, rfl⟩, ?_⟩, ?_⟩
    · rintro - a l c left j w3 ⟨hj0, hj1, G3, ss3, last3, rs, xs, rfl, hrl, H3, O3, S3, e3, er, l30, l31, rfl⟩
      have out : ∃ G ss last rs' xs, rs.length = rs'.length ∧ Hx w3 G hb ss 4096 last xs ∧ Own W w3 G ∧ Side W w3 a c G rs' ∧ ss.length = 1 ∧ xs.map (·.ref) = rs' ∧ 0 ≤ last ∧ last ≤ 10 * (n + 1) := ⟨G3, ss3, last3, rs, xs, rfl, H3, O3, S3, e3, er, l30, by omega⟩
      refine IfB.dec (fun hjl => IfB.dec (fun hj => ?_) (fun _ => out)) (fun _ => out)
      refine (ga.fr O3.fr (by simp)).get hj0 hjl fun p hp _ => ⟨⟨hj0, hjl⟩, _, hp, by decide, ?_⟩
      generalize zs.getD j.toNat 0 = z at *
      obtain ⟨k, hk, k0, k1⟩ : ∃ k, IntKind.wrap .i64 (Int.tmod (IntKind.wrap .u64 z) 200) = k ∧ 0 ≤ k ∧ k < 200 := by
        have h1 := wu_pos9 z
        have h2 : Int.tmod (IntKind.wrap .u64 z) 200 = (IntKind.wrap .u64 z) % 200 := Int.tmod_eq_emod_of_nonneg h1
        rw [h2, w64_9 (by omega) (by omega)]
        exact ⟨_, rfl, by omega, by omega⟩
      rw [hk]
      have xf := H3.facts
      have xs0 : 0 ≤ xsum xs := by
        have : ∀ ys : List XC, (∀ y ∈ ys, 0 ≤ y.n) → 0 ≤ xsum ys := fun ys => by
          induction ys with
          | nil => intro _; exact Int.le_refl 0
          | cons y ys ih => intro h; have := ih (fun z hz => h z (by simp [hz])); have := h y (by simp); simp only [xsum]; omega
        exact this xs (fun y hy => (xf.2.2.2.1 y hy).1)
      have xs1 : xsum xs ≤ 1024 := xf.2.2.2.2.1
      rw [w64_9 (z := k + 16) (by omega) (by omega), w64_9 (z := j + 1) (by omega) (by omega)]
      refine IfB.dec (fun hfull => ⟨⟨by omega, by omega, G3, ss3, last3, rs, xs, rfl, by omega, H3, O3, S3, e3, er, l30, by omega, rfl⟩, by dsimp only; omega⟩) (fun hroom => fun b4 w4 n4 => ?_)
      obtain ⟨q1, q2⟩ := and_range 1 1 (by decide) (by decide) j
      generalize bits .and .i64 j 1 = jb at *
      have H4 := H3.fr0 n4.fr
      have O4 := O3.still n4.fr
      have S4 := S3.still n4.fr
      refine ⟨⟨q1, by omega⟩, if jb = 0 then 2 else 3, ?_, fun v w' => w' = w4 ∧ (v = 2 ∨ v = 3 ∨ v = 1 ∧ k ≤ 64), ?_, ?_⟩
      · have B4 := n4.blk
        rw [addr_add, Nat.zero_add, Nat.mul_one]
        by_cases h0 : jb = 0
        · subst h0; exact B4.cell rfl
        · have : jb = 1 := by omega
          subst this; exact B4.cell rfl
      · have d : w4 = w4 ∧ ((if jb = 0 then (2 : Int) else 3) = 2 ∨ (if jb = 0 then (2 : Int) else 3) = 3 ∨ (if jb = 0 then (2 : Int) else 3) = 1 ∧ k ≤ 64) := ⟨rfl, by split <;> simp⟩
        refine IfB.dec (fun h64 => ?_) (fun _ => d)
        refine ((ga.fr O3.fr (by simp)).fr (n4.fr []) (by simp)).get hj0 hjl fun p2 hp2 _ => ⟨⟨hj0, hjl⟩, _, hp2, IfB.dec (fun _ => ⟨rfl, .inr (.inr ⟨rfl, h64⟩)⟩) (fun _ => d)⟩
      · rintro - kd w5 ⟨rfl, hkd⟩
        have hk16 : k + 16 ≤ (4096 + 3) / 4 - xsum xs := by
          have : ((4096 : Int) + 3) / 4 = 1024 := by decide
          omega
        refine qxmake H4 O4 (by omega) (by omega) ⟨by omega, by omega⟩ hk16 fun w6 G6 ss6 H6 O6 f6 g6 e6 t6 => ?_
        have S6 := S4.step f6 g6
        have e7 : (xs ++ [⟨last3 + 1, kd, j, k, List.replicate k.toNat 0⟩] : List XC).map (·.ref) = rs ++ [last3 + 1] := by rw [List.map_append, er]; rfl
        have sm : 1024 - xsum (xs ++ [⟨last3 + 1, kd, j, k, List.replicate k.toNat 0⟩]) = 1024 - xsum xs - k - 16 := by rw [xsum_app]; simp only [xsum]; omega
        have hlen : rs.length + 1 ≤ 1048576 := by omega
        rw [w64_9 (z := 1024 - xsum xs - k) (by omega) (by omega), w64_9 (z := 1024 - xsum xs - k - 16) (by omega) (by omega)]
        have next : ∀ (w7 : World) (G7 : List Nat) (ss7 : List Int) (ys : List XC), Hx w7 G7 hb ss7 4096 (last3 + 1) ys → ys.map (·.ref) = rs ++ [last3 + 1] → xsum ys = xsum xs + (k + 16) → Own W w7 G7 → Side W w7 a c G7 rs → ss7.length = 1 →
            ∀ (b8 : Nat) (w8 : World), NewAt w7 w8 b8 #[.int .i64 (last3 + 1)] 3 → RunF Try.prog (Builtin.append_ #[42, 42] 42 #[.slice a rs.length c, .slice (some ⟨b8, 0, none⟩) 1 1]) w8 [.leaf .slice] fun a39 l39 c39 w40 =>
              (0 ≤ j + 1 ∧ j + 1 ≤ 10 ∧ ∃ G ss last rs xs', l39 = rs.length ∧ (rs.length : Int) ≤ j + 1 ∧ Hx w40 G hb ss 4096 last xs' ∧ Own W w40 G ∧ Side W w40 a39 c39 G rs ∧ ss.length = 1 ∧ xs'.map (·.ref) = rs ∧ 0 ≤ last ∧ last ≤ 10 * n + (j + 1) ∧ 1024 - xsum xs - k - 16 = 1024 - xsum xs') ∧
              (10 - (j + 1)).toNat < (10 - j).toNat := by
          intro w7 G7 ss7 ys H7 er7 es7 O7 S7 e7' b8 w8 n8
          refine S7.app O7 H7 n8 hlen fun a9 c9 w9 S9 O9 H9 => ⟨⟨by omega, by omega, G7, ss7, last3 + 1, rs ++ [last3 + 1], ys, by simp, by simp; omega, H9, O9, S9, e7', er7, by omega, by omega, by omega⟩, by omega⟩
        have e6' : ss6.length = 1 := e6.trans e3
        have es6 : xsum (xs ++ [⟨last3 + 1, kd, j, k, List.replicate k.toNat 0⟩]) = xsum xs + (k + 16) := by omega
        refine IfB.nyes rfl (IfB.dec (fun hk0 => ?_) (fun _ => next w6 G6 ss6 _ H6 e7 es6 O6 S6 e6'))
        rw [w64_9 (z := k - 1) (by omega) (by omega)]
        have mx : (⟨last3 + 1, kd, j, k, List.replicate k.toNat 0⟩ : XC) ∈ xs ++ [⟨last3 + 1, kd, j, k, List.replicate k.toNat 0⟩] := by simp
        refine qxload H6 O6 (by rw [e6']; decide) mx rfl ⟨by omega, by dsimp only; omega⟩ fun w7 H7 O7 f7 => ?_
        have S7 := S6.same f7
        have ev : (List.replicate k.toNat (0 : Int)).getD (k - 1).toNat 0 = 0 := by simp [List.getD_eq_getElem?_getD, List.getElem?_replicate]; split <;> rfl
        dsimp only
        rw [ev]
        refine IfB.nyes rfl (IfB.nyes rfl (qxput H7 O7 77 (by simp [tickA, e6']) mx rfl ⟨by omega, by dsimp only; omega⟩ fun w8 ss8 H8 O8 f8 t8 => ?_))
        exact next w8 G6 ss8 _ H8 (by rw [xput_map (·.ref) (fun _ _ => rfl)]; exact e7) (by rw [xsum_put]; exact es6) O8 (S7.same f8) (by rw [t8.1]; simp [tickA, e6'])
    · rintro - a l c w3 ⟨G3, ss3, last3, rs, xs, rfl, H3, O3, S3, e3, er, l30, l31⟩
      refine ⟨fun i w' => 0 ≤ i ∧ i ≤ rs.length ∧ ∃ G ys, Hx w' G hb ss3 4096 last3 ys ∧ Own W w' G ∧ Side W w' a c G rs ∧ ys.map (·.ref) = rs.drop i.toNat, fun i _ => (rs.length - i).toNat, ⟨by decide, by omega, G3, xs, H3, O3, S3, by simpa using er⟩, ?_⟩
      rintro - i w4 ⟨hi0, hi1, G4, ys, H4, O4, S4, er4⟩
      refine IfB.dec (fun hlt => ?_) (fun hge => ?_)
      · have hmx := S4.si.le
        unfold maxLen at hmx
        rw [w64_9 (z := i + 1) (by omega) (by omega)]
        refine S4.si.get hi0 hlt fun p hp => ⟨⟨hi0, hlt⟩, _, hp, ?_⟩
        have hil : i.toNat < rs.length := by omega
        have ed : rs.drop i.toNat = rs.getD i.toNat 0 :: rs.drop (i.toNat + 1) := by
          rw [List.drop_eq_getElem_cons hil, List.getD_eq_getElem?_getD, List.getElem?_eq_getElem hil]; rfl
        rw [ed] at er4
        obtain ⟨h1, h2⟩ := head_free er4 H4.facts.2.2.2.2.2.1
        refine xfree_c H4 0 _ (fun hn => absurd ⟨by rw [e3]; decide, h2⟩ hn) (fun _ _ w5 G5 H5 f5 g5 => IfB.nyes rfl ⟨⟨by omega, by omega, G5, _, H5, O4.less f5 g5, S4.less f5 g5, ?_⟩, by dsimp only; omega⟩)
        rw [h1]; congr 1; omega
      · have hy : ys = [] := by
          rw [List.drop_of_length_le (by omega)] at er4
          simpa using er4
        subst hy
        rw [w64_9 (z := n + 1) (by omega) (by omega)]
        exact ⟨⟨by omega, by omega, G4, ss3, last3, H4, O4, e3, l30, l31⟩, by dsimp only; omega⟩
  · have := hK w3 (O2.still f3).fr
    simpa using this
end Go.Proofs.Ytfpghcdjfiggiaa.V

/- The law ObjectApart: what it computes. No condition. -/
import Derived.Test.YtfpghcdjfiggiaaObjE
import Derived.Test.YtfpghcdjfiggiaaArgs
namespace Go.Proofs.Ytfpghcdjfiggiaa.V
open Go Go.RowKit

/-- A slice of ints beside own blocks. -/
structure Side (W w : World) (a : Option Addr) (c : Nat) (G : List Nat) (xs : List Int) : Prop where
  si : SI w a c xs
  up : ∀ b ∈ ablk a, W.heap.size ≤ b
  ap : Apart (ablk a) G

section
variable {W w w' : World} {a b : Option Addr} {c d : Nat} {G G' : List Nat} {xs ys : List Int}
theorem Side.nil (W w : World) (G : List Nat) : Side W w none 0 G [] := ⟨SI.nil w, by simp [ablk], by simp [Apart, ablk]⟩
theorem Side.step (s : Side W w a c G xs) (f : Fr G w w') (g : Grw G G' w.heap.size) : Side W w' a c G' xs := ⟨s.si.fr f s.ap, s.up, s.ap.growr s.si.low g⟩
theorem Side.same (s : Side W w a c G xs) (f : Fr G w w') : Side W w' a c G xs := s.step f (fun _ h => .inl h)
theorem Side.still (s : Side W w a c G xs) (f : ∀ S, Fr S w w') : Side W w' a c G xs := s.same (f G)

/-- Two slices apart. -/
structure Two (W w : World) (a : Option Addr) (c : Nat) (b : Option Addr) (d : Nat) (G : List Nat) (xs ys : List Int) : Prop where
  x : Side W w a c G xs
  y : Side W w b d G ys
  ap : Apart (ablk a) (ablk b)
theorem Two.step (s : Two W w a c b d G xs ys) (f : Fr G w w') (g : Grw G G' w.heap.size) : Two W w' a c b d G' xs ys := ⟨s.x.step f g, s.y.step f g, s.ap⟩
theorem Two.same (s : Two W w a c b d G xs ys) (f : Fr G w w') : Two W w' a c b d G xs ys := ⟨s.x.same f, s.y.same f, s.ap⟩

section
variable {s pb fr : Nat} {count last : Int} {ss : List Int} {os : List Ob}
theorem Two.appx (t : Two W w a c b d G xs ys) (q : Oq W w G s pb count fr ss os last) {n : Int} {nb : Nat} {w1 : World} (n1 : NewAt w w1 nb #[.int .i64 n] 3) (h63 : xs.length + 1 ≤ 1048576)
    {K : Option Addr → Nat → Nat → World → Prop} (hK : ∀ a' c' w', Two W w' a' c' b d G (xs ++ [n]) ys → Oq W w' G s pb count fr ss os last → K a' (xs.length + 1) c' w') :
    RunF Try.prog (Builtin.append_ #[42, 42] 42 #[.slice a xs.length c, .slice (some ⟨nb, 0, none⟩) 1 1]) w1 [.leaf .slice] K := by
  refine app_int t.x.si n1 h63 fun a' c' w' S' f' g' => hK a' c' w' ⟨⟨S', fun k hk => ?_, t.x.ap.grow q.low g'⟩, ⟨t.y.si.fr f' t.ap.symm, t.y.up, t.y.ap⟩, t.ap.grow t.y.si.low g'⟩ (q.frame f' (fun k hk => ⟨t.x.ap k hk, t.x.up k hk⟩))
  rcases g' k hk with h | h
  · exact t.x.up k h
  · exact Nat.le_trans q.own.fr.size h
theorem Two.appy (t : Two W w a c b d G xs ys) (q : Oq W w G s pb count fr ss os last) {n : Int} {nb : Nat} {w1 : World} (n1 : NewAt w w1 nb #[.int .i64 n] 3) (h63 : ys.length + 1 ≤ 1048576)
    {K : Option Addr → Nat → Nat → World → Prop} (hK : ∀ b' d' w', Two W w' a c b' d' G xs (ys ++ [n]) → Oq W w' G s pb count fr ss os last → K b' (ys.length + 1) d' w') :
    RunF Try.prog (Builtin.append_ #[42, 42] 42 #[.slice b ys.length d, .slice (some ⟨nb, 0, none⟩) 1 1]) w1 [.leaf .slice] K := by
  refine app_int t.y.si n1 h63 fun a' c' w' S' f' g' => hK a' c' w' ⟨⟨t.x.si.fr f' t.ap, t.x.up, t.x.ap⟩, ⟨S', fun k hk => ?_, t.y.ap.grow q.low g'⟩, t.ap.growr t.x.si.low g'⟩ (q.frame f' (fun k hk => ⟨t.y.ap k hk, t.y.up k hk⟩))
  rcases g' k hk with h | h
  · exact t.y.up k h
  · exact Nat.le_trans q.own.fr.size h
end
end

/-- The first i objects hold their words; of the next one, the first j. -/
def Holds8 (os : List Ob) (i j : Int) : Prop := ∀ (t : Nat) (o : Ob), os[t]? = some o → ∀ u : Nat, ((t : Int) < i ∧ (u : Int) < o.n ∨ (t : Int) = i ∧ (u : Int) < j) → o.vs.getD u 0 = 100 * t + u

theorem Holds8.put {os : List Ob} {i j : Int} (h : Holds8 os i j) {W w : World} {G : List Nat} {s pb fr : Nat} {count last : Int} {ss : List Int} (q : Oq W w G s pb count fr ss os last) {o : Ob} (ho : os[i.toNat]? = some o) (hi : 0 ≤ i) (hj : 0 ≤ j ∧ j < o.n) :
    Holds8 (oput os o.ref j (100 * i + j)) i (j + 1) := by
  obtain ⟨ws, free, I, _⟩ := q.inv
  intro t o' ht u hu
  unfold oput at ht
  rw [List.getElem?_map] at ht
  cases hx : os[t]? with
  | none => rw [hx] at ht; simp at ht
  | some x =>
    rw [hx] at ht
    simp only [Option.map_some, Option.some.injEq] at ht
    have hxm := List.mem_of_getElem? hx
    have hom := List.mem_of_getElem? ho
    by_cases e : x.ref = o.ref
    · rw [if_pos e] at ht
      subst ht
      have ex : x = o := I.same hxm hom e
      have et : t = i.toNat := by
        have pw := List.pairwise_iff_getElem.1 I.srt
        obtain ⟨p1, p2⟩ := List.getElem?_eq_some_iff.1 hx
        obtain ⟨p3, p4⟩ := List.getElem?_eq_some_iff.1 ho
        have q1 := pw t i.toNat (by simpa using p1) (by simpa using p3)
        have q2 := pw i.toNat t (by simpa using p3) (by simpa using p1)
        simp only [List.getElem_map, p2, p4, ex] at q1 q2
        omega
      subst ex
      have hsz := I.sz x hxm
      dsimp only at hu ⊢
      rw [getI_set' _ _ _ _ (by omega)]
      by_cases eu : j.toNat = u
      · rw [if_pos eu]; omega
      · rw [if_neg eu]
        exact h t x hx u (by omega)
    · rw [if_neg e] at ht
      subst ht
      have et : (t : Int) ≠ i := fun e2 => by
        have : t = i.toNat := by omega
        subst this
        rw [hx] at ho
        cases ho
        exact e rfl
      exact h t x hx u (by omega)

theorem Holds8.next {os : List Ob} {i k : Int} (h : Holds8 os i k) {o : Ob} (ho : os[i.toNat]? = some o) (hi : 0 ≤ i) (hk : o.n = k) (hl : (os.length : Int) = i + 1) : Holds8 os (i + 1) 0 := fun t o' ht u hu => by
  refine h t o' ht u ?_
  by_cases e : (t : Int) = i
  · have : t = i.toNat := by omega
    subst this
    rw [ho] at ht
    cases ht
    omega
  · have := (List.getElem?_eq_some_iff.1 ht).1
    omega

theorem head_free8 : ∀ {os : List Ob} {r : Int} {rs : List Int}, os.map (·.ref) = r :: rs → (os.map (·.ref)).Pairwise (· < ·) → (os.filter fun y => !(r == y.ref)).map (·.ref) = rs ∧ ∃ x ∈ os, x.ref = r
  | [], _, _, h, _ => by simp at h
  | x :: os, r, rs, h, hp => by
    simp only [List.map_cons, List.cons.injEq] at h
    rw [List.map_cons, List.pairwise_cons] at hp
    have : (x :: os).filter (fun y => !(r == y.ref)) = os := by
      rw [List.filter_cons, if_neg (by simp [h.1]), List.filter_eq_self]
      intro y hy
      have := hp.1 y.ref (List.mem_map.2 ⟨y, hy, rfl⟩)
      simp; omega
    rw [this]
    exact ⟨h.2, x, by simp, h.1⟩

def ofc (os : List Ob) : Nat := (os.map fun o => fcnt o.n).sum
theorem ofc_app (os : List Ob) (o : Ob) : ofc (os ++ [o]) = ofc os + fcnt o.n := by simp [ofc]
theorem ofc_free : ∀ {os : List Ob} {o : Ob}, o ∈ os → (os.map (·.ref)).Pairwise (· < ·) → ofc (os.filter fun y => !(o.ref == y.ref)) + fcnt o.n = ofc os
  | [], _, h, _ => by simp at h
  | x :: os, o, h, hp => by
    rw [List.map_cons, List.pairwise_cons] at hp
    rcases List.mem_cons.1 h with rfl | h
    · have : (o :: os).filter (fun y => !(o.ref == y.ref)) = os := by
        rw [List.filter_cons, if_neg (by simp), List.filter_eq_self]
        intro y hy
        have := hp.1 y.ref (List.mem_map.2 ⟨y, hy, rfl⟩)
        simp; omega
      rw [this]; simp [ofc]; omega
    · have hne : o.ref ≠ x.ref := fun e => by have := hp.1 o.ref (List.mem_map.2 ⟨o, h, rfl⟩); omega
      have ih := ofc_free h hp.2
      rw [List.filter_cons, if_pos (by simp [hne])]
      simp [ofc] at ih ⊢
      omega

theorem objectApart_c {W : World} {za : Option Addr} {zs : List Int} {zc : Nat} (ga : ArgI W.heap.size W za zs) {K : Bool → World → Prop} (hK : ∀ w', Fr [] W w' → K true w') : C19 za zs.length zc W K := by
  refine r_f19 _ _ _ _ _ ?_
  unfold V_f19
  refine awake8_c fun w0 f0 => ifb_nyes rfl (qobegun 200 (by decide) f0 fun w1 G1 s pb ab Q1 => ifb_nyes rfl ?_)
  refine ⟨fun a l c b l2 d w' => ∃ G fr ss os rs ls, l = rs.length ∧ l2 = ls.length ∧ Oq W w' G s pb 200 fr ss os rs.length ∧ Two W w' a c b d G rs ls ∧ ss.length = 3 ∧ os.map (·.ref) = rs ∧ os.map (·.n) = ls ∧ Holds8 os rs.length 0 ∧ fr + ofc os = 200 ∧ rs.length ≤ 12,
    ⟨fun a l c b l2 d i w' => 0 ≤ i ∧ i ≤ 12 ∧ ∃ G fr ss os rs ls, l = rs.length ∧ l2 = ls.length ∧ Oq W w' G s pb 200 fr ss os i ∧ Two W w' a c b d G rs ls ∧ ss.length = 3 ∧ os.map (·.ref) = rs ∧ os.map (·.n) = ls ∧ (rs.length : Int) = i ∧ Holds8 os i 0 ∧ fr + ofc os = 200 ∧ (fr : Int) ≥ 200 - 10 * i,
     fun _ _ _ _ _ _ i _ => (12 - i).toNat, ⟨by decide, by decide, G1, _, _, [], [], [], rfl, rfl, Q1, ⟨Side.nil _ _ _, Side.nil _ _ _, by simp [Apart, ablk]⟩, rfl, rfl, rfl, rfl, fun t o h => by simp at h, by simp [ofc], by decide⟩, ?_⟩, ?_⟩
  · rintro - a l c b l2 d i w2 ⟨hi0, hi1, G2, fr2, ss2, os, rs, ls, rfl, rfl, Q2, T2, e2, er, en, hrl, hg, hfr, hfr2⟩
    have out : ∃ G fr ss os rs' ls', rs.length = rs'.length ∧ ls.length = ls'.length ∧ Oq W w2 G s pb 200 fr ss os rs'.length ∧ Two W w2 a c b d G rs' ls' ∧ ss.length = 3 ∧ os.map (·.ref) = rs' ∧ os.map (·.n) = ls' ∧ Holds8 os rs'.length 0 ∧ fr + ofc os = 200 ∧ rs'.length ≤ 12 :=
      ⟨G2, fr2, ss2, os, rs, ls, rfl, rfl, by rw [hrl]; exact Q2, T2, e2, er, en, by rw [hrl]; exact hg, hfr, by omega⟩
    have hol : (os.length : Int) = i := by rw [← hrl, ← er]; simp
    have hll : ls.length = rs.length := by rw [← er, ← en]; simp
    refine IfB.dec (fun hil => IfB.dec (fun hi => ?_) (fun _ => out)) (fun _ => out)
    refine (ga.fr Q2.own.fr (by simp)).get hi0 hil fun p hp _ => ⟨⟨hi0, hil⟩, _, hp, by decide, by decide, ?_⟩
    generalize zs.getD i.toNat 0 = z at *
    obtain ⟨k, hk, k0, k1⟩ : ∃ k, IntKind.wrap .i64 (Int.tmod (IntKind.wrap .u64 z) 65) = k ∧ 0 ≤ k ∧ k ≤ 64 := by
      have h1 := wu_pos8 z
      have h2 : Int.tmod (IntKind.wrap .u64 z) 65 = (IntKind.wrap .u64 z) % 65 := Int.tmod_eq_emod_of_nonneg h1
      rw [h2, w64_8 (by omega) (by omega)]
      exact ⟨_, rfl, by omega, by omega⟩
    rw [hk]
    have h3 : Int.tmod i 3 = i % 3 := Int.tmod_eq_emod_of_nonneg hi0
    rw [h3, w64_8 (z := i + 1) (by omega) (by omega)]
    have hfc := fcnt_le k0
    refine qomake Q2 (by omega) (by rw [e2]; omega) ⟨k0, k1⟩ (by omega) fun w3 fr3 ss3 st fs Q3 e3 t3 f3 => IfB.nyes rfl fun b4 w4 n4 => ?_
    have T3 := T2.same f3
    refine T3.appx Q3 n4 (by omega) fun a5 c5 w5 T5 Q5 => fun b6 w6 n6 => ?_
    refine T5.appy Q5 n6 (by omega) fun b7 d7 w7 T7 Q7 => ?_
    generalize hos : os ++ [⟨i + 1, k, st, fs, List.replicate k.toNat 0⟩] = os7 at *
    have er7 : os7.map (·.ref) = rs ++ [i + 1] := by rw [← hos, List.map_append, er]; rfl
    have en7 : os7.map (·.n) = ls ++ [k] := by rw [← hos, List.map_append, en]; rfl
    have ho7 : os7[i.toNat]? = some ⟨i + 1, k, st, fs, List.replicate k.toNat 0⟩ := by
      rw [← hos, List.getElem?_append_right (by omega)]
      have : i.toNat - os.length = 0 := by omega
      rw [this]; rfl
    have hl7 : (os7.length : Int) = i + 1 := by rw [← hos]; simp; omega
    have hg7 : Holds8 os7 i 0 := fun t o ht u hu => by
      rcases hu with ⟨h1, h2⟩ | ⟨h1, h2⟩
      · rw [← hos, List.getElem?_append_left (by omega)] at ht
        exact hg t o ht u (.inl ⟨h1, h2⟩)
      · omega
    have hofc : fr3 + ofc os7 = 200 := by rw [← hos, ofc_app]; dsimp only; omega
    refine ⟨fun j w' => 0 ≤ j ∧ j ≤ k ∧ ∃ ss os', Oq W w' G2 s pb 200 fr3 ss os' (i + 1) ∧ Two W w' a5 c5 b7 d7 G2 (rs ++ [i + 1]) (ls ++ [k]) ∧ ss.length = 3 ∧ os'.map (·.ref) = rs ++ [i + 1] ∧ os'.map (·.n) = ls ++ [k] ∧ Holds8 os' i j ∧ fr3 + ofc os' = 200 ∧ (∃ o, os'[i.toNat]? = some o ∧ o.ref = i + 1 ∧ o.n = k), fun j _ => (k - j).toNat,
      ⟨by decide, k0, ss3, os7, Q7, T7, t3.1.trans e2, er7, en7, hg7, hofc, _, ho7, rfl, rfl⟩, ?_⟩
    rintro - j w8 ⟨hj0, hj1, ss8, os8, Q8, T8, e8, er8, en8, hg8, hofc8, o8, ho8, hr8, hn8⟩
    rw [w64_8 (z := 100 * i) (by omega) (by omega), w64_8 (z := 100 * i + j) (by omega) (by omega), w64_8 (z := j + 1) (by omega) (by omega)]
    have hl8 : (os8.length : Int) = i + 1 := by
      have := congrArg List.length er8
      simp at this; omega
    refine IfB.dec (fun hlt => ?_) (fun hge => ?_)
    · refine qoput Q8 (100 * i + j) (by rw [e8]; decide) (List.mem_of_getElem? ho8) hr8 ⟨hj0, by omega⟩ fun w9 ss9 Q9 t9 f9 => IfB.nyes rfl ?_
      have hg9 := hg8.put Q8 ho8 hi0 ⟨hj0, by omega⟩
      rw [hr8] at hg9
      refine ⟨⟨by omega, by omega, ss9, _, Q9, T8.same f9, t9.1.trans e8, by rw [oput_map (·.ref) (fun _ _ => rfl)]; exact er8, by rw [oput_map (·.n) (fun _ _ => rfl)]; exact en8, hg9, ?_, ?_⟩, by dsimp only; omega⟩
      · have : ofc (oput os8 (i + 1) j (100 * i + j)) = ofc os8 := by unfold ofc; rw [oput_map (fun o => fcnt o.n) (fun _ _ => rfl)]
        rw [this]; exact hofc8
      · refine ⟨if o8.ref = i + 1 then { o8 with vs := o8.vs.set j.toNat (100 * i + j) } else o8, by unfold oput; rw [List.getElem?_map, ho8]; rfl, ?_, ?_⟩
        · split
          · exact hr8
          · exact hr8
        · split
          · exact hn8
          · exact hn8
    · have hjk : j = k := by omega
      subst hjk
      refine ⟨⟨by omega, by omega, G2, fr3, ss8, os8, _, _, by simp, by simp, Q8, T8, e8, er8, en8, by simp; omega, hg8.next ho8 hi0 hn8 hl8, hofc8, by omega⟩, by dsimp only; omega⟩
  · rintro - a l c b l2 d w2 ⟨G2, fr2, ss2, os, rs, ls, rfl, rfl, Q2, T2, e2, er, en, hg, hfr, hrl⟩
    have hol : os.length = rs.length := by rw [← er]; simp
    have hll : ls.length = rs.length := by rw [← er, ← en]; simp
    refine ⟨fun i w' => 0 ≤ i ∧ i ≤ rs.length ∧ ∃ ss, Oq W w' G2 s pb 200 fr2 ss os rs.length ∧ Two W w' a c b d G2 rs ls ∧ ss.length = 3, fun i _ => (rs.length - i).toNat, ⟨by decide, by omega, ss2, Q2, T2, e2⟩, ?_⟩
    rintro - i w3 ⟨hi0, hi1, ss3, Q3, T3, e3⟩
    rw [w64_8 (z := i + 1) (by omega) (by omega), w64_8 (z := 100 * i) (by omega) (by omega)]
    refine IfB.dec (fun hlt => ?_) (fun hge => ?_)
    · obtain ⟨o, ho⟩ : ∃ o, os[i.toNat]? = some o := ⟨_, List.getElem?_eq_getElem (show i.toNat < os.length by omega)⟩
      have hor : rs.getD i.toNat 0 = o.ref := by rw [← er, List.getD_eq_getElem?_getD, List.getElem?_map, ho]; rfl
      have hon : ls.getD i.toNat 0 = o.n := by rw [← en, List.getD_eq_getElem?_getD, List.getElem?_map, ho]; rfl
      have hsz : 0 ≤ o.n ∧ o.n ≤ 64 := by obtain ⟨ws, free, I, _⟩ := Q3.inv; have := I.sz o (List.mem_of_getElem? ho); omega
      refine ⟨fun j w' => 0 ≤ j ∧ j ≤ o.n ∧ ∃ ss, Oq W w' G2 s pb 200 fr2 ss os rs.length ∧ Two W w' a c b d G2 rs ls ∧ ss.length = 3, fun j _ => (o.n - j).toNat, ⟨by decide, hsz.1, ss3, Q3, T3, e3⟩, ?_⟩
      rintro - j w4 ⟨hj0, hj1, ss4, Q4, T4, e4⟩
      rw [w64_8 (z := 100 * i + j) (by omega) (by omega), w64_8 (z := j + 1) (by omega) (by omega)]
      refine T4.y.si.get hi0 (by omega) fun p hp => ⟨⟨hi0, by omega⟩, _, hp, ?_⟩
      rw [hon]
      refine IfB.dec (fun hlt2 => ?_) (fun _ => ⟨⟨by omega, by omega, ss4, Q4, T4, e4⟩, by dsimp only; omega⟩)
      refine T4.x.si.get hi0 (by omega) fun p2 hp2 => ⟨⟨hi0, by omega⟩, _, hp2, ?_⟩
      refine qoload Q4 (by rw [e4]; decide) (List.mem_of_getElem? ho) hor.symm ⟨hj0, hlt2⟩ fun w5 ss5 Q5 t5 f5 => ?_
      have hv := hg i.toNat o ho j.toNat (.inl ⟨by omega, by omega⟩)
      rw [hv]
      exact IfB.nyes rfl (IfB.nyes (by omega) ⟨⟨by omega, by omega, ss5, Q5, T4.same f5, t5.1.trans e4⟩, by dsimp only; omega⟩)
    · refine ⟨fun i w' => 0 ≤ i ∧ i ≤ rs.length ∧ ∃ G fr ss os', Oq W w' G s pb 200 fr ss os' rs.length ∧ Two W w' a c b d G rs ls ∧ ss.length = 3 ∧ os'.map (·.ref) = rs.drop i.toNat ∧ fr + ofc os' = 200, fun i _ => (rs.length - i).toNat, ⟨by decide, by omega, G2, fr2, ss3, os, Q3, T3, e3, by simpa using er, hfr⟩, ?_⟩
      rintro - i w4 ⟨hi0, hi1, G4, fr4, ss4, os4, Q4, T4, e4, er4, hfr4⟩
      rw [w64_8 (z := i + 1) (by omega) (by omega)]
      have hsrt : (os4.map (·.ref)).Pairwise (· < ·) := by obtain ⟨ws, free, I, _⟩ := Q4.inv; exact I.srt
      refine IfB.dec (fun hlt => ?_) (fun hge => ?_)
      · refine T4.x.si.get hi0 hlt fun p hp => ⟨⟨hi0, hlt⟩, _, hp, ?_⟩
        have hil : i.toNat < rs.length := by omega
        have ed : rs.drop i.toNat = rs.getD i.toNat 0 :: rs.drop (i.toNat + 1) := by
          rw [List.drop_eq_getElem_cons hil, List.getD_eq_getElem?_getD, List.getElem?_eq_getElem hil]; rfl
        rw [ed] at er4
        obtain ⟨h1, o, ho, hr⟩ := head_free8 er4 hsrt
        refine qofree Q4 (by rw [e4]; decide) ho hr fun w5 G5 fr5 ss5 Q5 e5 t5 f5 g5 => ?_
        refine ⟨⟨by omega, by omega, G5, fr5, ss5, _, Q5, T4.step f5 g5, t5.1.trans e4, ?_, ?_⟩, by dsimp only; omega⟩
        · rw [h1]; congr 1; omega
        · have := ofc_free ho hsrt
          rw [hr] at this
          omega
      · have ho : os4 = [] := by
          rw [List.drop_of_length_le (by omega)] at er4
          simpa using er4
        subst ho
        refine qoused Q4 fun a5 l5 c5 w5 f5 hl5 => ?_
        have hfr5 : fr4 = 200 := by simpa [ofc] using hfr4
        refine IfB.yes (by omega) (qorefs (Q4.still f5) (by simp) fun a6 c6 w6 _ f6 _ => ?_)
        have := hK w6 ((Q4.still f5).still f6).own.fr
        simpa using this
end Go.Proofs.Ytfpghcdjfiggiaa.V

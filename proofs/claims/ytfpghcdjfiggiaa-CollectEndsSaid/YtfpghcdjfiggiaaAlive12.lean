/- CollectEnds: which cells the law itself finds alive. No condition. -/
import Derived.Test.YtfpghcdjfiggiaaFull12
import Derived.Test.YtfpghcdjfiggiaaArgs
namespace Go.Proofs.Ytfpghcdjfiggiaa.V
open Go Go.RowKit

def one12 (l : Nat) : List Int := (List.range l).map fun (i : Nat) => (i : Int) + 1
theorem one12_len (l : Nat) : (one12 l).length = l := by simp [one12]
theorem one12_getD {l i : Nat} (h : i < l) : (one12 l).getD i 0 = (i : Int) + 1 := by unfold one12; rw [List.getD_eq_getElem?_getD]; simp [h]

def cnt12 : List Bool → Int
  | [] => 0
  | b :: l => (if b = true then 1 else 0) + cnt12 l
theorem cnt12_le : ∀ l : List Bool, 0 ≤ cnt12 l ∧ cnt12 l ≤ l.length
  | [] => by simp [cnt12]
  | b :: l => by have := cnt12_le l; simp only [cnt12, List.length_cons]; split <;> omega
theorem cnt12_set : ∀ {l : List Bool} {i : Nat}, i < l.length → l.getD i false = false → cnt12 (l.set i true) = cnt12 l + 1
  | [], i, h, _ => by simp at h
  | b :: l, 0, _, e => by simp at e; subst e; simp [cnt12]; omega
  | b :: l, i + 1, h, e => by
    have := cnt12_set (l := l) (i := i) (by simpa using h) (by simpa using e)
    simp only [List.set_cons_succ, cnt12, this]; omega
theorem cnt12_rep : ∀ n : Nat, cnt12 (List.replicate n false) = 0
  | 0 => rfl
  | n + 1 => by rw [List.replicate_succ]; simp [cnt12, cnt12_rep n]
theorem setB {l : List Bool} {i j : Nat} (hi : i < l.length) : (l.set i true).getD j false = if j = i then true else l.getD j false := by
  rw [List.getD_eq_getElem?_getD, List.getElem?_set]
  by_cases e : i = j
  · subst e; simp [hi]
  · rw [if_neg e, if_neg (fun q => e q.symm), List.getD_eq_getElem?_getD]

/-- What is reached by the links from 1 .. keep. -/
inductive Lk (tos : List Int) (keep : Int) : Int → Prop
  | root (r : Int) : 1 ≤ r → r ≤ keep → Lk tos keep r
  | step (q : Int) : Lk tos keep q → tos.getD (q - 1).toNat 0 ≠ 0 → Lk tos keep (tos.getD (q - 1).toNat 0)

section
variable {w w' : World} {a ta : Option Addr} {c tc l : Nat} {tos : List Int} {keep : Int}

theorem alive_c (A : SI w a c (one12 l)) (T : SI w ta tc tos) (hl : tos.length = l) (hl2 : l ≤ 100) (hv : ∀ i : Nat, i < l → 0 ≤ tos.getD i 0 ∧ tos.getD i 0 ≤ l) (hk : 0 ≤ keep ∧ keep ≤ l) {K : Option Addr → Nat → Nat → Int → World → Prop}
    (hK : ∀ b w' bs, SB w' (some ⟨b, 0, none⟩) l bs → bs.length = l → (∀ i : Nat, i < l → (bs.getD i false = true ↔ Lk tos keep ((i : Int) + 1))) → (∀ S, Fr S w w') → w.heap.size ≤ b → K (some ⟨b, 0, none⟩) l l (cnt12 bs) w') : C123 a l c ta l tc keep w K := by
  refine r_f123 _ _ _ _ _ _ _ _ _ (mk_bool (by omega) (by omega) fun b w2 S2 f2 g2 => ?_)
  rw [show Int.toNat (l : Int) = l by omega] at S2 ⊢
  have lenA := one12_len l
  -- a state of the search
  have St : ∀ (P : List Bool → Prop) (w3 : World) (bs : List Bool), P bs → True := fun _ _ _ _ => trivial
  refine ⟨fun n5 n6 w' => 0 ≤ n6 ∧ n6 ≤ keep ∧ ∃ bs : List Bool, bs.length = l ∧ SB w' (some ⟨b, 0, none⟩) l bs ∧ n5 = cnt12 bs ∧ (∀ i : Nat, bs.getD i false = true → i < l ∧ Lk tos keep ((i : Int) + 1)) ∧ (∀ i : Nat, bs.getD i false = true → tos.getD i 0 ≠ 0 → bs.getD (tos.getD i 0 - 1).toNat false = true) ∧ (∀ r : Int, 1 ≤ r → r ≤ n6 → bs.getD (r - 1).toNat false = true) ∧ (∀ S, Fr S w w'), fun _ n6 _ => (keep - n6).toNat,
    ⟨by decide, by omega, List.replicate l false, by simp, S2, (cnt12_rep l).symm, fun i h => ?_, fun i h => ?_, fun r _ _ => by omega, f2⟩, ?_⟩
  · rw [List.getD_eq_getElem?_getD, List.getElem?_replicate] at h; split at h <;> simp at h
  · rw [List.getD_eq_getElem?_getD, List.getElem?_replicate] at h; split at h <;> simp at h
  rintro - n5 n6 w3 ⟨h60, h61, bs3, hb3, S3, rfl, so3, cl3, ro3, f3⟩
  have fA : ∀ {w'}, (∀ S, Fr S w w') → SI w' a c (one12 l) ∧ SI w' ta tc tos := fun f => ⟨A.fr (f []) (by intro b _; simp), T.fr (f []) (by intro b _; simp)⟩
  refine IfB.dec (fun hlt => ?_) (fun hge => ?_)
  · refine (fA f3).1.get h60 (by omega) fun p hp => ⟨⟨h60, by omega⟩, _, hp, ?_⟩
    rw [one12_getD (by omega)]
    refine ⟨fun n12 r w' => ∃ bs : List Bool, bs.length = l ∧ SB w' (some ⟨b, 0, none⟩) l bs ∧ n12 = cnt12 bs ∧ (∀ i : Nat, bs.getD i false = true → i < l ∧ Lk tos keep ((i : Int) + 1)) ∧ (∀ i : Nat, bs.getD i false = true → tos.getD i 0 ≠ 0 → bs.getD (tos.getD i 0 - 1).toNat false = true ∨ tos.getD i 0 = r) ∧ (∀ q : Int, 1 ≤ q → q ≤ n6 + 1 → bs.getD (q - 1).toNat false = true ∨ q = r) ∧ (r = 0 ∨ (1 ≤ r ∧ r ≤ l ∧ Lk tos keep r)) ∧ (∀ S, Fr S w w'),
      fun n12 r _ => (2 * (l - n12) + (if r = 0 then 0 else 1)).toNat, ⟨bs3, hb3, S3, rfl, so3, fun i h1 h2 => .inl (cl3 i h1 h2), fun q h1 h2 => ?_, .inr ⟨by omega, by omega, .root _ (by omega) (by omega)⟩, f3⟩, ?_⟩
    · by_cases e : q ≤ n6
      · exact .inl (ro3 q h1 e)
      · exact .inr (by omega)
    rintro - _ r w4 ⟨bs4, hb4, S4, rfl, so4, cl4, ro4, hr, f4⟩
    by_cases r0 : r = 0
    · refine ifb_nyes (decide_eq_true r0) ⟨fit64 (by omega) (by omega), ⟨by omega, by omega, bs4, hb4, S4, rfl, so4, fun i h1 h2 => ?_, fun q h1 h2 => ?_, f4⟩, by dsimp only; omega⟩
      · rcases cl4 i h1 h2 with h | h
        · exact h
        · omega
      · rcases ro4 q h1 h2 with h | h
        · exact h
        · omega
    · obtain ⟨hr1, hr2, hrL⟩ : 1 ≤ r ∧ r ≤ l ∧ Lk tos keep r := by rcases hr with h | h; exact absurd h r0; exact h
      have ki : (r - 1).toNat < l := by omega
      have ek : (((r - 1).toNat : Nat) : Int) + 1 = r := by omega
      have cl := cnt12_le bs4
      refine ifb_nno (decide_eq_false r0) ?_
      refine ⟨fun n17 nx i w' => 0 ≤ i ∧ i ≤ l ∧ (∀ S, Fr S w w') ∧ ((i < r ∧ n17 = cnt12 bs4 ∧ nx = 0 ∧ SB w' (some ⟨b, 0, none⟩) l bs4) ∨ (r ≤ i ∧ ((bs4.getD (r - 1).toNat false = true ∧ n17 = cnt12 bs4 ∧ nx = 0 ∧ SB w' (some ⟨b, 0, none⟩) l bs4) ∨ (bs4.getD (r - 1).toNat false = false ∧ n17 = cnt12 bs4 + 1 ∧ nx = tos.getD (r - 1).toNat 0 ∧ SB w' (some ⟨b, 0, none⟩) l (bs4.set (r - 1).toNat true))))),
        fun _ _ i _ => (l - i).toNat, ⟨by decide, by omega, f4, .inl ⟨by omega, rfl, rfl, S4⟩⟩, ?_⟩
      rintro - n17 nx i w5 ⟨hi0, hi1, f5, hs⟩
      refine IfB.dec (fun hlt2 => ?_) (fun hge2 => ?_)
      · refine (fA f5).1.get hi0 (by omega) fun p2 hp2 => ⟨⟨hi0, hlt2⟩, _, hp2, ?_⟩
        rw [one12_getD (by omega), show ((i.toNat : Nat) : Int) + 1 = i + 1 by omega]
        refine IfB.dec (fun he => ?_) (fun hne => ?_)
        · have ei : i.toNat = (r - 1).toNat := by omega
          rcases hs with ⟨_, rfl, rfl, S5⟩ | ⟨hh, _⟩
          · refine SB.get S5 hi0 (by omega) fun p3 hp3 => ⟨⟨hi0, by omega⟩, _, hp3, ?_⟩
            have hb4 : bs4.getD i.toNat false = true ∨ bs4.getD i.toNat false = false := by cases bs4.getD i.toNat false <;> simp
            rcases hb4 with hb | hb
            · rw [hb]
              exact ifb_f ⟨fit64 (by omega) (by omega), ⟨by omega, by omega, f5, .inr ⟨by omega, .inl ⟨by rw [← ei]; exact hb, rfl, rfl, S5⟩⟩⟩, by dsimp only; omega⟩
            · rw [hb]
              refine ifb_t (SB.put S5 hi0 (by omega) true fun p4 m4 _ s4 => ⟨⟨hi0, by omega⟩, m4, fun w6 c6 => ⟨fit64 (by omega) (by omega), ?_⟩⟩)
              obtain ⟨S6, f6⟩ := s4 w6 c6
              have f6' : ∀ S, Fr S w w6 := fun S => (f5 S).trans f6 fun k hk => by simp [ablk] at hk; subst hk; exact .inr g2
              refine (fA f6').2.get hi0 (by omega) fun p5 hp5 => ⟨⟨hi0, by omega⟩, _, hp5, fit64 (by omega) (by omega), ⟨by omega, by omega, f6', .inr ⟨by omega, .inr ⟨by rw [← ei]; exact hb, rfl, by rw [← ei], by rw [← ei]; exact S6⟩⟩⟩, by dsimp only; omega⟩
          · omega
        · refine ⟨fit64 (by omega) (by omega), ⟨by omega, by omega, f5, ?_⟩, by dsimp only; omega⟩
          rcases hs with ⟨h1, h2⟩ | ⟨h1, h2⟩
          · exact .inl ⟨by omega, h2⟩
          · exact .inr ⟨by omega, h2⟩
      · rcases hs with ⟨hh, _⟩ | ⟨_, ⟨hb, rfl, rfl, S5⟩ | ⟨hb, rfl, rfl, S5⟩⟩
        · omega
        · refine ⟨⟨bs4, hb4, S5, rfl, so4, fun i h1 h2 => ?_, fun q h1 h2 => ?_, .inl rfl, f5⟩, by dsimp only; rw [if_pos rfl, if_neg r0]; omega⟩
          · rcases cl4 i h1 h2 with h | h
            · exact .inl h
            · exact .inl (by rw [h]; exact hb)
          · rcases ro4 q h1 h2 with h | h
            · exact .inl h
            · exact .inl (by rw [h]; exact hb)
        · have hlen : (r - 1).toNat < bs4.length := by omega
          have mono : ∀ j, bs4.getD j false = true → (bs4.set (r - 1).toNat true).getD j false = true := fun j h => by
            rw [setB hlen]
            split
            · rfl
            · exact h
          have here : (bs4.set (r - 1).toNat true).getD (r - 1).toNat false = true := by rw [setB hlen, if_pos rfl]
          have hvr := hv (r - 1).toNat ki
          refine ⟨⟨bs4.set (r - 1).toNat true, by rw [List.length_set]; exact hb4, S5, (cnt12_set hlen hb).symm, fun i h => ?_, fun i h1 h2 => ?_, fun q h1 h2 => ?_, ?_, f5⟩, ?_⟩
          · rw [setB hlen] at h
            split at h
            · rename_i e; subst e; exact ⟨ki, by rw [ek]; exact hrL⟩
            · exact so4 i h
          · rw [setB hlen] at h1
            split at h1
            · rename_i e; subst e; exact .inr rfl
            · rcases cl4 i h1 h2 with h | h
              · exact .inl (mono _ h)
              · exact .inl (by rw [h]; exact here)
          · rcases ro4 q h1 h2 with h | h
            · exact .inl (mono _ h)
            · exact .inl (by rw [h]; exact here)
          · by_cases e : tos.getD (r - 1).toNat 0 = 0
            · exact .inl e
            · exact .inr ⟨by omega, by omega, .step r hrL e⟩
          · have c2 := cnt12_le (bs4.set (r - 1).toNat true)
            rw [cnt12_set hlen hb, List.length_set] at c2
            dsimp only
            rw [if_neg r0]
            split <;> omega
  · refine hK b w3 bs3 S3 hb3 (fun i hi => ⟨fun h => (so3 i h).2, fun h => ?_⟩) f3 g2
    have gen : ∀ r : Int, Lk tos keep r → bs3.getD (r - 1).toNat false = true := fun r hr => by
      induction hr with
      | root r h1 h2 => exact ro3 r h1 (by omega)
      | step q hq hne ih => exact cl3 _ ih hne
    have := gen _ h
    rwa [show ((i : Int) + 1 - 1).toNat = i by omega] at this
end
end Go.Proofs.Ytfpghcdjfiggiaa.V

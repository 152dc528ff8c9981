/- RefsOnce: a finalizer runs once. No condition. -/
import Derived.Test.YtfpghcdjfiggiaaLaws13
namespace Go.Proofs.Ytfpghcdjfiggiaa.V
open Go Go.RowKit

section
variable {W w w' : World} {own own' : Nat → Nat} {rb : Nat} {roots : List (List Int)} {words last : Int} {xs : List XC} {fin queue : List Int}
/-- The law's own slice grows. -/
theorem qrapp (h : Rq W w own rb roots words last xs fin queue) {a : Option Addr} {c k : Nat} {ys : List Int} (A : Sd w own a c k ys) (hk : 1000 ≤ k ∧ k < 2000) {n : Int} {b : Nat} {w1 : World} (n1 : NewAt w w1 b #[.int .i64 n] 3) (h63 : ys.length + 1 ≤ 1048576)
    {l : Nat} (hl : l = ys.length) {K : Option Addr → Nat → Nat → World → Prop}
    (hK : ∀ a' c' w' own', Rq W w' own' rb roots words last xs fin queue → Sd w' own' a' c' k (ys ++ [n]) → K a' (ys.length + 1) c' w') :
    RunF Try.prog (Builtin.append_ #[42, 42] 42 #[.slice a l c, .slice (some ⟨b, 0, none⟩) 1 1]) w1 [.leaf .slice] K := by
  subst hl
  exact A.app n1 h63 fun a' c' w' A' f' _ => hK a' c' w' _ (h.other f' A.tg hk) A'
end

/-- Objects of one word 0 each, refs 1 .. n. -/
def objs (n : Nat) : List XC := (List.range n).map fun (i : Nat) => ⟨(i : Int) + 1, 1, 0, 1, [0]⟩
/-- Weak references, refs o+1 .. o+n. -/
def wks (o : Nat) (v : Nat → Int) (n : Nat) : List XC := (List.range n).map fun (i : Nat) => ⟨(o : Int) + i + 1, 4, 0, 1, [v i]⟩
theorem objs_succ (n : Nat) : objs (n + 1) = objs n ++ [⟨(n : Int) + 1, 1, 0, 1, [0]⟩] := by unfold objs; rw [List.range_succ]; simp
theorem wks_succ (o : Nat) (v : Nat → Int) (n : Nat) : wks o v (n + 1) = wks o v n ++ [⟨(o : Int) + n + 1, 4, 0, 1, [v n]⟩] := by unfold wks; rw [List.range_succ]; simp
theorem mem_objs {n : Nat} {x : XC} : x ∈ objs n ↔ ∃ i : Nat, i < n ∧ x = ⟨(i : Int) + 1, 1, 0, 1, [0]⟩ := by
  unfold objs; rw [List.mem_map]
  exact ⟨fun ⟨i, h, e⟩ => ⟨i, List.mem_range.1 h, e.symm⟩, fun ⟨i, h, e⟩ => ⟨i, List.mem_range.2 h, e.symm⟩⟩
theorem mem_wks {o : Nat} {v : Nat → Int} {n : Nat} {x : XC} : x ∈ wks o v n ↔ ∃ i : Nat, i < n ∧ x = ⟨(o : Int) + i + 1, 4, 0, 1, [v i]⟩ := by
  unfold wks; rw [List.mem_map]
  exact ⟨fun ⟨i, h, e⟩ => ⟨i, List.mem_range.1 h, e.symm⟩, fun ⟨i, h, e⟩ => ⟨i, List.mem_range.2 h, e.symm⟩⟩
theorem objs_len (n : Nat) : (objs n).length = n := by simp [objs]
theorem wks_len (o : Nat) (v : Nat → Int) (n : Nat) : (wks o v n).length = n := by simp [wks]
theorem objs_refs (n : Nat) : (objs n).map (·.ref) = up n := by simp [objs, up]
theorem objs_sum : ∀ n : Nat, xsum (objs n) = 17 * n
  | 0 => rfl
  | n + 1 => by rw [objs_succ, xsum_append, objs_sum n]; simp [xsum]; omega
theorem wks_sum (o : Nat) (v : Nat → Int) : ∀ n : Nat, xsum (wks o v n) = 17 * n
  | 0 => rfl
  | n + 1 => by rw [wks_succ, xsum_append, wks_sum o v n]; simp [xsum]; omega
theorem objs_isref {n : Nat} {r : Int} : (∃ x ∈ objs n, x.ref = r) ↔ 1 ≤ r ∧ r ≤ n := by
  rw [← mem_up, ← objs_refs, List.mem_map]

/-- Nothing leads on where the objects hold 0 alone. -/
theorem flat0 {xs : List XC} {S : List Int} (h : ∀ x ∈ xs, (x.kind = 4 ∨ x.kind = 2 ∨ x.vs = [0]) ∧ 1 ≤ x.ref) (r : Int) : Rch kindR xs S r ↔ r ∈ S ∧ ∃ x ∈ xs, x.ref = r := by
  rw [rch_flat, isref_iff]
  intro x hx hp r hr hi
  obtain ⟨y, hy, ey⟩ := isref_iff.1 hi
  rcases (h x hx).1 with h4 | h4 | h4
  · rw [h4] at hp; exact absurd hp (by decide)
  · rw [h4] at hp; exact absurd hp (by decide)
  · rw [h4] at hr; simp at hr
    have := (h y hy).2; omega

theorem map_same {α : Type} {f : α → α} {l : List α} (h : ∀ x ∈ l, f x = x) : l.map f = l := by
  induction l with
  | nil => rfl
  | cons a l ih => rw [List.map_cons, h a (by simp), ih fun x hx => h x (by simp [hx])]

theorem clear_objs (A : List Int) (n : Nat) : (objs n).map (clear1 A) = objs n := map_same fun x hx => by
  obtain ⟨i, _, rfl⟩ := mem_objs.1 hx
  simp [clear1, stale]
theorem clear_wks (A : List Int) (o : Nat) (v : Nat → Int) (n : Nat) (h : ∀ i, i < n → v i ≠ 0 ∧ v i ∉ A) : (wks o v n).map (clear1 A) = wks o (fun _ => 0) n := by
  unfold wks; rw [List.map_map]
  refine List.map_congr_left fun i hi => ?_
  have := h i (List.mem_range.1 hi)
  simp [clear1, stale, this.1, this.2]
theorem que_objs {A fin : List Int} {n : Nat} (h : ∀ r ∈ up n, r ∈ fin ∧ r ∉ A) : que A fin (objs n) = up n := by
  unfold que
  rw [List.filter_eq_self.2 fun x hx => ?_, objs_refs]
  have := h x.ref (by rw [← objs_refs]; exact List.mem_map_of_mem hx)
  simpa using this
theorem que_none {A fin : List Int} {xs : List XC} (h : ∀ x ∈ xs, x.ref ∈ fin → x.ref ∈ A) : que A fin xs = [] := by
  unfold que
  rw [List.filter_eq_nil_iff.2 fun x hx => ?_]; rfl
  simpa using h x hx
theorem que_app (A fin : List Int) (xs ys : List XC) : que A fin (xs ++ ys) = que A fin xs ++ que A fin ys := by unfold que; rw [List.filter_append, List.map_append]
theorem clr_none {A : List Int} {xs : List XC} (h : ∀ x ∈ xs, x.kind ≠ 4 ∨ x.vs.getD 0 0 = 0 ∨ x.vs.getD 0 0 ∈ A) : clr A xs = [] := by
  unfold clr
  rw [List.filter_eq_nil_iff.2 fun x hx => ?_]; rfl
  have := h x hx
  unfold stale
  rw [decide_eq_true_iff]
  rintro ⟨a, b, c⟩
  rcases this with q | q | q
  · exact q a
  · exact b q
  · exact c q
theorem notIn_all {q fin : List Int} (h : ∀ r ∈ fin, r ∈ q) : notIn q fin = [] := by
  unfold notIn
  exact List.filter_eq_nil_iff.2 fun r hr => by simpa using h r hr
theorem notIn_nil2 (q : List Int) : notIn q [] = [] := rfl

theorem refsOnce_c {w : World} {many back : Int} {K : Bool → World → Prop} (hK : ∀ w', Fr [] w w' → K true w') : C24 many back w K := by
  refine r_f24 _ _ _ _ (awake13_c fun w1 f1 => ifb_f (qrnew 8192 1 (by decide) fun w2 own2 rb R2 => ?_))
  replace hK : ∀ w', Fr [] w1 w' → K true w' := fun w' f => hK w' (f1.trans f (fun _ h => .inl h))
  have hm := and_range 7 3 (by decide) rfl many
  obtain ⟨k, hk⟩ : ∃ k : Nat, (k : Int) = 1 + bits .and .i64 many 7 := ⟨(1 + bits .and .i64 many 7).toNat, by omega⟩
  have hkk : 1 ≤ k ∧ k ≤ 8 := by omega
  have hb := and_range 3 2 (by decide) rfl back
  rw [w64 (by omega) (by omega), ← hk]
  generalize bits .and .i64 back 3 = bk at hb ⊢
  clear hm hk
  have R2 : Rq w1 w2 own2 rb [up 0] 8192 ((0 : Nat) : Int) (objs 0) (up 0) [] := R2
  refine ⟨fun a l c n w' => ∃ (own : Nat → Nat) (j : Nat), n = (j : Int) ∧ j ≤ k ∧ l = j ∧ Rq w1 w' own rb [up j] 8192 (j : Int) (objs j) (up j) [] ∧ Sd w' own a c 1000 (up j), fun _ _ _ n _ => (k - n).toNat, ⟨own2, 0, rfl, by omega, rfl, R2, Sd.nil _ _ _⟩, ?_⟩
  rintro - a j c _ w3 ⟨own3, _, rfl, hj, rfl, R3, A3⟩
  refine IfB.dec (fun hlt => ?_) (fun hge => ?_)
  · refine qrmake R3 (by omega) true (by decide) rfl (by rw [up_len]; omega) (by decide) (by decide) (by rw [objs_sum]; omega) fun w4 own4 R4 st4 => ifb_nyes rfl fun b5 w5 n5 => ?_
    have A4 := A3.step st4 (by decide)
    refine qrapp R4 A4 (by decide) n5 (by rw [up_len]; omega) (by rw [up_len]) fun a' c' w6 own6 R6 A6 => ?_
    rw [w64 (by omega) (by omega), up_len]
    refine ⟨⟨own6, j + 1, rfl, by omega, rfl, ?_, ?_⟩, by dsimp only; omega⟩
    · rw [objs_succ, up_succ]; exact R6
    · rw [up_succ]; exact A6
  obtain rfl : j = k := by omega
  refine ⟨fun n w' => ∃ (own : Nat → Nat) (i : Nat), n = (i : Int) ∧ i ≤ j ∧ Rq w1 w' own rb [up (j + i)] 8192 ((j + i : Nat) : Int) (objs j ++ wks j (fun i => (i : Int) + 1) i) (up j) [] ∧ Sd w' own a c 1000 (up j), fun n _ => (j - n).toNat, ⟨own3, 0, rfl, by omega, by simpa [wks] using R3, A3⟩, ?_⟩
  rintro - _ w4 ⟨own4, i, rfl, hi, R4, A4⟩
  refine IfB.dec (fun hlt => ?_) (fun hge => ?_)
  · refine A4.si.get (by omega) (by rw [up_len]; omega) fun p hp => ⟨⟨by omega, by omega⟩, _, hp, ?_⟩
    rw [show (i : Int).toNat = i by omega, up_getD (by omega)]
    refine qrweak R4 (by omega) (by decide) rfl (by rw [up_len]; omega) ?_ (by rw [xsum_append, objs_sum, wks_sum]; omega) fun w5 own5 R5 st5 => ?_
    · obtain ⟨x, hx, e⟩ := objs_isref.2 (show 1 ≤ (i : Int) + 1 ∧ (i : Int) + 1 ≤ (j : Nat) by omega)
      exact ⟨x, by simp [hx], e⟩
    rw [w64 (by omega) (by omega)]
    refine ⟨⟨own5, i + 1, rfl, by omega, ?_, A4.step st5 (by decide)⟩, by dsimp only; omega⟩
    rw [wks_succ, ← List.append_assoc, ← Nat.add_assoc, up_succ]
    simpa using R5
  obtain rfl : i = j := by omega
  clear A4
  rename_i hK' hkk
  refine ⟨fun a l c n w' => ∃ (own : Nat → Nat) (j : Nat), n = (j : Int) ∧ j ≤ i ∧ l = j ∧ Rq w1 w' own rb [up (i + i - j)] 8192 ((i + i : Nat) : Int) (objs i ++ wks i (fun i => (i : Int) + 1) i) (up i) [] ∧ ∃ ys : List Int, ys.length = j ∧ Sd w' own a c 1000 ys, fun _ _ _ n _ => (i - n).toNat, ⟨own4, 0, rfl, by omega, rfl, by simpa using R4, [], rfl, Sd.nil _ _ _⟩, ?_⟩
  rintro - a1 l1 c1 _ w5 ⟨own5, j, rfl, hj, rfl, R5, ys, hys, A5⟩
  refine IfB.dec (fun hlt => ?_) (fun hge => ?_)
  · have eu : up (i + i - l1) = up (i + i - (l1 + 1)) ++ [((i + i - (l1 + 1) : Nat) : Int) + 1] := by rw [← up_succ]; congr 1; omega
    refine qrpop R5 (by decide) (by rw [eu]; rfl) fun w6 own6 R6 st6 => fun b7 w7 n7 => ?_
    refine qrapp R6 (A5.step st6 (by decide)) (by decide) n7 (by omega) hys.symm fun a' c' w8 own8 R8 A8 => ?_
    rw [w64 (by omega) (by omega), hys]
    exact ⟨⟨own8, l1 + 1, rfl, by omega, rfl, R8, _, by simp [hys], A8⟩, by dsimp only; omega⟩
  obtain rfl : l1 = i := by omega
  refine ⟨fun n w' => ∃ (own : Nat → Nat) (j : Nat), n = (j : Int) ∧ j ≤ l1 ∧ Rq w1 w' own rb [up (l1 - j)] 8192 ((l1 + l1 : Nat) : Int) (objs l1 ++ wks l1 (fun i => (i : Int) + 1) l1) (up l1) [], fun n _ => (l1 - n).toNat, ⟨own5, 0, rfl, by omega, by simpa [show l1 + l1 - l1 = l1 by omega] using R5⟩, ?_⟩
  rintro - _ w6 ⟨own6, j, rfl, hj, R6⟩
  refine IfB.dec (fun hlt => ?_) (fun hge => ?_)
  · have eu : up (l1 - j) = up (l1 - (j + 1)) ++ [((l1 - (j + 1) : Nat) : Int) + 1] := by rw [← up_succ]; congr 1; omega
    refine qrpop R6 (by decide) (by rw [eu]; rfl) fun w7 own7 R7 st7 => ?_
    rw [w64 (by omega) (by omega)]
    exact ⟨⟨own7, j + 1, rfl, by omega, R7⟩, by dsimp only; omega⟩
  obtain rfl : j = l1 := by omega
  rw [Nat.sub_self] at R6
  clear R5 A5 R4 R3 A3 R2
  have hw0 : ∀ i : Nat, i < j → (i : Int) + 1 ≠ 0 ∧ (i : Int) + 1 ∉ ([] : List Int) := fun i _ => ⟨by omega, by simp⟩
  have ecl : (objs j ++ wks j (fun i => (i : Int) + 1) j).map (clear1 []) = objs j ++ wks j (fun _ => 0) j := by
    rw [List.map_append, clear_objs, clear_wks _ _ _ _ hw0]
  refine qrcycle (kc := 1001) (kd := 1002) (by decide) R6 (by decide) (by rw [List.length_append, objs_len, wks_len]; omega) (by decide) [] (up j) _ (up j) (objs j) [] (up j) (fun r => ?_) ?_ rfl (fun r => ?_) ?_ ?_ rfl fun w7 own7 ca cc da dc R7 C7 D7 st7 => ?_
  · rw [flat0]; simp [up]
    intro x hx
    rcases List.mem_append.1 hx with h | h
    · obtain ⟨i, _, rfl⟩ := mem_objs.1 h; exact ⟨.inr (.inr rfl), by dsimp only; omega⟩
    · obtain ⟨i, _, rfl⟩ := mem_wks.1 h; exact ⟨.inl rfl, by dsimp only; omega⟩
  · rw [que_app, que_objs (fun r hr => ⟨hr, by simp⟩), que_none, List.append_nil]
    intro x hx
    obtain ⟨i, _, rfl⟩ := mem_wks.1 hx
    rw [mem_up]; dsimp only; omega
  · rw [ecl, flat0]
    · constructor
      · rintro ⟨h, _⟩; simpa [up] using h
      · intro h
        obtain ⟨x, hx, e⟩ := objs_isref.2 (mem_up.1 h)
        exact ⟨by simpa [up] using h, x, by simp [hx], e⟩
    intro x hx
    rcases List.mem_append.1 hx with h | h
    · obtain ⟨i, _, rfl⟩ := mem_objs.1 h; exact ⟨.inr (.inr rfl), by dsimp only; omega⟩
    · obtain ⟨i, _, rfl⟩ := mem_wks.1 h; exact ⟨.inl rfl, by dsimp only; omega⟩
  · rw [ecl, List.filter_append, List.filter_eq_self.2, List.filter_eq_nil_iff.2, List.append_nil]
    · intro x hx
      obtain ⟨i, _, rfl⟩ := mem_wks.1 hx
      rw [decide_eq_true_iff, mem_up]; dsimp only; omega
    · intro x hx
      obtain ⟨i, _, rfl⟩ := mem_objs.1 hx
      rw [decide_eq_true_iff, mem_up]; dsimp only; omega
  · rw [notIn_all (q := up j) (fun r h => h)]; rfl
  rw [up_len]
  clear C7
  refine ⟨fun w' => ∃ own, Rq w1 w' own rb [up 0] 8192 ((j + j : Nat) : Int) (objs j) [] (up j) ∧ Sd w' own da dc 1002 (up j), ifb_nyes rfl (ifb_nyes rfl (ifb_nyes (decide_eq_true rfl) ⟨own7, R7, D7⟩)), ?_⟩
  rintro - w8 ⟨own8, R8, D8⟩
  refine ⟨fun n w' => ∃ (own : Nat → Nat) (i : Nat), n = (i : Int) ∧ i ≤ j ∧ Rq w1 w' own rb [up i] 8192 ((j + j : Nat) : Int) (objs j) [] ((up j).drop i) ∧ Sd w' own da dc 1002 (up j), fun n _ => (j - n).toNat, ⟨own8, 0, rfl, by omega, R8, D8⟩, ?_⟩
  rintro - _ w9 ⟨own9, i, rfl, hi9, R9, D9⟩
  refine IfB.dec (fun hlt => ?_) (fun hge => ?_)
  · rw [up_drop (by omega)] at R9
    refine qrnext R9 rfl (by rw [up_len]; omega) fun w10 own10 R10 st10 => ifb_f ?_
    have D10 := D9.step st10 (by decide)
    refine D10.si.get (by omega) (by rw [up_len]; omega) fun p hp => ⟨⟨by omega, by omega⟩, _, hp, ?_⟩
    rw [show (i : Int).toNat = i by omega, up_getD (by omega), w64 (by omega) (by omega)]
    refine ifb_nyes (decide_eq_true rfl) ⟨⟨own10, i + 1, rfl, by omega, ?_, D10⟩, by dsimp only; omega⟩
    rw [up_succ]; exact R10
  obtain rfl : i = j := by omega
  have R9 : Rq w1 w9 own9 rb [up i] 8192 ((i + i : Nat) : Int) (objs i) [] [] := by
    have : (up i).drop i = [] := List.drop_of_length_le (by rw [up_len]; omega)
    rw [this] at R9; exact R9
  clear R8 R7 R6 D9 D8 D7
  refine ⟨fun n w' => 0 ≤ n ∧ n ≤ bk ∧ ∃ (own : Nat → Nat), Rq w1 w' own rb [up i] 8192 ((i + i : Nat) : Int) (objs i) [] [], fun n _ => (bk - n).toNat, ⟨by omega, by omega, own9, R9⟩, ?_⟩
  rintro - n w10 ⟨hn0, hn1, own10, R10⟩
  have fl : ∀ x ∈ objs i, (x.kind = 4 ∨ x.kind = 2 ∨ x.vs = [0]) ∧ 1 ≤ x.ref := fun x hx => by
    obtain ⟨i, _, rfl⟩ := mem_objs.1 hx; exact ⟨.inr (.inr rfl), by dsimp only; omega⟩
  have fo : ∀ r : Int, (r ∈ up i ∧ ∃ x ∈ objs i, x.ref = r) ↔ r ∈ up i := fun r => by rw [objs_isref, mem_up]; simp
  refine IfB.dec (fun hlt => ?_) (fun hge => ?_)
  · refine qrcycle (kc := 1001) (kd := 1002) (by decide) R10 (by simp) (by rw [objs_len]; omega) (by decide) (up i) (up i) [] [] (objs i) [] [] (fun r => ?_) ?_ ?_ (fun r => ?_) ?_ rfl rfl fun w11 own11 ca cc da dc R11 C11 D11 st11 => ?_
    · rw [flat0 fl]; simpa using fo r
    · exact que_none fun x _ h => by cases h
    · refine clr_none fun x hx => ?_
      obtain ⟨i, _, rfl⟩ := mem_objs.1 hx; exact .inl (by dsimp only; omega)
    · rw [clear_objs, flat0 fl]; simpa using fo r
    · rw [clear_objs, List.filter_eq_self.2]
      intro x hx
      rw [decide_eq_true_iff, ← objs_refs]; exact List.mem_map_of_mem hx
    refine ifb_nyes rfl (ifb_nyes rfl (ifb_nyes rfl (qrrefs R11 (by rw [objs_len]; omega) fun a2 c2 w12 R12 f12 => ?_)))
    rw [objs_len, w64 (by omega) (by omega)]
    exact ifb_nyes (decide_eq_true rfl) ⟨⟨by omega, by omega, own11, R12⟩, by dsimp only; omega⟩
  refine ⟨fun n w' => ∃ (own : Nat → Nat) (j : Nat), n = (j : Int) ∧ j ≤ i ∧ Rq w1 w' own rb [up (i - j)] 8192 ((i + i : Nat) : Int) (objs i) [] [], fun n _ => (i - n).toNat, ⟨own10, 0, rfl, by omega, R10⟩, ?_⟩
  rintro - _ w11 ⟨own11, j, rfl, hj11, R11⟩
  refine IfB.dec (fun hlt => ?_) (fun hge => ?_)
  · have eu : up (i - j) = up (i - (j + 1)) ++ [((i - (j + 1) : Nat) : Int) + 1] := by rw [← up_succ]; congr 1; omega
    refine qrpop R11 (by decide) (by rw [eu]; rfl) fun w12 own12 R12 st12 => ?_
    rw [w64 (by omega) (by omega)]
    exact ⟨⟨own12, j + 1, rfl, by omega, R12⟩, by dsimp only; omega⟩
  obtain rfl : j = i := by omega
  rw [Nat.sub_self] at R11
  refine qrcycle (kc := 1001) (kd := 1002) (by decide) R11 (by decide) (by rw [objs_len]; omega) (by decide) [] [] [] [] [] [] [] (fun r => ?_) ?_ ?_ (fun r => ?_) ?_ rfl rfl fun w12 own12 ca cc da dc R12 C12 D12 st12 => ?_
  · rw [flat0 fl]; simp [up]
  · exact que_none fun x _ h => by cases h
  · refine clr_none fun x hx => ?_
    obtain ⟨i, _, rfl⟩ := mem_objs.1 hx; exact .inl (by dsimp only; omega)
  · rw [clear_objs, flat0 fl]; simp [up]
  · rw [List.filter_eq_nil_iff.2]; simp
  refine ifb_yes rfl (ifb_yes rfl (ifb_yes rfl (qrrefs R12 (by decide) fun a2 c2 w13 R13 f13 => ifb_yes rfl ?_)))
  have e : decide (((j : Nat) : Int) = ((j : Nat) : Int)) = true := decide_eq_true rfl
  rw [e]
  exact hK w13 R13.bs
end Go.Proofs.Ytfpghcdjfiggiaa.V

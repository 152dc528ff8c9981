/- Colours: what a caller sees. No condition. -/
import Derived.Test.YtmlhdmnnijapjaaBlack
namespace Go.Proofs.Ytmlhdmnnijapjaa.V
open Go Go.RowKit

/-- Colours and the grey ones in their row, in the blocks of F. -/
def Mq (F : List Nat) (w : World) (q : Option Addr) (cs queue : List Int) : Prop :=
  ∃ wb a c qa qc, q = some ⟨wb, 0, none⟩ ∧ Mw w wb a c cs qa qc queue ∧ (∀ x ∈ queue, 0 ≤ x ∧ x < (cs.length : Int)) ∧ F = wb :: (ablk a ++ ablk qa)

section
variable {w w' : World} {F S : List Nat} {q : Option Addr} {cs queue : List Int}

theorem Mq.low (h : Mq F w q cs queue) : Low F w.heap.size := by
  obtain ⟨wb, a, c, qa, qc, rfl, M, _, rfl⟩ := h
  obtain ⟨l0, l1, l2⟩ := M.low
  intro b hb
  rcases List.mem_cons.1 hb with rfl | hb
  · exact l0
  · rcases List.mem_append.1 hb with hb | hb
    · exact l1 b hb
    · exact l2 b hb

theorem Mq.fr (h : Mq F w q cs queue) (f : Fr S w w') (ha : Apart F S) : Mq F w' q cs queue := by
  obtain ⟨wb, a, c, qa, qc, rfl, M, hq, rfl⟩ := h
  exact ⟨wb, a, c, qa, qc, rfl, M.fr f (ha wb (by simp)) (fun b hb => ha b (by simp [hb])) (fun b hb => ha b (by simp [hb])), hq, rfl⟩

theorem Mq.fr0 (h : Mq F w q cs queue) (f : Fr [] w w') : Mq F w' q cs queue := h.fr f (by simp [Apart])

theorem qmnew_c (cap : Int) {K : Option Addr → Int → World → Prop} (hno : ¬ (1 ≤ cap ∧ cap ≤ 4096) → K none 1100 w)
    (hok : (1 ≤ cap ∧ cap ≤ 4096) → ∀ w' q F, Mq F w' q (List.replicate cap.toNat 1) [] → Fr [] w w' → (∀ b ∈ F, w.heap.size ≤ b) → K q 0 w') : C21 cap w K := by
  refine r_f21 _ _ _ (IfB.dec (fun h => hno (by omega)) (fun h1 => IfB.dec (fun h => hno (by omega)) (fun h2 => ?_)))
  refine make_int 38 3 Try.t3 (by kernel_rfl) (by kernel_rfl) rfl rfl (by decide) (by omega) (by omega) _ fun ab w2 A2 f2 l2 => ?_
  intro b3 w4 n4
  have g := n4.ge
  have lA := A2.low
  have hab : ab < b3 := Nat.lt_of_lt_of_le (lA ab (by simp [ablk])) g
  have e : (List.replicate cap.toNat (0 : Int)).length = cap.toNat := by simp
  have M : Mw w4 b3 (some ⟨ab, 0, none⟩) cap.toNat (List.replicate cap.toNat 0) none 0 [] := ⟨by rw [e]; exact n4.blk, A2.fr (n4.fr []) (by simp [Apart]), SI.nil _, by simp [ablk]; omega, by simp [ablk], by simp [Apart, ablk]⟩
  refine mreset_c M (by simp; omega) fun w5 M5 f5 => ?_
  rw [e] at M5
  refine hok ⟨by omega, by omega⟩ w5 _ _ ⟨_, _, _, _, _, rfl, M5, by simp, rfl⟩ ?_ (by simp [ablk]; have := (f2 []).size; omega)
  exact ((f2 []).more (n4.fr [])).trans f5 (fun k hk => .inr (by simp [ablk] at hk; have := (f2 []).size; omega))

theorem qmcolour_c (h : Mq F w q cs queue) (ref : Int) {K : Int → Int → World → Prop} (hno : ¬ (0 ≤ ref ∧ ref < (cs.length : Int)) → K 0 1102 w)
    (hok : (0 ≤ ref ∧ ref < (cs.length : Int)) → K (cs.getD ref.toNat 0) 0 w) : C25 q ref w K := by
  obtain ⟨wb, a, c, qa, qc, rfl, M, hq, rfl⟩ := h
  refine r_f25 _ _ _ _ (mhas_c M ref ?_)
  by_cases hr : 0 ≤ ref ∧ ref < (cs.length : Int)
  · rw [if_pos hr]
    exact IfB.nyes rfl ⟨_, _, _, M.hd.cell rfl, M.C.get hr.1 hr.2 fun p hp => ⟨hr, _, hp, hok hr⟩⟩
  · rw [if_neg hr]
    exact IfB.nno (by decide) (hno hr)

theorem qmgrey_c (h : Mq F w q cs queue) (hl : queue.length ≤ 1000000) (ref : Int) {K : Bool → Int → World → Prop} (hno : ¬ (0 ≤ ref ∧ ref < (cs.length : Int)) → K false 1102 w)
    (hold : (0 ≤ ref ∧ ref < (cs.length : Int)) → cs.getD ref.toNat 0 ≠ 1 → K false 0 w)
    (hok : (0 ≤ ref ∧ ref < (cs.length : Int)) → cs.getD ref.toNat 0 = 1 → ∀ w' F', Mq F' w' q (cs.set ref.toNat 2) (queue ++ [ref]) → Fr F w w' → Grw F F' w.heap.size → K true 0 w') : C23 q ref w K := by
  obtain ⟨wb, a, c, qa, qc, rfl, M, hq, rfl⟩ := h
  refine r_f23 _ _ _ _ (mhas_c M ref ?_)
  by_cases hr : 0 ≤ ref ∧ ref < (cs.length : Int)
  · rw [if_pos hr]
    refine IfB.nyes rfl ⟨_, _, _, M.hd.cell rfl, M.C.get hr.1 hr.2 fun p hp => ⟨hr, _, hp, IfB.nd (fun h1 => ?_) (fun h1 => hold hr h1)⟩⟩
    refine ⟨_, _, _, M.hd.cell rfl, M.C.put hr.1 hr.2 2 fun p m _ s => ⟨hr, m, fun w8 c8 => ?_⟩⟩
    obtain ⟨C8, f8⟩ := s w8 c8
    have M8 := M.paint C8 f8
    refine mpush_c M8 hl ref fun w9 qa9 qc9 M9 f9 g9 => ?_
    refine hok hr h1 w9 _ ⟨_, _, _, _, _, rfl, M9, fun x hx => ?_, rfl⟩ ?_ ?_
    · rw [List.length_set]
      rcases List.mem_append.1 hx with hx | hx
      · exact hq x hx
      · simp at hx; subst hx; exact hr
    · exact (f8.mono (fun k hk => .inl (by simp [hk]))).trans f9 (fun k hk => .inl (by rcases List.mem_cons.1 hk with rfl | hk; simp; simp [hk]))
    · intro b hb
      rcases List.mem_cons.1 hb with rfl | hb
      · exact .inl (by simp)
      · rcases List.mem_append.1 hb with hb | hb
        · exact .inl (by simp [hb])
        · rcases g9 b hb with h | h
          · exact .inl (by simp [h])
          · exact .inr (Nat.le_trans f8.size h)
  · rw [if_neg hr]
    exact IfB.nno (by decide) (hno hr)

theorem qmnext_c (h : Mq F w q cs queue) {K : Int → Bool → World → Prop} (hno : queue = [] → K 0 false w)
    (hok : ∀ f q', queue = f :: q' → (0 ≤ f ∧ f < (cs.length : Int)) → ∀ w', Mq F w' q (cs.set f.toNat 3) q' → Fr F w w' → K f true w') : C24 q w K := by
  obtain ⟨wb, a, c, qa, qc, rfl, M, hq, rfl⟩ := h
  refine r_f24 _ _ _ (mpop_c M (fun h => hno h) (fun f q' e w3 qa3 qc3 M3 f3 ea => ?_))
  have hf := hq f (by rw [e]; simp)
  refine ⟨_, _, _, M3.hd.cell rfl, M3.C.put hf.1 hf.2 3 fun p m _ s => ⟨hf, m, fun w6 c6 => ?_⟩⟩
  obtain ⟨C6, f6⟩ := s w6 c6
  refine hok f q' e hf w6 ⟨_, _, _, _, _, rfl, M3.paint C6 f6, fun x hx => ?_, by rw [ea]⟩ ?_
  · rw [List.length_set]; exact hq x (by rw [e]; simp [hx])
  · exact (f3.mono (by simp)).trans f6 (fun k hk => .inl (by simp [hk]))

theorem qmreset_c (h : Mq F w q cs queue) (hl : cs.length ≤ 1000000) {K : World → Prop} (hK : ∀ w' F', Mq F' w' q (List.replicate cs.length 1) [] → Fr F w w' → (∀ b ∈ F', b ∈ F) → K w') : C26 q w K := by
  obtain ⟨wb, a, c, qa, qc, rfl, M, hq, rfl⟩ := h
  exact mreset_c M hl fun w' M' f' => hK w' _ ⟨_, _, _, _, _, rfl, M', by simp, rfl⟩ (f'.mono (fun k hk => .inl (by rcases List.mem_cons.1 hk with rfl | hk; simp; simp [hk]))) (fun b hb => by simp [ablk] at hb ⊢; rcases hb with h | h <;> simp [h])

theorem qmblack_c (h : Mq F w q cs queue) (hl : cs.length ≤ 1000000) {K : Option Addr → Nat → Nat → World → Prop}
    (hK : ∀ w' ra rc, SI w' ra rc (ofc 3 cs) → Fr [] w w' → (∀ b ∈ ablk ra, w.heap.size ≤ b) → K ra (ofc 3 cs).length rc w') : C28 q w K := by
  obtain ⟨wb, a, c, qa, qc, rfl, M, hq, rfl⟩ := h
  exact mblack_c M hl hK

theorem awake11_c {K : Bool → World → Prop} (hK : ∀ w', Fr [] w w' → K true w') : C22 w K := by
  refine r_f22 _ _ (qmnew_c 3 (fun h => absurd (by decide) h) fun _ w3 q F Q3 f3 l3 => ?_)
  refine qmgrey_c Q3 (by simp) 2 (fun h => absurd (by decide) h) (fun _ h => absurd (by decide) h) fun _ _ w6 F6 Q6 f6 g6 => ?_
  have l6 := g6.up l3 f3.size
  have f6' := f3.trans f6 (fun k hk => .inr (l3 k hk))
  refine qmgrey_c Q6 (by simp) 2 (fun h => absurd (by decide) h) (fun _ _ => ?_) (fun _ h => absurd h (by decide))
  refine qmnext_c Q6 (fun h => by simp at h) fun f q' e _ w12 Q12 f12 => ?_
  simp at e
  obtain ⟨rfl, rfl⟩ := e
  have f12' := f6'.trans f12 (fun k hk => .inr (l6 k hk))
  refine qmnext_c Q12 (fun _ => ?_) (fun f q' e => by simp at e)
  refine qmcolour_c Q12 2 (fun h => absurd (by decide) h) fun _ => ?_
  refine qmgrey_c Q12 (by simp) 3 (fun _ => ?_) (fun h => absurd h (by decide)) (fun h => absurd h (by decide))
  exact IfB.yes rfl (ifb_t (IfB.yes rfl (ifb_t (IfB.yes rfl (IfB.yes rfl (ifb_t (ifb_t (IfB.yes (by decide) (IfB.yes rfl (hK w12 f12'))))))))))

end

theorem ofc_pre (k : Int) (cs : List Int) : ∀ (i : Nat), ∃ rest, ofc k cs = ofc k (cs.take i) ++ rest := by
  intro i
  unfold ofc
  rcases Nat.le_total cs.length i with h | h
  · exact ⟨[], by rw [List.take_of_length_le h, List.append_nil]⟩
  have e2 : (cs.take i).length = i := by simp; omega
  obtain ⟨m, hm⟩ : ∃ m, cs.length = i + m := ⟨cs.length - i, by omega⟩
  refine ⟨(((List.range m).map (i + ·)).filter fun j => cs.getD j 0 == k).map Int.ofNat, ?_⟩
  rw [← List.map_append, e2, hm, List.range_add, List.filter_append]
  congr 2
  refine List.filter_congr fun j hj => ?_
  rw [List.mem_range] at hj
  simp [List.getD_eq_getElem?_getD, List.getElem?_take, hj]

theorem ofc_get (cs : List Int) {j : Nat} {x : Int} (h : (ofc 3 cs)[j]? = some x) : 0 ≤ x ∧ x < (cs.length : Int) ∧ cs.getD x.toNat 0 = 3 := by
  have hm := List.mem_of_getElem? h
  unfold ofc at hm
  rw [List.mem_map] at hm
  obtain ⟨i, hi, rfl⟩ := hm
  rw [List.mem_filter, List.mem_range] at hi
  refine ⟨Int.natCast_nonneg i, by have := hi.1; exact Int.ofNat_lt.2 this, ?_⟩
  simpa using hi.2

/-- Written over. -/
theorem spoilI_c {w : World} {a : Option Addr} {c : Nat} {us : List Int} (U : SI w a c us) (hu : ∀ x ∈ us, -1000000 ≤ x ∧ x ≤ 1000000) (hl : us.length ≤ 1000000) {K : World → Prop} (hK : ∀ w', Fr (ablk a) w w' → K w') : C44 a us.length c w K := by
  refine r_f44 _ _ _ _ _ ⟨fun i w' => 0 ≤ i ∧ i ≤ us.length ∧ (∃ vs, SI w' a c vs ∧ vs.length = us.length ∧ ∀ j : Nat, i ≤ j → vs.getD j 0 = us.getD j 0) ∧ Fr (ablk a) w w', fun i _ => (us.length - i).toNat, ⟨by omega, by omega, ⟨us, U, rfl, fun _ _ => rfl⟩, Fr.refl _ _⟩, ?_⟩
  rintro - i w1 ⟨h0, h1, ⟨vs, V1, hv, hb⟩, f1⟩
  refine IfB.dec (fun hlt => ?_) (fun _ => hK w1 f1)
  have hm : us.getD i.toNat 0 ∈ us := by
    have hlt : i.toNat < us.length := by omega
    rw [List.getD_eq_getElem?_getD, List.getElem?_eq_getElem hlt]
    exact List.getElem_mem hlt
  have hb1 := hu _ hm
  have hb2 := hb i.toNat (by omega)
  refine V1.get h0 (by omega) fun p hp => ⟨⟨h0, hlt⟩, _, hp, fit64 (by omega) (by omega), ?_⟩
  refine V1.put h0 (by omega) (-9 - vs.getD i.toNat 0) fun p2 hm _ hs => ⟨⟨h0, hlt⟩, hm, fun w2 s2 => ⟨fit64 (by omega) (by omega), ?_, by dsimp only; omega⟩⟩
  obtain ⟨V2, f2⟩ := hs w2 s2
  refine ⟨by omega, by omega, ⟨_, V2, by simpa using hv, fun j hj => ?_⟩, f1.more f2⟩
  rw [getI_set' _ _ _ _ (by omega), if_neg (by omega)]
  exact hb j (by omega)


theorem app38 {w w1 : World} {a : Option Addr} {c b : Nat} {xs : List Int} (h : SI w a c xs) {n : Int} (n1 : NewAt w w1 b #[.int .i64 n] 3) (h63 : xs.length + 1 ≤ 1048576) {K : Option Addr → Nat → Nat → World → Prop}
    (hK : ∀ a' c' w', SI w' a' c' (xs ++ [n]) → Fr (ablk a) w w' → Grw (ablk a) (ablk a') w.heap.size → K a' (xs.length + 1) c' w') :
    RunF Try.prog (Builtin.append_ #[38, 38] 38 #[.slice a xs.length c, .slice (some ⟨b, 0, none⟩) 1 1]) w1 [.leaf .slice] K := by
  obtain ⟨rfl, rfl⟩ := n1
  exact append_int (P := Try.prog) (t := 38) (e := 3) (i := Try.t3) (by kernel_rfl) (by kernel_rfl) rfl rfl h n 3 h63 (by decide) 38 hK

/-- The black ones are just those that are noted so. -/
theorem blacks_c {w : World} {F : List Nat} {q : Option Addr} {cs queue : List Int} (h : Mq F w q cs queue) (hl : cs.length ≤ 100000) {a : Option Addr} {c : Nat} (A : SI w a c cs) {K : Bool → World → Prop}
    (hK : ∀ w', Fr [] w w' → K true w') : C27 q a cs.length c w K := by
  have hq := h
  obtain ⟨wb, _, _, _, _, rfl, _⟩ := hq
  refine r_f27 _ _ _ _ _ _ (qmblack_c h (by omega) fun w2 ra rc R2 f2 l2 => qmblack_c (h.fr0 f2) (by omega) fun w4 rd rk D4 f4 l4 => ?_)
  have R4 : SI w4 ra rc (ofc 3 cs) := R2.fr f4 (by simp [Apart])
  have A4 : SI w4 a c cs := (A.fr f2 (by simp [Apart])).fr f4 (by simp [Apart])
  have f24 := f2.more f4
  refine ⟨fun k i w' => w' = w4 ∧ 0 ≤ i ∧ i ≤ cs.length ∧ k = (ofc 3 (cs.take i.toNat)).length ∧ ∃ rest, ofc 3 cs = ofc 3 (cs.take i.toNat) ++ rest, fun _ i _ => (cs.length - i).toNat, ⟨rfl, by omega, by omega, rfl, _, rfl⟩, ?_⟩
  rintro - k i w9 ⟨rfl, h0, h1, rfl, rest, hr⟩
  refine IfB.dec (fun hlt => ?_) (fun hge => ?_)
  · have hlt' : i.toNat < cs.length := by omega
    have hsn := ofc_snoc 3 cs i.toNat hlt'
    have hi1 : (i + 1).toNat = i.toNat + 1 := by omega
    have hpre : ∃ rest', ofc 3 cs = ofc 3 (cs.take (i + 1).toNat) ++ rest' := by
      rw [hi1]
      exact ofc_pre 3 cs _
    have hk := ofc_len 3 (cs.take i.toNat)
    rw [List.length_take] at hk
    refine A4.get h0 hlt fun p hp => ⟨⟨h0, hlt⟩, _, hp, IfB.nd (fun h3 => ?_) (fun h3 => ⟨fit64 (by omega) (by omega), ⟨rfl, by omega, by omega, ?_, hpre⟩, by dsimp only; omega⟩)⟩
    · rw [h3] at hsn
      simp only [BEq.rfl, if_true] at hsn
      obtain ⟨rest', hr'⟩ := hpre
      rw [hi1, hsn] at hr'
      have hlen : (ofc 3 cs).length = (ofc 3 (cs.take i.toNat)).length + 1 + rest'.length := by rw [hr']; simp; omega
      refine IfB.no (by omega) (R4.get (by omega) (by omega) fun p hp => ⟨⟨by omega, by omega⟩, _, hp, ?_⟩)
      have e : (ofc 3 cs).getD (((ofc 3 (cs.take i.toNat)).length : Int)).toNat 0 = i := by
        rw [hr', Int.toNat_natCast]
        simp [List.getD_eq_getElem?_getD]
        omega
      refine IfB.nyes e ⟨fit64 (by omega) (by omega), fit64 (by omega) (by omega), ⟨rfl, by omega, by omega, ?_, ?_⟩, by dsimp only; omega⟩
      · rw [hi1, hsn]; simp
      · exact ⟨rest', by rw [hi1, hsn]; exact hr'⟩
    · rw [hi1, hsn]
      have : (cs.getD i.toNat 0 == 3) = false := by rw [beq_eq_false_iff_ne]; exact h3
      rw [this]; simp
  · have ei : i.toNat = cs.length := by omega
    rw [ei, List.take_length] at *
    have hb : ∀ x ∈ ofc 3 cs, 0 ≤ x ∧ x < (cs.length : Int) ∧ cs.getD x.toNat 0 = 3 := fun x hx => by
      obtain ⟨j, hj⟩ := List.getElem?_of_mem hx
      exact ofc_get cs hj
    have hlb := ofc_len 3 cs
    refine spoilI_c R4 (fun x hx => by have := hb x hx; omega) (by omega) fun w14 f14 => ?_
    have fz : Fr [] w w14 := f24.trans f14 (fun k hk => .inr (l2 k hk))
    have A14 : SI w14 a c cs := A4.fr f14 (fun b hb hb2 => by have := A.low b hb; have := l2 b hb2; omega)
    have D14 : SI w14 rd rk (ofc 3 cs) := D4.fr f14 (fun b hb hb2 => by have := l4 b hb; have := R2.low b hb2; omega)
    refine IfB.yes rfl (IfB.yes rfl (IfB.dec (fun _ => hK w14 fz) (fun hne => ?_)))
    have hg := hb ((ofc 3 cs).getD (Int.toNat 0) 0) (by
      have hlt : Int.toNat 0 < (ofc 3 cs).length := by simp; omega
      rw [List.getD_eq_getElem?_getD, List.getElem?_eq_getElem hlt]
      exact List.getElem_mem hlt)
    refine D14.get (by omega) (by omega) fun p hp => ⟨⟨by omega, by omega⟩, _, hp, A14.get hg.1 hg.2.1 fun p2 hp2 => ⟨⟨hg.1, hg.2.1⟩, _, hp2, ?_⟩⟩
    rw [hg.2.2]
    exact hK w14 fz
end Go.Proofs.Ytmlhdmnnijapjaa.V

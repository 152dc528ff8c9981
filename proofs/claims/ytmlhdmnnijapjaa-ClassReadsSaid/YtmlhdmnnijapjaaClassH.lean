/- The document's reader: counts, names, lists. No condition. -/
import Derived.Test.YtmlhdmnnijapjaaClassG
namespace Go.Proofs.Ytmlhdmnnijapjaa.V
open Go Go.RowKit Go.Proofs.Ytmlhdmnnijapjaa.WirePlain

def cntD (s : ByteArray) (most code : Int) (p : Int) : Rs Int := bindD (numD s p) fun x q => if x < 0 then .error (p, 1402) else if most < x then .error (p, code) else .ok (x, q)

theorem listD_cnt {α : Type} (s : ByteArray) (most : Int) (one : Int → Rs α) (p : Int) : listD s most one p = bindD (cntD s most 1404 p) fun n q => repD one n.toNat q := by
  unfold listD cntD
  cases numD s p with
  | error e => rfl
  | ok r =>
    simp only [bindD]
    split
    · rfl
    · split <;> rfl

theorem rangD_cnt (s : ByteArray) (most : Int) (p : Int) : rangD s 0 most p = cntD s most 1402 p := by
  unfold rangD cntD
  congr 1
  funext x q
  by_cases h : x < 0
  · rw [if_pos (.inl h), if_pos h]
  · by_cases h2 : most < x
    · rw [if_pos (.inr h2), if_neg h, if_pos h2]
    · rw [if_neg (by omega), if_neg h, if_neg h2]

section
variable {rb : Nat} {s : ByteArray} {w w' : World} {st : St} {α β : Type}

theorem Stp.of_eq {f g : Int → Rs α} {x : α} {st' : St} (h : Stp f st x st') (e : ∀ p, f p = g p) : Stp g st x st' := by
  have : f = g := funext e
  rw [← this]; exact h

theorem rcnt_c {most code : Int} (R : RefW w rb s st) (hs : s.size ≤ 32768) (hc : code ≠ 0) {K : Int → World → Prop} (hK : ∀ x st' w', Stp (cntD s most code) st x st' → (∀ q, st' = .ok q → 0 ≤ x ∧ x ≤ most) → RefW w' rb s st' → Fr [rb] w w' → K x w') : C52 (some ⟨rb, 0, none⟩) most code w K := by
  have hcode : ∃ n1 : Int, World.cell? w ⟨rb, 1, none⟩ = some (.int .i64 n1) ∧ ∀ p, st = .ok p → n1 = p := by
    cases st with
    | ok p => exact ⟨p, (R.ok p rfl).1.cell rfl, fun p' h => by cases h; rfl⟩
    | error e => obtain ⟨q, hq⟩ := (R.bad e rfl).2; exact ⟨q, hq.cell rfl, fun p' h => by cases h⟩
  obtain ⟨n1, hn1, hp1⟩ := hcode
  refine r_f52 _ _ _ _ _ ⟨n1, hn1, rnum_c R hs fun x st1 w3 S3 R3 f3 => ?_⟩
  -- a fault stays
  have badend : ∀ e w5, RefW w5 rb s (.error e) → Fr [rb] w w5 → Stp (cntD s most code) st 0 (.error e) → ∃ (n12 : Int), World.cell? w5 ⟨rb, 2, none⟩ = some (.int .i64 n12) ∧ IfB (!decide ((n12 : Int) = 0)) (K 0 w5) (K x w5) := by
    intro e w5 R5 f5 S5
    obtain ⟨hne, q, B⟩ := R5.bad e rfl
    exact ⟨_, B.cell rfl, IfB.nno hne (hK 0 _ w5 S5 (fun q h => by cases h) R5 f5)⟩
  have badmid : ∀ e w5, RefW w5 rb s (.error e) → Fr [rb] w w5 → Stp (cntD s most code) st 0 (.error e) → ∃ M8 : World → Prop, (∃ (n10 : Int), World.cell? w5 ⟨rb, 2, none⟩ = some (.int .i64 n10) ∧ IfB (decide ((n10 : Int) = 0))
      (IfB (decide ((most : Int) < x)) (C54 (some ⟨rb, 0, none⟩) code n1 w5 fun w11 => M8 w11) (M8 w5)) (M8 w5)) ∧ ∀ (_ : Env) (w9 : World), M8 w9 → ∃ (n12 : Int), World.cell? w9 ⟨rb, 2, none⟩ = some (.int .i64 n12) ∧ IfB (!decide ((n12 : Int) = 0)) (K 0 w9) (K x w9) := by
    intro e w5 R5 f5 S5
    obtain ⟨hne, q, B⟩ := R5.bad e rfl
    exact ⟨fun w' => w' = w5, ⟨_, B.cell rfl, IfB.no hne rfl⟩, fun _ w9 h => by subst h; exact badend e w9 R5 f5 S5⟩
  cases st1 with
  | error e =>
    have S5 : Stp (cntD s most code) st 0 (.error e) := by
      cases st with
      | error e' => exact S3
      | ok p =>
        rcases S3.ok_iff with ⟨q, _, h2⟩ | ⟨e', h1, h2⟩
        · cases h2
        · cases h2
          unfold Stp cntD
          simp only [h1, bindD]
    obtain ⟨hne, q, B⟩ := R3.bad e rfl
    exact ⟨fun w' => w' = w3, ⟨_, B.cell rfl, IfB.no hne rfl⟩, fun _ w5 h => by subst h; exact badmid e w5 R3 f3 S5⟩
  | ok q =>
    -- it was fine so far
    obtain ⟨p, rfl⟩ : ∃ p, st = .ok p := by
      cases st with
      | ok p => exact ⟨p, rfl⟩
      | error e => unfold Stp at S3; cases S3
    obtain rfl := hp1 p rfl
    have hn : numD s n1 = .ok (x, q) := by
      rcases S3.ok_iff with ⟨q', h1, h2⟩ | ⟨e, _, h2⟩
      · cases h2; exact h1
      · cases h2
    obtain ⟨B3, _, _⟩ := R3.ok q rfl
    by_cases h1 : x < 0
    · have S5 : Stp (cntD s most code) (.ok n1) 0 (.error (n1, 1402)) := by
        unfold Stp cntD
        simp only [hn, bindD, if_pos h1]
      exact ⟨fun w' => RefW w' rb s (.error (n1, 1402)) ∧ Fr [rb] w w', ⟨_, B3.cell rfl, IfB.yes rfl (IfB.yes h1 (rfault_c R3 (by decide) fun w7 R7 f7 => ⟨R7, f3.more f7⟩))⟩, fun _ w5 h => badmid _ w5 h.1 h.2 S5⟩
    · refine ⟨fun w' => w' = w3, ⟨_, B3.cell rfl, IfB.yes rfl (IfB.no h1 rfl)⟩, fun _ w5 h => ?_⟩
      subst h
      by_cases h2 : most < x
      · have S5 : Stp (cntD s most code) (.ok n1) 0 (.error (n1, code)) := by
          unfold Stp cntD
          simp only [hn, bindD, if_neg h1, if_pos h2]
        exact ⟨fun w' => RefW w' rb s (.error (n1, code)) ∧ Fr [rb] w w', ⟨_, B3.cell rfl, IfB.yes rfl (IfB.yes h2 (rfault_c R3 hc fun w7 R7 f7 => ⟨R7, f3.more f7⟩))⟩, fun _ w9 h => badend _ w9 h.1 h.2 S5⟩
      · refine ⟨fun w' => w' = w5, ⟨_, B3.cell rfl, IfB.yes rfl (IfB.no h2 rfl)⟩, fun _ w9 h => ?_⟩
        subst h
        refine ⟨_, B3.cell rfl, IfB.nyes rfl (hK x (.ok q) w9 ?_ (fun q' _ => ⟨by omega, by omega⟩) R3 f3)⟩
        unfold Stp cntD
        simp only [hn, bindD, if_neg h1, if_neg h2]
        exact ⟨trivial, trivial⟩

/-- A text, or why there is none. -/
def gtR (s : ByteArray) (a : Int) : ByteArray × Int × Int :=
  if (getR s a).2.2 ≠ 0 then (⟨#[]⟩, 0, (getR s a).2.2) else if (getR s a).1 < 0 ∨ 16 < (getR s a).1 then (⟨#[]⟩, 0, 202)
  else if (s.size : Int) - (getR s a).2.1 < (getR s a).1 then (⟨#[]⟩, 0, 200) else (s.extract (getR s a).2.1.toNat ((getR s a).2.1 + (getR s a).1).toNat, (getR s a).2.1 + (getR s a).1, 0)

theorem gettext_c (hs : s.size ≤ 32768) {a : Int} (h0 : 0 ≤ a) (h1 : a ≤ s.size) {K : ByteArray → Int → Int → World → Prop} (hK : K (gtR s a).1 (gtR s a).2.1 (gtR s a).2.2 w) : C101 s a 16 w K := by
  refine r_f101 _ _ _ _ _ (getref_c s (by omega) a ?_)
  have hm := numD_mono s a h0 h1
  unfold numD at hm
  unfold gtR at hK
  generalize getR s a = r at hm hK
  obtain ⟨x, q, c⟩ := r
  simp only at hm hK ⊢
  refine ⟨fun w' => w' = w ∧ c = 0 ∧ 0 ≤ x ∧ x ≤ 16 ∧ x ≤ (s.size : Int) - q ∧ a < q ∧ q ≤ s.size, ?_, ?_⟩
  · refine IfB.nd (fun hc => ?_) (fun hc => ?_)
    · subst hc
      rw [if_neg (by simp)] at hK hm
      have hm' : a < q ∧ q ≤ s.size := hm
      refine IfB.dec (fun h2 => ?_) (fun h2 => IfB.dec (fun h3 => ?_) (fun h3 => ⟨fit64 (by omega) (by omega), IfB.dec (fun h4 => ?_) (fun h4 => ⟨rfl, rfl, by omega, by omega, by omega, hm'⟩)⟩))
      · rw [if_pos (.inl h2)] at hK; exact hK
      · rw [if_pos (.inr h3)] at hK; exact hK
      · rw [if_neg (by omega), if_pos h4] at hK; exact hK
    · rw [if_pos hc] at hK; exact hK
  rintro - w6 ⟨rfl, rfl, h2, h3, h4, h5, h6⟩
  rw [if_neg (by simp), if_neg (by omega), if_neg (by omega)] at hK
  exact ⟨fit64 (by omega) (by omega), ⟨by omega, by omega, by omega⟩, fit64 (by omega) (by omega), hK⟩

theorem rname_c (R : RefW w rb s st) (hs : s.size ≤ 32768) {K : ByteArray → World → Prop} (hK : ∀ x st' w', Stp (nameD s) st x st' → RefW w' rb s st' → Fr [rb] w w' → K x w') : C76 (some ⟨rb, 0, none⟩) w K := by
  cases st with
  | error e =>
    obtain ⟨hne, q, B⟩ := R.bad e rfl
    exact r_f76 _ _ _ ⟨_, B.cell rfl, IfB.nno hne (hK _ (.error e) w rfl R (Fr.refl _ _))⟩
  | ok p =>
    obtain ⟨B, h0, h1⟩ := R.ok p rfl
    have hmn := nameD_mono s p h0 h1
    refine r_f76 _ _ _ ⟨_, B.cell rfl, IfB.nyes rfl ⟨fun a b c w' => a = (gtR s p).1 ∧ b = (gtR s p).2.1 ∧ c = (gtR s p).2.2 ∧ RefW w' rb s (.ok p) ∧ Fr [rb] w w', fun w7 d7 => ?_, ?_⟩⟩
    · have R7 := R.fr (d7.fr []) (by simp)
      obtain ⟨B7, _, _⟩ := R7.ok p rfl
      exact ⟨_, B7.cell rfl, _, B7.cell rfl, gettext_c hs h0 h1 ⟨rfl, rfl, rfl, R7, d7.fr _⟩⟩
    rintro - a b c w6 ⟨rfl, rfl, rfl, R6, f6⟩
    obtain ⟨B6, _, _⟩ := R6.ok p rfl
    have hrng := dec_rng p ((nats s).drop p.toNat) 0 0
    have hg : getR s p = dec p ((nats s).drop p.toNat) 0 0 := by unfold getR; rw [if_pos ⟨h0, h1⟩]
    -- the three ways
    have key : (gtR s p).2.2 = 200 ∧ nameD s p = .error (p, 1401) ∨ (gtR s p).2.2 = 201 ∧ nameD s p = .error (p, 1402) ∨ (gtR s p).2.2 = 202 ∧ nameD s p = .error (p, 1403) ∨
        (gtR s p).2.2 = 0 ∧ nameD s p = if nameOK (gtR s p).1 then .ok ((gtR s p).1, (gtR s p).2.1) else .error (p, 1403) := by
      unfold gtR nameD numD
      rw [hg]
      rcases hd : dec p ((nats s).drop p.toNat) 0 0 with ⟨x, q, c⟩
      simp only
      rcases hrng x q c hd with ⟨rfl, _, _⟩ | rfl | rfl
      · simp only [show ¬ ((0 : Int) = 200) by decide, show ¬ ((0 : Int) ≠ 0) by decide, if_false, bindD]
        by_cases h2 : x < 0 ∨ 16 < x
        · simp only [if_pos h2]; exact .inr (.inr (.inl ⟨trivial, trivial⟩))
        · simp only [if_neg h2]
          by_cases h3 : (s.size : Int) - q < x
          · simp only [if_pos h3]; exact .inl ⟨trivial, trivial⟩
          · simp only [if_neg h3]; exact .inr (.inr (.inr ⟨trivial, trivial⟩))
      · exact .inl ⟨by simp, by simp [bindD]⟩
      · exact .inr (.inl ⟨by simp, by simp [bindD]⟩)
    have bad : ∀ e w15, nameD s p = .error e → RefW w15 rb s (.error e) → Fr [rb] w w15 → ∃ (n26 : Int), World.cell? w15 ⟨rb, 2, none⟩ = some (.int .i64 n26) ∧ IfB (!decide ((n26 : Int) = 0)) (K (ByteArray.mk #[]) w15)
        (May w15 ⟨rb, 1, none⟩ ∧ ∀ w27 : World, SetC w15 w27 ⟨rb, 1, none⟩ (.int .i64 (gtR s p).2.1) → K (gtR s p).1 w27) := by
      intro e w15 he R15 f15
      obtain ⟨hne, q, B15⟩ := R15.bad e rfl
      refine ⟨_, B15.cell rfl, IfB.nno hne (hK _ (.error e) w15 ?_ R15 f15)⟩
      unfold Stp
      simp only [he]
    rcases key with ⟨hc, hn⟩ | ⟨hc, hn⟩ | ⟨hc, hn⟩ | ⟨hc, hn⟩
    · rw [hc]
      exact ⟨fun w' => RefW w' rb s (.error (p, 1401)) ∧ Fr [rb] w w', IfB.yes rfl ⟨_, B6.cell rfl, rfault_c R6 (by decide) fun w17 R17 f17 => ⟨R17, f6.more f17⟩⟩, fun _ w15 h => bad _ w15 hn h.1 h.2⟩
    · rw [hc]
      exact ⟨fun w' => RefW w' rb s (.error (p, 1402)) ∧ Fr [rb] w w', IfB.no (by decide) (IfB.yes rfl ⟨_, B6.cell rfl, rfault_c R6 (by decide) fun w17 R17 f17 => ⟨R17, f6.more f17⟩⟩), fun _ w15 h => bad _ w15 hn h.1 h.2⟩
    · rw [hc]
      exact ⟨fun w' => RefW w' rb s (.error (p, 1403)) ∧ Fr [rb] w w', IfB.no (by decide) (IfB.no (by decide) (IfB.nno (by decide) ⟨_, B6.cell rfl, rfault_c R6 (by decide) fun w17 R17 f17 => ⟨R17, f6.more f17⟩⟩)), fun _ w15 h => bad _ w15 hn h.1 h.2⟩
    · rw [hc]
      by_cases hok : nameOK (gtR s p).1 = true
      · rw [if_pos hok] at hn
        refine ⟨fun w' => w' = w6, IfB.no (by decide) (IfB.no (by decide) (IfB.nyes rfl (isnameR_c _ (ifb_nyes hok rfl)))), fun _ w15 h => ?_⟩
        subst h
        refine ⟨_, B6.cell rfl, IfB.nyes rfl ⟨B6.may (by simp), fun w27 s27 => ?_⟩⟩
        have B27 := s27.blk B6
        rw [hn] at hmn
        refine hK _ (.ok (gtR s p).2.1) w27 ?_ ⟨fun q hq => ?_, (fun _ h => by cases h)⟩ (f6.more (s27.fr (by simp)))
        · unfold Stp
          simp only [hn]
          exact ⟨trivial, trivial⟩
        · cases hq
          exact ⟨by simpa using B27, by have := hmn.1; omega, hmn.2⟩
      · rw [if_neg hok] at hn
        have hf : nameOK (gtR s p).1 = false := by simpa using hok
        exact ⟨fun w' => RefW w' rb s (.error (p, 1403)) ∧ Fr [rb] w w', IfB.no (by decide) (IfB.no (by decide) (IfB.nyes rfl (isnameR_c _ (ifb_nno hf ⟨_, B6.cell rfl, rfault_c R6 (by decide) fun w17 R17 f17 => ⟨R17, f6.more f17⟩⟩)))), fun _ w15 h => bad _ w15 hn h.1 h.2⟩

/-- A list's state: gathered so far, or a fault. -/
def LSt {α : Type} (R : (Nat → Prop) → Prop → World → List Value → α → Prop) (one : Int → Rs α) (n0 : Nat) (kk : Nat) (n : Int) (T : Rs (List α)) (w : World) (st : St) (a : Option Addr) (l c : Nat) (i : Int) : Prop :=
  0 ≤ i ∧ ((∃ acc p, st = .ok p ∧ i ≤ n ∧ l = acc.length ∧ (acc.length : Int) = i ∧ oSeq R n0 w kk a c acc ∧ (bindD (repD one (n - i).toNat p) fun ys q => (.ok (acc ++ ys, q) : Rs (List α))) = T) ∨ ∃ e, st = .error e ∧ T = .error e)

/-- What is to come, by the state that the count left. -/
def tgt {α : Type} (one : Int → Rs α) (n : Int) (st : St) : Rs (List α) := match st with
  | .ok q => repD one n.toNat q
  | .error e => .error e

theorem LSt.start {R : (Nat → Prop) → Prop → World → List Value → α → Prop} {one : Int → Rs α} {kk : Nat} {n : Int} (hn : ∀ q, st = .ok q → 0 ≤ n) : LSt R one w.heap.size kk n (tgt one n st) w st none 0 0 0 := by
  refine ⟨Int.le_refl _, ?_⟩
  cases st with
  | error e => exact .inr ⟨e, rfl, rfl⟩
  | ok q =>
    refine .inl ⟨[], q, rfl, hn q rfl, rfl, rfl, oSeq.nil _ _ _, ?_⟩
    rw [Int.sub_zero]
    exact bind_ok _

theorem LSt.step {R : (Nat → Prop) → Prop → World → List Value → α → Prop} {one : Int → Rs α} {n0 kk : Nat} {n : Int} {T : Rs (List α)} {p : Int} {a : Option Addr} {l c : Nat} {i : Int} (h : LSt R one n0 kk n T w (.ok p) a l c i) : 0 ≤ i ∧ i ≤ n ∧ ∃ acc, l = acc.length ∧ (acc.length : Int) = i ∧ oSeq R n0 w kk a c acc ∧ (bindD (repD one (n - i).toNat p) fun ys q => (.ok (acc ++ ys, q) : Rs (List α))) = T := by
  obtain ⟨h0, ⟨acc, p', hp, h1, hl, hi, hO, hT⟩ | ⟨e, he, _⟩⟩ := h
  · cases hp; exact ⟨h0, h1, acc, hl, hi, hO, hT⟩
  · cases he

/-- One more. -/
theorem LSt.app {R : (Nat → Prop) → Prop → World → List Value → α → Prop} (hR : Rel1 R) {one : Int → Rs α} {n0 kk : Nat} (hk : 0 < kk) {n : Int} {T : Rs (List α)} {p : Int} {a : Option Addr} {l c : Nat} {i : Int} (h : LSt R one n0 kk n T w (.ok p) a l c i) (hi : i < n) (hn : n ≤ 1000)
    {x : α} {st' : St} {w1 w2 : World} {row : List Value} {S : List Nat} (hst : Stp one (.ok p) x st') (f : Fr S w w1) (hS : ∀ b ∈ S, b < n0) (hn0 : n0 ≤ w.heap.size) (hx : ∀ q, st' = .ok q → R (fun b => w.heap.size ≤ b) True w1 row x) (hrow : row.length = kk) (hc : ∀ u ∈ row, isCell u = true)
    {t e Tt : TypeId} {ti : TypeInfo} {z : Value} (ht : Try.prog.underlying t = some (.slice e)) (hti : Try.prog.info? e = some ti) (hz : ti.zero = some z) (hs : ti.size = kk) (hzs : z.cells.size = kk) (hby : ti.bytes ≤ 1048576)
    {b : Nat} (nb : NewAt w1 w2 b row.toArray Tt) {K : Option Addr → Nat → Nat → World → Prop} (hK : ∀ a' l' c' w', LSt R one n0 kk n T w' st' a' l' c' (i + 1) → Fr (ablk a) w1 w' → (∀ b ∈ ablk a, n0 ≤ b) → K a' l' c' w') :
    RunF Try.prog (Builtin.append_ #[t, t] t #[.slice a l c, .slice (some ⟨b, 0, none⟩) 1 1]) w2 [.leaf .slice] K := by
  obtain ⟨h0, h1, acc, rfl, hl, O, hT⟩ := h.step
  obtain ⟨m, hm⟩ : ∃ m, (n - i).toNat = m + 1 := ⟨(n - i).toNat - 1, by omega⟩
  have hm2 : (n - (i + 1)).toNat = m := by omega
  rw [hm, repD_acc] at hT
  rcases hst.ok_iff with ⟨q, ho, rfl⟩ | ⟨er, ho, rfl⟩
  · rw [ho] at hT
    refine O.app hR hk hrow (hx q rfl) f hS hn0 ht hti hz hs hzs hc (by omega) hby nb fun a' c' w' O' f' => hK a' _ c' w' ⟨by omega, .inl ⟨acc ++ [x], q, rfl, by omega, by simp, by simp; omega, O', ?_⟩⟩ f' O.up
    rw [hm2]
    exact hT
  · rw [ho] at hT
    obtain ⟨up, rows, g1, _⟩ := O
    obtain ⟨rfl, rfl⟩ := nb
    refine append_new (m := 1) ht hti hz hs hzs hk (g1.fr f (fun b hb hb2 => by have := up b hb; have := hS b hb2; omega)) row.toArray Tt (by omega) (by simpa using hrow) (by simpa using hc) (by omega) hby t (fun a' c' w' q1 q2 q3 => hK a' _ c' w' ⟨by omega, .inr ⟨er, rfl, hT.symm⟩⟩ q2 up)

theorem LSt.done {R : (Nat → Prop) → Prop → World → List Value → α → Prop} (hR : Rel1 R) {one : Int → Rs α} {kk : Nat} (hk : 0 < kk) {n : Int} {st1 : St} {n0 : Nat} {a : Option Addr} {l c : Nat} {i : Int} (h : LSt R one n0 kk n (tgt one n st1) w st a l c i) (hend : i < n → ∃ e, st = .error e) :
    ∃ xs, Stp (fun q => repD one n.toNat q) st1 xs st ∧ ∀ q, st = .ok q → l = xs.length ∧ rSeq (fun b => n0 ≤ b) True w kk (R (fun b => n0 ≤ b) True w) a l xs := by
  obtain ⟨h0, ⟨acc, p, rfl, h1, rfl, hi, O, hT⟩ | ⟨e, rfl, hT⟩⟩ := h
  · have hni : ¬ i < n := fun h => by obtain ⟨e, he⟩ := hend h; cases he
    have e0 : (n - i).toNat = 0 := by omega
    rw [e0] at hT
    simp only [repD, bindD, List.append_nil] at hT
    refine ⟨acc, ?_, fun q _ => ⟨rfl, O.done hR hk⟩⟩
    unfold Stp
    cases st1 with
    | error e => simp only [tgt] at hT; cases hT
    | ok q => simp only [tgt] at hT; simp only [← hT]; exact ⟨trivial, trivial⟩
  · refine ⟨[], ?_, fun q h => by cases h⟩
    unfold Stp
    cases st1 with
    | error e => simp only [tgt] at hT; cases hT; rfl
    | ok q => simp only [tgt] at hT; simp only [hT]

theorem LSt.fr {R : (Nat → Prop) → Prop → World → List Value → α → Prop} (hR : Rel1 R) {one : Int → Rs α} {n0 kk : Nat} {n : Int} {T : Rs (List α)} {a : Option Addr} {l c : Nat} {i : Int} (h : LSt R one n0 kk n T w st a l c i) {S : List Nat} (f : Fr S w w') (hS : ∀ b ∈ S, b < n0) : LSt R one n0 kk n T w' st a l c i := by
  obtain ⟨h0, ⟨acc, p, hp, h1, hl, hi, O, hT⟩ | ⟨e, he, hT⟩⟩ := h
  · exact ⟨h0, .inl ⟨acc, p, hp, h1, hl, hi, O.fr hR f hS, hT⟩⟩
  · exact ⟨h0, .inr ⟨e, he, hT⟩⟩

theorem RefW.code (R : RefW w rb s st) : ∃ n8 : Int, World.cell? w ⟨rb, 2, none⟩ = some (.int .i64 n8) ∧ (n8 = 0 → ∃ p, st = .ok p) ∧ (n8 ≠ 0 → ∃ e, st = .error e) := by
  cases st with
  | ok p => exact ⟨0, (R.ok p rfl).1.cell rfl, fun _ => ⟨p, rfl⟩, fun h => absurd rfl h⟩
  | error e => obtain ⟨hne, q, hq⟩ := R.bad e rfl; exact ⟨e.2, hq.cell rfl, fun h => absurd h hne, fun _ => ⟨e, rfl⟩⟩

/-- A loop that gathers in a variable. -/
theorem loopA {R : (Nat → Prop) → Prop → World → List Value → α → Prop} (hR : Rel1 R) {one : Int → Rs α} {kk : Nat} (hk : 0 < kk)
    {t e T : TypeId} {ti : TypeInfo} {z : Value} (ht : Try.prog.underlying t = some (.slice e)) (hi : Try.prog.info? e = some ti) (hz : ti.zero = some z) (hs : ti.size = kk) (hzs : z.cells.size = kk) (hby : ti.bytes ≤ 1048576)
    (call : World → (List Value → World → Prop) → Prop) {w5 : World} {st1 : St}
    (hcall : ∀ w p F, Fr [rb] w5 w → RefW w rb s (.ok p) → (∀ x st' row w', Stp one (.ok p) x st' → RefW w' rb s st' → Fr [rb] w w' → (∀ q, st' = .ok q → R (fun b => w.heap.size ≤ b) True w' row x) → row.length = kk → (∀ u ∈ row, isCell u = true) → F row w') → call w F)
    {n : Int} (hn : ∀ q, st1 = .ok q → 0 ≤ n ∧ n ≤ 1000) (R5 : RefW w5 rb s st1) {K : Option Addr → Nat → Nat → World → Prop}
    (hK : ∀ xs st' a l c w', Stp (fun q => repD one n.toNat q) st1 xs st' → RefW w' rb s st' → Fr [rb] w5 w' → (∀ q, st' = .ok q → l = xs.length ∧ rSeq (fun b => w5.heap.size ≤ b) True w' kk (R (fun b => w5.heap.size ≤ b) True w') a l xs) → K a l c w') :
    ∃ (I : Option Addr → Nat → Nat → Int → World → Prop) (m : Option Addr → Nat → Nat → Int → World → Nat), I none 0 0 0 w5 ∧
      ∀ (_ : Env) (a8 : Option Addr) (l8 c8 : Nat) (n9 : Int) (w10 : World), I a8 l8 c8 n9 w10 →
      IfB (decide ((n9 : Int) < n)) (∃ n8 : Int, World.cell? w10 ⟨rb, 2, none⟩ = some (.int .i64 n8) ∧ IfB (decide ((n8 : Int) = 0)) (call w10 fun row w13 => ∀ (b14 : Nat) (w15 : World), NewAt w13 w15 b14 row.toArray T →
        RunF Try.prog (Builtin.append_ #[t, t] t #[.slice a8 l8 c8, .slice (some ⟨b14, 0, none⟩) 1 1]) w15 [.leaf .slice] fun (a16 : Option Addr) (l16 c16 : Nat) (w17 : World) =>
        Fit .i64 (n9 + 1) ∧ (I a16 l16 c16 (n9 + 1) w17 ∧ m a16 l16 c16 (n9 + 1) w17 < m a8 l8 c8 n9 w10)) (K a8 l8 c8 w10)) (K a8 l8 c8 w10) := by
  have hrb := R5.lt
  refine ⟨fun a l c j w' => ∃ st', RefW w' rb s st' ∧ Fr [rb] w5 w' ∧ (∀ p, st' = .ok p → ∃ q, st1 = .ok q) ∧ LSt R one w5.heap.size kk n (tgt one n st1) w' st' a l c j, fun _ _ _ j _ => (n - j).toNat, ⟨st1, R5, Fr.refl _ _, fun p h => ⟨p, h⟩, LSt.start fun q hq => (hn q hq).1⟩, ?_⟩
  rintro - a l c j w10 ⟨st', R10, f10, hst, L⟩
  have fin : (j < n → ∃ e, st' = .error e) → K a l c w10 := fun hend => by
    obtain ⟨xs, hS, hL⟩ := L.done hR hk hend
    exact hK xs st' a l c w10 hS R10 f10 hL
  refine IfB.dec (fun hlt => ?_) (fun hge => fin fun h => absurd h hge)
  obtain ⟨n8, hn8, hz8, hnz⟩ := R10.code
  refine ⟨n8, hn8, IfB.dec (fun h0 => ?_) (fun h0 => fin fun _ => hnz h0)⟩
  obtain ⟨p, rfl⟩ := hz8 h0
  obtain ⟨j0, j1, _⟩ := L.step
  obtain ⟨q1, rfl⟩ := hst p rfl
  have hnn := (hn q1 rfl).2
  refine hcall w10 p _ f10 R10 fun x st'' row w13 hS R13 f13 hx hrow hc b14 w15 n15 => ?_
  refine L.app hR hk hlt hnn hS f13 (by simpa using hrb) f10.size hx hrow hc ht hi hz hs hzs hby n15 fun a' l' c' w' L' f' up => ⟨fit64 (by omega) (by omega), ⟨st'', R13.fr f' (fun hb => by have := up rb hb; omega), (f10.more f13).trans f' fun b hb => .inr (up b hb), fun _ _ => ⟨q1, rfl⟩, L'⟩, by (try dsimp only); omega⟩

/-- Counts, then things. -/
theorem Stp.list {one : Int → Rs α} {most n : Int} {st1 st2 : St} {xs : List α} (h1 : Stp (cntD s most 1404) st n st1) (h2 : Stp (fun q => repD one n.toNat q) st1 xs st2) : Stp (listD s most one) st xs st2 :=
  (Stp.bind (g := fun n q => repD one n.toNat q) h1 h2).of_eq fun p => (listD_cnt s most one p).symm

theorem rints_c {most : Int} (R : RefW w rb s st) (hs : s.size ≤ 32768) (hm : most ≤ 1000) {K : Option Addr → Nat → Nat → World → Prop}
    (hK : ∀ xs st' a l c w', Stp (listD s most (numD s)) st xs st' → RefW w' rb s st' → Fr [rb] w w' → (∀ q, st' = .ok q → l = xs.length ∧ rSeq (fun b => w.heap.size ≤ b) True w' 1 RInt a l xs) → K a l c w') : C77 (some ⟨rb, 0, none⟩) most w K := by
  refine r_f77 _ _ _ _ (rcnt_c R hs (by decide) fun n st1 w2 S1 hn R2 f2 => ?_)
  refine loopA (R := fun _ _ _ vs x => RInt vs x) rel_plain (one := numD s) (kk := 1) (by decide) (t := 38) (e := 3) (T := 3) (ti := Try.t3) (by kernel_rfl) (by kernel_rfl) rfl rfl rfl (by decide) (fun w F => C51 (some ⟨rb, 0, none⟩) w fun n w2 => F [.int .i64 n] w2)
    (fun w3 p F f3 R3 hF => rnum_c R3 hs fun x st' w' hS R' f' => hF x st' _ w' hS R' f' (fun _ _ => rfl) rfl (by simp [isCell])) (fun q hq => by have := hn q hq; omega) R2 fun xs st' a l c w' hS R' f' hL => ?_
  exact hK xs st' a l c w' (S1.list hS) R' (f2.more f') fun q hq => ⟨(hL q hq).1, rel_seq1 (hL q hq).2 (sameU_refl _ _) (Nat.le_refl _) fun b hb _ => Nat.le_trans f2.size hb⟩

theorem rflds_c (R : RefW w rb s st) (hs : s.size ≤ 32768) {K : Option Addr → Nat → Nat → World → Prop}
    (hK : ∀ xs st' a l c w', Stp (listD s 24 (fldD s)) st xs st' → RefW w' rb s st' → Fr [rb] w w' → (∀ q, st' = .ok q → l = xs.length ∧ rSeq (fun b => w.heap.size ≤ b) True w' 2 RFld a l xs) → K a l c w') : C78 (some ⟨rb, 0, none⟩) w K := by
  refine r_f78 _ _ _ (rcnt_c R hs (by decide) fun n st1 w2 S1 hn R2 f2 => ?_)
  refine loopA (R := fun _ _ _ vs x => RFld vs x) rel_plain (one := fldD s) (kk := 2) (by decide) (t := 72) (e := 77) (T := 77) (ti := Try.t77) (by kernel_rfl) (by kernel_rfl) rfl rfl rfl (by decide)
    (fun w F => C76 (some ⟨rb, 0, none⟩) w fun s w2 => C51 (some ⟨rb, 0, none⟩) w2 fun n w3 => F [.string s, .int .i64 n] w3)
    (fun w3 p F f3 R3 hF => rname_c R3 hs fun x st' w4 S4 R4 f4 => rnum_c R4 hs fun y st'' w' S5 R' f' => hF ⟨x, y⟩ st'' _ w' (S4.bind (S5.bind (Stp.ret _ _))) R' (f4.more f') (fun _ _ => rfl) rfl (by simp [isCell])) (fun q hq => by have := hn q hq; omega) R2 fun xs st' a l c w' hS R' f' hL => ?_
  exact hK xs st' a l c w' (S1.list hS) R' (f2.more f') fun q hq => ⟨(hL q hq).1, rel_seq1 (hL q hq).2 (sameU_refl _ _) (Nat.le_refl _) fun b hb _ => Nat.le_trans f2.size hb⟩

theorem rinss_c (R : RefW w rb s st) (hs : s.size ≤ 32768) {K : Option Addr → Nat → Nat → World → Prop}
    (hK : ∀ xs st' a l c w', Stp (listD s 300 (insD s)) st xs st' → RefW w' rb s st' → Fr [rb] w w' → (∀ q, st' = .ok q → l = xs.length ∧ rSeq (fun b => w.heap.size ≤ b) True w' 3 RIns a l xs) → K a l c w') : C103 (some ⟨rb, 0, none⟩) w K := by
  refine r_f103 _ _ _ (rcnt_c R hs (by decide) fun n st1 w2 S1 hn R2 f2 => ?_)
  refine loopA (R := fun _ _ _ vs x => RIns vs x) rel_plain (one := insD s) (kk := 3) (by decide) (t := 78) (e := 87) (T := 87) (ti := Try.t87) (by kernel_rfl) (by kernel_rfl) rfl rfl rfl (by decide)
    (fun w F => C51 (some ⟨rb, 0, none⟩) w fun a w2 => C51 (some ⟨rb, 0, none⟩) w2 fun b w3 => C51 (some ⟨rb, 0, none⟩) w3 fun c w4 => F [.int .i64 a, .int .i64 b, .int .i64 c] w4)
    (fun w3 p F f3 R3 hF => rnum_c R3 hs fun x st' w4 S4 R4 f4 => rnum_c R4 hs fun y st'' w5 S5 R5 f5 => rnum_c R5 hs fun z st3 w' S6 R' f' => hF ⟨x, y, z⟩ st3 _ w' (S4.bind (S5.bind (S6.bind (Stp.ret _ _)))) R' ((f4.more f5).more f') (fun _ _ => rfl) rfl (by simp [isCell])) (fun q hq => by have := hn q hq; omega) R2 fun xs st' a l c w' hS R' f' hL => ?_
  exact hK xs st' a l c w' (S1.list hS) R' (f2.more f') fun q hq => ⟨(hL q hq).1, rel_seq1 (hL q hq).2 (sameU_refl _ _) (Nat.le_refl _) fun b hb _ => Nat.le_trans f2.size hb⟩
end
end Go.Proofs.Ytmlhdmnnijapjaa.V

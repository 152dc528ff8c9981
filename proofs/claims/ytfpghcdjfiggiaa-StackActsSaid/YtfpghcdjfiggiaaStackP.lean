/- The stack's plain law: what its words and its operations say of what stands in it. No condition. -/
import Derived.Test.YtfpghcdjfiggiaaBits
import Derived.Test.YtfpghcdjfiggiaaBase
namespace Go.Proofs.Ytfpghcdjfiggiaa.V
open Go

theorem or_low (t b : Nat) (ht : t ≤ 1099511627776) (hb : b < 65536) : bits .or .i64 ((t * 65536 : Nat) : Int) (b : Int) = ((t * 65536 + b : Nat) : Int) := by
  have key : (BitVec.ofInt 64 ((t * 65536 : Nat) : Int) ||| BitVec.ofInt 64 (b : Int)).toNat = t * 65536 + b := by
    rw [BitVec.toNat_or, BitVec.toNat_ofInt, BitVec.toNat_ofInt]
    have e64 : ((2 ^ 64 : Nat) : Int) = 18446744073709551616 := by decide
    have h1 : (((t * 65536 : Nat) : Int) % ((2 ^ 64 : Nat) : Int)).toNat = 2 ^ 16 * t := by rw [e64]; omega
    have h2 : ((b : Int) % ((2 ^ 64 : Nat) : Int)).toNat = b := by rw [e64]; omega
    rw [h1, h2, ← Nat.two_pow_add_eq_or_of_lt (i := 16) (by omega) t]
    omega
  show IntKind.wrap .i64 (((BitVec.ofInt 64 ((t * 65536 : Nat) : Int) ||| BitVec.ofInt 64 (b : Int)).toNat : Nat) : Int) = _
  rw [key, wrap_small (by omega)]

theorem next_top {top bel : Int} (h0 : 0 ≤ top) (h1 : top / 65536 ≤ 1000000) (h2 : 0 ≤ bel) (h3 : bel < 65536) : bits .or .i64 (IntKind.wrap .i64 ((top / 2 ^ Int.toNat 16 + 1) * 2 ^ Int.toNat 16)) bel = (top / 65536 + 1) * 65536 + bel := by
  have e : (2 : Int) ^ Int.toNat 16 = 65536 := by decide
  rw [e]
  have e1 : (top / 65536 + 1) * 65536 = (((top / 65536 + 1).toNat * 65536 : Nat) : Int) := by omega
  have e2 : bel = ((bel.toNat : Nat) : Int) := by omega
  rw [e1, wrap_small (by omega)]
  conv => lhs; rw [e2]
  rw [or_low _ _ (by omega) (by omega)]
  omega

def wd (ws : List Int) (base j : Int) : Int := ws.getD (base + j).toNat 0

theorem wd_set {ws : List Int} {base i x : Int} (h0 : 0 ≤ base) (h1 : 0 ≤ i) (h2 : base + i < ws.length) {j : Int} (hj : 0 ≤ j) : wd (ws.set (base + i).toNat x) base j = if j = i then x else wd ws base j := by
  unfold wd
  rw [getI_set' _ _ _ _ (by omega)]
  by_cases e : j = i
  · subst e; simp
  · rw [if_neg e, if_neg (by omega)]

def Chain (ws : List Int) (base cap : Int) : Int → List Int → Prop
  | a, [] => a = 0
  | a, v :: vs => a = v + 1 ∧ 0 ≤ v ∧ v < cap ∧ Chain ws base cap (wd ws base (v + 1)) vs

theorem chain_congr {ws ws' : List Int} {base cap : Int} : ∀ {items : List Int} {a : Int}, (∀ v ∈ items, wd ws' base (v + 1) = wd ws base (v + 1)) → Chain ws base cap a items → Chain ws' base cap a items
  | [], a, _, h => h
  | v :: vs, a, he, h => by
    refine ⟨h.1, h.2.1, h.2.2.1, ?_⟩
    rw [he v (by simp)]
    exact chain_congr (fun u hu => he u (by simp [hu])) h.2.2.2

theorem chain_mem {ws : List Int} {base cap : Int} : ∀ {items : List Int} {a : Int}, Chain ws base cap a items → ∀ v ∈ items, 0 ≤ v ∧ v < cap
  | [], _, _, v, hv => by simp at hv
  | u :: us, a, h, v, hv => by
    rcases List.mem_cons.1 hv with e | hv
    · subst e; exact ⟨h.2.1, h.2.2.1⟩
    · exact chain_mem h.2.2.2 v hv

structure OpR where
  op : Int
  v : Int
  ph : Int
  top : Int
  bel : Int

structure OpOK (ws : List Int) (base cap : Int) (items : List Int) (r : OpR) : Prop where
  op : r.op = 0 ∨ r.op = 1
  ph : r.ph = 0 ∨ r.ph = 1 ∨ r.ph = 2
  push : r.op = 0 → 0 ≤ r.v ∧ r.v < cap ∧ r.v ∉ items
  top : r.ph ≠ 0 → 0 ≤ r.top ∧ r.top % 65536 ≤ cap ∧ (r.top = wd ws base 0 ∨ r.top / 65536 < wd ws base 0 / 65536) ∧ (r.op = 1 → r.top % 65536 ≠ 0)
  b0 : r.ph = 2 → r.op = 0 → r.bel = r.v + 1 ∧ (r.top = wd ws base 0 → wd ws base (r.v + 1) = r.top % 65536)
  b1 : r.ph = 2 → r.op = 1 → 0 ≤ r.bel ∧ r.bel ≤ cap ∧ (r.top = wd ws base 0 → r.bel = wd ws base (r.top % 65536))

def upd {α : Type} (f : Nat → α) (i : Nat) (x : α) : Nat → α := fun j => if j = i then x else f j
theorem upd_self {α : Type} (f : Nat → α) (i : Nat) (x : α) : upd f i x i = x := by simp [upd]
theorem upd_ne {α : Type} (f : Nat → α) {i j : Nat} (x : α) (h : j ≠ i) : upd f i x j = f j := by simp [upd, h]

structure LInv (base cap : Int) (op : Nat → Option OpR) (ws items : List Int) (n : Int) : Prop where
  len : 0 ≤ base ∧ 1 ≤ cap ∧ cap ≤ 1000 ∧ base + (2 * cap + 8) ≤ ws.length ∧ ws.length ≤ 65536
  w0 : 0 ≤ wd ws base 0 ∧ wd ws base 0 / 65536 ≤ n ∧ wd ws base 0 % 65536 ≤ cap
  ln : ∀ j, 1 ≤ j → j ≤ cap → 0 ≤ wd ws base j ∧ wd ws base j ≤ cap
  ch : Chain ws base cap (wd ws base 0 % 65536) items
  nd : items.Nodup
  ops : ∀ i r, op i = some r → OpOK ws base cap items r
  ds : ∀ i j r s, op i = some r → op j = some s → r.op = 0 → s.op = 0 → r.v = s.v → i = j

section
variable {base cap n : Int} {op : Nat → Option OpR} {ws items : List Int} {i : Nat} {r : OpR}

theorem LInv.more (h : LInv base cap op ws items n) : LInv base cap op ws items (n + 1) := ⟨h.len, by have := h.w0; omega, h.ln, h.ch, h.nd, h.ops, h.ds⟩

/-- An operation is another, with the same value. -/
theorem LInv.upd (h : LInv base cap op ws items n) (hi : op i = some r) {r' : OpR} (ho : r'.op = r.op) (hv : r'.v = r.v) (ok : OpOK ws base cap items r') : LInv base cap (upd op i (some r')) ws items n := by
  refine ⟨h.len, h.w0, h.ln, h.ch, h.nd, fun j s hs => ?_, fun j k s t hs ht h1 h2 h3 => ?_⟩
  · by_cases e : j = i
    · subst e; rw [upd_self] at hs; cases hs; exact ok
    · rw [upd_ne _ _ e] at hs; exact h.ops j s hs
  · by_cases e : j = i
    · subst e
      rw [upd_self] at hs; cases hs
      by_cases e2 : k = j
      · exact e2.symm
      · rw [upd_ne _ _ e2] at ht
        exact h.ds j k r t hi ht (by rw [← ho]; exact h1) h2 (by rw [← hv]; exact h3)
    · rw [upd_ne _ _ e] at hs
      by_cases e2 : k = i
      · subst e2
        rw [upd_self] at ht; cases ht
        exact h.ds j k s r hs hi h1 (by rw [← ho]; exact h2) (by rw [← hv]; exact h3)
      · rw [upd_ne _ _ e2] at ht
        exact h.ds j k s t hs ht h1 h2 h3

theorem LInv.drop (h : LInv base cap op ws items n) (i : Nat) : LInv base cap (V.upd op i none) ws items n := by
  have sub : ∀ j s, V.upd op i none j = some s → op j = some s := fun j s hs => by
    by_cases e : j = i
    · subst e; rw [upd_self] at hs; cases hs
    · rwa [upd_ne _ _ e] at hs
  exact ⟨h.len, h.w0, h.ln, h.ch, h.nd, fun j s hs => h.ops j s (sub j s hs), fun j k s t hs ht => h.ds j k s t (sub j s hs) (sub k t ht)⟩

theorem LInv.begin (h : LInv base cap op ws items n) (_hi : op i = none) {o v : Int} (ho : o = 0 ∨ o = 1) (hp : o = 0 → 0 ≤ v ∧ v < cap ∧ v ∉ items ∧ ∀ j s, op j = some s → s.op = 0 → s.v ≠ v) :
    LInv base cap (V.upd op i (some ⟨o, v, 0, 0, 0⟩)) ws items n := by
  refine ⟨h.len, h.w0, h.ln, h.ch, h.nd, fun j s hs => ?_, fun j k s t hs ht h1 h2 h3 => ?_⟩
  · by_cases e : j = i
    · subst e
      rw [upd_self] at hs; cases hs
      exact ⟨ho, .inl rfl, fun h0 => ⟨(hp h0).1, (hp h0).2.1, (hp h0).2.2.1⟩, fun h => absurd rfl h, fun h => by simp at h, fun h => by simp at h⟩
    · rw [upd_ne _ _ e] at hs; exact h.ops j s hs
  · by_cases e : j = i
    · subst e
      rw [upd_self] at hs; cases hs
      by_cases e2 : k = j
      · exact e2.symm
      · rw [upd_ne _ _ e2] at ht
        exact absurd h3.symm ((hp h1).2.2.2 k t ht h2)
    · rw [upd_ne _ _ e] at hs
      by_cases e2 : k = i
      · subst e2
        rw [upd_self] at ht; cases ht
        exact absurd h3 ((hp h2).2.2.2 j s hs h1)
      · rw [upd_ne _ _ e2] at ht
        exact h.ds j k s t hs ht h1 h2 h3

theorem LInv.p0 (h : LInv base cap op ws items n) (hi : op i = some r) (_hp : r.ph = 0) (hpop : r.op = 1 → wd ws base 0 % 65536 ≠ 0) : LInv base cap (V.upd op i (some { r with top := wd ws base 0, ph := 1 })) ws items n := by
  have ok := h.ops i r hi
  have w0 := h.w0
  exact h.upd hi rfl rfl ⟨ok.op, .inr (.inl rfl), ok.push, fun _ => ⟨w0.1, w0.2.2, .inl rfl, hpop⟩, fun h => by simp at h, fun h => by simp at h⟩

theorem LInv.p1pop (h : LInv base cap op ws items n) (hi : op i = some r) (hp : r.ph = 1) (ho : r.op = 1) : LInv base cap (V.upd op i (some { r with bel := wd ws base (r.top % 65536), ph := 2 })) ws items n := by
  have ok := h.ops i r hi
  have ht := ok.top (by omega)
  have hl := h.ln (r.top % 65536) (by have := ht.2.2.2 ho; omega) ht.2.1
  exact h.upd hi rfl rfl ⟨ok.op, .inr (.inr rfl), ok.push, fun _ => ht, fun _ h2 => by have h2 : r.op = 0 := h2; omega, fun _ _ => ⟨hl.1, hl.2, fun _ => rfl⟩⟩

theorem LInv.p2fail (h : LInv base cap op ws items n) (hi : op i = some r) : LInv base cap (V.upd op i (some { r with ph := 0 })) ws items n := by
  have ok := h.ops i r hi
  exact h.upd hi rfl rfl ⟨ok.op, .inl rfl, ok.push, fun h => absurd rfl h, fun h => by simp at h, fun h => by simp at h⟩

theorem chain_head (h : LInv base cap op ws items n) (h0 : wd ws base 0 % 65536 ≠ 0) : ∃ x rest, items = x :: rest ∧ wd ws base 0 % 65536 = x + 1 ∧ 0 ≤ x ∧ x < cap ∧ Chain ws base cap (wd ws base (x + 1)) rest := by
  have hc := h.ch
  cases items with
  | nil => exact absurd hc h0
  | cons x rest => exact ⟨x, rest, rfl, hc.1, hc.2.1, hc.2.2.1, hc.2.2.2⟩

theorem LInv.p1push (h : LInv base cap op ws items n) (hi : op i = some r) (hp : r.ph = 1) (ho : r.op = 0) :
    LInv base cap (V.upd op i (some { r with bel := r.v + 1, ph := 2 })) (ws.set (base + (r.v + 1)).toNat (r.top % 65536)) items n := by
  have ok := h.ops i r hi
  have ht := ok.top (by omega)
  have hv := ok.push ho
  have hl := h.len
  have st : ∀ j, 0 ≤ j → wd (ws.set (base + (r.v + 1)).toNat (r.top % 65536)) base j = if j = r.v + 1 then r.top % 65536 else wd ws base j := fun j hj => wd_set hl.1 (by omega) (by omega) hj
  have s0 : wd (ws.set (base + (r.v + 1)).toNat (r.top % 65536)) base 0 = wd ws base 0 := by rw [st 0 (by omega), if_neg (by omega)]
  have cm := chain_mem h.ch
  refine ⟨by simpa using hl, by rw [s0]; exact h.w0, fun j h1 h2 => ?_, ?_, h.nd, fun j s hs => ?_, fun j k s t hs ht h1 h2 h3 => ?_⟩
  · rw [st j (by omega)]
    split
    · exact ⟨by omega, ht.2.1⟩
    · exact h.ln j h1 h2
  · rw [s0]
    refine chain_congr (fun u hu => ?_) h.ch
    have := cm u hu
    rw [st _ (by omega), if_neg (by intro e; have : u = r.v := by omega
                                    subst this; exact hv.2.2 hu)]
  · by_cases e : j = i
    · subst e
      rw [upd_self] at hs; cases hs
      refine ⟨ok.op, .inr (.inr rfl), ok.push, fun _ => ?_, fun _ _ => ⟨rfl, fun _ => ?_⟩, fun _ h2 => by have h2 : r.op = 1 := h2; omega⟩
      · rw [s0]; exact ht
      · rw [st _ (by show 0 ≤ r.v + 1; omega), if_pos rfl]
    · rw [upd_ne _ _ e] at hs
      have oks := h.ops j s hs
      refine ⟨oks.op, oks.ph, oks.push, fun h1 => by rw [s0]; exact oks.top h1, fun h1 h2 => ⟨(oks.b0 h1 h2).1, fun h3 => ?_⟩, fun h1 h2 => ⟨(oks.b1 h1 h2).1, (oks.b1 h1 h2).2.1, fun h3 => ?_⟩⟩
      · rw [s0] at h3
        have hsv := oks.push h2
        rw [st _ (by omega), if_neg (fun e2 => e (h.ds j i s r hs hi h2 ho (by omega)))]
        exact (oks.b0 h1 h2).2 h3
      · rw [s0] at h3
        have hst := oks.top (by omega)
        have h4 := hst.2.2.2 h2
        rw [h3] at h4
        obtain ⟨x, rest, he, hx, _⟩ := chain_head h h4
        rw [st _ (by omega), if_neg (by
          intro e2
          rw [h3] at e2
          have : x = r.v := by omega
          exact hv.2.2 (by rw [he, this]; simp))]
        exact (oks.b1 h1 h2).2.2 h3
  · have sub : ∀ j s, V.upd op i (some { r with bel := r.v + 1, ph := 2 }) j = some s → ∃ s', op j = some s' ∧ s'.op = s.op ∧ s'.v = s.v := fun j s hs => by
      by_cases e : j = i
      · subst e; rw [upd_self] at hs; cases hs; exact ⟨r, hi, rfl, rfl⟩
      · rw [upd_ne _ _ e] at hs; exact ⟨s, hs, rfl, rfl⟩
    obtain ⟨s', a1, a2, a3⟩ := sub j s hs
    obtain ⟨t', b1, b2, b3⟩ := sub k t ht
    exact h.ds j k s' t' a1 b1 (by rw [a2]; exact h1) (by rw [b2]; exact h2) (by rw [a3, b3]; exact h3)

/-- The top word is swapped: what the other operations know of it is past. -/
theorem LInv.p2 (h : LInv base cap op ws items n) (i : Nat) {bel : Int} (hb0 : 0 ≤ bel) (hb1 : bel ≤ cap) {items' : List Int} (hc : Chain ws base cap bel items') (hn : items'.Nodup)
    (hsub : ∀ j s, j ≠ i → op j = some s → s.op = 0 → s.v ∉ items') :
    LInv base cap (V.upd op i none) (ws.set (base + 0).toNat ((wd ws base 0 / 65536 + 1) * 65536 + bel)) items' (n + 1) := by
  have hl := h.len
  have w0 := h.w0
  have st : ∀ j, 0 ≤ j → wd (ws.set (base + 0).toNat ((wd ws base 0 / 65536 + 1) * 65536 + bel)) base j = if j = 0 then (wd ws base 0 / 65536 + 1) * 65536 + bel else wd ws base j := fun j hj => wd_set hl.1 (by omega) (by omega) hj
  have s0 := st 0 (by omega)
  rw [if_pos rfl] at s0
  have e1 : ((wd ws base 0 / 65536 + 1) * 65536 + bel) / 65536 = wd ws base 0 / 65536 + 1 := by omega
  have e2 : ((wd ws base 0 / 65536 + 1) * 65536 + bel) % 65536 = bel := by omega
  have cm := chain_mem hc
  have sub : ∀ j s, V.upd op i none j = some s → j ≠ i ∧ op j = some s := fun j s hs => by
    by_cases e : j = i
    · subst e; rw [upd_self] at hs; cases hs
    · rw [upd_ne _ _ e] at hs; exact ⟨e, hs⟩
  refine ⟨by simpa using hl, by rw [s0, e1, e2]; omega, fun j h1 h2 => ?_, ?_, hn, fun j s hs => ?_, fun j k s t hs ht => h.ds j k s t (sub j s hs).2 (sub k t ht).2⟩
  · rw [st j (by omega), if_neg (by omega)]; exact h.ln j h1 h2
  · rw [s0, e2]
    refine chain_congr (fun u hu => ?_) hc
    have := cm u hu
    rw [st _ (by omega), if_neg (by omega)]
  · obtain ⟨hne, hs⟩ := sub j s hs
    have oks := h.ops j s hs
    have past : s.ph ≠ 0 → s.top / 65536 < wd ws base 0 / 65536 + 1 := fun h1 => by
      rcases (oks.top h1).2.2.1 with e | e
      · rw [e]; omega
      · omega
    have neq : s.ph ≠ 0 → s.top ≠ (wd ws base 0 / 65536 + 1) * 65536 + bel := fun h1 e => by
      have := past h1
      rw [e, e1] at this
      omega
    refine ⟨oks.op, oks.ph, fun h1 => ⟨(oks.push h1).1, (oks.push h1).2.1, hsub j s hne hs h1⟩, fun h1 => ⟨(oks.top h1).1, (oks.top h1).2.1, .inr (by rw [s0, e1]; exact past h1), (oks.top h1).2.2.2⟩,
      fun h1 h2 => ⟨(oks.b0 h1 h2).1, fun h3 => absurd (by rw [s0] at h3; exact h3) (neq (by omega))⟩, fun h1 h2 => ⟨(oks.b1 h1 h2).1, (oks.b1 h1 h2).2.1, fun h3 => absurd (by rw [s0] at h3; exact h3) (neq (by omega))⟩⟩

theorem LInv.p2push (h : LInv base cap op ws items n) (hi : op i = some r) (hp : r.ph = 2) (ho : r.op = 0) (ht : r.top = wd ws base 0) :
    LInv base cap (V.upd op i none) (ws.set (base + 0).toNat ((wd ws base 0 / 65536 + 1) * 65536 + r.bel)) (r.v :: items) (n + 1) := by
  have ok := h.ops i r hi
  have hv := ok.push ho
  have hb := ok.b0 hp ho
  refine h.p2 i (by omega) (by omega) ⟨hb.1, hv.1, hv.2.1, ?_⟩ (List.nodup_cons.2 ⟨hv.2.2, h.nd⟩) (fun j s hne hs h1 hm => ?_)
  · rw [hb.2 ht, ht]; exact h.ch
  · rcases List.mem_cons.1 hm with e | hm
    · exact hne (h.ds j i s r hs hi h1 ho e)
    · exact ((h.ops j s hs).push h1).2.2 hm

theorem LInv.p2pop (h : LInv base cap op ws items n) (hi : op i = some r) (hp : r.ph = 2) (ho : r.op = 1) (ht : r.top = wd ws base 0) :
    ∃ rest, items = (r.top % 65536 - 1) :: rest ∧ LInv base cap (V.upd op i none) (ws.set (base + 0).toNat ((wd ws base 0 / 65536 + 1) * 65536 + r.bel)) rest (n + 1) := by
  have ok := h.ops i r hi
  have hb := ok.b1 hp ho
  have h0 := (ok.top (by omega)).2.2.2 ho
  rw [ht] at h0
  obtain ⟨x, rest, he, hx, hx0, hx1, hc⟩ := chain_head h h0
  refine ⟨rest, by rw [he, ht]; congr; omega, ?_⟩
  have nd := h.nd
  rw [he, List.nodup_cons] at nd
  refine h.p2 i hb.1 hb.2.1 ?_ nd.2 (fun j s _ hs h1 hm => ((h.ops j s hs).push h1).2.2 (by rw [he]; simp [hm]))
  rw [hb.2.2 ht, ht, hx]
  exact hc
end

/-- Words that are not the stack's own are as they were. -/
def Keeps (base cap : Int) (ws ws' : List Int) : Prop := ws'.length = ws.length ∧ ∀ j : Int, 0 ≤ j → (j < base ∨ base + cap < j) → ws'.getD j.toNat 0 = ws.getD j.toNat 0
theorem Keeps.refl (base cap : Int) (ws : List Int) : Keeps base cap ws ws := ⟨rfl, fun _ _ _ => rfl⟩
theorem Keeps.trans {base cap : Int} {ws ws' ws'' : List Int} (h : Keeps base cap ws ws') (h' : Keeps base cap ws' ws'') : Keeps base cap ws ws'' := ⟨h'.1.trans h.1, fun j h0 h1 => (h'.2 j h0 h1).trans (h.2 j h0 h1)⟩
theorem Keeps.set {base cap i x : Int} {ws : List Int} (h0 : 0 ≤ base) (h1 : 0 ≤ i) (h2 : i ≤ cap) (h3 : base + cap < ws.length) : Keeps base cap ws (ws.set (base + i).toNat x) :=
  ⟨by simp, fun j j0 j1 => by rw [getI_set' _ _ _ _ (by omega), if_neg (by omega)]⟩

end Go.Proofs.Ytfpghcdjfiggiaa.V

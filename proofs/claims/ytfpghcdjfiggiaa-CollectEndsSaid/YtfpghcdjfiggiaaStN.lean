/- What a step of an owner's own blocks turns. No condition. -/
import Derived.Test.YtfpghcdjfiggiaaTag
import Derived.Test.YtfpghcdjfiggiaaRec
import Derived.Test.YtfpghcdjfiggiaaMapRange
import Derived.Test.YtfpghcdjfiggiaaInts
namespace Go.Proofs.Ytfpghcdjfiggiaa.V
open Go Go.RowKit

/-- A thread's roots. -/
structure RT where
  a : Option Addr
  c : Nat
  rs : List Int
def encRT : Enc RT := ⟨1, fun t => [.slice t.a t.rs.length t.c], fun _ => rfl, by decide⟩

/-- What a step turns: blocks of tags below n. -/
structure StN (n : Nat) (w w' : World) (own own' : Nat → Nat) : Prop where
  fr : ∃ S, Fr S w w' ∧ ∀ b ∈ S, own b < n
  ag : ∀ b, b < w.heap.size → own' b = own b

theorem StN.still {n : Nat} {w w' : World} {own : Nat → Nat} (f : ∀ S, Fr S w w') : StN n w w' own own := ⟨⟨[], f [], by simp⟩, fun _ _ => rfl⟩
theorem StN.up {n m : Nat} {w w' : World} {own own' : Nat → Nat} (s : StN n w w' own own') (h : n ≤ m) : StN m w w' own own' := by
  obtain ⟨⟨S, f, q⟩, a⟩ := s
  exact ⟨⟨S, f, fun b hb => Nat.lt_of_lt_of_le (q b hb) h⟩, a⟩
theorem StN.size {n : Nat} {w w' : World} {own own' : Nat → Nat} (s : StN n w w' own own') : w.heap.size ≤ w'.heap.size := by obtain ⟨⟨S, f, _⟩, _⟩ := s; exact f.size
theorem StN.trans {n : Nat} {w w1 w2 : World} {own own1 own2 : Nat → Nat} (s : StN n w w1 own own1) (s' : StN n w1 w2 own1 own2) : StN n w w2 own own2 := by
  obtain ⟨⟨S, f, hS⟩, a⟩ := s
  obtain ⟨⟨S', f', hS'⟩, a'⟩ := s'
  refine ⟨⟨S ++ S'.filter (· < w.heap.size), ?_, fun b hb => ?_⟩, fun b hb => by rw [a' b (Nat.lt_of_lt_of_le hb f.size), a b hb]⟩
  · refine (f.mono (fun k hk => .inl (by simp [hk]))).trans f' (fun k hk => ?_)
    by_cases h : k < w.heap.size
    · exact .inl (by simp [hk, h])
    · exact .inr (by omega)
  · rcases List.mem_append.1 hb with h | h
    · exact hS b h
    · obtain ⟨h1, h2⟩ := List.mem_filter.1 h
      simp at h2
      have := hS' b h1
      rw [a b h2] at this
      exact this
theorem StN.of {n : Nat} {w w' : World} {own : Nat → Nat} {S : List Nat} {k : Nat} (f : Fr S w w') (t : Tag own S k) (hk : k < n) (j : Nat) : StN n w w' own (ext own w.heap.size j) :=
  ⟨⟨S, f, fun b hb => by rw [t b hb]; exact hk⟩, fun b hb => by unfold ext; rw [if_pos hb]⟩

/-- Blocks of other tags are as they were. -/
theorem StN.tag {n k : Nat} {w w' : World} {own own' : Nat → Nat} {F : List Nat} (s : StN n w w' own own') (t : Tag own F k) (l : Low F w.heap.size) : Tag own' F k := fun b hb => by rw [s.ag b (l b hb)]; exact t b hb
theorem StN.blk {n k b : Nat} {w w' : World} {own own' : Nat → Nat} {cs : List Value} (s : StN n w w' own own') (h : Blk w b cs) (t : Tag own [b] k) (hk : n ≤ k) : Blk w' b cs ∧ Tag own' [b] k := by
  have hl := h.lt
  refine ⟨?_, s.tag t (by intro c hc; simp at hc; subst hc; exact hl)⟩
  obtain ⟨⟨S, f, hS⟩, ag⟩ := s
  exact h.fr f (fun hb => by have := hS b hb; have := t.one; omega)
theorem StN.mi {n k b clk : Nat} {w w' : World} {own own' : Nat → Nat} {m : List Ent} (s : StN n w w' own own') (h : MI w b m clk) (t : Tag own [b] k) (hk : n ≤ k) : MI w' b m clk ∧ Tag own' [b] k := by
  have hl := heap_lt h.heap
  refine ⟨?_, s.tag t (by intro c hc; simp at hc; subst hc; exact hl)⟩
  obtain ⟨⟨S, f, hS⟩, ag⟩ := s
  exact h.fr f (fun hb => by have := hS b hb; have := t.one; omega)

/-- The caller's own blocks: a slice of ints of tag k. -/
structure Sd (w : World) (own : Nat → Nat) (a : Option Addr) (c k : Nat) (xs : List Int) : Prop where
  si : SI w a c xs
  tg : Tag own (ablk a) k
theorem Sd.nil (w : World) (own : Nat → Nat) (k : Nat) : Sd w own none 0 k [] := ⟨SI.nil w, by simp [Tag, ablk]⟩
theorem Sd.step {n : Nat} {w w' : World} {own own' : Nat → Nat} {a : Option Addr} {c k : Nat} {xs : List Int} (h : Sd w own a c k xs) (s : StN n w w' own own') (hk : n ≤ k) : Sd w' own' a c k xs := by
  have t := s.tag h.tg h.si.low
  obtain ⟨⟨S, f, hS⟩, ag⟩ := s
  exact ⟨h.si.fr f (fun b hb hb2 => by have := hS b hb2; have := h.tg b hb; omega), t⟩
/-- Blocks of tag j turn. -/
theorem Sd.other {w w' : World} {own : Nat → Nat} {a : Option Addr} {c k j : Nat} {xs : List Int} {S : List Nat} (h : Sd w own a c k xs) (f : Fr S w w') (t : Tag own S j) (hk : k ≠ j) (i : Nat) : Sd w' (ext own w.heap.size i) a c k xs :=
  ⟨h.si.fr f (h.tg.apart t hk), h.tg.keep h.si.low i⟩

/-- The call's own world: what was there before it has tag 2000. -/
structure Bs (W w : World) (own : Nat → Nat) : Prop where
  fr : Fr [] W w
  tg : ∀ b, b < W.heap.size → own b = 2000
theorem Bs.step {n : Nat} {W w w' : World} {own own' : Nat → Nat} (b : Bs W w own) (s : StN n w w' own own') (hn : n ≤ 2000) : Bs W w' own' := by
  obtain ⟨⟨S, f, hS⟩, ag⟩ := s
  refine ⟨b.fr.trans f (fun k hk => .inr ?_), fun k hk => by rw [ag k (Nat.lt_of_lt_of_le hk b.fr.size)]; exact b.tg k hk⟩
  have := hS k hk
  rcases Nat.lt_or_ge k W.heap.size with h | h
  · rw [b.tg k h] at this; omega
  · exact h

theorem StN.fresh {n : Nat} {w w1 w2 : World} {own own1 own2 : Nat → Nat} {S : List Nat} (s : StN n w w1 own own1) (f : Fr S w1 w2) (hS : ∀ b ∈ S, w.heap.size ≤ b) (ag : ∀ b, b < w1.heap.size → own2 b = own1 b) : StN n w w2 own own2 := by
  have z := s.size
  obtain ⟨⟨S0, f0, h0⟩, a0⟩ := s
  exact ⟨⟨S0, f0.trans f (fun k hk => .inr (hS k hk)), h0⟩, fun b hb => by rw [ag b (Nat.lt_of_lt_of_le hb z), a0 b hb]⟩
theorem ext_ag (own : Nat → Nat) (n k : Nat) : ∀ b, b < n → ext own n k b = own b := fun b hb => by unfold ext; rw [if_pos hb]

/-- A slice of ints of one's own grows. -/
theorem Sd.app {w : World} {own : Nat → Nat} {a : Option Addr} {c k : Nat} {xs : List Int} (h : Sd w own a c k xs) {n : Int} {b : Nat} {w1 : World} (n1 : NewAt w w1 b #[.int .i64 n] 3) (h63 : xs.length + 1 ≤ 1048576) {K : Option Addr → Nat → Nat → World → Prop}
    (hK : ∀ a' c' w', Sd w' (ext own w.heap.size k) a' c' k (xs ++ [n]) → Fr (ablk a) w w' → Grw (ablk a) (ablk a') w.heap.size → K a' (xs.length + 1) c' w') :
    RunF Try.prog (Builtin.append_ #[42, 42] 42 #[.slice a xs.length c, .slice (some ⟨b, 0, none⟩) 1 1]) w1 [.leaf .slice] K :=
  app_int h.si n1 h63 fun a' c' w' S f g => hK a' c' w' ⟨S, h.tg.grow h.si.low g⟩ f g
end Go.Proofs.Ytfpghcdjfiggiaa.V

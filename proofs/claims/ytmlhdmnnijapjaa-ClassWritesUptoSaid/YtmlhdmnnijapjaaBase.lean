/- What all walks use. No condition. -/
import Derived.Test.YtmlhdmnnijapjaaMem
import Derived.Test.YtmlhdmnnijapjaaBits
import Derived.Test.YtmlhdmnnijapjaaGBase
namespace Go.Proofs.Ytmlhdmnnijapjaa.V
open Go Go.RowKit

theorem ifb_not {b : Bool} {A B : Prop} (h : IfB b B A) : IfB (!b) A B := by
  cases b <;> exact h
theorem ifb_t {A B : Prop} (h : A) : IfB true A B := h
theorem ifb_f {A B : Prop} (h : B) : IfB false A B := h

theorem num_c {n : Int} {w : World} {K : Int → World → Prop} (h : K n w) : C18 n w K := r_f18 n w K h

theorem IfB.nd {p : Prop} [Decidable p] {A B : Prop} (h1 : p → B) (h2 : ¬p → A) : IfB (!decide p) A B := ifb_not (IfB.dec h1 h2)
theorem IfB.nyes {p : Prop} [Decidable p] {A B : Prop} (h : p) (h1 : B) : IfB (!decide p) A B := ifb_not (IfB.yes h h1)
theorem IfB.nno {p : Prop} [Decidable p] {A B : Prop} (h : ¬p) (h1 : A) : IfB (!decide p) A B := ifb_not (IfB.no h h1)

theorem ifb_beq {a b : Bool} {A B : Prop} (h : a = b) (h1 : A) : IfB (a == b) A B := by subst h; cases a <;> exact h1
theorem ifb_bne {a b : Bool} {A B : Prop} (h : a = !b) (h1 : B) : IfB (a == b) A B := by subst h; cases b <;> exact h1
theorem ifb_nbeq {a b : Bool} {A B : Prop} (h : a = b) (h1 : B) : IfB (!(a == b)) A B := ifb_not (ifb_beq h h1)
theorem ifb_cases {b : Bool} {A B : Prop} (h1 : b = true → A) (h2 : b = false → B) : IfB b A B := IfB.of h1 h2
theorem ifb_yes {b : Bool} {A B : Prop} (h : b = true) (h1 : A) : IfB b A B := by subst h; exact h1
theorem ifb_no {b : Bool} {A B : Prop} (h : b = false) (h1 : B) : IfB b A B := by subst h; exact h1
theorem ifb_nyes {b : Bool} {A B : Prop} (h : b = true) (h1 : B) : IfB (!b) A B := by subst h; exact h1
theorem ifb_nno {b : Bool} {A B : Prop} (h : b = false) (h1 : A) : IfB (!b) A B := by subst h; exact h1
theorem ifb_n {b : Bool} {A B : Prop} (h1 : b = true → B) (h2 : b = false → A) : IfB (!b) A B := ifb_not (IfB.of h1 h2)

theorem getI_set' (l : List Int) (i j : Nat) (x : Int) (hi : i < l.length) : (l.set i x).getD j 0 = if i = j then x else l.getD j 0 := by
  simp only [List.getD_eq_getElem?_getD, List.getElem?_set]
  split
  · rename_i h; subst h; simp [hi]
  · rfl

theorem getD_some {l : List Int} {i : Nat} (h : i < l.length) : l[i]? = some (l.getD i 0) := by simp [List.getD_eq_getElem?_getD, h]

theorem cell_int {w : World} {b : Nat} {l : List Int} (h : Blk w b (l.map vi)) {i : Int} (h0 : 0 ≤ i) (h1 : i < (l.length : Int)) : w.cell? (Addr.add ⟨b, 0, none⟩ (Int.toNat i * 1)) = some (.int .i64 (l.getD i.toNat 0)) := by
  rw [addr_add, Nat.zero_add, Nat.mul_one]
  exact h.cell (vi_get (getD_some (by omega)))

theorem may_int {w : World} {b : Nat} {l : List Int} (h : Blk w b (l.map vi)) {i : Int} (h0 : 0 ≤ i) (h1 : i < (l.length : Int)) : May w (Addr.add ⟨b, 0, none⟩ (Int.toNat i * 1)) := by
  rw [addr_add, Nat.zero_add, Nat.mul_one]
  exact h.may (by simp; omega)

theorem add_block (b o n : Nat) : (Addr.add ⟨b, o, none⟩ n).block = b := by rw [addr_add]

theorem set_int {w w' : World} {b : Nat} {l : List Int} {i n : Int} (s : SetC w w' (Addr.add ⟨b, 0, none⟩ (Int.toNat i * 1)) (.int .i64 n)) (h : Blk w b (l.map vi)) : Blk w' b ((l.set i.toNat n).map vi) ∧ Fr [b] w w' := by
  refine ⟨?_, s.fr (by simp [add_block])⟩
  rw [addr_add, Nat.zero_add, Nat.mul_one] at s
  rw [← vi_set]
  exact s.blk h

theorem filter_length {ks : List Int} {t : Int} (hn : ks.Nodup) (ht : t ∈ ks) : (ks.filter (fun x => !(t == x))).length + 1 = ks.length := by
  induction ks with
  | nil => simp at ht
  | cons a l ih =>
    rw [List.nodup_cons] at hn
    rw [List.filter_cons]
    rcases List.mem_cons.1 ht with e | h
    · subst e
      have : l.filter (fun x => !(t == x)) = l := by
        rw [List.filter_eq_self]; intro x hx
        have : t ≠ x := fun e => hn.1 (e ▸ hx)
        simp [this]
      simp [this]
    · have hne : t ≠ a := fun e => hn.1 (e ▸ h)
      have := ih hn.2 h
      simp [hne]
      simpa using this

theorem nodup_len : ∀ (n : Nat) (l : List Int), l.Nodup → (∀ x ∈ l, 0 ≤ x ∧ x < (n : Int)) → l.length ≤ n
  | 0, l, _, h => by
    cases l with
    | nil => simp
    | cons a l => have := h a (by simp); omega
  | n + 1, l, hn, h => by
    have h2 : ∀ x ∈ l.filter (fun x => !((n : Int) == x)), 0 ≤ x ∧ x < (n : Int) := by
      intro x hx
      rw [List.mem_filter] at hx
      have := h x hx.1
      have hne : (n : Int) ≠ x := by simpa using hx.2
      omega
    have := nodup_len n _ (hn.filter _) h2
    by_cases hm : (n : Int) ∈ l
    · have := filter_length hn hm
      omega
    · have e : l.filter (fun x => !((n : Int) == x)) = l := by
        rw [List.filter_eq_self]
        intro x hx
        have : (n : Int) ≠ x := fun e => hm (e ▸ hx)
        simp [this]
      rw [e] at this
      omega

def upTo (n : Nat) : List Int := (List.range n).map fun (i : Nat) => (i : Int)

theorem upTo_succ (n : Nat) : upTo (n + 1) = upTo n ++ [(n : Int)] := by simp [upTo, List.range_succ]
theorem mem_upTo {n : Nat} {k : Int} : k ∈ upTo n ↔ 0 ≤ k ∧ k < n := by
  unfold upTo
  rw [List.mem_map]
  constructor
  · rintro ⟨a, ha, rfl⟩; rw [List.mem_range] at ha; omega
  · rintro ⟨h1, h2⟩; exact ⟨k.toNat, by rw [List.mem_range]; omega, by omega⟩

theorem upTo_nodup (n : Nat) : (upTo n).Nodup := by
  unfold upTo
  rw [List.nodup_iff_pairwise_ne, List.pairwise_map]
  exact List.Pairwise.imp (fun {a b} h => by omega) (List.pairwise_lt_range (n := n))

theorem upTo_length (n : Nat) : (upTo n).length = n := by simp [upTo]

end Go.Proofs.Ytmlhdmnnijapjaa.V

/- One more root of a thread of the collector: in whatever order the places are read. No condition. -/
import Derived.Test.YtfpghcdjfiggiaaCollectW
namespace Go.Proofs.Ytfpghcdjfiggiaa.V
open Go Go.RowKit

/-- The reading of roots[t].all = append(roots[t].all, v) behind its draw. -/
def AppAll (hV : Nat) (thread v : Int) (w0 : World) (F : World → Prop) : Prop :=
 (∃ (a8 : Option Addr) (l8 c8 : Nat), World.cell? w0 ⟨hV, 4, none⟩ = some (.slice a8 l8 c8) ∧
 (∃ (a9 : Option Addr) (l9 c9 : Nat), World.cell? w0 ⟨hV, 4, none⟩ = some (.slice a9 l9 c9) ∧
 PtrOK a9 fun (p10 : Addr) =>
 ((0 : Int) ≤ thread ∧ thread < (l9 : Int)) ∧
 (∃ (a11 : Option Addr) (l11 c11 : Nat), World.cell? w0 (Addr.add (Addr.add p10 (Int.toNat thread * 1)) 0) = some (.slice a11 l11 c11) ∧
 ∀ (b12 : Nat) (w13 : World), NewAt w0 w13 b12 #[.int .i64 v] 3 →
 RunF Try.prog (Builtin.append_ #[42, 42] 42 #[.slice a11 l11 c11, .slice (some ⟨b12, 0, none⟩) 1 1]) w13 [.leaf .slice] fun (a14 : Option Addr) (l14 c14 : Nat) (w15 : World) =>
 PtrOK a8 fun (p16 : Addr) =>
 ((0 : Int) ≤ thread ∧ thread < (l8 : Int)) ∧
 May w15 (Addr.add (Addr.add p16 (Int.toNat thread * 1)) 0) ∧ ∀ w17 : World, SetC w15 w17 (Addr.add (Addr.add p16 (Int.toNat thread * 1)) 0) (.slice a14 l14 c14) →
 F w17) ∧
 (∀ (b18 : Nat) (w19 : World), NewAt w0 w19 b18 #[.int .i64 v] 3 →
 ∃ (a20 : Option Addr) (l20 c20 : Nat), World.cell? w19 (Addr.add (Addr.add p10 (Int.toNat thread * 1)) 0) = some (.slice a20 l20 c20) ∧
 RunF Try.prog (Builtin.append_ #[42, 42] 42 #[.slice a20 l20 c20, .slice (some ⟨b18, 0, none⟩) 1 1]) w19 [.leaf .slice] fun (a21 : Option Addr) (l21 c21 : Nat) (w22 : World) =>
 PtrOK a8 fun (p23 : Addr) =>
 ((0 : Int) ≤ thread ∧ thread < (l8 : Int)) ∧
 May w22 (Addr.add (Addr.add p23 (Int.toNat thread * 1)) 0) ∧ ∀ w24 : World, SetC w22 w24 (Addr.add (Addr.add p23 (Int.toNat thread * 1)) 0) (.slice a21 l21 c21) →
 F w24)) ∧
 (∀ (b25 : Nat) (w26 : World), NewAt w0 w26 b25 #[.int .i64 v] 3 →
 ∃ (a27 : Option Addr) (l27 c27 : Nat), World.cell? w26 ⟨hV, 4, none⟩ = some (.slice a27 l27 c27) ∧
 PtrOK a27 fun (p28 : Addr) =>
 ((0 : Int) ≤ thread ∧ thread < (l27 : Int)) ∧
 ∃ (a29 : Option Addr) (l29 c29 : Nat), World.cell? w26 (Addr.add (Addr.add p28 (Int.toNat thread * 1)) 0) = some (.slice a29 l29 c29) ∧
 RunF Try.prog (Builtin.append_ #[42, 42] 42 #[.slice a29 l29 c29, .slice (some ⟨b25, 0, none⟩) 1 1]) w26 [.leaf .slice] fun (a30 : Option Addr) (l30 c30 : Nat) (w31 : World) =>
 PtrOK a8 fun (p32 : Addr) =>
 ((0 : Int) ≤ thread ∧ thread < (l8 : Int)) ∧
 May w31 (Addr.add (Addr.add p32 (Int.toNat thread * 1)) 0) ∧ ∀ w33 : World, SetC w31 w33 (Addr.add (Addr.add p32 (Int.toNat thread * 1)) 0) (.slice a30 l30 c30) →
 F w33)) ∧
 (∃ (a34 : Option Addr) (l34 c34 : Nat), World.cell? w0 ⟨hV, 4, none⟩ = some (.slice a34 l34 c34) ∧
 PtrOK a34 fun (p35 : Addr) =>
 ((0 : Int) ≤ thread ∧ thread < (l34 : Int)) ∧
 (∃ (a36 : Option Addr) (l36 c36 : Nat), World.cell? w0 ⟨hV, 4, none⟩ = some (.slice a36 l36 c36) ∧
 (∃ (a37 : Option Addr) (l37 c37 : Nat), World.cell? w0 (Addr.add (Addr.add p35 (Int.toNat thread * 1)) 0) = some (.slice a37 l37 c37) ∧
 ∀ (b38 : Nat) (w39 : World), NewAt w0 w39 b38 #[.int .i64 v] 3 →
 RunF Try.prog (Builtin.append_ #[42, 42] 42 #[.slice a37 l37 c37, .slice (some ⟨b38, 0, none⟩) 1 1]) w39 [.leaf .slice] fun (a40 : Option Addr) (l40 c40 : Nat) (w41 : World) =>
 PtrOK a36 fun (p42 : Addr) =>
 ((0 : Int) ≤ thread ∧ thread < (l36 : Int)) ∧
 May w41 (Addr.add (Addr.add p42 (Int.toNat thread * 1)) 0) ∧ ∀ w43 : World, SetC w41 w43 (Addr.add (Addr.add p42 (Int.toNat thread * 1)) 0) (.slice a40 l40 c40) →
 F w43) ∧
 (∀ (b44 : Nat) (w45 : World), NewAt w0 w45 b44 #[.int .i64 v] 3 →
 ∃ (a46 : Option Addr) (l46 c46 : Nat), World.cell? w45 (Addr.add (Addr.add p35 (Int.toNat thread * 1)) 0) = some (.slice a46 l46 c46) ∧
 RunF Try.prog (Builtin.append_ #[42, 42] 42 #[.slice a46 l46 c46, .slice (some ⟨b44, 0, none⟩) 1 1]) w45 [.leaf .slice] fun (a47 : Option Addr) (l47 c47 : Nat) (w48 : World) =>
 PtrOK a36 fun (p49 : Addr) =>
 ((0 : Int) ≤ thread ∧ thread < (l36 : Int)) ∧
 May w48 (Addr.add (Addr.add p49 (Int.toNat thread * 1)) 0) ∧ ∀ w50 : World, SetC w48 w50 (Addr.add (Addr.add p49 (Int.toNat thread * 1)) 0) (.slice a47 l47 c47) →
 F w50)) ∧
 (∃ (a51 : Option Addr) (l51 c51 : Nat), World.cell? w0 (Addr.add (Addr.add p35 (Int.toNat thread * 1)) 0) = some (.slice a51 l51 c51) ∧
 (∃ (a52 : Option Addr) (l52 c52 : Nat), World.cell? w0 ⟨hV, 4, none⟩ = some (.slice a52 l52 c52) ∧
 ∀ (b53 : Nat) (w54 : World), NewAt w0 w54 b53 #[.int .i64 v] 3 →
 RunF Try.prog (Builtin.append_ #[42, 42] 42 #[.slice a51 l51 c51, .slice (some ⟨b53, 0, none⟩) 1 1]) w54 [.leaf .slice] fun (a55 : Option Addr) (l55 c55 : Nat) (w56 : World) =>
 PtrOK a52 fun (p57 : Addr) =>
 ((0 : Int) ≤ thread ∧ thread < (l52 : Int)) ∧
 May w56 (Addr.add (Addr.add p57 (Int.toNat thread * 1)) 0) ∧ ∀ w58 : World, SetC w56 w58 (Addr.add (Addr.add p57 (Int.toNat thread * 1)) 0) (.slice a55 l55 c55) →
 F w58) ∧
 (∀ (b59 : Nat) (w60 : World), NewAt w0 w60 b59 #[.int .i64 v] 3 →
 (∃ (a61 : Option Addr) (l61 c61 : Nat), World.cell? w60 ⟨hV, 4, none⟩ = some (.slice a61 l61 c61) ∧
 RunF Try.prog (Builtin.append_ #[42, 42] 42 #[.slice a51 l51 c51, .slice (some ⟨b59, 0, none⟩) 1 1]) w60 [.leaf .slice] fun (a62 : Option Addr) (l62 c62 : Nat) (w63 : World) =>
 PtrOK a61 fun (p64 : Addr) =>
 ((0 : Int) ≤ thread ∧ thread < (l61 : Int)) ∧
 May w63 (Addr.add (Addr.add p64 (Int.toNat thread * 1)) 0) ∧ ∀ w65 : World, SetC w63 w65 (Addr.add (Addr.add p64 (Int.toNat thread * 1)) 0) (.slice a62 l62 c62) →
 F w65) ∧
 (RunF Try.prog (Builtin.append_ #[42, 42] 42 #[.slice a51 l51 c51, .slice (some ⟨b59, 0, none⟩) 1 1]) w60 [.leaf .slice] fun (a66 : Option Addr) (l66 c66 : Nat) (w67 : World) =>
 ∃ (a68 : Option Addr) (l68 c68 : Nat), World.cell? w67 ⟨hV, 4, none⟩ = some (.slice a68 l68 c68) ∧
 PtrOK a68 fun (p69 : Addr) =>
 ((0 : Int) ≤ thread ∧ thread < (l68 : Int)) ∧
 May w67 (Addr.add (Addr.add p69 (Int.toNat thread * 1)) 0) ∧ ∀ w70 : World, SetC w67 w70 (Addr.add (Addr.add p69 (Int.toNat thread * 1)) 0) (.slice a66 l66 c66) →
 F w70))) ∧
 (∀ (b71 : Nat) (w72 : World), NewAt w0 w72 b71 #[.int .i64 v] 3 →
 ∃ (a73 : Option Addr) (l73 c73 : Nat), World.cell? w72 (Addr.add (Addr.add p35 (Int.toNat thread * 1)) 0) = some (.slice a73 l73 c73) ∧
 (∃ (a74 : Option Addr) (l74 c74 : Nat), World.cell? w72 ⟨hV, 4, none⟩ = some (.slice a74 l74 c74) ∧
 RunF Try.prog (Builtin.append_ #[42, 42] 42 #[.slice a73 l73 c73, .slice (some ⟨b71, 0, none⟩) 1 1]) w72 [.leaf .slice] fun (a75 : Option Addr) (l75 c75 : Nat) (w76 : World) =>
 PtrOK a74 fun (p77 : Addr) =>
 ((0 : Int) ≤ thread ∧ thread < (l74 : Int)) ∧
 May w76 (Addr.add (Addr.add p77 (Int.toNat thread * 1)) 0) ∧ ∀ w78 : World, SetC w76 w78 (Addr.add (Addr.add p77 (Int.toNat thread * 1)) 0) (.slice a75 l75 c75) →
 F w78) ∧
 (RunF Try.prog (Builtin.append_ #[42, 42] 42 #[.slice a73 l73 c73, .slice (some ⟨b71, 0, none⟩) 1 1]) w72 [.leaf .slice] fun (a79 : Option Addr) (l79 c79 : Nat) (w80 : World) =>
 ∃ (a81 : Option Addr) (l81 c81 : Nat), World.cell? w80 ⟨hV, 4, none⟩ = some (.slice a81 l81 c81) ∧
 PtrOK a81 fun (p82 : Addr) =>
 ((0 : Int) ≤ thread ∧ thread < (l81 : Int)) ∧
 May w80 (Addr.add (Addr.add p82 (Int.toNat thread * 1)) 0) ∧ ∀ w83 : World, SetC w80 w83 (Addr.add (Addr.add p82 (Int.toNat thread * 1)) 0) (.slice a79 l79 c79) →
 F w83))) ∧
 (∀ (b84 : Nat) (w85 : World), NewAt w0 w85 b84 #[.int .i64 v] 3 →
 ∃ (a86 : Option Addr) (l86 c86 : Nat), World.cell? w85 ⟨hV, 4, none⟩ = some (.slice a86 l86 c86) ∧
 PtrOK a86 fun (p87 : Addr) =>
 ((0 : Int) ≤ thread ∧ thread < (l86 : Int)) ∧
 ∃ (a88 : Option Addr) (l88 c88 : Nat), World.cell? w85 (Addr.add (Addr.add p87 (Int.toNat thread * 1)) 0) = some (.slice a88 l88 c88) ∧
 (∃ (a89 : Option Addr) (l89 c89 : Nat), World.cell? w85 ⟨hV, 4, none⟩ = some (.slice a89 l89 c89) ∧
 RunF Try.prog (Builtin.append_ #[42, 42] 42 #[.slice a88 l88 c88, .slice (some ⟨b84, 0, none⟩) 1 1]) w85 [.leaf .slice] fun (a90 : Option Addr) (l90 c90 : Nat) (w91 : World) =>
 PtrOK a89 fun (p92 : Addr) =>
 ((0 : Int) ≤ thread ∧ thread < (l89 : Int)) ∧
 May w91 (Addr.add (Addr.add p92 (Int.toNat thread * 1)) 0) ∧ ∀ w93 : World, SetC w91 w93 (Addr.add (Addr.add p92 (Int.toNat thread * 1)) 0) (.slice a90 l90 c90) →
 F w93) ∧
 (RunF Try.prog (Builtin.append_ #[42, 42] 42 #[.slice a88 l88 c88, .slice (some ⟨b84, 0, none⟩) 1 1]) w85 [.leaf .slice] fun (a94 : Option Addr) (l94 c94 : Nat) (w95 : World) =>
 ∃ (a96 : Option Addr) (l96 c96 : Nat), World.cell? w95 ⟨hV, 4, none⟩ = some (.slice a96 l96 c96) ∧
 PtrOK a96 fun (p97 : Addr) =>
 ((0 : Int) ≤ thread ∧ thread < (l96 : Int)) ∧
 May w95 (Addr.add (Addr.add p97 (Int.toNat thread * 1)) 0) ∧ ∀ w98 : World, SetC w95 w98 (Addr.add (Addr.add p97 (Int.toNat thread * 1)) 0) (.slice a94 l94 c94) →
 F w98))

section
variable {w w' : World} {own own' : Nat → Nat} {cb : Nat} {s : CS} {S : List Nat}

theorem appall_c (h : Cx w own cb s) {thread : Int} {t : RT} (h0 : 0 ≤ thread) (ht : s.ts[thread.toNat]? = some t) (h64 : t.rs.length ≤ 1000) (v : Int) {F : World → Prop}
    (hK : ∀ w' own' t', t'.rs = t.rs ++ [v] → Cx w' own' cb { s with ts := s.ts.set thread.toNat t' } → StN 15 w w' own own' → F w') : AppAll cb thread v w F := by
  have hil := (List.getElem?_eq_some_iff.1 ht).1
  have hth : (0 : Int) ≤ thread ∧ thread < (s.ts.length : Int) := ⟨h0, by omega⟩
  obtain ⟨b, off, era, hcell⟩ := h.T.at ht
  have hV := h.V _ t ht
  have hp : ∀ w' : World, Fr (ablk t.a) w w' → ∀ (j : Nat), j < 1 → w'.cell? (Addr.add (Addr.add ⟨b, off, none⟩ (Int.toNat thread * 1)) j) = (encRT.f t)[j]? ∧ May w' (Addr.add (Addr.add ⟨b, off, none⟩ (Int.toNat thread * 1)) j) := by
    intro w' f
    have T' := h.T.fr f (h.o2.apart (h.o5 _ _ ht) (by omega))
    obtain ⟨b', off', e, q⟩ := T'.at ht
    rw [era] at e
    cases e
    exact q
  have HD : ∀ w' : World, Fr (ablk t.a) w w' → w'.cell? ⟨cb, 4, none⟩ = some (.slice (some ⟨b, off, none⟩) s.ts.length s.rc) := fun w' f => by
    rw [← era]
    exact (h.hd.fr f (fun hb2 => (h.o0.apart (h.o5 _ _ ht) (by omega)) cb (by simp) hb2)).cell rfl
  have TC : ∀ w' : World, Fr (ablk t.a) w w' → w'.cell? (Addr.add (Addr.add ⟨b, off, none⟩ (Int.toNat thread * 1)) 0) = some (.slice t.a t.rs.length t.c) := fun w' f => (hp w' f 0 (by decide)).1
  have MY : ∀ w' : World, Fr (ablk t.a) w w' → May w' (Addr.add (Addr.add ⟨b, off, none⟩ (Int.toNat thread * 1)) 0) := fun w' f => (hp w' f 0 (by decide)).2
  have AP : ∀ {b1 : Nat} {w1 : World}, NewAt w w1 b1 #[.int .i64 v] 3 → ∀ {K : Option Addr → Nat → Nat → World → Prop},
      (∀ a' c' w', SI w' a' c' (t.rs ++ [v]) → Fr (ablk t.a) w w' → Grw (ablk t.a) (ablk a') w.heap.size → K a' (t.rs.length + 1) c' w') →
      RunF Try.prog (Builtin.append_ #[42, 42] 42 #[.slice t.a t.rs.length t.c, .slice (some ⟨b1, 0, none⟩) 1 1]) w1 [.leaf .slice] K := fun n1 _ hK' => app_int hV n1 (by omega) hK'
  have FN : ∀ {a' : Option Addr} {c' : Nat} {w1 : World}, SI w1 a' c' (t.rs ++ [v]) → Fr (ablk t.a) w w1 → Grw (ablk t.a) (ablk a') w.heap.size → ∀ {w2 : World}, SetC w1 w2 (Addr.add (Addr.add ⟨b, off, none⟩ (Int.toNat thread * 1)) 0) (.slice a' (t.rs.length + 1) c') → F w2 := by
    intro a' c' w1 S1 f1 g1 w2 s2
    have T1 := h.T.fr f1 (h.o2.apart (h.o5 _ _ ht) (by omega))
    have s2' : SetC w1 w2 (Addr.add (Addr.add ⟨b, off, none⟩ (Int.toNat thread * encRT.k)) 0) (.slice a' (t.rs ++ [v]).length c') := by simpa [encRT] using s2
    obtain ⟨T2, f2⟩ := T1.set1 ht era (j := 0) (by decide) (r' := ⟨a', c', t.rs ++ [v]⟩) rfl s2'
    obtain ⟨R, st⟩ := h.root ht (t' := ⟨a', c', t.rs ++ [v]⟩) S1 f1 g1 T2 f2
    exact hK w2 _ ⟨a', c', t.rs ++ [v]⟩ rfl R st
  unfold AppAll
  clear hK hcell
  repeat' first
    | exact hth
    | exact Fr.refl _ _
    | exact f1
    | exact n1.fr _
    | with_reducible exact FN S1 f1 g1 s2
    | with_reducible exact MY _ f1
    | with_reducible refine PtrOK.of rfl ?_
    | with_reducible refine And.intro ?_ ?_
    | intro b1 w1 n1
    | intro w2 s2
    | with_reducible refine AP n1 (fun a' c' w1 S1 f1 g1 => ?_)
    | refine ⟨_, _, _, HD _ ?_, ?_⟩
    | refine ⟨_, _, _, TC _ ?_, ?_⟩
end
end Go.Proofs.Ytfpghcdjfiggiaa.V

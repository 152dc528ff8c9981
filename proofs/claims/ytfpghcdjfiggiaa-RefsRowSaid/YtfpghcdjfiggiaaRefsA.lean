/- One more root of a thread: in whatever order the places are read. No condition. -/
import Derived.Test.YtfpghcdjfiggiaaRefsW
namespace Go.Proofs.Ytfpghcdjfiggiaa.V
open Go Go.RowKit

/-- The reading of roots[t] = append(roots[t], v) behind its draw. -/
def AppRoot (hV : Nat) (thread v : Int) (w0 : World) (F : World → Prop) : Prop :=
 (∃ (a7 : Option Addr) (l7 c7 : Nat), World.cell? w0 ⟨hV, 3, none⟩ = some (.slice a7 l7 c7) ∧
 (∃ (a8 : Option Addr) (l8 c8 : Nat), World.cell? w0 ⟨hV, 3, none⟩ = some (.slice a8 l8 c8) ∧
 PtrOK a8 fun (p9 : Addr) =>
 ((0 : Int) ≤ thread ∧ thread < (l8 : Int)) ∧
 (∃ (a10 : Option Addr) (l10 c10 : Nat), World.cell? w0 (Addr.add p9 (Int.toNat thread * 1)) = some (.slice a10 l10 c10) ∧
 ∀ (b11 : Nat) (w12 : World), NewAt w0 w12 b11 #[.int .i64 v] 3 →
 RunF Try.prog (Builtin.append_ #[42, 42] 42 #[.slice a10 l10 c10, .slice (some ⟨b11, 0, none⟩) 1 1]) w12 [.leaf .slice] fun (a13 : Option Addr) (l13 c13 : Nat) (w14 : World) =>
 PtrOK a7 fun (p15 : Addr) =>
 ((0 : Int) ≤ thread ∧ thread < (l7 : Int)) ∧
 May w14 (Addr.add p15 (Int.toNat thread * 1)) ∧ ∀ w16 : World, SetC w14 w16 (Addr.add p15 (Int.toNat thread * 1)) (.slice a13 l13 c13) →
 F w16) ∧
 (∀ (b17 : Nat) (w18 : World), NewAt w0 w18 b17 #[.int .i64 v] 3 →
 ∃ (a19 : Option Addr) (l19 c19 : Nat), World.cell? w18 (Addr.add p9 (Int.toNat thread * 1)) = some (.slice a19 l19 c19) ∧
 RunF Try.prog (Builtin.append_ #[42, 42] 42 #[.slice a19 l19 c19, .slice (some ⟨b17, 0, none⟩) 1 1]) w18 [.leaf .slice] fun (a20 : Option Addr) (l20 c20 : Nat) (w21 : World) =>
 PtrOK a7 fun (p22 : Addr) =>
 ((0 : Int) ≤ thread ∧ thread < (l7 : Int)) ∧
 May w21 (Addr.add p22 (Int.toNat thread * 1)) ∧ ∀ w23 : World, SetC w21 w23 (Addr.add p22 (Int.toNat thread * 1)) (.slice a20 l20 c20) →
 F w23)) ∧
 (∀ (b24 : Nat) (w25 : World), NewAt w0 w25 b24 #[.int .i64 v] 3 →
 ∃ (a26 : Option Addr) (l26 c26 : Nat), World.cell? w25 ⟨hV, 3, none⟩ = some (.slice a26 l26 c26) ∧
 PtrOK a26 fun (p27 : Addr) =>
 ((0 : Int) ≤ thread ∧ thread < (l26 : Int)) ∧
 ∃ (a28 : Option Addr) (l28 c28 : Nat), World.cell? w25 (Addr.add p27 (Int.toNat thread * 1)) = some (.slice a28 l28 c28) ∧
 RunF Try.prog (Builtin.append_ #[42, 42] 42 #[.slice a28 l28 c28, .slice (some ⟨b24, 0, none⟩) 1 1]) w25 [.leaf .slice] fun (a29 : Option Addr) (l29 c29 : Nat) (w30 : World) =>
 PtrOK a7 fun (p31 : Addr) =>
 ((0 : Int) ≤ thread ∧ thread < (l7 : Int)) ∧
 May w30 (Addr.add p31 (Int.toNat thread * 1)) ∧ ∀ w32 : World, SetC w30 w32 (Addr.add p31 (Int.toNat thread * 1)) (.slice a29 l29 c29) →
 F w32)) ∧
 (∃ (a33 : Option Addr) (l33 c33 : Nat), World.cell? w0 ⟨hV, 3, none⟩ = some (.slice a33 l33 c33) ∧
 PtrOK a33 fun (p34 : Addr) =>
 ((0 : Int) ≤ thread ∧ thread < (l33 : Int)) ∧
 (∃ (a35 : Option Addr) (l35 c35 : Nat), World.cell? w0 ⟨hV, 3, none⟩ = some (.slice a35 l35 c35) ∧
 (∃ (a36 : Option Addr) (l36 c36 : Nat), World.cell? w0 (Addr.add p34 (Int.toNat thread * 1)) = some (.slice a36 l36 c36) ∧
 ∀ (b37 : Nat) (w38 : World), NewAt w0 w38 b37 #[.int .i64 v] 3 →
 RunF Try.prog (Builtin.append_ #[42, 42] 42 #[.slice a36 l36 c36, .slice (some ⟨b37, 0, none⟩) 1 1]) w38 [.leaf .slice] fun (a39 : Option Addr) (l39 c39 : Nat) (w40 : World) =>
 PtrOK a35 fun (p41 : Addr) =>
 ((0 : Int) ≤ thread ∧ thread < (l35 : Int)) ∧
 May w40 (Addr.add p41 (Int.toNat thread * 1)) ∧ ∀ w42 : World, SetC w40 w42 (Addr.add p41 (Int.toNat thread * 1)) (.slice a39 l39 c39) →
 F w42) ∧
 (∀ (b43 : Nat) (w44 : World), NewAt w0 w44 b43 #[.int .i64 v] 3 →
 ∃ (a45 : Option Addr) (l45 c45 : Nat), World.cell? w44 (Addr.add p34 (Int.toNat thread * 1)) = some (.slice a45 l45 c45) ∧
 RunF Try.prog (Builtin.append_ #[42, 42] 42 #[.slice a45 l45 c45, .slice (some ⟨b43, 0, none⟩) 1 1]) w44 [.leaf .slice] fun (a46 : Option Addr) (l46 c46 : Nat) (w47 : World) =>
 PtrOK a35 fun (p48 : Addr) =>
 ((0 : Int) ≤ thread ∧ thread < (l35 : Int)) ∧
 May w47 (Addr.add p48 (Int.toNat thread * 1)) ∧ ∀ w49 : World, SetC w47 w49 (Addr.add p48 (Int.toNat thread * 1)) (.slice a46 l46 c46) →
 F w49)) ∧
 (∃ (a50 : Option Addr) (l50 c50 : Nat), World.cell? w0 (Addr.add p34 (Int.toNat thread * 1)) = some (.slice a50 l50 c50) ∧
 (∃ (a51 : Option Addr) (l51 c51 : Nat), World.cell? w0 ⟨hV, 3, none⟩ = some (.slice a51 l51 c51) ∧
 ∀ (b52 : Nat) (w53 : World), NewAt w0 w53 b52 #[.int .i64 v] 3 →
 RunF Try.prog (Builtin.append_ #[42, 42] 42 #[.slice a50 l50 c50, .slice (some ⟨b52, 0, none⟩) 1 1]) w53 [.leaf .slice] fun (a54 : Option Addr) (l54 c54 : Nat) (w55 : World) =>
 PtrOK a51 fun (p56 : Addr) =>
 ((0 : Int) ≤ thread ∧ thread < (l51 : Int)) ∧
 May w55 (Addr.add p56 (Int.toNat thread * 1)) ∧ ∀ w57 : World, SetC w55 w57 (Addr.add p56 (Int.toNat thread * 1)) (.slice a54 l54 c54) →
 F w57) ∧
 (∀ (b58 : Nat) (w59 : World), NewAt w0 w59 b58 #[.int .i64 v] 3 →
 (∃ (a60 : Option Addr) (l60 c60 : Nat), World.cell? w59 ⟨hV, 3, none⟩ = some (.slice a60 l60 c60) ∧
 RunF Try.prog (Builtin.append_ #[42, 42] 42 #[.slice a50 l50 c50, .slice (some ⟨b58, 0, none⟩) 1 1]) w59 [.leaf .slice] fun (a61 : Option Addr) (l61 c61 : Nat) (w62 : World) =>
 PtrOK a60 fun (p63 : Addr) =>
 ((0 : Int) ≤ thread ∧ thread < (l60 : Int)) ∧
 May w62 (Addr.add p63 (Int.toNat thread * 1)) ∧ ∀ w64 : World, SetC w62 w64 (Addr.add p63 (Int.toNat thread * 1)) (.slice a61 l61 c61) →
 F w64) ∧
 (RunF Try.prog (Builtin.append_ #[42, 42] 42 #[.slice a50 l50 c50, .slice (some ⟨b58, 0, none⟩) 1 1]) w59 [.leaf .slice] fun (a65 : Option Addr) (l65 c65 : Nat) (w66 : World) =>
 ∃ (a67 : Option Addr) (l67 c67 : Nat), World.cell? w66 ⟨hV, 3, none⟩ = some (.slice a67 l67 c67) ∧
 PtrOK a67 fun (p68 : Addr) =>
 ((0 : Int) ≤ thread ∧ thread < (l67 : Int)) ∧
 May w66 (Addr.add p68 (Int.toNat thread * 1)) ∧ ∀ w69 : World, SetC w66 w69 (Addr.add p68 (Int.toNat thread * 1)) (.slice a65 l65 c65) →
 F w69))) ∧
 (∀ (b70 : Nat) (w71 : World), NewAt w0 w71 b70 #[.int .i64 v] 3 →
 ∃ (a72 : Option Addr) (l72 c72 : Nat), World.cell? w71 (Addr.add p34 (Int.toNat thread * 1)) = some (.slice a72 l72 c72) ∧
 (∃ (a73 : Option Addr) (l73 c73 : Nat), World.cell? w71 ⟨hV, 3, none⟩ = some (.slice a73 l73 c73) ∧
 RunF Try.prog (Builtin.append_ #[42, 42] 42 #[.slice a72 l72 c72, .slice (some ⟨b70, 0, none⟩) 1 1]) w71 [.leaf .slice] fun (a74 : Option Addr) (l74 c74 : Nat) (w75 : World) =>
 PtrOK a73 fun (p76 : Addr) =>
 ((0 : Int) ≤ thread ∧ thread < (l73 : Int)) ∧
 May w75 (Addr.add p76 (Int.toNat thread * 1)) ∧ ∀ w77 : World, SetC w75 w77 (Addr.add p76 (Int.toNat thread * 1)) (.slice a74 l74 c74) →
 F w77) ∧
 (RunF Try.prog (Builtin.append_ #[42, 42] 42 #[.slice a72 l72 c72, .slice (some ⟨b70, 0, none⟩) 1 1]) w71 [.leaf .slice] fun (a78 : Option Addr) (l78 c78 : Nat) (w79 : World) =>
 ∃ (a80 : Option Addr) (l80 c80 : Nat), World.cell? w79 ⟨hV, 3, none⟩ = some (.slice a80 l80 c80) ∧
 PtrOK a80 fun (p81 : Addr) =>
 ((0 : Int) ≤ thread ∧ thread < (l80 : Int)) ∧
 May w79 (Addr.add p81 (Int.toNat thread * 1)) ∧ ∀ w82 : World, SetC w79 w82 (Addr.add p81 (Int.toNat thread * 1)) (.slice a78 l78 c78) →
 F w82))) ∧
 (∀ (b83 : Nat) (w84 : World), NewAt w0 w84 b83 #[.int .i64 v] 3 →
 ∃ (a85 : Option Addr) (l85 c85 : Nat), World.cell? w84 ⟨hV, 3, none⟩ = some (.slice a85 l85 c85) ∧
 PtrOK a85 fun (p86 : Addr) =>
 ((0 : Int) ≤ thread ∧ thread < (l85 : Int)) ∧
 ∃ (a87 : Option Addr) (l87 c87 : Nat), World.cell? w84 (Addr.add p86 (Int.toNat thread * 1)) = some (.slice a87 l87 c87) ∧
 (∃ (a88 : Option Addr) (l88 c88 : Nat), World.cell? w84 ⟨hV, 3, none⟩ = some (.slice a88 l88 c88) ∧
 RunF Try.prog (Builtin.append_ #[42, 42] 42 #[.slice a87 l87 c87, .slice (some ⟨b83, 0, none⟩) 1 1]) w84 [.leaf .slice] fun (a89 : Option Addr) (l89 c89 : Nat) (w90 : World) =>
 PtrOK a88 fun (p91 : Addr) =>
 ((0 : Int) ≤ thread ∧ thread < (l88 : Int)) ∧
 May w90 (Addr.add p91 (Int.toNat thread * 1)) ∧ ∀ w92 : World, SetC w90 w92 (Addr.add p91 (Int.toNat thread * 1)) (.slice a89 l89 c89) →
 F w92) ∧
 (RunF Try.prog (Builtin.append_ #[42, 42] 42 #[.slice a87 l87 c87, .slice (some ⟨b83, 0, none⟩) 1 1]) w84 [.leaf .slice] fun (a93 : Option Addr) (l93 c93 : Nat) (w94 : World) =>
 ∃ (a95 : Option Addr) (l95 c95 : Nat), World.cell? w94 ⟨hV, 3, none⟩ = some (.slice a95 l95 c95) ∧
 PtrOK a95 fun (p96 : Addr) =>
 ((0 : Int) ≤ thread ∧ thread < (l95 : Int)) ∧
 May w94 (Addr.add p96 (Int.toNat thread * 1)) ∧ ∀ w97 : World, SetC w94 w97 (Addr.add p96 (Int.toNat thread * 1)) (.slice a93 l93 c93) →
 F w97))

section
variable {w w' : World} {own own' : Nat → Nat} {rb hb fm rc qc k : Nat} {G G' S : List Nat} {ra qa : Option Addr} {ts : List RT} {words taken last : Int} {ss : List Int} {xs : List XC} {fin queue : List Int}

theorem approot_c (h : Rx w own rb hb fm G ra rc ts qa qc words taken last ss xs fin queue) {thread : Int} {t : RT} (h0 : 0 ≤ thread) (ht : ts[thread.toNat]? = some t) (h64 : t.rs.length ≤ 1000) (v : Int) {F : World → Prop}
    (hK : ∀ w' own' t', t'.rs = t.rs ++ [v] → Rx w' own' rb hb fm G ra rc (ts.set thread.toNat t') qa qc words taken last ss xs fin queue → St w w' own own' → F w') : AppRoot rb thread v w F := by
  obtain ⟨l0, l1, l2, l3, l4, l5⟩ := h.lows
  have hil := (List.getElem?_eq_some_iff.1 ht).1
  have hth : (0 : Int) ≤ thread ∧ thread < (ts.length : Int) := ⟨h0, by omega⟩
  obtain ⟨b, off, rfl, hcell⟩ := h.T.at ht
  have hp : ∀ w' : World, Fr (ablk t.a) w w' → ∀ (j : Nat), j < 1 → w'.cell? (Addr.add (Addr.add ⟨b, off, none⟩ (Int.toNat thread * 1)) j) = (encRT.f t)[j]? ∧ May w' (Addr.add (Addr.add ⟨b, off, none⟩ (Int.toNat thread * 1)) j) := by
    intro w' f
    have T' := h.T.fr f (h.o2.apart (h.o5 _ _ ht) (by omega))
    obtain ⟨b', off', e, q⟩ := T'.at ht
    cases e
    exact q
  have a0 : ∀ p : Addr, Addr.add p 0 = p := fun p => by cases p; simp [Addr.add]
  have HD : ∀ w' : World, Fr (ablk t.a) w w' → w'.cell? ⟨rb, 3, none⟩ = some (.slice (some ⟨b, off, none⟩) ts.length rc) := fun w' f => (h.hd.fr f (fun hb2 => (h.o0.apart (h.o5 _ _ ht) (by omega)) rb (by simp) hb2)).cell rfl
  have TC : ∀ w' : World, Fr (ablk t.a) w w' → w'.cell? (Addr.add ⟨b, off, none⟩ (Int.toNat thread * 1)) = some (.slice t.a t.rs.length t.c) := fun w' f => by
    have := (hp w' f 0 (by decide)).1
    rw [a0] at this
    exact this
  have MY : ∀ w' : World, Fr (ablk t.a) w w' → May w' (Addr.add ⟨b, off, none⟩ (Int.toNat thread * 1)) := fun w' f => by
    have := (hp w' f 0 (by decide)).2
    rw [a0] at this
    exact this
  have AP : ∀ {b1 : Nat} {w1 : World}, NewAt w w1 b1 #[.int .i64 v] 3 → ∀ {K : Option Addr → Nat → Nat → World → Prop},
      (∀ a' c' w', SI w' a' c' (t.rs ++ [v]) → Fr (ablk t.a) w w' → Grw (ablk t.a) (ablk a') w.heap.size → K a' (t.rs.length + 1) c' w') →
      RunF Try.prog (Builtin.append_ #[42, 42] 42 #[.slice t.a t.rs.length t.c, .slice (some ⟨b1, 0, none⟩) 1 1]) w1 [.leaf .slice] K := fun n1 _ hK' => app_int (h.V t (List.mem_of_getElem? ht)) n1 (by omega) hK'
  have FN : ∀ {a' : Option Addr} {c' : Nat} {w1 : World}, SI w1 a' c' (t.rs ++ [v]) → Fr (ablk t.a) w w1 → Grw (ablk t.a) (ablk a') w.heap.size → ∀ {w2 : World}, SetC w1 w2 (Addr.add ⟨b, off, none⟩ (Int.toNat thread * 1)) (.slice a' (t.rs.length + 1) c') → F w2 := by
    intro a' c' w1 S1 f1 g1 w2 s2
    have T1 := h.T.fr f1 (h.o2.apart (h.o5 _ _ ht) (by omega))
    have s2' : SetC w1 w2 (Addr.add (Addr.add ⟨b, off, none⟩ (Int.toNat thread * encRT.k)) 0) (.slice a' (t.rs ++ [v]).length c') := by rw [a0]; simpa [encRT] using s2
    obtain ⟨T2, f2⟩ := T1.set1 ht rfl (j := 0) (by decide) (r' := ⟨a', c', t.rs ++ [v]⟩) rfl s2'
    obtain ⟨R, st⟩ := h.root ht (t' := ⟨a', c', t.rs ++ [v]⟩) S1 f1 g1 T2 f2
    exact hK w2 _ ⟨a', c', t.rs ++ [v]⟩ rfl R st
  unfold AppRoot
  repeat' first
    | exact hth
    | exact Fr.refl _ _
    | exact f1
    | exact n1.fr _
    | exact FN S1 f1 g1 s2
    | exact MY _ f1
    | refine PtrOK.of rfl ?_
    | refine And.intro ?_ ?_
    | intro b1 w1 n1
    | intro w2 s2
    | refine AP n1 (fun a' c' w1 S1 f1 g1 => ?_)
    | refine ⟨_, _, _, HD _ ?_, ?_⟩
    | refine ⟨_, _, _, TC _ ?_, ?_⟩
end
end Go.Proofs.Ytfpghcdjfiggiaa.V

/- Programs as bytes: what is read is written as it stood. Plain: no Go, no memory. -/
import Derived.Test.YtmlhdmnnijapjaaClassF
namespace Go.Proofs.Ytmlhdmnnijapjaa.V
open Go Go.RowKit Go.Proofs.Ytmlhdmnnijapjaa.WirePlain

/-- Between two places stand these bytes. -/
def Sp (s : ByteArray) (p q : Int) (a : Wr) : Prop := Cln a ∧ (nats s).drop p.toNat = a.bs ++ (nats s).drop q.toNat ∧ 0 ≤ q ∧ q ≤ s.size
theorem Sp.app {s : ByteArray} {p q r : Int} {a b : Wr} (h : Sp s p q a) (h' : Sp s q r b) : Sp s p r (a.app b) := by
  obtain ⟨h1, h2, h3, h4⟩ := h
  obtain ⟨g1, g2, g3, g4⟩ := h'
  refine ⟨cln_app.2 ⟨h1, g1⟩, ?_, g3, g4⟩
  rw [h2, g2]; simp [Wr.app]
theorem Sp.nil {s : ByteArray} {p : Int} (h0 : 0 ≤ p) (h1 : p ≤ s.size) : Sp s p p .nil := ⟨cln_nil, by simp [Wr.nil], h0, h1⟩

theorem bindD_ok {α β : Type} {r : Rs α} {f : α → Int → Rs β} {y : β × Int} (h : bindD r f = .ok y) : ∃ x q, r = .ok (x, q) ∧ f x q = .ok y := by
  cases r with
  | error e => cases h
  | ok r => exact ⟨r.1, r.2, rfl, h⟩

theorem num_inv {s : ByteArray} {p x q : Int} (h0 : 0 ≤ p) (h1 : p ≤ s.size) (h : numD s p = .ok (x, q)) : Sp s p q (numW x) := by
  have e : getR s p = dec p ((nats s).drop p.toNat) 0 0 := by unfold getR; rw [if_pos ⟨h0, h1⟩]
  unfold numD at h
  rw [e] at h
  by_cases h2 : (dec p ((nats s).drop p.toNat) 0 0).2.2 = 200
  · rw [if_pos h2] at h; cases h
  rw [if_neg h2] at h
  by_cases h3 : (dec p ((nats s).drop p.toNat) 0 0).2.2 ≠ 0
  · rw [if_pos h3] at h; cases h
  rw [if_neg h3] at h
  have h3 : (dec p ((nats s).drop p.toNat) 0 0).2.2 = 0 := by simpa using h3
  simp only [Except.ok.injEq, Prod.mk.injEq] at h
  obtain ⟨z, m, hm, hq, hx, hb, _, _, he⟩ := enc_dec p 4 ((nats s).drop p.toNat) 0 0 x q rfl (by simp) (fun b hb => nats_lt s b (List.mem_of_mem_drop hb)) (Prod.ext h.1 (Prod.ext h.2 h3))
  rw [List.length_drop, nats_length] at hm
  simp only [Nat.zero_add, Nat.pow_zero, Nat.mul_one] at hx hb
  have hr : -2147483648 ≤ x ∧ x ≤ 2147483647 := by rw [hx]; unfold unz; split <;> omega
  have ebs : (numW x).bs = enc 4 z := by
    show nats (putNum x) = _
    rw [nats_putNum x hr, hx, zig_unz]
  refine ⟨⟨rfl, rfl, by simp [numW, fitsI, hr]⟩, ?_, by omega, by omega⟩
  rw [ebs, he]
  have : q.toNat = p.toNat + m := by omega
  rw [this, ← List.drop_drop, List.take_append_drop]

theorem rang_inv {s : ByteArray} {lo hi p x q : Int} (h0 : 0 ≤ p) (h1 : p ≤ s.size) (h : rangD s lo hi p = .ok (x, q)) : Sp s p q (numW x) ∧ lo ≤ x ∧ x ≤ hi := by
  obtain ⟨y, r, g1, g2⟩ := bindD_ok h
  split at g2
  · cases g2
  · simp only [Except.ok.injEq, Prod.mk.injEq] at g2
    obtain ⟨rfl, rfl⟩ := g2
    exact ⟨num_inv h0 h1 g1, by omega, by omega⟩

theorem name_inv {s t : ByteArray} {p q : Int} (h0 : 0 ≤ p) (h1 : p ≤ s.size) (h : nameD s p = .ok (t, q)) : Sp s p q (nameW t) := by
  obtain ⟨n, r, g1, g2⟩ := bindD_ok h
  have S := num_inv h0 h1 g1
  split at g2
  · cases g2
  split at g2
  · cases g2
  split at g2
  · rename_i c1 c2 c3
    simp only [Except.ok.injEq, Prod.mk.injEq] at g2
    obtain ⟨rfl, rfl⟩ := g2
    obtain ⟨k1, k2, k3, k4⟩ := S
    have hz : (s.extract r.toNat (r + n).toNat).size = n.toNat := by rw [ByteArray.size_extract]; omega
    have e1 : cutN (s.extract r.toNat (r + n).toNat) = s.extract r.toNat (r + n).toNat := cutN_name (by omega)
    have en : ((s.extract r.toNat (r + n).toNat).size : Int) = n := by omega
    have eb : (nameW (s.extract r.toNat (r + n).toNat)).bs = (numW n).bs ++ nats (s.extract r.toNat (r + n).toNat) := by
      unfold nameW numW
      rw [e1, nats_append, en]
    refine ⟨⟨rfl, by simp [nameW, c3], rfl⟩, ?_, by omega, by omega⟩
    have e2 : (r + n).toNat = r.toNat + n.toNat := by omega
    rw [eb, k2, List.append_assoc, nats_extract, e2]
    refine congrArg ((numW n).bs ++ ·) ?_
    rw [List.drop_take, Nat.add_sub_cancel_left, ← List.drop_drop, List.take_append_drop]
  · cases g2

theorem rep_inv {α : Type} {s : ByteArray} {one : Int → Rs α} {W : α → Wr} (ho : ∀ (p : Int) x (q : Int), 0 ≤ p → p ≤ s.size → one p = .ok (x, q) → Sp s p q (W x)) : ∀ (n : Nat) (p : Int) xs q, 0 ≤ p → p ≤ s.size → repD one n p = .ok (xs, q) → xs.length = n ∧ Sp s p q (seqW W xs)
  | 0, p, xs, q, h0, h1, h => by
    simp only [repD, Except.ok.injEq, Prod.mk.injEq] at h
    obtain ⟨rfl, rfl⟩ := h
    exact ⟨rfl, Sp.nil h0 h1⟩
  | n + 1, p, xs, q, h0, h1, h => by
    obtain ⟨x, r, g1, g2⟩ := bindD_ok h
    obtain ⟨ys, u, g3, g4⟩ := bindD_ok g2
    simp only [Except.ok.injEq, Prod.mk.injEq] at g4
    obtain ⟨rfl, rfl⟩ := g4
    have S := ho p x r h0 h1 g1
    obtain ⟨k1, k2⟩ := rep_inv ho n r ys u S.2.2.1 S.2.2.2 g3
    exact ⟨by simp [k1], S.app k2⟩

theorem list_inv {α : Type} {s : ByteArray} {one : Int → Rs α} {W : α → Wr} (ho : ∀ (p : Int) x (q : Int), 0 ≤ p → p ≤ s.size → one p = .ok (x, q) → Sp s p q (W x)) {most : Nat} {p q : Int} {xs : List α} (h0 : 0 ≤ p) (h1 : p ≤ s.size) (h : listD s (most : Int) one p = .ok (xs, q)) : Sp s p q (layW most W xs) := by
  obtain ⟨n, r, g1, g2⟩ := bindD_ok h
  have S := num_inv h0 h1 g1
  split at g2
  · cases g2
  split at g2
  · cases g2
  obtain ⟨k1, k2⟩ := rep_inv ho _ r xs q S.2.2.1 S.2.2.2 g2
  unfold layW
  rw [if_neg (by omega)]
  have : (xs.length : Int) = n := by omega
  rw [this]
  exact S.app k2

theorem fld_inv {s : ByteArray} {p q : Int} {x : Fld} (h0 : 0 ≤ p) (h1 : p ≤ s.size) (h : fldD s p = .ok (x, q)) : Sp s p q (fldW x) := by
  obtain ⟨a, r, g1, h⟩ := bindD_ok h
  obtain ⟨b, r2, g2, h⟩ := bindD_ok h
  cases h
  have S1 := name_inv h0 h1 g1
  exact S1.app (num_inv S1.2.2.1 S1.2.2.2 g2)
theorem ins_inv {s : ByteArray} {p q : Int} {x : Ins} (h0 : 0 ≤ p) (h1 : p ≤ s.size) (h : insD s p = .ok (x, q)) : Sp s p q (insW x) := by
  obtain ⟨a, r, g1, h⟩ := bindD_ok h
  obtain ⟨b, r2, g2, h⟩ := bindD_ok h
  obtain ⟨c, r3, g3, h⟩ := bindD_ok h
  cases h
  have S1 := num_inv h0 h1 g1
  have S2 := num_inv S1.2.2.1 S1.2.2.2 g2
  have S3 := num_inv S2.2.2.1 S2.2.2.2 g3
  exact S1.app (S2.app (S3.app (Sp.nil S3.2.2.1 S3.2.2.2)))
theorem hnd_inv {s : ByteArray} {p q : Int} {x : Hnd} (h0 : 0 ≤ p) (h1 : p ≤ s.size) (h : hndD s p = .ok (x, q)) : Sp s p q (hndW x) := by
  obtain ⟨a, r, g1, h⟩ := bindD_ok h
  obtain ⟨b, r2, g2, h⟩ := bindD_ok h
  obtain ⟨c, r3, g3, h⟩ := bindD_ok h
  obtain ⟨d, r4, g4, h⟩ := bindD_ok h
  cases h
  have S1 := num_inv h0 h1 g1
  have S2 := num_inv S1.2.2.1 S1.2.2.2 g2
  have S3 := num_inv S2.2.2.1 S2.2.2.2 g3
  have S4 := num_inv S3.2.2.1 S3.2.2.2 g4
  exact S1.app (S2.app (S3.app (S4.app (Sp.nil S4.2.2.1 S4.2.2.2))))
theorem ints_inv {s : ByteArray} {most : Nat} {p q : Int} {xs : List Int} (h0 : 0 ≤ p) (h1 : p ≤ s.size) (h : listD s (most : Int) (numD s) p = .ok (xs, q)) : Sp s p q (layW most numW xs) := list_inv (fun _ _ _ a b c => num_inv a b c) h0 h1 h
theorem mpe_inv {s : ByteArray} {p q : Int} {x : Mpe} (h0 : 0 ≤ p) (h1 : p ≤ s.size) (h : mpeD s p = .ok (x, q)) : Sp s p q (mpeW x) := by
  obtain ⟨a, r, g1, h⟩ := bindD_ok h
  obtain ⟨b, r2, g2, h⟩ := bindD_ok h
  obtain ⟨c, r3, g3, h⟩ := bindD_ok h
  cases h
  have S1 := num_inv h0 h1 g1
  have S2 := ints_inv (most := 24) S1.2.2.1 S1.2.2.2 g2
  have S3 := ints_inv (most := 24) S2.2.2.1 S2.2.2.2 g3
  exact S1.app (S2.app S3)
theorem mth_inv {s : ByteArray} {p q : Int} {x : Mth} (h0 : 0 ≤ p) (h1 : p ≤ s.size) (h : mthD s p = .ok (x, q)) : Sp s p q (mthW x) := by
  obtain ⟨nm, r1, g1, h⟩ := bindD_ok h
  obtain ⟨st, r2, g2, h⟩ := bindD_ok h
  obtain ⟨ag, r3, g3, h⟩ := bindD_ok h
  obtain ⟨rt, r4, g4, h⟩ := bindD_ok h
  obtain ⟨l, r5, g5, h⟩ := bindD_ok h
  obtain ⟨k, r6, g6, h⟩ := bindD_ok h
  obtain ⟨cd, r7, g7, h⟩ := bindD_ok h
  obtain ⟨tb, r8, g8, h⟩ := bindD_ok h
  obtain ⟨mp, r9, g9, h⟩ := bindD_ok h
  cases h
  have S1 := name_inv h0 h1 g1
  obtain ⟨S2, b1, b2⟩ := rang_inv S1.2.2.1 S1.2.2.2 g2
  have S3 := ints_inv (most := 8) S2.2.2.1 S2.2.2.2 g3
  have S4 := num_inv S3.2.2.1 S3.2.2.2 g4
  obtain ⟨S5, b3, b4⟩ := rang_inv S4.2.2.1 S4.2.2.2 g5
  obtain ⟨S6, b5, b6⟩ := rang_inv S5.2.2.1 S5.2.2.2 g6
  have S7 := list_inv (most := 300) (fun _ _ _ a b c => ins_inv a b c) S6.2.2.1 S6.2.2.2 g7
  have S8 := list_inv (most := 16) (fun _ _ _ a b c => hnd_inv a b c) S7.2.2.1 S7.2.2.2 g8
  have S9 := list_inv (most := 64) (fun _ _ _ a b c => mpe_inv a b c) S8.2.2.1 S8.2.2.2 g9
  have ef : flagI (decide (st = 1)) 1 = st := by
    have : st = 0 ∨ st = 1 := by omega
    rcases this with rfl | rfl <;> rfl
  have er : roomB l k = false := by simp [roomB]; omega
  unfold mthW
  dsimp only
  rw [ef, formW_app _ _ er]
  exact S1.app (S2.app (S3.app (S4.app (S5.app (S6.app (S7.app (S8.app S9)))))))
theorem cls_inv {s : ByteArray} {p q : Int} {x : Cls} (h0 : 0 ≤ p) (h1 : p ≤ s.size) (h : clsD s p = .ok (x, q)) : Sp s p q (clsW x) := by
  obtain ⟨nm, r1, g1, h⟩ := bindD_ok h
  obtain ⟨fl, r2, g2, h⟩ := bindD_ok h
  obtain ⟨su, r3, g3, h⟩ := bindD_ok h
  obtain ⟨fs, r4, g4, h⟩ := bindD_ok h
  obtain ⟨fa, r5, g5, h⟩ := bindD_ok h
  obtain ⟨fb, r6, g6, h⟩ := bindD_ok h
  obtain ⟨ms, r7, g7, h⟩ := bindD_ok h
  cases h
  have S1 := name_inv h0 h1 g1
  obtain ⟨S2, b1, b2⟩ := rang_inv S1.2.2.1 S1.2.2.2 g2
  have S3 := num_inv S2.2.2.1 S2.2.2.2 g3
  have S4 := ints_inv (most := 8) S3.2.2.1 S3.2.2.2 g4
  have S5 := list_inv (most := 24) (fun _ _ _ a b c => fld_inv a b c) S4.2.2.1 S4.2.2.2 g5
  have S6 := list_inv (most := 24) (fun _ _ _ a b c => fld_inv a b c) S5.2.2.1 S5.2.2.2 g6
  have S7 := list_inv (most := 24) (fun _ _ _ a b c => mth_inv a b c) S6.2.2.1 S6.2.2.2 g7
  have ef : flagI (decide (bits .and .i64 fl 1 = 1)) 1 + flagI (decide (bits .and .i64 fl 2 = 2)) 2 = fl := by
    have : fl = 0 ∨ fl = 1 ∨ fl = 2 ∨ fl = 3 := by omega
    rcases this with rfl | rfl | rfl | rfl <;> decide
  unfold clsW
  dsimp only
  rw [ef]
  exact S1.app (S2.app (S3.app (S4.app (S5.app (S6.app S7)))))
theorem prg_inv {s : ByteArray} {p q : Int} {x : Prg} (h0 : 0 ≤ p) (h1 : p ≤ s.size) (h : prgD s p = .ok (x, q)) : Sp s p q (encW x) := by
  obtain ⟨nm, r1, g1, h⟩ := bindD_ok h
  obtain ⟨cs, r2, g2, h⟩ := bindD_ok h
  cases h
  have S1 := num_inv h0 h1 g1
  exact S1.app (list_inv (most := 40) (fun _ _ _ a b c => cls_inv a b c) S1.2.2.1 S1.2.2.2 g2)

/-- What is taken is written as it stood. -/
theorem enc_of_dec {s : ByteArray} (h : (decP s).2.2 = 0) : Cln (encW (decP s).1) ∧ encP (decP s).1 = (s, 0) := by
  by_cases h1 : 32768 < s.size
  · unfold decP at h; rw [if_pos h1] at h; cases h
  by_cases h2 : magicOK s
  rotate_left
  · unfold decP at h; rw [if_neg h1, if_pos h2] at h; cases h
  have hmo := prgD_mono s 4 (by omega) (by have := h2.1; omega)
  have h4 := h2.1
  cases hp : prgD s 4 with
  | error e =>
    rw [hp] at hmo
    unfold decP at h
    rw [if_neg h1, if_neg (by simpa using h2), hp] at h
    exact absurd h hmo.2.2
  | ok r =>
    obtain ⟨x, q⟩ := r
    rw [hp] at hmo
    by_cases hq : q < s.size
    · unfold decP at h
      rw [if_neg h1, if_neg (by simpa using h2), hp] at h
      dsimp only at h
      rw [if_pos hq] at h
      cases h
    have hd : decP s = (x, 0, 0) := by
      unfold decP
      rw [if_neg h1, if_neg (by simpa using h2), hp]
      dsimp only
      rw [if_neg hq]
    rw [hd]
    obtain ⟨c1, c2, _, _⟩ := prg_inv (by omega) (by omega) hp
    have hqe : q.toNat = s.size := by have := hmo.2; dsimp only at this; omega
    have e4 : (nats s).drop 4 = (encW x).bs := by
      have e : Int.toNat (4 : Int) = 4 := rfl
      rw [e, hqe] at c2
      rw [c2, List.drop_eq_nil_of_le (by rw [nats_length]; omega), List.append_nil]
    have en : nats s = magicN ++ (encW x).bs := by
      rw [← e4, show magicN = (nats s).take 4 from h2.2.symm, List.take_append_drop]
    have h0 := encP_of c1 (by rw [← en, nats_length]; omega)
    refine ⟨c1, Prod.ext (nats_inj ?_) h0⟩
    rw [(encP_ok h0).2.2, en]

/-- Where it failed lies within. -/
theorem dec_place (s : ByteArray) : 0 ≤ (decP s).2.1 ∧ (decP s).2.1 ≤ s.size := by
  unfold decP
  by_cases h1 : 32768 < s.size
  · rw [if_pos h1]; exact ⟨Int.le_refl _, by dsimp only; omega⟩
  rw [if_neg h1]
  by_cases h2 : magicOK s
  rotate_left
  · rw [if_pos h2]; exact ⟨Int.le_refl _, by dsimp only; omega⟩
  have hmo := prgD_mono s 4 (by omega) (by have := h2.1; omega)
  rw [if_neg (by simpa using h2)]
  cases hp : prgD s 4 with
  | error e =>
    rw [hp] at hmo
    exact ⟨by have := hmo.1; dsimp only; omega, hmo.2.1⟩
  | ok r =>
    obtain ⟨x, q⟩ := r
    rw [hp] at hmo
    have m1 := hmo.1
    have m2 := hmo.2
    dsimp only at m1 m2 ⊢
    split
    · exact ⟨by dsimp only; omega, m2⟩
    · exact ⟨Int.le_refl _, by dsimp only; omega⟩

/-! ### What Encode takes is small -/
theorem lay_cln {α : Type} {most : Nat} {W : α → Wr} {xs : List α} (h : Cln (layW most W xs)) : xs.length ≤ most ∧ ∀ x ∈ xs, Cln (W x) := by
  unfold layW at h
  by_cases hm : most < xs.length
  · rw [if_pos hm] at h; exact absurd h.1 (by simp [manyW])
  rw [if_neg hm] at h
  obtain ⟨c1, c2⟩ := cln_app.1 h
  refine ⟨by omega, ?_⟩
  clear h hm c1
  induction xs with
  | nil => simp
  | cons y ys ih =>
    obtain ⟨d1, d2⟩ := cln_app.1 (show Cln ((W y).app (seqW W ys)) from c2)
    intro x hx
    rcases List.mem_cons.1 hx with rfl | hx
    · exact d1
    · exact ih d2 x hx
theorem num_I6 {x : Int} (h : Cln (numW x)) : I6 x := by
  have := h.2.2
  simp [numW, fitsI] at this
  unfold I6; omega
theorem sm_of {α : Type} {xs : List α} {n : Nat} (h : xs.length ≤ n) (hn : n ≤ 1000) : smL xs := by unfold smL; omega

theorem cln_prg {p : Prg} (h : Cln (encW p)) : p.ok ∧ p.sm := by
  have ints : ∀ {n : Nat} {xs : List Int}, n ≤ 1000 → Cln (layW n numW xs) → (∀ x ∈ xs, I6 x) ∧ smL xs := fun hn h => ⟨fun x hx => num_I6 ((lay_cln h).2 x hx), sm_of (lay_cln h).1 hn⟩
  have mpe : ∀ x : Mpe, Cln (mpeW x) → x.ok ∧ x.sm := fun x h => by
    obtain ⟨h1, h⟩ := cln_app.1 h
    obtain ⟨h2, h3⟩ := cln_app.1 h
    exact ⟨⟨num_I6 h1, (ints (by decide) h2).1, (ints (by decide) h3).1⟩, (ints (by decide) h2).2, (ints (by decide) h3).2⟩
  have ins : ∀ x : Ins, Cln (insW x) → x.ok := fun x h => by
    obtain ⟨h1, h2, h3⟩ := cln3 h
    exact ⟨num_I6 h1, num_I6 h2, num_I6 h3⟩
  have hnd : ∀ x : Hnd, Cln (hndW x) → x.ok := fun x h => by
    obtain ⟨h0, h⟩ := cln_app.1 (show Cln ((numW x.lo).app (seqW numW [x.hi, x.pl, x.cl])) from h)
    obtain ⟨h1, h2, h3⟩ := cln3 h
    exact ⟨num_I6 h0, num_I6 h1, num_I6 h2, num_I6 h3⟩
  have mth : ∀ x : Mth, Cln (mthW x) → x.ok ∧ x.sm := fun x h => by
    unfold mthW at h
    obtain ⟨h1, h⟩ := cln_app.1 h
    obtain ⟨h2, h⟩ := cln_app.1 h
    obtain ⟨h3, h⟩ := cln_app.1 h
    obtain ⟨h4, h⟩ := cln_app.1 h
    obtain ⟨hf, h⟩ := cln_app.1 h
    obtain ⟨h5, h⟩ := cln_app.1 h
    obtain ⟨h6, h⟩ := cln_app.1 h
    obtain ⟨h7, h⟩ := cln_app.1 h
    obtain ⟨h8, h9⟩ := cln_app.1 h
    exact ⟨⟨(ints (by decide) h3).1, num_I6 h4, num_I6 h5, num_I6 h6, fun y hy => ins y ((lay_cln h7).2 y hy), fun y hy => hnd y ((lay_cln h8).2 y hy), fun y hy => (mpe y ((lay_cln h9).2 y hy)).1⟩,
      (ints (by decide) h3).2, sm_of (lay_cln h7).1 (by decide), sm_of (lay_cln h8).1 (by decide), sm_of (lay_cln h9).1 (by decide), fun y hy => (mpe y ((lay_cln h9).2 y hy)).2⟩
  have fld : ∀ x : Fld, Cln (fldW x) → I6 x.ty := fun x h => num_I6 (cln_app.1 h).2
  have cls : ∀ x : Cls, Cln (clsW x) → x.ok ∧ x.sm := fun x h => by
    unfold clsW at h
    obtain ⟨h1, h⟩ := cln_app.1 h
    obtain ⟨h2, h⟩ := cln_app.1 h
    obtain ⟨h3, h⟩ := cln_app.1 h
    obtain ⟨h4, h⟩ := cln_app.1 h
    obtain ⟨h5, h⟩ := cln_app.1 h
    obtain ⟨h6, h7⟩ := cln_app.1 h
    exact ⟨⟨num_I6 h3, (ints (by decide) h4).1, fun y hy => fld y ((lay_cln h5).2 y hy), fun y hy => fld y ((lay_cln h6).2 y hy), fun y hy => (mth y ((lay_cln h7).2 y hy)).1⟩,
      (ints (by decide) h4).2, sm_of (lay_cln h5).1 (by decide), sm_of (lay_cln h6).1 (by decide), sm_of (lay_cln h7).1 (by decide), fun y hy => (mth y ((lay_cln h7).2 y hy)).2⟩
  obtain ⟨h1, h2⟩ := cln_app.1 h
  exact ⟨⟨num_I6 h1, fun y hy => (cls y ((lay_cln h2).2 y hy)).1⟩, sm_of (lay_cln h2).1 (by decide), fun y hy => (cls y ((lay_cln h2).2 y hy)).2⟩
end Go.Proofs.Ytmlhdmnnijapjaa.V

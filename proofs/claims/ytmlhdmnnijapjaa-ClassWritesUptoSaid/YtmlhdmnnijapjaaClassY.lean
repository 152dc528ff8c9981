/- Writing a program: its fields, instructions, handlers, maps, methods, classes. (Printed by gen4.py.) No condition. -/
import Derived.Test.YtmlhdmnnijapjaaClassX
namespace Go.Proofs.Ytmlhdmnnijapjaa.V
open Go Go.RowKit Go.Proofs.Ytmlhdmnnijapjaa.WirePlain

section
variable {N : Nat → Prop} {w : World} {t : Nat} {W : Wr}

theorem seqW3 (W : Wr) (a b c : Int) : ((W.app (numW a)).app (numW b)).app (numW c) = W.app (seqW numW [a, b, c]) := by simp [seqW, Wr.app_assoc, Wr.app_nil]

theorem fld83_c {cap : Nat} (x : Fld) (hx : I6 x.ty) (Cp : Blk w cap [.pointer (some ⟨t, 0, none⟩)]) (hN : N cap) (H : WrAt N w t W) (hl : W.bs.length + 26 ≤ 1099511627776) {K : World → Prop}
    (hK : ∀ w', WrAt N w' t (W.app (fldW x)) → Keep N w w' → K w') : C83 x.name x.ty (some ⟨cap, 0, none⟩) w K := by
  refine r_f83 _ _ _ _ _ fun b1 w2 n1 => ?_
  have f2 := n1.fr []
  have H2 := H.grow f2 n1.ge n1.blk.lt
  have hnl := nameW_len x.name
  refine ⟨_, (Cp.fr f2 (by simp)).cell rfl, _, n1.blk.cell rfl, wname_c _ H2 (by omega) fun w5 H5 k5 => ⟨_, (k5.blk (Cp.fr f2 (by simp)) (.inl hN)).cell rfl, _, (k5.blk n1.blk (.inr rfl)).cell rfl, wnum_c hx H5 (by rw [app_len]; omega) fun w8 H8 k8 => ?_⟩⟩
  refine hK w8 ?_ ((Keep.of f2 (by simp)).trans ((k5.trans k8).mono fun _ h => .inl h))
  rw [fldW, ← Wr.app_assoc]; exact H8.mono fun _ h => .inl h


theorem lay84 {most : Nat} {m : Prop} {xs : List Fld} {a : Option Addr} {l c cap cap2 : Nat} (Cp : Blk w cap [.pointer (some ⟨t, 0, none⟩)]) (hN : N cap) (hm : most ≤ 1000) (H : WrAt N w t W) (hl : W.bs.length + (5 + most * 26) ≤ 1099511627776) (hok : ∀ x ∈ xs, I6 x.ty) (D : rSeq N m w 2 RFld a l xs) {K : World → Prop}
    (hK : ∀ w', WrAt N w' t (W.app (layW most fldW xs)) → Keep N w w' → K w') : C84 (some ⟨t, 0, none⟩) (most : Int) a l c (.func (.func 83) #[] #[.pointer (some ⟨cap, 0, none⟩)] : Value) w K := by
  have e := D.1
  refine r_f84 _ _ _ _ _ _ _ _ ?_
  unfold V_f84
  rw [e]
  refine lay_head (c := 26) hm H hl hK fun hx hK w2 H2 k2 => ?_
  rw [← e]
  have h5 : xs.length * 26 ≤ most * 26 := Nat.mul_le_mul_right _ hx
  refine lay_loop (R := fun _ _ _ vs x => RFld vs x) (m := m) (kk := 2) rel_plain (one := fldW) (c := 26) fldW_len (fun w6 p7 n5 F =>
    ∃ (s8 : ByteArray), ∃ (n9 : Int), CellsAt w6 (Addr.add p7 (Int.toNat n5 * 2)) [.string s8, .int .i64 n9] ∧
    ∀ (b10 : Nat) (w11 : World), NewAt w6 w11 b10 #[.string (ByteArray.mk #[]), .int .i64 0] 77 →
    MayL w11 ⟨b10, 0, none⟩ 2 ∧ ∀ w12 : World, SetL w11 w12 ⟨b10, 0, none⟩ [.string s8, .int .i64 n9] →
    ∃ (s13 : ByteArray), ∃ (n14 : Int), CellsAt w12 ⟨b10, 0, none⟩ [.string s13, .int .i64 n14] ∧
    C83 s13 n14 (some ⟨cap, 0, none⟩) w12 fun w15 => F w15) (ok := fun x => I6 x.ty) hok (by rw [app_len]; have := numW_len (xs.length : Int); omega) (by omega) ?_ H2 (rel_seq1 D k2.same k2.size fun b hb _ => hb) fun w' H' k' => hK w' H' (k2.trans k')
  rintro w' W' p vs x n F k6 H' hl' hx - - - hc hr hF
  have k0 := k2.trans k6
  cases hr
  refine ⟨_, _, hc, fun b1 w1' n1 => ⟨n1.blk.mayL (by simp), fun w2' s2 => ?_⟩⟩
  obtain ⟨B, f⟩ := newSet n1 s2 rfl
  have f2 : Fr [] w' w2' := f []
  have H2' := H'.grow f2 n1.ge B.lt
  have U2 : SameU N w' w2' := SameU.of_fr f2 (by simp)
  refine ⟨_, _, B.cells, fld83_c x hx ((k0.blk Cp hN).fr f2 (by simp)) (.inl hN) H2' (by omega) fun w'' H'' k'' => hF w'' (H''.mono fun _ h => .inl h) (((Keep.of f2 (by simp)).trans (k''.mono fun _ h => .inl h)))⟩

theorem rseq_lit {b : Nat} {xs : List Int} (B : Blk w b (xs.map vi)) (hN : N b) : rSeq N False w 1 RInt (some ⟨b, 0, none⟩) xs.length xs := by
  refine ⟨rfl, fun i x hx => ⟨_, [.int .i64 x], rfl, hN, B.lt, rfl, fun j v hj => ?_, fun h => h.elim, rfl⟩⟩
  have hlt : j < 1 := (List.getElem?_eq_some_iff.1 hj).1
  obtain rfl : j = 0 := by omega
  simp at hj
  subst hj
  rw [addr_add, addr_add]
  exact B.cell (by simp [vi, hx])

theorem nums_c {b cap c : Nat} {xs : List Int} (hok : ∀ x ∈ xs, I6 x) (Cp : Blk w cap [.pointer (some ⟨t, 0, none⟩)]) (hN : N cap) (H : WrAt N w t W) (B : Blk w b (xs.map vi)) (hNb : N b) (hx : xs.length ≤ 1000) (hl : W.bs.length + xs.length * 5 ≤ 1099511627776) {K : World → Prop}
    (hK : ∀ w', WrAt N w' t (W.app (seqW numW xs)) → Keep N w w' → K w') : C104 (some ⟨b, 0, none⟩) xs.length c (some ⟨cap, 0, none⟩) w K := by
  refine r_f104 _ _ _ _ _ _ ?_
  refine lay_loop (R := fun _ _ _ vs x => RInt vs x) (m := False) (kk := 1) rel_plain (one := numW) (c := 5) numW_len (fun w4 p5 n3 F => ∃ (n6 : Int), World.cell? w4 (Addr.add p5 (Int.toNat n3 * 1)) = some (.int .i64 n6) ∧ ∃ (q7 : Option Addr), World.cell? w4 ⟨cap, 0, none⟩ = some (.pointer q7) ∧ C61 q7 n6 w4 fun w8 => F w8) (ok := I6) hok hl (by omega) ?_ H (rseq_lit B hNb) hK
  rintro w' W' p vs x n F k6 H' hl' hx - - - hc rfl hF
  have h0 : ∀ q : Addr, Addr.add q 0 = q := fun q => by simp [Addr.add]
  exact ⟨x, by have := hc 0 _ rfl; rwa [h0] at this, _, (k6.blk Cp hN).cell rfl, wnum_c hx H' hl' hF⟩

theorem ins106_c {cap cap2 : Nat} (x : Ins) (hx : x.ok) (Cq : Blk w cap [.func (.func 104) #[] #[.pointer (some ⟨cap2, 0, none⟩)]]) (hN : N cap) (Cp : Blk w cap2 [.pointer (some ⟨t, 0, none⟩)]) (hN2 : N cap2) (H : WrAt N w t W) (hl : W.bs.length + 15 ≤ 1099511627776) {K : World → Prop}
    (hK : ∀ w', WrAt N w' t (W.app (insW x)) → Keep N w w' → K w') : C106 x.op x.a x.b (some ⟨cap, 0, none⟩) w K := by
  refine r_f106 _ _ _ _ _ _ fun b1 w2 n1 => ?_
  have f2 := n1.fr []
  have H2 := H.grow f2 n1.ge n1.blk.lt
  refine ⟨_, (Cq.fr f2 (by simp)).cell rfl, _, n1.blk.cell rfl, _, n1.blk.cell rfl, _, n1.blk.cell rfl, fun b7 w8 n8 => ?_⟩
  have f8 := n8.fr []
  have H8 := H2.grow f8 n8.ge n8.blk.lt
  refine nums_c (xs := [x.op, x.a, x.b]) (by unfold Ins.ok at hx; simpa using hx) ((Cp.fr f2 (by simp)).fr f8 (by simp)) (.inl (.inl hN2)) H8 n8.blk (.inr rfl) (by simp) (by simpa using hl) fun w9 H9 k9 => ?_
  exact hK w9 (H9.mono fun _ h => .inl (.inl h)) (((Keep.of f2 (by simp)).trans (Keep.of f8 (by simp))).trans (k9.mono fun _ h => .inl (.inl h)))


theorem lay105 {most : Nat} {m : Prop} {xs : List Ins} {a : Option Addr} {l c cap cap2 : Nat} (Cq : Blk w cap [.func (.func 104) #[] #[.pointer (some ⟨cap2, 0, none⟩)]]) (hN : N cap) (Cp : Blk w cap2 [.pointer (some ⟨t, 0, none⟩)]) (hN2 : N cap2) (hm : most ≤ 1000) (H : WrAt N w t W) (hl : W.bs.length + (5 + most * 15) ≤ 1099511627776) (hok : ∀ x ∈ xs, x.ok) (D : rSeq N m w 3 RIns a l xs) {K : World → Prop}
    (hK : ∀ w', WrAt N w' t (W.app (layW most insW xs)) → Keep N w w' → K w') : C105 (some ⟨t, 0, none⟩) (most : Int) a l c (.func (.func 106) #[] #[.pointer (some ⟨cap, 0, none⟩)] : Value) w K := by
  have e := D.1
  refine r_f105 _ _ _ _ _ _ _ _ ?_
  unfold V_f105
  rw [e]
  refine lay_head (c := 15) hm H hl hK fun hx hK w2 H2 k2 => ?_
  rw [← e]
  have h5 : xs.length * 15 ≤ most * 15 := Nat.mul_le_mul_right _ hx
  refine lay_loop (R := fun _ _ _ vs x => RIns vs x) (m := m) (kk := 3) rel_plain (one := insW) (c := 15) insW_len (fun w6 p7 n5 F =>
    ∃ (n8 : Int), ∃ (n9 : Int), ∃ (n10 : Int), CellsAt w6 (Addr.add p7 (Int.toNat n5 * 3)) [.int .i64 n8, .int .i64 n9, .int .i64 n10] ∧
    ∀ (b11 : Nat) (w12 : World), NewAt w6 w12 b11 #[.int .i64 0, .int .i64 0, .int .i64 0] 87 →
    MayL w12 ⟨b11, 0, none⟩ 3 ∧ ∀ w13 : World, SetL w12 w13 ⟨b11, 0, none⟩ [.int .i64 n8, .int .i64 n9, .int .i64 n10] →
    ∃ (n14 : Int), ∃ (n15 : Int), ∃ (n16 : Int), CellsAt w13 ⟨b11, 0, none⟩ [.int .i64 n14, .int .i64 n15, .int .i64 n16] ∧
    C106 n14 n15 n16 (some ⟨cap, 0, none⟩) w13 fun w17 => F w17) (ok := fun x => x.ok) hok (by rw [app_len]; have := numW_len (xs.length : Int); omega) (by omega) ?_ H2 (rel_seq1 D k2.same k2.size fun b hb _ => hb) fun w' H' k' => hK w' H' (k2.trans k')
  rintro w' W' p vs x n F k6 H' hl' hx - - - hc hr hF
  have k0 := k2.trans k6
  cases hr
  refine ⟨_, _, _, hc, fun b1 w1' n1 => ⟨n1.blk.mayL (by simp), fun w2' s2 => ?_⟩⟩
  obtain ⟨B, f⟩ := newSet n1 s2 rfl
  have f2 : Fr [] w' w2' := f []
  have H2' := H'.grow f2 n1.ge B.lt
  have U2 : SameU N w' w2' := SameU.of_fr f2 (by simp)
  refine ⟨_, _, _, B.cells, ins106_c x hx ((k0.blk Cq hN).fr f2 (by simp)) (.inl hN) ((k0.blk Cp hN2).fr f2 (by simp)) (.inl hN2) H2' (by omega) fun w'' H'' k'' => hF w'' (H''.mono fun _ h => .inl h) (((Keep.of f2 (by simp)).trans (k''.mono fun _ h => .inl h)))⟩

theorem hnd108_c {cap cap2 : Nat} (x : Hnd) (hx : x.ok) (Cq : Blk w cap [.func (.func 104) #[] #[.pointer (some ⟨cap2, 0, none⟩)]]) (hN : N cap) (Cp : Blk w cap2 [.pointer (some ⟨t, 0, none⟩)]) (hN2 : N cap2) (H : WrAt N w t W) (hl : W.bs.length + 20 ≤ 1099511627776) {K : World → Prop}
    (hK : ∀ w', WrAt N w' t (W.app (hndW x)) → Keep N w w' → K w') : C108 x.lo x.hi x.pl x.cl (some ⟨cap, 0, none⟩) w K := by
  refine r_f108 _ _ _ _ _ _ _ fun b1 w2 n1 => ?_
  have f2 := n1.fr []
  have H2 := H.grow f2 n1.ge n1.blk.lt
  refine ⟨_, (Cq.fr f2 (by simp)).cell rfl, _, n1.blk.cell rfl, _, n1.blk.cell rfl, _, n1.blk.cell rfl, _, n1.blk.cell rfl, fun b7 w8 n8 => ?_⟩
  have f8 := n8.fr []
  have H8 := H2.grow f8 n8.ge n8.blk.lt
  refine nums_c (xs := [x.lo, x.hi, x.pl, x.cl]) (by unfold Hnd.ok at hx; simpa using hx) ((Cp.fr f2 (by simp)).fr f8 (by simp)) (.inl (.inl hN2)) H8 n8.blk (.inr rfl) (by simp) (by simpa using hl) fun w9 H9 k9 => ?_
  exact hK w9 (H9.mono fun _ h => .inl (.inl h)) (((Keep.of f2 (by simp)).trans (Keep.of f8 (by simp))).trans (k9.mono fun _ h => .inl (.inl h)))


theorem lay107 {most : Nat} {m : Prop} {xs : List Hnd} {a : Option Addr} {l c cap cap2 : Nat} (Cq : Blk w cap [.func (.func 104) #[] #[.pointer (some ⟨cap2, 0, none⟩)]]) (hN : N cap) (Cp : Blk w cap2 [.pointer (some ⟨t, 0, none⟩)]) (hN2 : N cap2) (hm : most ≤ 1000) (H : WrAt N w t W) (hl : W.bs.length + (5 + most * 20) ≤ 1099511627776) (hok : ∀ x ∈ xs, x.ok) (D : rSeq N m w 4 RHnd a l xs) {K : World → Prop}
    (hK : ∀ w', WrAt N w' t (W.app (layW most hndW xs)) → Keep N w w' → K w') : C107 (some ⟨t, 0, none⟩) (most : Int) a l c (.func (.func 108) #[] #[.pointer (some ⟨cap, 0, none⟩)] : Value) w K := by
  have e := D.1
  refine r_f107 _ _ _ _ _ _ _ _ ?_
  unfold V_f107
  rw [e]
  refine lay_head (c := 20) hm H hl hK fun hx hK w2 H2 k2 => ?_
  rw [← e]
  have h5 : xs.length * 20 ≤ most * 20 := Nat.mul_le_mul_right _ hx
  refine lay_loop (R := fun _ _ _ vs x => RHnd vs x) (m := m) (kk := 4) rel_plain (one := hndW) (c := 20) hndW_len (fun w6 p7 n5 F =>
    ∃ (n8 : Int), ∃ (n9 : Int), ∃ (n10 : Int), ∃ (n11 : Int), CellsAt w6 (Addr.add p7 (Int.toNat n5 * 4)) [.int .i64 n8, .int .i64 n9, .int .i64 n10, .int .i64 n11] ∧
    ∀ (b12 : Nat) (w13 : World), NewAt w6 w13 b12 #[.int .i64 0, .int .i64 0, .int .i64 0, .int .i64 0] 91 →
    MayL w13 ⟨b12, 0, none⟩ 4 ∧ ∀ w14 : World, SetL w13 w14 ⟨b12, 0, none⟩ [.int .i64 n8, .int .i64 n9, .int .i64 n10, .int .i64 n11] →
    ∃ (n15 : Int), ∃ (n16 : Int), ∃ (n17 : Int), ∃ (n18 : Int), CellsAt w14 ⟨b12, 0, none⟩ [.int .i64 n15, .int .i64 n16, .int .i64 n17, .int .i64 n18] ∧
    C108 n15 n16 n17 n18 (some ⟨cap, 0, none⟩) w14 fun w19 => F w19) (ok := fun x => x.ok) hok (by rw [app_len]; have := numW_len (xs.length : Int); omega) (by omega) ?_ H2 (rel_seq1 D k2.same k2.size fun b hb _ => hb) fun w' H' k' => hK w' H' (k2.trans k')
  rintro w' W' p vs x n F k6 H' hl' hx - - - hc hr hF
  have k0 := k2.trans k6
  cases hr
  refine ⟨_, _, _, _, hc, fun b1 w1' n1 => ⟨n1.blk.mayL (by simp), fun w2' s2 => ?_⟩⟩
  obtain ⟨B, f⟩ := newSet n1 s2 rfl
  have f2 : Fr [] w' w2' := f []
  have H2' := H'.grow f2 n1.ge B.lt
  have U2 : SameU N w' w2' := SameU.of_fr f2 (by simp)
  refine ⟨_, _, _, _, B.cells, hnd108_c x hx ((k0.blk Cq hN).fr f2 (by simp)) (.inl hN) ((k0.blk Cp hN2).fr f2 (by simp)) (.inl hN2) H2' (by omega) fun w'' H'' k'' => hF w'' (H''.mono fun _ h => .inl h) (((Keep.of f2 (by simp)).trans (k''.mono fun _ h => .inl h)))⟩

theorem mpe110_c {cap : Nat} {m : Prop} {a1 a2 : Option Addr} {l1 c1 l2 c2 : Nat} (x : Mpe) (hx : x.ok) (Cp : Blk w cap [.pointer (some ⟨t, 0, none⟩)]) (hN : N cap) (H : WrAt N w t W) (d1 : rSeq N m w 1 RInt a1 l1 x.ls) (d2 : rSeq N m w 1 RInt a2 l2 x.st) (hl : W.bs.length + 255 ≤ 1099511627776) {K : World → Prop}
    (hK : ∀ w', WrAt N w' t (W.app (mpeW x)) → Keep N w w' → K w') : C110 x.pl a1 l1 c1 a2 l2 c2 (some ⟨cap, 0, none⟩) w K := by
  refine r_f110 _ _ _ _ _ _ _ _ _ _ fun b1 w2 n1 => ?_
  have f2 := n1.fr []
  have H2 := H.grow f2 n1.ge n1.blk.lt
  have U2 : SameU N w w2 := SameU.of_fr f2 (by simp)
  have e1 := rel_seq1 (U' := fun y => N y ∨ y = b1) d1 U2 f2.size fun b hb _ => .inl hb
  have e2 := rel_seq1 (U' := fun y => N y ∨ y = b1) d2 U2 f2.size fun b hb _ => .inl hb
  have C2 := Cp.fr f2 (by simp)
  have h1 := numW_len x.pl
  have h2 := layW_len 24 numW_len x.ls
  refine ⟨_, C2.cell rfl, _, n1.blk.cell rfl, wnum_c hx.1 H2 (by omega) fun w5 H5 k5 => ?_⟩
  refine ⟨_, (k5.blk C2 (.inl hN)).cell rfl, _, _, _, (k5.blk n1.blk (.inr rfl)).cell rfl, _, (k5.blk C2 (.inl hN)).cell rfl, lay82 (most := 24) (by decide) H5 (by rw [app_len]; omega) hx.2.1 (rel_seq1 e1 k5.same k5.size fun b hb _ => hb) fun w9 H9 k9 => ?_⟩
  have k59 := k5.trans k9
  refine ⟨_, (k59.blk C2 (.inl hN)).cell rfl, _, _, _, (k59.blk n1.blk (.inr rfl)).cell rfl, _, (k59.blk C2 (.inl hN)).cell rfl, lay82 (most := 24) (by decide) H9 (by rw [app_len, app_len]; omega) hx.2.2 (rel_seq1 e2 k59.same k59.size fun b hb _ => hb) fun w13 H13 k13 => ?_⟩
  refine hK w13 ?_ ((Keep.of f2 (by simp)).trans ((k59.trans k13).mono fun _ h => .inl h))
  rw [mpeW]
  simp only [Wr.app_assoc] at H13
  exact H13.mono fun _ h => .inl h


theorem lay109 {most : Nat} {m : Prop} {xs : List Mpe} {a : Option Addr} {l c cap cap2 : Nat} (Cp : Blk w cap [.pointer (some ⟨t, 0, none⟩)]) (hN : N cap) (hm : most ≤ 1000) (H : WrAt N w t W) (hl : W.bs.length + (5 + most * 255) ≤ 1099511627776) (hok : ∀ x ∈ xs, x.ok) (D : rSeq N m w 3 (RMpe N m w) a l xs) {K : World → Prop}
    (hK : ∀ w', WrAt N w' t (W.app (layW most mpeW xs)) → Keep N w w' → K w') : C109 (some ⟨t, 0, none⟩) (most : Int) a l c (.func (.func 110) #[] #[.pointer (some ⟨cap, 0, none⟩)] : Value) w K := by
  have e := D.1
  refine r_f109 _ _ _ _ _ _ _ _ ?_
  unfold V_f109
  rw [e]
  refine lay_head (c := 255) hm H hl hK fun hx hK w2 H2 k2 => ?_
  rw [← e]
  have h5 : xs.length * 255 ≤ most * 255 := Nat.mul_le_mul_right _ hx
  refine lay_loop (R := RMpe) (m := m) (kk := 3) rel_mpe (one := mpeW) (c := 255) mpeW_len (fun w6 p7 n5 F =>
    ∃ (n8 : Int), ∃ (a9 : Option Addr) (l9 c9 : Nat), ∃ (a10 : Option Addr) (l10 c10 : Nat), CellsAt w6 (Addr.add p7 (Int.toNat n5 * 3)) [.int .i64 n8, .slice a9 l9 c9, .slice a10 l10 c10] ∧
    ∀ (b11 : Nat) (w12 : World), NewAt w6 w12 b11 #[.int .i64 0, .slice none 0 0, .slice none 0 0] 89 →
    MayL w12 ⟨b11, 0, none⟩ 3 ∧ ∀ w13 : World, SetL w12 w13 ⟨b11, 0, none⟩ [.int .i64 n8, .slice a9 l9 c9, .slice a10 l10 c10] →
    ∃ (n14 : Int), ∃ (a15 : Option Addr) (l15 c15 : Nat), ∃ (a16 : Option Addr) (l16 c16 : Nat), CellsAt w13 ⟨b11, 0, none⟩ [.int .i64 n14, .slice a15 l15 c15, .slice a16 l16 c16] ∧
    C110 n14 a15 l15 c15 a16 l16 c16 (some ⟨cap, 0, none⟩) w13 fun w17 => F w17) (ok := fun x => x.ok) hok (by rw [app_len]; have := numW_len (xs.length : Int); omega) (by omega) ?_ H2 (rel_seq rel_mpe D k2.same k2.size fun b hb _ => hb) fun w' H' k' => hK w' H' (k2.trans k')
  rintro w' W' p vs x n F k6 H' hl' hx - - - hc hr hF
  have k0 := k2.trans k6
  obtain ⟨a1, l1, c1, a2, l2, c2, rfl, d1, d2⟩ := hr
  refine ⟨_, _, _, _, _, _, _, hc, fun b1 w1' n1 => ⟨n1.blk.mayL (by simp), fun w2' s2 => ?_⟩⟩
  obtain ⟨B, f⟩ := newSet n1 s2 rfl
  have f2 : Fr [] w' w2' := f []
  have H2' := H'.grow f2 n1.ge B.lt
  have U2 : SameU N w' w2' := SameU.of_fr f2 (by simp)
  refine ⟨_, _, _, _, _, _, _, B.cells, mpe110_c x hx ((k0.blk Cp hN).fr f2 (by simp)) (.inl hN) H2' (rel_seq1 d1 U2 f2.size fun b hb _ => .inl hb) (rel_seq1 d2 U2 f2.size fun b hb _ => .inl hb) (by omega) fun w'' H'' k'' => hF w'' (H''.mono fun _ h => .inl h) (((Keep.of f2 (by simp)).trans (k''.mono fun _ h => .inl h)))⟩

theorem setF {w' : World} (H : WrAt N w t W) {v r : Bool} (s : SetC w w' (Addr.add ⟨t, 0, none⟩ 3) (.bool v)) (hv : v = (W.fm || r)) : WrAt N w' t (W.app (formW r)) ∧ Keep N w w' := by
  rw [addr_add] at s
  exact H.setB (W' := W.app (formW r)) (fun _ _ => by simp [Wr.app, formW, hv]) (by simp [Wr.app, formW]) s

theorem mth86_c {m : Prop} {a1 a2 a3 a4 : Option Addr} {l1 c1 l2 c2 l3 c3 l4 c4 : Nat} (x : Mth) (hx : x.ok) (H : WrAt N w t W) (d1 : rSeq N m w 1 RInt a1 l1 x.args) (d2 : rSeq N m w 3 RIns a2 l2 x.code) (d3 : rSeq N m w 4 RHnd a3 l3 x.tab) (d4 : rSeq N m w 3 (RMpe N m w) a4 l4 x.maps)
    (hl : W.bs.length + 21241 ≤ 1099511627776) {K : World → Prop} (hK : ∀ w', WrAt N w' t (W.app (mthW x)) → Keep N w w' → K w') : C86 (some ⟨t, 0, none⟩) x.name x.stat a1 l1 c1 x.ret x.locs x.stk a2 l2 c2 a3 l3 c3 a4 l4 c4 w K := by
  refine r_f86 _ _ _ _ _ _ _ _ _ _ _ _ _ _ _ _ _ _ _ _ fun b1 w2 n1 b3 w4 n4 => ?_
  have f4 : Fr [] w w4 := (n1.fr []).more (n4.fr [])
  obtain ⟨N4, H4, hC, hB, hin⟩ : ∃ N4 : Nat → Prop, WrAt N4 w4 t W ∧ N4 b1 ∧ N4 b3 ∧ ∀ b, N b → N4 b := ⟨_, (H.grow (n1.fr []) n1.ge n1.blk.lt).grow (n4.fr []) n4.ge n4.blk.lt, .inl (.inr rfl), .inr rfl, fun _ h => .inl (.inl h)⟩
  have U4 : SameU N w w4 := SameU.of_fr f4 (by simp)
  have C4 := n1.blk.fr (n4.fr []) (by simp)
  have B4 := n4.blk
  have e1 := rel_seq1 d1 U4 f4.size fun b hb _ => hin b hb
  have e2 := rel_seq1 d2 U4 f4.size fun b hb _ => hin b hb
  have e3 := rel_seq1 d3 U4 f4.size fun b hb _ => hin b hb
  have e4 := rel_seq rel_mpe d4 U4 f4.size fun b hb _ => hin b hb
  have kin : Keep N w w4 := Keep.of f4 (by simp)
  have g1 := nameW_len x.name
  have g2 := numW_len (flagI x.stat 1)
  have g3 := layW_len 8 numW_len x.args
  have g4 := numW_len x.ret
  have g5 := numW_len x.locs
  have g6 := numW_len x.stk
  have g7 := layW_len 300 insW_len x.code
  have g8 := layW_len 16 hndW_len x.tab
  have g9 : ∀ b, (formW b).bs.length = 0 := fun _ => rfl
  obtain ⟨o1, o2, o3, o4, o5, o6, o7⟩ := hx
  refine ⟨_, C4.cell rfl, _, B4.cell rfl, wname_c _ H4 (by omega) fun w7 H7 k7 => ?_⟩
  refine ⟨fun w' => WrAt N4 w' t ((W.app (nameW x.name)).app (numW (flagI x.stat 1))) ∧ Keep N4 w4 w', fun w10 d10 => ?_, ?_⟩
  · have H10 := H7.fr (d10.fr []) (by simp)
    have k10 : Keep N4 w4 w10 := k7.trans (Keep.of (d10.fr []) (by simp))
    have hf : I6 (flagI x.stat 1) := by unfold flagI I6; split <;> omega
    refine ⟨_, (k10.blk B4 hB).cell rfl, ⟨_, (k10.blk C4 hC).cell rfl, wflag_c _ _ (wnum_c hf H10 (by rw [app_len]; omega) fun w15 H15 k15 => ⟨H15, k10.trans k15⟩)⟩, wflag_c _ _ ⟨_, (k10.blk C4 hC).cell rfl, wnum_c hf H10 (by rw [app_len]; omega) fun w15 H15 k15 => ⟨H15, k10.trans k15⟩⟩⟩
  rintro - w9 ⟨H9, k9⟩
  refine ⟨_, (k9.blk C4 hC).cell rfl, _, _, _, (k9.blk B4 hB).cell rfl, _, (k9.blk C4 hC).cell rfl, lay82 (most := 8) (by decide) H9 (by simp only [app_len]; omega) o1 (rel_seq1 e1 k9.same k9.size fun b hb _ => hb) fun w23 H23 k23 => ?_⟩
  replace k23 := k9.trans k23
  refine ⟨_, (k23.blk C4 hC).cell rfl, _, (k23.blk B4 hB).cell rfl, wnum_c o2 H23 (by simp only [app_len]; omega) fun w26 H26 k26 => ?_⟩
  replace k26 := k23.trans k26
  refine ⟨fun w' => WrAt N4 w' t (((((W.app (nameW x.name)).app (numW (flagI x.stat 1))).app (layW 8 numW x.args)).app (numW x.ret)).app (formW (roomB x.locs x.stk))) ∧ Keep N4 w4 w', fun w29 d29 => ?_, ?_⟩
  · have H29 := H26.fr (d29.fr []) (by simp)
    have k29 : Keep N4 w4 w29 := k26.trans (Keep.of (d29.fr []) (by simp))
    obtain ⟨g, c, h3, _⟩ := H29.ex
    have C29 := k29.blk C4 hC
    have B29 := k29.blk B4 hB
    have may3 := h3.maya (o := 0) (i := 3) (by simp)
    refine ⟨_, C29.cell rfl, _, C29.cell rfl, PtrOK.of rfl ⟨_, h3.cella rfl, ifb_cases (fun hb => PtrOK.of rfl ⟨may3, fun w' s' => ?_⟩) (fun hb => ⟨_, B29.cell rfl, IfB.dec (fun q1 => PtrOK.of rfl ⟨may3, fun w' s' => ?_⟩) (fun q1 => ⟨_, B29.cell rfl, IfB.dec (fun q2 => PtrOK.of rfl ⟨may3, fun w' s' => ?_⟩) (fun q2 => ⟨_, B29.cell rfl, IfB.dec (fun q3 => PtrOK.of rfl ⟨may3, fun w' s' => ?_⟩) (fun q3 => ⟨_, B29.cell rfl, PtrOK.of rfl ⟨may3, fun w' s' => ?_⟩⟩)⟩)⟩)⟩)⟩⟩
    · exact (setF H29 s' (by rw [hb]; rfl)).imp_right k29.trans
    · exact (setF H29 s' (by simp [roomB, q1])).imp_right k29.trans
    · exact (setF H29 s' (by simp [roomB, q2])).imp_right k29.trans
    · exact (setF H29 s' (by simp [roomB, q3])).imp_right k29.trans
    · exact (setF H29 s' (by rw [hb]; simp [roomB, q1, q2, q3])).imp_right k29.trans
  rintro - w28 ⟨H28, k28⟩
  refine ⟨_, (k28.blk C4 hC).cell rfl, _, (k28.blk B4 hB).cell rfl, wnum_c o3 H28 (by simp only [app_len, g9]; omega) fun w50 H50 k50 => ?_⟩
  replace k50 := k28.trans k50
  refine ⟨_, (k50.blk C4 hC).cell rfl, _, (k50.blk B4 hB).cell rfl, wnum_c o4 H50 (by simp only [app_len, g9]; omega) fun w53 H53 k53 => ?_⟩
  replace k53 := k50.trans k53
  intro b54 w55 n55
  have N55 := n55.blk
  refine ⟨N55.may (by simp), fun w56 s56 => ?_⟩
  have f56 : Fr [] w53 w56 := (n55.fr []).trans (s56.fr (S := [b54]) (by simp)) (fun k hk => by simp at hk; subst hk; exact .inr n55.ge)
  have Q56 := s56.blk N55
  obtain ⟨N5, H56, hQ, kI⟩ : ∃ N5 : Nat → Prop, WrAt N5 w56 t _ ∧ N5 b54 ∧ ∀ b, N4 b → N5 b := ⟨_, H53.grow f56 n55.ge Q56.lt, .inr rfl, fun _ h => .inl h⟩
  have k56 : Keep N4 w4 w56 := k53.trans (Keep.of f56 (by simp))
  have C56 := k56.blk C4 hC
  have B56 := k56.blk B4 hB
  have E2 := rel_seq1 e2 k56.same k56.size fun b hb _ => kI b hb
  have E3 := rel_seq1 e3 k56.same k56.size fun b hb _ => kI b hb
  have E4 := rel_seq rel_mpe e4 k56.same k56.size fun b hb _ => kI b hb
  have hC5 := kI _ hC
  have hB5 := kI _ hB
  refine ⟨_, C56.cell rfl, _, _, _, B56.cell rfl, lay105 (most := 300) Q56 hQ C56 hC5 (by decide) H56 (by simp only [app_len, g9]; omega) o5 E2 fun w59 H59 k59 => ?_⟩
  refine ⟨_, (k59.blk C56 hC5).cell rfl, _, _, _, (k59.blk B56 hB5).cell rfl, lay107 (most := 16) (k59.blk Q56 hQ) hQ (k59.blk C56 hC5) hC5 (by decide) H59 (by simp only [app_len, g9]; omega) o6 (rel_seq1 E3 k59.same k59.size fun b hb _ => hb) fun w62 H62 k62 => ?_⟩
  replace k62 := k59.trans k62
  refine ⟨_, (k62.blk C56 hC5).cell rfl, _, _, _, (k62.blk B56 hB5).cell rfl, lay109 (most := 64) (cap2 := b1) (k62.blk C56 hC5) hC5 (by decide) H62 (by simp only [app_len, g9]; omega) o7 (rel_seq rel_mpe E4 k62.same k62.size fun b hb _ => hb) fun w65 H65 k65 => ?_⟩
  refine hK w65 ?_ (kin.trans ((k56.trans ((k62.trans k65).mono kI)).mono hin))
  rw [mthW]
  simp only [Wr.app_assoc] at H65
  exact H65.mono fun b h => kI b (hin b h)


theorem lay85 {most : Nat} {m : Prop} {xs : List Mth} {a : Option Addr} {l c cap cap2 : Nat} (hm : most ≤ 1000) (H : WrAt N w t W) (hl : W.bs.length + (5 + most * 21241) ≤ 1099511627776) (hok : ∀ x ∈ xs, x.ok) (D : rSeq N m w 9 (RMth N m w) a l xs) {K : World → Prop}
    (hK : ∀ w', WrAt N w' t (W.app (layW most mthW xs)) → Keep N w w' → K w') : C85 (some ⟨t, 0, none⟩) (most : Int) a l c (.func (.func 86) #[.pointer (some ⟨t, 0, none⟩)] #[] : Value) w K := by
  have e := D.1
  refine r_f85 _ _ _ _ _ _ _ _ ?_
  unfold V_f85
  rw [e]
  refine lay_head (c := 21241) hm H hl hK fun hx hK w2 H2 k2 => ?_
  rw [← e]
  have h5 : xs.length * 21241 ≤ most * 21241 := Nat.mul_le_mul_right _ hx
  refine lay_loop (R := RMth) (m := m) (kk := 9) rel_mth (one := mthW) (c := 21241) mthW_len (fun w6 p7 n5 F =>
    ∃ (s8 : ByteArray), ∃ (b9 : Bool), ∃ (a10 : Option Addr) (l10 c10 : Nat), ∃ (n11 : Int), ∃ (n12 : Int), ∃ (n13 : Int), ∃ (a14 : Option Addr) (l14 c14 : Nat), ∃ (a15 : Option Addr) (l15 c15 : Nat), ∃ (a16 : Option Addr) (l16 c16 : Nat), CellsAt w6 (Addr.add p7 (Int.toNat n5 * 9)) [.string s8, .bool b9, .slice a10 l10 c10, .int .i64 n11, .int .i64 n12, .int .i64 n13, .slice a14 l14 c14, .slice a15 l15 c15, .slice a16 l16 c16] ∧
    ∀ (b17 : Nat) (w18 : World), NewAt w6 w18 b17 #[.string (ByteArray.mk #[]), .bool false, .slice none 0 0, .int .i64 0, .int .i64 0, .int .i64 0, .slice none 0 0, .slice none 0 0, .slice none 0 0] 82 →
    MayL w18 ⟨b17, 0, none⟩ 9 ∧ ∀ w19 : World, SetL w18 w19 ⟨b17, 0, none⟩ [.string s8, .bool b9, .slice a10 l10 c10, .int .i64 n11, .int .i64 n12, .int .i64 n13, .slice a14 l14 c14, .slice a15 l15 c15, .slice a16 l16 c16] →
    ∃ (s20 : ByteArray), ∃ (b21 : Bool), ∃ (a22 : Option Addr) (l22 c22 : Nat), ∃ (n23 : Int), ∃ (n24 : Int), ∃ (n25 : Int), ∃ (a26 : Option Addr) (l26 c26 : Nat), ∃ (a27 : Option Addr) (l27 c27 : Nat), ∃ (a28 : Option Addr) (l28 c28 : Nat), CellsAt w19 ⟨b17, 0, none⟩ [.string s20, .bool b21, .slice a22 l22 c22, .int .i64 n23, .int .i64 n24, .int .i64 n25, .slice a26 l26 c26, .slice a27 l27 c27, .slice a28 l28 c28] ∧
    C86 (some ⟨t, 0, none⟩) s20 b21 a22 l22 c22 n23 n24 n25 a26 l26 c26 a27 l27 c27 a28 l28 c28 w19 fun w29 => F w29) (ok := fun x => x.ok) hok (by rw [app_len]; have := numW_len (xs.length : Int); omega) (by omega) ?_ H2 (rel_seq rel_mth D k2.same k2.size fun b hb _ => hb) fun w' H' k' => hK w' H' (k2.trans k')
  rintro w' W' p vs x n F k6 H' hl' hx - - - hc hr hF
  have k0 := k2.trans k6
  obtain ⟨a1, l1, c1, a2, l2, c2, a3, l3, c3, a4, l4, c4, rfl, d1, d2, d3, d4⟩ := hr
  refine ⟨_, _, _, _, _, _, _, _, _, _, _, _, _, _, _, _, _, hc, fun b1 w1' n1 => ⟨n1.blk.mayL (by simp), fun w2' s2 => ?_⟩⟩
  obtain ⟨B, f⟩ := newSet n1 s2 rfl
  have f2 : Fr [] w' w2' := f []
  have H2' := H'.grow f2 n1.ge B.lt
  have U2 : SameU N w' w2' := SameU.of_fr f2 (by simp)
  refine ⟨_, _, _, _, _, _, _, _, _, _, _, _, _, _, _, _, _, B.cells, mth86_c x hx H2' (rel_seq1 d1 U2 f2.size fun b hb _ => .inl hb) (rel_seq1 d2 U2 f2.size fun b hb _ => .inl hb) (rel_seq1 d3 U2 f2.size fun b hb _ => .inl hb) (rel_seq rel_mpe d4 U2 f2.size fun b hb _ => .inl hb) (by omega) fun w'' H'' k'' => hF w'' (H''.mono fun _ h => .inl h) (((Keep.of f2 (by simp)).trans (k''.mono fun _ h => .inl h)))⟩

theorem cls63_c {m : Prop} {a1 a2 a3 a4 : Option Addr} {l1 c1 l2 c2 l3 c3 l4 c4 : Nat} (x : Cls) (hx : x.ok) (H : WrAt N w t W) (d1 : rSeq N m w 1 RInt a1 l1 x.faces) (d2 : rSeq N m w 2 RFld a2 l2 x.flds) (d3 : rSeq N m w 2 RFld a3 l3 x.stats) (d4 : rSeq N m w 9 (RMth N m w) a4 l4 x.mths)
    (hl : W.bs.length + 511123 ≤ 1099511627776) {K : World → Prop} (hK : ∀ w', WrAt N w' t (W.app (clsW x)) → Keep N w w' → K w') : C63 (some ⟨t, 0, none⟩) x.name x.face x.fin x.sup a1 l1 c1 a2 l2 c2 a3 l3 c3 a4 l4 c4 w K := by
  refine r_f63 _ _ _ _ _ _ _ _ _ _ _ _ _ _ _ _ _ _ _ fun b1 w2 n1 b3 w4 n4 => ?_
  have f4 : Fr [] w w4 := (n1.fr []).more (n4.fr [])
  obtain ⟨N4, H4, hC, hB, hin⟩ : ∃ N4 : Nat → Prop, WrAt N4 w4 t W ∧ N4 b1 ∧ N4 b3 ∧ ∀ b, N b → N4 b := ⟨_, (H.grow (n1.fr []) n1.ge n1.blk.lt).grow (n4.fr []) n4.ge n4.blk.lt, .inl (.inr rfl), .inr rfl, fun _ h => .inl (.inl h)⟩
  have U4 : SameU N w w4 := SameU.of_fr f4 (by simp)
  have C4 := n1.blk.fr (n4.fr []) (by simp)
  have B4 := n4.blk
  have e1 := rel_seq1 d1 U4 f4.size fun b hb _ => hin b hb
  have e2 := rel_seq1 d2 U4 f4.size fun b hb _ => hin b hb
  have e3 := rel_seq1 d3 U4 f4.size fun b hb _ => hin b hb
  have e4 := rel_seq rel_mth d4 U4 f4.size fun b hb _ => hin b hb
  have kin : Keep N w w4 := Keep.of f4 (by simp)
  have g1 := nameW_len x.name
  have g2 := numW_len (flagI x.face 1 + flagI x.fin 2)
  have g3 := numW_len x.sup
  have g4 := layW_len 8 numW_len x.faces
  have g5 := layW_len 24 fldW_len x.flds
  have g6 := layW_len 24 fldW_len x.stats
  obtain ⟨o1, o2, o3, o4, o5⟩ := hx
  refine ⟨_, C4.cell rfl, _, B4.cell rfl, wname_c _ H4 (by omega) fun w7 H7 k7 => ?_⟩
  refine ⟨fun w' => WrAt N4 w' t ((W.app (nameW x.name)).app (numW (flagI x.face 1 + flagI x.fin 2))) ∧ Keep N4 w4 w', fun w10 d10 => ?_, ?_⟩
  · have H10 := H7.fr (d10.fr []) (by simp)
    have k10 : Keep N4 w4 w10 := k7.trans (Keep.of (d10.fr []) (by simp))
    have hf : I6 (flagI x.face 1 + flagI x.fin 2) := by unfold flagI I6; split <;> split <;> omega
    have fin : ∀ w', w' = w10 → Fit .i64 (flagI x.face 1 + flagI x.fin 2) ∧ C61 (some ⟨t, 0, none⟩) (flagI x.face 1 + flagI x.fin 2) w' fun w18 => WrAt N4 w18 t ((W.app (nameW x.name)).app (numW (flagI x.face 1 + flagI x.fin 2))) ∧ Keep N4 w4 w18 := by
      rintro _ rfl
      exact ⟨fit64 hf.1 hf.2, wnum_c hf H10 (by rw [app_len]; omega) fun w15 H15 k15 => ⟨H15, k10.trans k15⟩⟩
    have C10 := (k10.blk C4 hC).cell (i := 0) rfl
    have B1 := (k10.blk B4 hB).cell (i := 1) rfl
    have B2 := (k10.blk B4 hB).cell (i := 2) rfl
    refine ⟨_, B1, ⟨_, C10, wflag_c _ _ ⟨_, B2, wflag_c _ _ (fin _ rfl)⟩, _, B2, wflag_c _ _ (wflag_c _ _ (fin _ rfl))⟩, wflag_c _ _ ⟨_, B2, ⟨_, C10, wflag_c _ _ (fin _ rfl)⟩, wflag_c _ _ ⟨_, C10, fin _ rfl⟩⟩, _, B2, ⟨_, C10, wflag_c _ _ (wflag_c _ _ (fin _ rfl))⟩, wflag_c _ _ ⟨⟨_, C10, wflag_c _ _ (fin _ rfl)⟩, wflag_c _ _ ⟨_, C10, fin _ rfl⟩⟩⟩
  rintro - w9 ⟨H9, k9⟩
  refine ⟨_, (k9.blk C4 hC).cell rfl, _, (k9.blk B4 hB).cell rfl, wnum_c o1 H9 (by simp only [app_len]; omega) fun w55 H55 k55 => ?_⟩
  replace k55 := k9.trans k55
  refine ⟨_, (k55.blk C4 hC).cell rfl, _, _, _, (k55.blk B4 hB).cell rfl, _, (k55.blk C4 hC).cell rfl, lay82 (most := 8) (by decide) H55 (by simp only [app_len]; omega) o2 (rel_seq1 e1 k55.same k55.size fun b hb _ => hb) fun w59 H59 k59 => ?_⟩
  replace k59 := k55.trans k59
  refine ⟨_, (k59.blk C4 hC).cell rfl, _, _, _, (k59.blk B4 hB).cell rfl, lay84 (most := 24) (cap2 := b1) (k59.blk C4 hC) hC (by decide) H59 (by simp only [app_len]; omega) o3 (rel_seq1 e2 k59.same k59.size fun b hb _ => hb) fun w62 H62 k62 => ?_⟩
  replace k62 := k59.trans k62
  refine ⟨_, (k62.blk C4 hC).cell rfl, _, _, _, (k62.blk B4 hB).cell rfl, lay84 (most := 24) (cap2 := b1) (k62.blk C4 hC) hC (by decide) H62 (by simp only [app_len]; omega) o4 (rel_seq1 e3 k62.same k62.size fun b hb _ => hb) fun w65 H65 k65 => ?_⟩
  replace k65 := k62.trans k65
  refine ⟨_, (k65.blk C4 hC).cell rfl, _, _, _, (k65.blk B4 hB).cell rfl, _, (k65.blk C4 hC).cell rfl, lay85 (most := 24) (cap := 0) (cap2 := 0) (by decide) H65 (by simp only [app_len]; omega) o5 (rel_seq rel_mth e4 k65.same k65.size fun b hb _ => hb) fun w69 H69 k69 => ?_⟩
  refine hK w69 ?_ (kin.trans ((k65.trans k69).mono hin))
  rw [clsW]
  simp only [Wr.app_assoc] at H69
  exact H69.mono hin


theorem lay62 {most : Nat} {m : Prop} {xs : List Cls} {a : Option Addr} {l c cap cap2 : Nat} (hm : most ≤ 1000) (H : WrAt N w t W) (hl : W.bs.length + (5 + most * 511123) ≤ 1099511627776) (hok : ∀ x ∈ xs, x.ok) (D : rSeq N m w 8 (RCls N m w) a l xs) {K : World → Prop}
    (hK : ∀ w', WrAt N w' t (W.app (layW most clsW xs)) → Keep N w w' → K w') : C62 (some ⟨t, 0, none⟩) (most : Int) a l c (.func (.func 63) #[.pointer (some ⟨t, 0, none⟩)] #[] : Value) w K := by
  have e := D.1
  refine r_f62 _ _ _ _ _ _ _ _ ?_
  unfold V_f62
  rw [e]
  refine lay_head (c := 511123) hm H hl hK fun hx hK w2 H2 k2 => ?_
  rw [← e]
  have h5 : xs.length * 511123 ≤ most * 511123 := Nat.mul_le_mul_right _ hx
  refine lay_loop (R := RCls) (m := m) (kk := 8) rel_cls (one := clsW) (c := 511123) clsW_len (fun w6 p7 n5 F =>
    ∃ (s8 : ByteArray), ∃ (b9 : Bool), ∃ (b10 : Bool), ∃ (n11 : Int), ∃ (a12 : Option Addr) (l12 c12 : Nat), ∃ (a13 : Option Addr) (l13 c13 : Nat), ∃ (a14 : Option Addr) (l14 c14 : Nat), ∃ (a15 : Option Addr) (l15 c15 : Nat), CellsAt w6 (Addr.add p7 (Int.toNat n5 * 8)) [.string s8, .bool b9, .bool b10, .int .i64 n11, .slice a12 l12 c12, .slice a13 l13 c13, .slice a14 l14 c14, .slice a15 l15 c15] ∧
    ∀ (b16 : Nat) (w17 : World), NewAt w6 w17 b16 #[.string (ByteArray.mk #[]), .bool false, .bool false, .int .i64 0, .slice none 0 0, .slice none 0 0, .slice none 0 0, .slice none 0 0] 75 →
    MayL w17 ⟨b16, 0, none⟩ 8 ∧ ∀ w18 : World, SetL w17 w18 ⟨b16, 0, none⟩ [.string s8, .bool b9, .bool b10, .int .i64 n11, .slice a12 l12 c12, .slice a13 l13 c13, .slice a14 l14 c14, .slice a15 l15 c15] →
    ∃ (s19 : ByteArray), ∃ (b20 : Bool), ∃ (b21 : Bool), ∃ (n22 : Int), ∃ (a23 : Option Addr) (l23 c23 : Nat), ∃ (a24 : Option Addr) (l24 c24 : Nat), ∃ (a25 : Option Addr) (l25 c25 : Nat), ∃ (a26 : Option Addr) (l26 c26 : Nat), CellsAt w18 ⟨b16, 0, none⟩ [.string s19, .bool b20, .bool b21, .int .i64 n22, .slice a23 l23 c23, .slice a24 l24 c24, .slice a25 l25 c25, .slice a26 l26 c26] ∧
    C63 (some ⟨t, 0, none⟩) s19 b20 b21 n22 a23 l23 c23 a24 l24 c24 a25 l25 c25 a26 l26 c26 w18 fun w27 => F w27) (ok := fun x => x.ok) hok (by rw [app_len]; have := numW_len (xs.length : Int); omega) (by omega) ?_ H2 (rel_seq rel_cls D k2.same k2.size fun b hb _ => hb) fun w' H' k' => hK w' H' (k2.trans k')
  rintro w' W' p vs x n F k6 H' hl' hx - - - hc hr hF
  have k0 := k2.trans k6
  obtain ⟨a1, l1, c1, a2, l2, c2, a3, l3, c3, a4, l4, c4, rfl, d1, d2, d3, d4⟩ := hr
  refine ⟨_, _, _, _, _, _, _, _, _, _, _, _, _, _, _, _, hc, fun b1 w1' n1 => ⟨n1.blk.mayL (by simp), fun w2' s2 => ?_⟩⟩
  obtain ⟨B, f⟩ := newSet n1 s2 rfl
  have f2 : Fr [] w' w2' := f []
  have H2' := H'.grow f2 n1.ge B.lt
  have U2 : SameU N w' w2' := SameU.of_fr f2 (by simp)
  refine ⟨_, _, _, _, _, _, _, _, _, _, _, _, _, _, _, _, B.cells, cls63_c x hx H2' (rel_seq1 d1 U2 f2.size fun b hb _ => .inl hb) (rel_seq1 d2 U2 f2.size fun b hb _ => .inl hb) (rel_seq1 d3 U2 f2.size fun b hb _ => .inl hb) (rel_seq rel_mth d4 U2 f2.size fun b hb _ => .inl hb) (by omega) fun w'' H'' k'' => hF w'' (H''.mono fun _ h => .inl h) (((Keep.of f2 (by simp)).trans (k''.mono fun _ h => .inl h)))⟩

end
end Go.Proofs.Ytmlhdmnnijapjaa.V

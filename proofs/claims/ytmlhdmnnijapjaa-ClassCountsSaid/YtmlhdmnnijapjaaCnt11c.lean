/- So many, and no more. No condition. -/
import Derived.Test.YtmlhdmnnijapjaaCnt11b
namespace Go.Proofs.Ytmlhdmnnijapjaa.V
open Go Go.RowKit Go.Proofs.Ytmlhdmnnijapjaa.WirePlain

/-- What stands in the law's place, and how it will be answered: written and read, or not, for there is too much. -/
structure Ask2 (w0 : World) (bp : Nat) (over : Bool) (w : World) : Prop where
  ex : ∃ p a l c, Blk w bp [.int .i64 p.main, .slice a l c] ∧ rSeq Al False w 8 (RCls Al False w) a l p.clss ∧ p.ok ∧ (over = false → p.sm ∧ (encP p).2 = 0) ∧ (over = true → encP p = (⟨#[]⟩, 1404))
  fr : Fr [] w0 w

theorem Ask2.run {w0 w : World} {bp : Nat} {over : Bool} (h : Ask2 w0 bp over w) {K : Bool → World → Prop} (hK : ∀ w', Fr [] w0 w' → K true w') :
    IfB over (∃ (n97 : Int), ∃ (a98 : Option Addr) (l98 c98 : Nat), CellsAt w ⟨bp, 0, none⟩ [.int .i64 n97, .slice a98 l98 c98] ∧ C38 n97 a98 l98 c98 1404 w fun b99 w100 => K b99 w100)
      (∃ (n101 : Int), ∃ (a102 : Option Addr) (l102 c102 : Nat), CellsAt w ⟨bp, 0, none⟩ [.int .i64 n101, .slice a102 l102 c102] ∧ C39 n101 a102 l102 c102 w fun b103 w104 => K b103 w104) := by
  obtain ⟨⟨p, a, l, c, B, D, ok, h1, h2⟩, f⟩ := h
  refine ifb_cases (fun hb => ⟨_, _, _, _, B.cells, refuses_ok ok (h2 hb) D fun w' f' => hK w' (f.more f')⟩) (fun hb => ⟨_, _, _, _, B.cells, back_ok ok (h1 hb).1 (h1 hb).2 D fun w' f' => hK w' (f.more f')⟩)

theorem cnt_main (j k : Nat) : (cntP j k).main = 11 := by unfold cntP; split <;> rfl
theorem Ask2.of {w0 w : World} {bp : Nat} {over : Bool} {j k : Nat} (hj : j < 8) (hk : k = lim j + if over then 1 else 0) {a : Option Addr} {l c : Nat} (B : Blk w bp [.int .i64 11, .slice a l c]) (D : rSeq Al False w 8 (RCls Al False w) a l (cntP j k).clss) (f : Fr [] w0 w) : Ask2 w0 bp over w := by
  refine ⟨⟨cntP j k, a, l, c, by rw [cnt_main]; exact B, D, cnt_ok j k, fun h => ?_, fun h => ?_⟩, f⟩
  · rw [h] at hk
    have hk : k = lim j := by simpa using hk
    rw [hk]
    have := cnt_enc hj
    exact ⟨(cln_prg (encP_ok this).1).2, this⟩
  · rw [h] at hk
    have hk : k = lim j + 1 := by simpa using hk
    rw [hk]
    exact cnt_no hj

theorem lim_le (j : Nat) : 8 ≤ lim j ∧ lim j ≤ 300 := by unfold lim; split <;> decide

theorem bare {U : Nat → Prop} {k : Nat} {α : Type} {R : List Value → α → Prop} {w : World} : rSeq U False w k R none 0 ([] : List α) := rSeq.nil

theorem cls_one {w : World} {bc : Nat} {nm : ByteArray} {fs : List Int} {a b : List Fld} {ms : List Mth} {a1 a2 a3 a4 : Option Addr} {l1 c1 l2 c2 l3 c3 l4 c4 : Nat} (B : Blk w bc [.string nm, .bool false, .bool false, .int .i64 0, .slice a1 l1 c1, .slice a2 l2 c2, .slice a3 l3 c3, .slice a4 l4 c4])
    (d1 : rSeq Al False w 1 RInt a1 l1 fs) (d2 : rSeq Al False w 2 RFld a2 l2 a) (d3 : rSeq Al False w 2 RFld a3 l3 b) (d4 : rSeq Al False w 9 (RMth Al False w) a4 l4 ms) : rSeq Al False w 8 (RCls Al False w) (some ⟨bc, 0, none⟩) 1 [⟨nm, false, false, 0, fs, a, b, ms⟩] :=
  rSeq.one B trivial rfl ⟨_, _, _, _, _, _, _, _, _, _, _, _, rfl, d1, d2, d3, d4⟩
theorem mth_one {w : World} {bm : Nat} {nm : ByteArray} {ag : List Int} {cd : List Ins} {tb : List Hnd} {a1 a2 a3 : Option Addr} {l1 c1 l2 c2 l3 c3 : Nat} (B : Blk w bm [.string nm, .bool true, .slice a1 l1 c1, .int .i64 0, .int .i64 0, .int .i64 0, .slice a2 l2 c2, .slice a3 l3 c3, .slice none 0 0])
    (d1 : rSeq Al False w 1 RInt a1 l1 ag) (d2 : rSeq Al False w 3 RIns a2 l2 cd) (d3 : rSeq Al False w 4 RHnd a3 l3 tb) : rSeq Al False w 9 (RMth Al False w) (some ⟨bm, 0, none⟩) 1 [⟨nm, true, ag, 0, 0, 0, cd, tb, []⟩] :=
  rSeq.one B trivial rfl ⟨_, _, _, _, _, _, _, _, _, _, _, _, rfl, d1, d2, d3, bare⟩

theorem rep_seq {α : Type} {R : List Value → α → Prop} {w : World} {a : Option Addr} {n c k : Nat} {row : List Value} {x : α} (S : SV w a n c k (List.replicate n row).flatten) (hk : 0 < k) (hr : row.length = k) (hR : R row x) : rSeq Al False w k R a n (List.replicate n x) :=
  rseq_sv S hk (fun r h => by rw [List.eq_of_mem_replicate h]; exact hr) (by simp) (by simp) fun i r y h1 h2 => by rw [rep_get h1, rep_get h2]; exact hR

theorem classCounts_c {W : World} (kind : Int) (over : Bool) {K : Bool → World → Prop} (hK : ∀ w', Fr [] W w' → K true w') : C11 kind over W K := by
  refine r_f11 _ _ _ _ (awake_c fun w2 f2 => ifb_nyes rfl (tiny_c fun bi bm bc w5 T5 f5 => ?_))
  intro b6 w7 n6
  refine ⟨n6.blk.mayL (by simp), fun w8 s8 => ?_⟩
  obtain ⟨B8, f8⟩ := newSet n6 s8 rfl
  refine ⟨_, _, _, B8.cell rfl, PtrOK.of rfl ⟨by decide, fun b11 w12 n12 => ?_⟩⟩
  have f12 := n12.fr []
  have g12 : Fr [] W w12 := ((f2.more (f5 [])).more (f8 [])).more f12
  have g6 := n6.ge
  have li := T5.i.lt
  have lm := T5.m.lt
  have lc := T5.c.lt
  have nn := T5.ne
  have Ti := (T5.i.fr (f8 []) (by simp)).fr f12 (by simp)
  have Tm := (T5.m.fr (f8 []) (by simp)).fr f12 (by simp)
  have Tc := (T5.c.fr (f8 []) (by simp)).fr f12 (by simp)
  have B12 := B8.fr f12 (by simp)
  have l2 := T5.ge
  have sz2 := f2.size
  have lt6 := B12.lt
  have lti := Ti.lt
  have ltm := Tm.lt
  have ltc := Tc.lt
  clear T5
  have e7 : bits .and .i64 kind 7 = kind % 8 := bits_low 7 3 (by decide) (by decide) kind
  have e1 : bits .and .i64 kind 1 = kind % 2 := bits_low 1 1 (by decide) (by decide) kind
  obtain ⟨j, hj, ej⟩ : ∃ j : Nat, j < 8 ∧ kind % 8 = j := ⟨(kind % 8).toNat, by omega, by omega⟩
  have e12 : kind % 2 = ((j % 2 : Nat) : Int) := by omega
  rw [e7, e1, ej, e12]
  have hcell : ∀ j, j < 8 → ([.int .i64 40, .int .i64 8, .int .i64 24, .int .i64 24, .int .i64 24, .int .i64 8, .int .i64 300, .int .i64 16] : List Value)[j]? = some (.int .i64 (lim j : Int)) := fun j hj => by
    match j, hj with
    | 0, _ => rfl
    | 1, _ => rfl
    | 2, _ => rfl
    | 3, _ => rfl
    | 4, _ => rfl
    | 5, _ => rfl
    | 6, _ => rfl
    | 7, _ => rfl
  refine ⟨⟨by omega, by omega⟩, (lim j : Int), by rw [Int.toNat_natCast, Nat.mul_one]; exact n12.blk.cella (by rw [Nat.zero_add]; exact hcell j hj), ?_⟩
  obtain ⟨lo, hi⟩ := lim_le j
  refine ⟨fun n w' => n = ((lim j + if over then 1 else 0 : Nat) : Int) ∧ w' = w12, ifb_cases (fun h => ⟨fit64 (by omega) (by omega), by rw [h]; simp, rfl⟩) (fun h => ⟨by rw [h]; simp, rfl⟩), ?_⟩
  rintro - n15 w16 ⟨hn, rfl⟩
  obtain ⟨k, hk⟩ : ∃ k : Nat, k = lim j + if over then 1 else 0 := ⟨_, rfl⟩
  rw [← hk] at hn
  have hk1 : 8 ≤ k ∧ k ≤ 301 := by rw [hk]; split <;> omega
  have end_ : ∀ {S : List Nat} {w' : World}, Fr S w16 w' → (∀ k ∈ S, W.heap.size ≤ k) → Fr [] W w' := fun f h => g12.trans f (fun k hk => .inr (h k hk))
  have mk : ∀ {w' : World}, SV w' none 0 0 1 [] := fun {w'} => SV.nil _ _
  have insT : ∀ {w' : World}, Blk w' bi [.int .i64 29, .int .i64 0, .int .i64 0] → rSeq Al False w' 3 RIns (some ⟨bi, 0, none⟩) 1 [⟨29, 0, 0⟩] := fun B => rSeq.one B trivial rfl rfl
  have mthT : ∀ {w' : World}, Blk w' bi [.int .i64 29, .int .i64 0, .int .i64 0] → Blk w' bm [.string tinyM.name, .bool true, .slice none 0 0, .int .i64 0, .int .i64 0, .int .i64 0, .slice (some ⟨bi, 0, none⟩) 1 1, .slice none 0 0, .slice none 0 0] → rSeq Al False w' 9 (RMth Al False w') (some ⟨bm, 0, none⟩) 1 [tinyM] := fun Bi Bm => mth_one Bm bare (insT Bi) bare
  refine ⟨fun w' => Ask2 W b6 over w', ?_, fun _ w18 A => A.run hK⟩
  simp only [at0]
  refine IfB.dec (fun h0 => ?_) (fun h0 => IfB.dec (fun h1 => ?_) (fun h1 => IfB.dec (fun h2 => ?_) (fun h2 => IfB.dec (fun h3 => ?_) (fun h3 => IfB.dec (fun h4 => ?_) (fun h4 => IfB.dec (fun h5 => ?_) (fun h5 => IfB.dec (fun h6 => ?_) (fun h6 => ?_)))))))
  · obtain rfl : j = 0 := by omega
    refine grow_loop (hs := [.int .i64 11, .int .i64 0]) (ix := 1) (rb := bc) (k := 8) (n := k) (t := 52) (e := 75) (i := Try.t75) (row := [.string (ByteArray.mk #[65]), .bool false, .bool false, .int .i64 0, .slice none 0 0, .slice none 0 0, .slice none 0 0, .slice none 0 0]) (by kernel_rfl) (by kernel_rfl) rfl rfl rfl (by decide) (by decide) B12 (by decide) Tc (by omega) rfl rfl (by simp [isCell]) (by omega) (by omega) hn fun w' a c B S f => ?_
    have Bi := Ti.fr f (by simp; omega)
    have Bm := Tm.fr f (by simp; omega)
    refine Ask2.of hj hk B ?_ (end_ f (by simp; omega))
    refine rseq_sv S (by decide) (fun r hr => ?_) (by simp [cntP, cnt0]; omega) (by simp [cntP, cnt0]) (fun i r x h1 h2 => cons_rep_get (R := RCls Al False w') ?_ ?_ h1 h2)
    · rcases List.mem_cons.1 hr with rfl | hr
      · rfl
      · rw [List.eq_of_mem_replicate hr]; rfl
    · exact ⟨_, _, _, _, _, _, _, _, _, _, _, _, rfl, bare, bare, bare, mthT Bi Bm⟩
    · exact ⟨_, _, _, _, _, _, _, _, _, _, _, _, rfl, bare, bare, bare, bare⟩
  · obtain rfl : j = 1 := by omega
    refine make_c 38 3 Try.t3 _ 1 (by kernel_rfl) (by kernel_rfl) rfl rfl rfl (by decide) (by decide) (by decide) (by omega) (by omega) _ fun b w30 S f hb => ?_
    have C30 := Tc.fr (f []) (by simp)
    refine ⟨C30.may (by simp), fun w31 s31 => ?_⟩
    have f31 := s31.fr (S := [bc]) (by simp)
    have C31 := s31.blk C30
    have S31 := S.fr f31 (fun x hx h => by simp [ablk] at hx h; omega)
    have e : n15.toNat = k := by omega
    rw [e] at S31 C31
    refine Ask2.of hj hk (((B12.fr (f []) (by simp)).fr f31 (by simp; omega))) (cls_one C31 (rep_seq S31 (by decide) rfl rfl) bare bare (mthT ((Ti.fr (f []) (by simp)).fr f31 (by simp; omega)) ((Tm.fr (f []) (by simp)).fr f31 (by simp; omega)))) (end_ ((f [bc]).more f31) (by simp; omega))
  · obtain rfl : j = 2 := by omega
    refine fold_loop (k := 2) (n := k) (t := 72) (e := 77) (i := Try.t77) (row := [.string (ByteArray.mk #[102]), .int .i64 1]) (by kernel_rfl) (by kernel_rfl) rfl rfl rfl (by decide) (by decide) rfl (by simp [isCell]) (by omega) hn fun w' a c S hA f => ?_
    have C' := Tc.fr (f []) (by simp)
    refine IfB.yes (by decide) ⟨C'.may (by simp), fun w41 s41 => ?_⟩
    have f41 := s41.fr (S := [bc]) (by simp)
    have S41 := S.fr f41 (fun x hx h => by have := hA x hx; simp at h; omega)
    exact Ask2.of hj hk (((B12.fr (f []) (by simp)).fr f41 (by simp; omega))) (cls_one (s41.blk C') bare (rep_seq S41 (by decide) rfl rfl) bare (mthT ((Ti.fr (f []) (by simp)).fr f41 (by simp; omega)) ((Tm.fr (f []) (by simp)).fr f41 (by simp; omega)))) (end_ ((f [bc]).more f41) (by simp; omega))
  · obtain rfl : j = 3 := by omega
    refine fold_loop (k := 2) (n := k) (t := 72) (e := 77) (i := Try.t77) (row := [.string (ByteArray.mk #[102]), .int .i64 1]) (by kernel_rfl) (by kernel_rfl) rfl rfl rfl (by decide) (by decide) rfl (by simp [isCell]) (by omega) hn fun w' a c S hA f => ?_
    have C' := Tc.fr (f []) (by simp)
    refine IfB.no (by decide) ⟨C'.may (by simp), fun w41 s41 => ?_⟩
    have f41 := s41.fr (S := [bc]) (by simp)
    have S41 := S.fr f41 (fun x hx h => by have := hA x hx; simp at h; omega)
    exact Ask2.of hj hk (((B12.fr (f []) (by simp)).fr f41 (by simp; omega))) (cls_one (s41.blk C') bare bare (rep_seq S41 (by decide) rfl rfl) (mthT ((Ti.fr (f []) (by simp)).fr f41 (by simp; omega)) ((Tm.fr (f []) (by simp)).fr f41 (by simp; omega)))) (end_ ((f [bc]).more f41) (by simp; omega))
  · obtain rfl : j = 4 := by omega
    refine grow_loop (hs := [.string tinyC.name, .bool false, .bool false, .int .i64 0, .slice none 0 0, .slice none 0 0, .slice none 0 0, .int .i64 0]) (ix := 7) (rb := bm) (k := 9) (n := k) (t := 73) (e := 82) (i := Try.t82) (row := [.string (ByteArray.mk #[109]), .bool false, .slice none 0 0, .int .i64 0, .int .i64 0, .int .i64 0, .slice none 0 0, .slice none 0 0, .slice none 0 0]) (by kernel_rfl) (by kernel_rfl) rfl rfl rfl (by decide) (by decide) Tc (by decide) Tm (by omega) rfl rfl (by simp [isCell]) (by omega) (by omega) hn fun w' a c B S f => ?_
    have Bi := Ti.fr f (by simp; omega)
    refine Ask2.of hj hk (B12.fr f (by simp; omega)) (cls_one B bare bare bare ?_) (end_ f (by simp; omega))
    refine rseq_sv S (by decide) (fun r hr => ?_) (by simp; omega) (by simp) (fun i r x h1 h2 => cons_rep_get (R := RMth Al False w') ?_ ?_ h1 h2)
    · rcases List.mem_cons.1 hr with rfl | hr
      · rfl
      · rw [List.eq_of_mem_replicate hr]; rfl
    · exact ⟨_, _, _, _, _, _, _, _, _, _, _, _, rfl, bare, insT Bi, bare, bare⟩
    · exact ⟨_, _, _, _, _, _, _, _, _, _, _, _, rfl, bare, bare, bare, bare⟩
  · obtain rfl : j = 5 := by omega
    intro w64 d64
    have Tc6 := Tc.fr (d64.fr []) (by simp)
    have leaf : ∀ (b : Nat) (w30 : World), SV w30 (some ⟨b, 0, none⟩) n15.toNat n15.toNat 1 (List.replicate n15.toNat [.int .i64 0]).flatten → (∀ S, Fr S w64 w30) → w64.heap.size ≤ b → May w30 ⟨bm, 2, none⟩ ∧ ∀ w31 : World, SetC w30 w31 ⟨bm, 2, none⟩ (.slice (some ⟨b, 0, none⟩) n15.toNat n15.toNat) → Ask2 W b6 over w31 := fun b w30 S f hb => by
      have f0 : ∀ S, Fr S w16 w30 := fun S => (d64.fr S).more (f S)
      have hb0 := (d64.fr []).size
      have C30 := Tm.fr (f0 []) (by simp)
      refine ⟨C30.may (by simp), fun w31 s31 => ?_⟩
      have f31 := s31.fr (S := [bm]) (by simp)
      have C31 := s31.blk C30
      have S31 := S.fr f31 (fun x hx h => by simp [ablk] at hx h; omega)
      have e : n15.toNat = k := by omega
      rw [e] at S31 C31
      have Bi := (Ti.fr (f0 []) (by simp)).fr f31 (by simp; omega)
      have rep := rep_seq (R := RInt) (x := (0 : Int)) S31 (by decide) rfl rfl
      exact Ask2.of hj hk (((B12.fr (f0 []) (by simp)).fr f31 (by simp; omega))) (cls_one ((Tc.fr (f0 []) (by simp)).fr f31 (by simp; omega)) bare bare bare (mth_one C31 rep (insT Bi) bare)) (end_ ((f0 [bm]).more f31) (by simp; omega))
    refine ⟨⟨_, _, _, Tc6.cell rfl, make_c 38 3 Try.t3 _ 1 (by kernel_rfl) (by kernel_rfl) rfl rfl rfl (by decide) (by decide) (by decide) (by omega) (by omega) _ fun b w30 S f hb => PtrOK.of rfl ⟨by decide, ?_⟩⟩, make_c 38 3 Try.t3 _ 1 (by kernel_rfl) (by kernel_rfl) rfl rfl rfl (by decide) (by decide) (by decide) (by omega) (by omega) _ fun b w30 S f hb => ⟨_, _, _, (Tc6.fr (f []) (by simp)).cell rfl, PtrOK.of rfl ⟨by decide, ?_⟩⟩⟩
    · simp only [at0]; exact leaf b w30 S f hb
    · simp only [at0]; exact leaf b w30 S f hb
  · obtain rfl : j = 6 := by omega
    intro w64 d64
    have Tc6 := Tc.fr (d64.fr []) (by simp)
    have leaf : ∀ (b : Nat) (w30 : World), SV w30 (some ⟨b, 0, none⟩) n15.toNat n15.toNat 3 (List.replicate n15.toNat [.int .i64 0, .int .i64 0, .int .i64 0]).flatten → (∀ S, Fr S w64 w30) → w64.heap.size ≤ b → May w30 ⟨bm, 6, none⟩ ∧ ∀ w31 : World, SetC w30 w31 ⟨bm, 6, none⟩ (.slice (some ⟨b, 0, none⟩) n15.toNat n15.toNat) → Ask2 W b6 over w31 := fun b w30 S f hb => by
      have f0 : ∀ S, Fr S w16 w30 := fun S => (d64.fr S).more (f S)
      have hb0 := (d64.fr []).size
      have C30 := Tm.fr (f0 []) (by simp)
      refine ⟨C30.may (by simp), fun w31 s31 => ?_⟩
      have f31 := s31.fr (S := [bm]) (by simp)
      have C31 := s31.blk C30
      have S31 := S.fr f31 (fun x hx h => by simp [ablk] at hx h; omega)
      have e : n15.toNat = k := by omega
      rw [e] at S31 C31
      have Bi := (Ti.fr (f0 []) (by simp)).fr f31 (by simp; omega)
      have rep := rep_seq (R := RIns) (x := (⟨0, 0, 0⟩ : Ins)) S31 (by decide) rfl rfl
      exact Ask2.of hj hk (((B12.fr (f0 []) (by simp)).fr f31 (by simp; omega))) (cls_one ((Tc.fr (f0 []) (by simp)).fr f31 (by simp; omega)) bare bare bare (mth_one C31 bare rep bare)) (end_ ((f0 [bm]).more f31) (by simp; omega))
    refine ⟨⟨_, _, _, Tc6.cell rfl, make_c 78 87 Try.t87 _ 3 (by kernel_rfl) (by kernel_rfl) rfl rfl rfl (by decide) (by decide) (by decide) (by omega) (by omega) _ fun b w30 S f hb => PtrOK.of rfl ⟨by decide, ?_⟩⟩, make_c 78 87 Try.t87 _ 3 (by kernel_rfl) (by kernel_rfl) rfl rfl rfl (by decide) (by decide) (by decide) (by omega) (by omega) _ fun b w30 S f hb => ⟨_, _, _, (Tc6.fr (f []) (by simp)).cell rfl, PtrOK.of rfl ⟨by decide, ?_⟩⟩⟩
    · simp only [at0]; exact leaf b w30 S f hb
    · simp only [at0]; exact leaf b w30 S f hb
  · obtain rfl : j = 7 := by omega
    intro w64 d64
    have Tc6 := Tc.fr (d64.fr []) (by simp)
    have leaf : ∀ (b : Nat) (w30 : World), SV w30 (some ⟨b, 0, none⟩) n15.toNat n15.toNat 4 (List.replicate n15.toNat [.int .i64 0, .int .i64 0, .int .i64 0, .int .i64 0]).flatten → (∀ S, Fr S w64 w30) → w64.heap.size ≤ b → May w30 ⟨bm, 7, none⟩ ∧ ∀ w31 : World, SetC w30 w31 ⟨bm, 7, none⟩ (.slice (some ⟨b, 0, none⟩) n15.toNat n15.toNat) → Ask2 W b6 over w31 := fun b w30 S f hb => by
      have f0 : ∀ S, Fr S w16 w30 := fun S => (d64.fr S).more (f S)
      have hb0 := (d64.fr []).size
      have C30 := Tm.fr (f0 []) (by simp)
      refine ⟨C30.may (by simp), fun w31 s31 => ?_⟩
      have f31 := s31.fr (S := [bm]) (by simp)
      have C31 := s31.blk C30
      have S31 := S.fr f31 (fun x hx h => by simp [ablk] at hx h; omega)
      have e : n15.toNat = k := by omega
      rw [e] at S31 C31
      have Bi := (Ti.fr (f0 []) (by simp)).fr f31 (by simp; omega)
      have rep := rep_seq (R := RHnd) (x := (⟨0, 0, 0, 0⟩ : Hnd)) S31 (by decide) rfl rfl
      exact Ask2.of hj hk (((B12.fr (f0 []) (by simp)).fr f31 (by simp; omega))) (cls_one ((Tc.fr (f0 []) (by simp)).fr f31 (by simp; omega)) bare bare bare (mth_one C31 bare (insT Bi) rep)) (end_ ((f0 [bm]).more f31) (by simp; omega))
    refine ⟨⟨_, _, _, Tc6.cell rfl, make_c 79 91 Try.t91 _ 4 (by kernel_rfl) (by kernel_rfl) rfl rfl rfl (by decide) (by decide) (by decide) (by omega) (by omega) _ fun b w30 S f hb => PtrOK.of rfl ⟨by decide, ?_⟩⟩, make_c 79 91 Try.t91 _ 4 (by kernel_rfl) (by kernel_rfl) rfl rfl rfl (by decide) (by decide) (by decide) (by omega) (by omega) _ fun b w30 S f hb => ⟨_, _, _, (Tc6.fr (f []) (by simp)).cell rfl, PtrOK.of rfl ⟨by decide, ?_⟩⟩⟩
    · simp only [at0]; exact leaf b w30 S f hb
    · simp only [at0]; exact leaf b w30 S f hb
end Go.Proofs.Ytmlhdmnnijapjaa.V

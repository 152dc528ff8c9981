/- Which numbers may be written; which names. No condition. -/
import Derived.Test.YtmlhdmnnijapjaaClassA
import Derived.Test.YtmlhdmnnijapjaaGClsL2
namespace Go.Proofs.Ytmlhdmnnijapjaa.V
open Go Go.RowKit Go.Proofs.Ytmlhdmnnijapjaa.WirePlain

/-- Is a program written and read as it was? -/
theorem back_ok {w : World} {m : Prop} {a : Option Addr} {l c : Nat} {p : Prg} (hp : p.ok) (hs : p.sm) (he : (encP p).2 = 0) (D : rSeq Al m w 8 (RCls Al m w) a l p.clss) {K : Bool → World → Prop} (hK : ∀ w', Fr [] w w' → K true w') : C39 p.main a l c w K := by
  refine r_f39 _ _ _ _ _ _ fun b1 w2 n1 => ?_
  have f2 := n1.fr []
  refine ⟨_, _, _, _, n1.blk.cells, encode_c p hp ⟨rfl, al_more D f2⟩ fun w7 f7 => decode_c _ fun w12 m' a' l' c' P12 f12 => ?_⟩
  rw [dec_enc0 he] at P12 ⊢
  intro b13 w14 n13
  refine ⟨n13.blk.mayL (by simp), fun w15 s15 => ?_⟩
  obtain ⟨B15, f15⟩ := newSet n13 s15 rfl
  have g15 : Fr [] w2 w15 := (f7.more f12).more (f15 [])
  have hm : m' = p.main := P12.1
  subst hm
  refine IfB.yes he (IfB.yes rfl ⟨_, _, _, _, (n1.blk.fr g15 (by simp)).cells, _, _, _, _, B15.cells, ?_⟩)
  exact same31 p hs (al_more (al_more D f2) g15) (P12.al (f15 [])) fun w21 f21 => hK w21 ((f2.more g15).more (f21 []))

/-- Is a program not written, for this? -/
theorem refuses_ok {w : World} {m : Prop} {a : Option Addr} {l c : Nat} {p : Prg} (hp : p.ok) {code : Int} (he : encP p = (⟨#[]⟩, code)) (D : rSeq Al m w 8 (RCls Al m w) a l p.clss) {K : Bool → World → Prop} (hK : ∀ w', Fr [] w w' → K true w') : C38 p.main a l c code w K := by
  refine r_f38 _ _ _ _ _ _ _ fun b1 w2 n1 => ?_
  have f2 := n1.fr []
  refine ⟨_, _, _, _, n1.blk.cells, encode_c p hp ⟨rfl, al_more D f2⟩ fun w7 f7 => ?_⟩
  rw [he]
  refine ifb_yes (by simp) ?_
  dsimp only
  rw [decide_eq_true (by rfl)]
  exact hK w7 (f2.more f7)

/-! ### The programs asked about -/
theorem enc_form {p : Prg} (h1 : (encW p).many = false) (h2 : (encW p).nm = false) (h3 : (encW p).fm = true) : encP p = (⟨#[]⟩, 1402) := by
  unfold encP
  rw [if_neg (by simp [h1]), if_neg (by simp [h2]), if_pos h3]
theorem enc_name {p : Prg} (h1 : (encW p).many = false) (h2 : (encW p).nm = true) : encP p = (⟨#[]⟩, 1403) := by
  unfold encP
  rw [if_neg (by simp [h1]), if_pos h2]
theorem enc_many {p : Prg} (h1 : (encW p).many = true) : encP p = (⟨#[]⟩, 1404) := by
  unfold encP
  rw [if_pos h1]

/-- One class, one method: its flags, and not too long. -/
def oneP (main sup : Int) (cn : ByteArray) (fl st : List Fld) (y : Mth) : Prg := ⟨main, [⟨cn, false, false, sup, [], fl, st, [y]⟩]⟩
def oneM (mn : ByteArray) (ret locs stk : Int) (i : Ins) (tab : List Hnd) (maps : List Mpe) : Mth := ⟨mn, true, [], ret, locs, stk, [i], tab, maps⟩

theorem one_len (main sup : Int) (cn : ByteArray) (fl st : List Fld) (y : Mth) : (magicN ++ (encW (oneP main sup cn fl st y)).bs).length ≤ 32768 := by
  have h1 := numW_len main
  have h2 : (layW 40 clsW (oneP main sup cn fl st y).clss).bs.length ≤ 5 + (1 * (21 + 5 + 5 + 45 + (5 + 24 * 26) + (5 + 24 * 26) + (5 + 1 * 21241))) := by
    unfold layW oneP
    rw [if_neg (by simp), app_len]
    have := numW_len (1 : Int)
    simp only [seqW, app_len, List.length_cons, List.length_nil, Wr.nil]
    unfold clsW
    simp only [app_len]
    have := nameW_len cn; have := numW_len (flagI false 1 + flagI false 2); have := numW_len sup; have := layW_len 8 numW_len ([] : List Int)
    have := layW_len 24 fldW_len fl; have := layW_len 24 fldW_len st
    have h7 : (layW 24 mthW [y]).bs.length ≤ 5 + 1 * 21241 := by
      unfold layW
      rw [if_neg (by simp), app_len]
      have := numW_len (1 : Int)
      have := mthW_len y
      simp only [seqW, app_len, List.length_cons, List.length_nil, Wr.nil]
      simp
      omega
    simp
    omega
  have h3 : magicN.length = 4 := rfl
  unfold encW
  rw [List.length_append, app_len, h3]
  show 4 + ((numW main).bs.length + _) ≤ _
  omega

theorem one_many (main sup : Int) (cn : ByteArray) (fl st : List Fld) (mn : ByteArray) (ret locs stk : Int) (i : Ins) (tab : List Hnd) (maps : List Mpe) :
    (encW (oneP main sup cn fl st (oneM mn ret locs stk i tab maps))).many = ((layW 24 fldW fl).many || (layW 24 fldW st).many || (layW 16 hndW tab).many || (layW 64 mpeW maps).many) := by
  simp [encW, oneP, oneM, clsW, mthW, Wr.app, numW, nameW, formW, layW, seqW, Wr.nil, insW, Bool.or_assoc]
theorem one_nm (main sup : Int) (cn : ByteArray) (fl st : List Fld) (mn : ByteArray) (ret locs stk : Int) (i : Ins) (tab : List Hnd) (maps : List Mpe) :
    (encW (oneP main sup cn fl st (oneM mn ret locs stk i tab maps))).nm = (!nameOK cn || (layW 24 fldW fl).nm || (layW 24 fldW st).nm || !nameOK mn || (layW 16 hndW tab).nm || (layW 64 mpeW maps).nm) := by
  simp [encW, oneP, oneM, clsW, mthW, Wr.app, numW, nameW, formW, layW, seqW, Wr.nil, insW, Bool.or_assoc]
theorem one_fm (main sup : Int) (cn : ByteArray) (fl st : List Fld) (mn : ByteArray) (ret locs stk : Int) (i : Ins) (tab : List Hnd) (maps : List Mpe) :
    (encW (oneP main sup cn fl st (oneM mn ret locs stk i tab maps))).fm = (!fitsI main || !fitsI sup || (layW 24 fldW fl).fm || (layW 24 fldW st).fm || !fitsI ret || roomB locs stk || !fitsI locs || !fitsI stk || !fitsI i.op || !fitsI i.a || !fitsI i.b || (layW 16 hndW tab).fm || (layW 64 mpeW maps).fm) := by
  have f0 : fitsI 0 = true := by decide
  have f1 : fitsI 1 = true := by decide
  have g0 : fitsI (flagI false 1 + flagI false 2) = true := by decide
  have g1 : fitsI (flagI true 1) = true := by decide
  simp [encW, oneP, oneM, clsW, mthW, Wr.app, numW, nameW, formW, layW, seqW, Wr.nil, insW, Bool.or_assoc, f0, f1, g0, g1]

theorem one_rep {w : World} {bi bm bc : Nat} {main sup : Int} {cn : ByteArray} {fl st : List Fld} {mn : ByteArray} {ret locs stk : Int} {op a b : Int} {tab : List Hnd} {maps : List Mpe} {ta pa fa sa : Option Addr} {tl tc pl pc fln fc sl sc : Nat}
    (i : Blk w bi [.int .i64 op, .int .i64 a, .int .i64 b])
    (m : Blk w bm [.string mn, .bool true, .slice none 0 0, .int .i64 ret, .int .i64 locs, .int .i64 stk, .slice (some ⟨bi, 0, none⟩) 1 1, .slice ta tl tc, .slice pa pl pc])
    (c : Blk w bc [.string cn, .bool false, .bool false, .int .i64 sup, .slice none 0 0, .slice fa fln fc, .slice sa sl sc, .slice (some ⟨bm, 0, none⟩) 1 1])
    (T : rSeq Al False w 4 RHnd ta tl tab) (P : rSeq Al False w 3 (RMpe Al False w) pa pl maps) (F : rSeq Al False w 2 RFld fa fln fl) (S : rSeq Al False w 2 RFld sa sl st) :
    rSeq Al False w 8 (RCls Al False w) (some ⟨bc, 0, none⟩) 1 (oneP main sup cn fl st (oneM mn ret locs stk ⟨op, a, b⟩ tab maps)).clss :=
  rSeq.one c trivial rfl ⟨none, 0, 0, _, _, _, _, _, _, _, _, _, rfl, rSeq.nil, F, S, rSeq.one m trivial rfl
    ⟨none, 0, 0, _, _, _, _, _, _, _, _, _, rfl, rSeq.nil, rSeq.one i trivial rfl rfl, T, P⟩⟩

theorem at0 (b k j : Nat) : Addr.add (Addr.add ⟨b, 0, none⟩ (Int.toNat 0 * k)) j = ⟨b, j, none⟩ := by
  rw [addr_add, addr_add]
  simp

/-- What stands in the law's place, and how it will be answered: written and read (b), or not for this. -/
structure Asked (w0 : World) (code : Int) (bp : Nat) (b : Bool) (w : World) : Prop where
  ex : ∃ p a, Blk w bp [.int .i64 p.main, .slice a 1 1] ∧ rSeq Al False w 8 (RCls Al False w) a 1 p.clss ∧ p.ok ∧ p.sm ∧ (b = true → (encP p).2 = 0) ∧ (b = false → encP p = (⟨#[]⟩, code))
  fr : Fr [] w0 w

theorem Asked.run {w0 w : World} {code : Int} {bp : Nat} {b : Bool} (h : Asked w0 code bp b w) {K : Bool → World → Prop} (hK : ∀ w', Fr [] w0 w' → K true w') :
    IfB b (∃ (n37 : Int), ∃ (a38 : Option Addr) (l38 c38 : Nat), CellsAt w ⟨bp, 0, none⟩ [.int .i64 n37, .slice a38 l38 c38] ∧ C39 n37 a38 l38 c38 w fun b39 w40 => K b39 w40)
      (∃ (n41 : Int), ∃ (a42 : Option Addr) (l42 c42 : Nat), CellsAt w ⟨bp, 0, none⟩ [.int .i64 n41, .slice a42 l42 c42] ∧ C38 n41 a42 l42 c42 code w fun b43 w44 => K b43 w44) := by
  obtain ⟨⟨p, a, B, D, ok, sm, h1, h2⟩, f⟩ := h
  refine ifb_cases (fun hb => ⟨_, _, _, _, B.cells, back_ok ok sm (h1 hb) D fun w' f' => hK w' (f.more f')⟩) (fun hb => ⟨_, _, _, _, B.cells, refuses_ok ok (h2 hb) D fun w' f' => hK w' (f.more f')⟩)

/-- One class, one method: asked about its numbers. -/
theorem one_asked {p : Prg} {code : Int} {b : Bool} (hl : (magicN ++ (encW p).bs).length ≤ 32768) (hm : (encW p).many = false) (hn : (encW p).nm = false) (hf : (encW p).fm = !b) (hc : code = 1402) : (b = true → (encP p).2 = 0) ∧ (b = false → encP p = (⟨#[]⟩, code)) := by
  subst hc
  constructor
  · rintro rfl
    exact encP_of ⟨hm, hn, by simpa using hf⟩ hl
  · rintro rfl
    exact enc_form hm hn (by simpa using hf)
theorem one_named {p : Prg} {code : Int} {b : Bool} (hl : (magicN ++ (encW p).bs).length ≤ 32768) (hm : (encW p).many = false) (hn : (encW p).nm = !b) (hf : (encW p).fm = false) (hc : code = 1403) : (b = true → (encP p).2 = 0) ∧ (b = false → encP p = (⟨#[]⟩, code)) := by
  subst hc
  constructor
  · rintro rfl
    exact encP_of ⟨hm, by simpa using hn, hf⟩ hl
  · rintro rfl
    exact enc_name hm (by simpa using hn)

theorem one_ok {main sup : Int} {cn : ByteArray} {fl st : List Fld} {mn : ByteArray} {ret locs stk : Int} {i : Ins} {tab : List Hnd} {maps : List Mpe} (h1 : I6 main) (h2 : I6 sup) (h3 : ∀ f ∈ fl, I6 f.ty) (h4 : ∀ f ∈ st, I6 f.ty) (h5 : I6 ret) (h6 : I6 locs) (h7 : I6 stk) (h8 : i.ok) (h9 : ∀ y ∈ tab, y.ok) (h10 : ∀ y ∈ maps, y.ok) :
    (oneP main sup cn fl st (oneM mn ret locs stk i tab maps)).ok := by
  refine ⟨h1, fun c hc => ?_⟩
  simp only [oneP, List.mem_singleton] at hc
  subst hc
  refine ⟨h2, by simp, h3, h4, fun y hy => ?_⟩
  simp only [List.mem_singleton] at hy
  subst hy
  exact ⟨by simp [oneM], h5, h6, h7, by simp only [oneM, List.mem_singleton, forall_eq]; exact h8, h9, h10⟩
theorem one_sm {main sup : Int} {cn : ByteArray} {fl st : List Fld} {mn : ByteArray} {ret locs stk : Int} {i : Ins} {tab : List Hnd} {maps : List Mpe} (h1 : fl.length ≤ 1) (h2 : st.length ≤ 1) (h3 : tab.length ≤ 1) (h4 : maps.length ≤ 1) (h5 : ∀ y ∈ maps, y.ls.length ≤ 1 ∧ y.st.length ≤ 1) :
    (oneP main sup cn fl st (oneM mn ret locs stk i tab maps)).sm := by
  refine ⟨by simp [oneP, smL], fun c hc => ?_⟩
  simp only [oneP, List.mem_singleton] at hc
  subst hc
  refine ⟨by simp [smL], Nat.le_trans h1 (by decide), Nat.le_trans h2 (by decide), by simp [smL], fun y hy => ?_⟩
  simp only [List.mem_singleton] at hy
  subst hy
  exact ⟨by simp [oneM, smL], by simp [oneM, smL], Nat.le_trans h3 (by decide), Nat.le_trans h4 (by decide), fun z hz => by have := h5 z hz; exact ⟨Nat.le_trans this.1 (by decide), Nat.le_trans this.2 (by decide)⟩⟩

end Go.Proofs.Ytmlhdmnnijapjaa.V

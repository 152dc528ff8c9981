/- ObjectActs: an object is made. No condition. -/
import Derived.Test.YtfpghcdjfiggiaaActsP
namespace Go.Proofs.Ytfpghcdjfiggiaa.V
open Go Go.RowKit

def r2 (r : YO) : Int × List Int := (r.ref, r.ws)
def o2f (o : Ob) : Int × List Int := (o.ref, o.vs)
def Rel8 (refs : List Int) (rs : List YO) (os : List Ob) : Prop := refs = rs.map (·.ref) ∧ rs.map r2 = os.map o2f
structure Bd8 (ss : List Int) (last n : Int) (rs : List YO) : Prop where
  n0 : 0 ≤ n
  n1 : n ≤ 300
  la : last ≤ n
  rl : (rs.length : Int) ≤ n
  tk : ∀ a : Nat, 0 ≤ ss.getD a 0 ∧ ss.getD a 0 ≤ 100 * n
  s3 : ss.length = 3
/-- The player's state after n acts. -/
def St8 (W w : World) (y s pb ab : Nat) (count n : Int) : Prop := ∃ own G fr ss last os a c refs qa qc rs, Yo W w own y s pb ab count G fr ss last os a c refs qa qc rs ∧ Rel8 refs rs os ∧ Bd8 ss last n rs

theorem Bd8.next {ss ss' : List Int} {last last' n : Int} {rs rs' : List YO} (b : Bd8 ss last n rs) (hn : n < 300) (hl : last' ≤ last + 1) (hr : rs'.length ≤ rs.length + 1) {k : Int} (t : Tk k ss ss') (hk : 0 ≤ k ∧ k ≤ 100) : Bd8 ss' last' (n + 1) rs' := by
  obtain ⟨h1, h2, h3, h4, h5, h6⟩ := b
  refine ⟨by omega, by omega, by omega, by omega, fun a => ?_, t.1.trans h6⟩
  have := t.2 (100 * n) (by omega) h5 a
  have := h5 a
  omega

theorem zipat {α β γ : Type} {f : α → γ} {h : β → γ} {l : List α} {m : List β} (e : l.map f = m.map h) {i : Nat} {x : α} (hx : l[i]? = some x) : ∃ y, m[i]? = some y ∧ f x = h y := by
  have := congrArg (fun q => q[i]?) e
  simp only [List.getElem?_map, hx, Option.map_some] at this
  cases hm : m[i]? with
  | none => rw [hm] at this; cases this
  | some y => rw [hm] at this; exact ⟨y, rfl, by simpa using this⟩

section
variable {W w w' : World} {own own' : Nat → Nat} {y s pb ab b1 : Nat} {count n : Int} {G G' S : List Nat} {fr fr' : Nat} {ss ss' : List Int} {last last' : Int} {os os' : List Ob} {a qa : Option Addr} {c qc : Nat} {refs : List Int} {rs : List YO}

theorem Rel8.len (h : Rel8 refs rs os) : rs.length = os.length ∧ refs.length = rs.length := by
  have := congrArg List.length h.2; rw [h.1]; simpa using this
theorem Rel8.at (h : Rel8 refs rs os) {i : Nat} {r : YO} (hr : rs[i]? = some r) : ∃ o, os[i]? = some o ∧ r.ref = o.ref ∧ r.ws = o.vs := by
  obtain ⟨o, ho, e⟩ := zipat h.2 hr
  simp only [r2, o2f, Prod.mk.injEq] at e
  exact ⟨o, ho, e.1, e.2⟩
theorem Rel8.of (h : Rel8 refs rs os) {o : Ob} (ho : o ∈ os) : ∃ r ∈ rs, r.ref = o.ref := by
  obtain ⟨i, hi⟩ := List.getElem?_of_mem ho
  obtain ⟨r, hr, e⟩ := zipat h.2.symm hi
  simp only [r2, o2f, Prod.mk.injEq] at e
  exact ⟨r, List.mem_of_getElem? hr, e.1.symm⟩

theorem need178_c {k : Int} (h0 : 0 ≤ k) (h1 : k ≤ 1000) {w : World} {K : Int → World → Prop} (hK : K (1 + (k + 5) / 6) w) : C178 k w K := by
  refine r_f178 _ _ _ ?_
  unfold V_f178
  rw [Int.tdiv_eq_ediv_of_nonneg (by omega)]
  exact ⟨fit64 (by omega) (by omega), by decide, fit64 (by omega) (by omega), fit64 (by omega) (by omega), hK⟩

/-- The act's copy. -/
theorem Yo.copy (h : Yo W w own y s pb ab count G fr ss last os a c refs qa qc rs) {cs : Array Value} {T : TypeId} {b1 : Nat} (n1 : NewAt w w' b1 cs T) : Yo W w' (ext own w.heap.size 4) y s pb ab count G fr ss last os a c refs qa qc rs ∧ Blk w' b1 cs.toList ∧ ext own w.heap.size 4 b1 = 4 := by
  refine ⟨(h.new n1.fr 4).1, n1.blk, ?_⟩
  have := n1.ge
  unfold ext; rw [if_neg (by omega)]

theorem Yo.used (h : Yo W w own y s pb ab count G fr ss last os a c refs qa qc rs) {K : Option Addr → Nat → Nat → World → Prop} (hK : ∀ a (l c : Nat) w', (∀ S, Fr S w w') → (l : Int) = count - fr → K a l c w') : C50 (some ⟨pb, 0, none⟩) w K := by
  obtain ⟨om, F, wb, sb, free, ws, clk, O, _, e⟩ := h.H
  exact fusedl_c O.P fun a c w' _ f' _ => hK a _ c w' f' (by rw [used_len O.P]; omega)

theorem Yo.steps (h : Yo W w own y s pb ab count G fr ss last os a c refs qa qc rs) (bd : Bd8 ss last n rs) (agent : Int) {K : Int → World → Prop} (hK : ∀ k : Int, (0 ≤ agent ∧ agent < ss.length → k = ss.getD agent.toNat 0) → 0 ≤ k → k ≤ 100 * n → K k w) : C128 (some ⟨ab, 0, none⟩) agent w K := by
  obtain ⟨om, F, wb, sb, free, ws, clk, O, _, e⟩ := h.H
  refine steps_c O.P.ar agent (hK _ (fun ha => by rw [if_pos ha]) ?_ ?_)
  · split
    · exact (bd.tk _).1
    · decide
  · have := bd.n0
    split
    · exact (bd.tk _).2
    · omega

theorem Yo.l0 (h : Yo W w own y s pb ab count G fr ss last os a c refs qa qc rs) : 0 ≤ last := by
  obtain ⟨ws, free, I⟩ := h.H.inv; exact I.l0

theorem make160_c (h : Yo W w own y s pb ab count G fr ss last os a c refs qa qc rs) (re : Rel8 refs rs os) (bd : Bd8 ss last n rs) (hn : n < 300) (hc : 1 ≤ count ∧ count ≤ 2000) (xa xb xc xd xe : Int) {K : Bool → World → Prop} (hK : ∀ w', St8 W w' y s pb ab count (n + 1) → K true w') : C160 (some ⟨y, 0, none⟩) xa xb xc xd xe w K := by
  refine r_f160 _ _ _ _ _ _ _ _ fun b1 w2 n1 => ?_
  obtain ⟨h2, B2, o2⟩ := h.copy n1
  generalize ext own w.heap.size 4 = own2 at h2 o2
  have B2 : Blk w2 b1 [.int .i64 xa, .int .i64 xb, .int .i64 xc, .int .i64 xd, .int .i64 xe] := B2
  have hb0 := bd.n0; have hb1 := bd.n1; have hla := bd.la; have hrl := bd.rl; have hs3 := bd.s3
  have hl0 := h.l0
  have hfail : ∀ w' own', Yo W w' own' y s pb ab count G fr ss last os a c refs qa qc rs → St8 W w' y s pb ab count (n + 1) := fun w' own' hh => ⟨own', G, fr, ss, last, os, a, c, refs, qa, qc, rs, hh, re, bd.next hn (by omega) (by omega) (Tk.refl ss) (by decide)⟩
  refine ⟨fun n4 w' => n4 = (fr : Int) ∧ (fr : Int) ≤ count ∧ Yo W w' own2 y s pb ab count G fr ss last os a c refs qa qc rs ∧ Blk w' b1 [.int .i64 xa, .int .i64 xb, .int .i64 xc, .int .i64 xd, .int .i64 xe], fun w6 d6 => ?_, ?_⟩
  · have h6 := h2.still d6.fr
    have B6 := B2.fr (d6.fr []) (by simp)
    refine ⟨_, h6.hd.cell rfl, ⟨_, h6.hd.cell rfl, h6.used fun a' l' c' w7 f7 el => ⟨fit64 (by omega) (by omega), by omega, by omega, h6.still f7, B6.fr (f7 []) (by simp)⟩⟩, h6.used fun a' l' c' w7 f7 el => ⟨_, (h6.still f7).hd.cell rfl, fit64 (by omega) (by omega), by omega, by omega, h6.still f7, B6.fr (f7 []) (by simp)⟩⟩
  rintro - n4 w5 ⟨rfl, hfc, h5, B5⟩
  refine ⟨fun n15 n16 w' => ∃ own', own' b1 = 4 ∧ Blk w' b1 [.int .i64 xa, .int .i64 xb, .int .i64 xc, .int .i64 xd, .int .i64 xe] ∧
      ((n15 = 0 ∧ Yo W w' own' y s pb ab count G fr ss last os a c refs qa qc rs ∧ ((¬ (0 ≤ xb ∧ xb < ss.length) ∧ n16 = 803) ∨ ((0 ≤ xb ∧ xb < ss.length) ∧ ¬ (0 ≤ xe ∧ xe ≤ 64) ∧ n16 = 800) ∨ ((0 ≤ xb ∧ xb < ss.length) ∧ (0 ≤ xe ∧ xe ≤ 64) ∧ (fr : Int) < 1 + (xe + 5) / 6 ∧ n16 = 801))) ∨
       (n15 = last + 1 ∧ n16 = 0 ∧ (0 ≤ xb ∧ xb < ss.length) ∧ (0 ≤ xe ∧ xe ≤ 64) ∧ 1 + (xe + 5) / 6 ≤ (fr : Int) ∧ ∃ G' fr' ss' st fs, Tk 64 ss ss' ∧ fr' + fcnt xe = fr ∧ Yo W w' own' y s pb ab count G' fr' ss' (last + 1) (os ++ [⟨last + 1, xe, st, fs, List.replicate xe.toNat 0⟩]) a c refs qa qc rs)), fun w10 d10 => ?_, ?_⟩
  · have h10 := h5.still d10.fr
    have B10 := B5.fr (d10.fr []) (by simp)
    refine ⟨_, h10.hd.cell rfl, _, B10.cell rfl, _, B10.cell rfl, ?_⟩
    obtain ⟨om, F, wb, sb, free, ws, clk, O, eG, e⟩ := h10.H
    refine omake_c O (by omega) _ _ (fun hno w' f' => ?_) (fun ha hf w' f' => ?_) (fun ha hf hr w' f' => ?_) (fun ha hf hr w' l ws' ss' clk' fs O' el t' f' => ?_)
    · exact ⟨own2, o2, B10.fr (f' []) (by simp), .inl ⟨rfl, h10.still f', .inl ⟨hno, rfl⟩⟩⟩
    · exact ⟨own2, o2, B10.fr (f' []) (by simp), .inl ⟨rfl, h10.still f', .inr (.inl ⟨ha, hf, rfl⟩)⟩⟩
    · exact ⟨own2, o2, B10.fr (f' []) (by simp), .inl ⟨rfl, h10.still f', .inr (.inr ⟨ha, hf, by omega, rfl⟩)⟩⟩
    · obtain ⟨Y', st'⟩ := h10.store (G' := G) (fr' := l.length) (last' := last + 1) ⟨om, F, wb, sb, l, ws', clk', O', eG, rfl⟩ (by rw [eG]; exact f') (fun b hb => .inl hb) (by omega)
      obtain ⟨B', o'⟩ := st'.blk B10 o2
      exact ⟨_, o', B', .inr ⟨rfl, rfl, ha, hf, by omega, G, l.length, ss', clk, fs, t', by omega, Y'⟩⟩
  rintro - n15 n16 w9 ⟨own9, o9, B9, hcs⟩
  refine ⟨fun w' => n15 = last + 1 ∧ n16 = 0 ∧ (0 ≤ xe ∧ xe ≤ 64) ∧ ∃ own' G' fr' ss' st fs, own' b1 = 4 ∧ Blk w' b1 [.int .i64 xa, .int .i64 xb, .int .i64 xc, .int .i64 xd, .int .i64 xe] ∧ Tk 64 ss ss' ∧ fr' + fcnt xe = fr ∧ Yo W w' own' y s pb ab count G' fr' ss' (last + 1) (os ++ [⟨last + 1, xe, st, fs, List.replicate xe.toNat 0⟩]) a c refs qa qc rs, ⟨_, B9.cell rfl, ?_⟩, ?_⟩
  · rcases hcs with ⟨rfl, hy, hcs⟩ | ⟨rfl, rfl, ha, hf, hr, G', fr', ss', st, fs, t', e', hy⟩
    · have fin : ∀ {e : Int}, n16 = e → IfB (decide (n16 = e)) (K (decide ((0 : Int) = 0)) w9) (K false w9) := fun e => ifb_yes (decide_eq_true e) (hK _ (hfail _ _ hy))
      refine IfB.dec (fun q1 => ?_) (fun q1 => ⟨_, B9.cell rfl, IfB.dec (fun q2 => ?_) (fun q2 => ⟨_, B9.cell rfl, IfB.dec (fun q3 => ?_) (fun q3 => ⟨_, B9.cell rfl, IfB.dec (fun q4 => ?_) (fun q4 => ⟨_, B9.cell rfl, need178_c (by omega) (by omega) (IfB.dec (fun q5 => fun w34 d34 => ?_) (fun q5 => ?_))⟩)⟩)⟩)⟩)
      · rcases hcs with ⟨_, e⟩ | ⟨ha, _⟩ | ⟨ha, _⟩
        · exact fin e
        · omega
        · omega
      · rcases hcs with ⟨_, e⟩ | ⟨ha, _⟩ | ⟨ha, _⟩
        · exact fin e
        · omega
        · omega
      · rcases hcs with ⟨_, e⟩ | ⟨ha, hf, e⟩ | ⟨ha, hf, _⟩
        · omega
        · exact fin e
        · omega
      · rcases hcs with ⟨_, e⟩ | ⟨ha, hf, e⟩ | ⟨ha, hf, _⟩
        · omega
        · exact fin e
        · omega
      · rcases hcs with ⟨_, e⟩ | ⟨ha, hf, e⟩ | ⟨ha, hf, hr, e⟩
        · omega
        · omega
        have h34 := hy.still d34.fr
        have fin2 : ∀ {w' : World} {l : Nat}, (∀ S, Fr S w34 w') → (l : Int) = count - fr → K (decide (count - (l : Int) = (fr : Int))) w' := fun f' el => by
          rw [decide_eq_true (by omega)]
          exact hK _ (hfail _ _ (h34.still f'))
        exact ifb_yes (decide_eq_true e) (ifb_yes rfl ⟨_, h34.hd.cell rfl, ⟨_, h34.hd.cell rfl, h34.used fun a' l' c' w7 f7 el => ⟨fit64 (by omega) (by omega), fin2 f7 el⟩⟩, h34.used fun a' l' c' w7 f7 el => ⟨_, (h34.still f7).hd.cell rfl, fit64 (by omega) (by omega), fin2 f7 el⟩⟩)
      · rcases hcs with ⟨_, e⟩ | ⟨ha, hf, e⟩ | ⟨ha, hf, hr, e⟩
        · omega
        · omega
        · omega
    · exact ifb_no (decide_eq_false (by omega)) ⟨_, B9.cell rfl, ifb_no (decide_eq_false (by omega)) ⟨_, B9.cell rfl, ifb_no (decide_eq_false (by omega)) ⟨_, B9.cell rfl, ifb_no (decide_eq_false (by omega)) ⟨_, B9.cell rfl, need178_c (by omega) (by omega) (ifb_no (decide_eq_false (by omega)) ⟨rfl, rfl, hf, own9, G', fr', ss', st, fs, o9, B9, t', e', hy⟩)⟩⟩⟩⟩
  rintro - w26 ⟨rfl, rfl, hf, own26, G26, fr26, ss26, st26, fs26, o26, B26, t26, e26, h26⟩
  have hfn := fcnt_le hf.1
  refine ⟨fun n43 w' => n43 = (fcnt xe : Int) ∧ Yo W w' own26 y s pb ab count G26 fr26 ss26 (last + 1) (os ++ [⟨last + 1, xe, st26, fs26, List.replicate xe.toNat 0⟩]) a c refs qa qc rs ∧ Blk w' b1 [.int .i64 xa, .int .i64 xb, .int .i64 xc, .int .i64 xd, .int .i64 xe], fun w45 d45 => ?_, ?_⟩
  · have h45 := h26.still d45.fr
    have B45 := B26.fr (d45.fr []) (by simp)
    refine ⟨_, h45.hd.cell rfl, ⟨_, h45.hd.cell rfl, h45.used fun a' l' c' w7 f7 el => ⟨fit64 (by omega) (by omega), fit64 (by omega) (by omega), by omega, h45.still f7, B45.fr (f7 []) (by simp)⟩⟩, h45.used fun a' l' c' w7 f7 el => ⟨_, (h45.still f7).hd.cell rfl, fit64 (by omega) (by omega), fit64 (by omega) (by omega), by omega, h45.still f7, B45.fr (f7 []) (by simp)⟩⟩
  rintro - n43 w44 ⟨rfl, h44, B44⟩
  have e0 := re.len
  refine ⟨fun w' => Yo W w' own26 y s pb ab count G26 fr26 ss26 (last + 1) (os ++ [⟨last + 1, xe, st26, fs26, List.replicate xe.toNat 0⟩]) a c refs qa qc rs ∧ Blk w' b1 [.int .i64 xa, .int .i64 xb, .int .i64 xc, .int .i64 xd, .int .i64 xe], ifb_nyes rfl (ifb_no (decide_eq_false (by omega)) (h44.at re.1 (by omega) _ fun n55 h55 => ?_)), ?_⟩
  · rcases h55 with ⟨rfl, _⟩ | ⟨i, r, rfl, hr, er⟩
    · exact ifb_no rfl ⟨_, B44.cell rfl, need178_c hf.1 (by omega) (ifb_no (decide_eq_false (by omega)) ⟨h44, B44⟩)⟩
    · have := (h.pos r (List.mem_of_getElem? hr)).2; omega
  rintro - w54 ⟨h54, B54⟩
  refine ⟨_, _, _, h54.hd.cell rfl, fun b61 w62 n62 => ?_⟩
  refine app_int h54.R n62 (by omega) fun a3 c3 w3 R3 f3 g3 => ?_
  have hd3 := h54.hd.fr f3 (h54.o2.apart h54.o3 (by decide) y (by simp))
  refine ⟨hd3.may (by simp), fun w65 s65 => ?_⟩
  have B65 := s65.blk hd3
  obtain ⟨Y65, st65⟩ := h54.turn (w2 := w65) (refs' := refs ++ [last + 1]) f3 R3 g3 (by rw [List.length_append]; simpa using B65) (s65.fr (by simp))
  obtain ⟨Bb, ob⟩ := st65.blk B54 o26
  refine addwords_c (F := fun w => K true w) Y65 Bb (by omega) (by omega) (ref := last + 1) (by omega) (fun r hr => by have := (h.pos r hr).2; omega) fun w' own' qa' qc' wa wc Y' st' => hK w' ⟨own', G26, fr26, ss26, last + 1, _, _, _, _, qa', qc', _, Y', ⟨?_, ?_⟩, bd.next hn (by omega) (by simp) t26 (by decide)⟩
  · rw [re.1]; simp
  · rw [List.map_append, List.map_append, re.2]; rfl
end
end Go.Proofs.Ytfpghcdjfiggiaa.V

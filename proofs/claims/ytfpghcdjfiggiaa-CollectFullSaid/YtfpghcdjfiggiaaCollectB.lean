/- The collector's heap: what the operations do. No condition. -/
import Derived.Test.YtfpghcdjfiggiaaCollectA
namespace Go.Proofs.Ytfpghcdjfiggiaa.V
open Go Go.RowKit

/-- A bool of a map of true ones is looked up. -/
theorem look_true {w : World} {m : List Ent} {clk mb : Nat} (hm : MI w mb m clk) (hv : ∀ e ∈ m, e.2.1 = .bool true) (k : Int) {K : Bool → World → Prop} (hK : K (decide (k ∈ m.map (·.1))) w) : RunF Try.prog (Instr.lookup 162 (.map (some mb)) (.int .i64 k) false) w [.leaf .bool] K := by
  have hr := run_lookup (P := Try.prog) hm (t := 162) (kt := 3) (et := 4) (by kernel_rfl) (by kernel_rfl) Try.t4 (.bool false) (by kernel_rfl) rfl k false
  by_cases hk : k ∈ m.map (·.1)
  · obtain ⟨e, he, rfl⟩ := List.mem_map.1 hk
    have hg : mget m e.1 = some (.bool true) := by
      have := mget_some hm.nodup (k := e.1) (v := e.2.1) (st := e.2.2) he
      rw [hv e he] at this; exact this
    rw [hg] at hr
    rw [decide_eq_true hk] at hK
    exact ⟨[.bool true], w, hr, hK⟩
  · have hg : mget m k = none := mget_no fun e he e2 => hk (List.mem_map.2 ⟨e, he, e2⟩)
    rw [hg] at hr
    rw [decide_eq_false hk] at hK
    exact ⟨[.bool false], w, hr, hK⟩

/-- A key is put in, of a map of true ones. -/
theorem put_true {w : World} {m : List Ent} {clk mb : Nat} (hm : MI w mb m clk) (hv : ∀ e ∈ m, e.2.1 = .bool true) (k : Int) : ∃ w' m' clk', Sem.run Try.prog (Instr.mapUpdate 162 (.map (some mb)) (.int .i64 k) (.bool true)) w = .ok () w' ∧ MI w' mb m' clk' ∧ Fr [mb] w w' ∧ (∀ e ∈ m', e.2.1 = .bool true) ∧
    m'.map (·.1) = if k ∈ m.map (·.1) then m.map (·.1) else m.map (·.1) ++ [k] := by
  obtain ⟨w1, m', clk', hrun, M1, f1, hm'⟩ := run_update (P := Try.prog) hm (t := 162) (kt := 3) (et := 4) (by kernel_rfl) (by kernel_rfl) k (.bool true)
  rcases hm' with ⟨hn, rfl, rfl⟩ | ⟨hn, rfl, rfl⟩
  · refine ⟨w1, _, _, hrun, M1, f1, fun e he => ?_, ?_⟩
    · obtain ⟨e0, h0, rfl⟩ := List.mem_map.1 he
      split
      · rfl
      · exact hv e0 h0
    · rw [mput_keys, if_pos]
      refine Classical.byContradiction fun hk => hn (mget_no fun e he e2 => hk (List.mem_map.2 ⟨e, he, e2⟩))
  · refine ⟨w1, _, _, hrun, M1, f1, fun e he => ?_, ?_⟩
    · rcases List.mem_append.1 he with h | h
      · exact hv e h
      · simp at h; subst h; rfl
    · rw [List.map_append, if_neg]
      · rfl
      · intro hk
        obtain ⟨e, he, rfl⟩ := List.mem_map.1 hk
        rw [mget_some hm.nodup (k := e.1) (v := e.2.1) (st := e.2.2) he] at hn
        cases hn


/-- A compared cell, in a new block. -/
theorem ctold_c {a b c : Int} {b1 : Nat} {w w1 : World} (n1 : NewAt w w1 b1 #[.int .i64 0, .int .i64 0, .int .i64 0] 133) {F : World → Prop} (hF : ∀ w2, Blk w2 b1 [.int .i64 a, .int .i64 b, .int .i64 c] → (∀ S, Fr S w w2) → w.heap.size ≤ b1 → F w2) :
    MayL w1 ⟨b1, 0, none⟩ 3 ∧ ∀ w2 : World, SetL w1 w2 ⟨b1, 0, none⟩ [.int .i64 a, .int .i64 b, .int .i64 c] → F w2 :=
  ⟨n1.blk.mayL (by simp), fun w2 s2 => by obtain ⟨X, f⟩ := newSet n1 s2 rfl; exact hF w2 X f n1.ge⟩

section
variable {w w' : World} {own own' : Nat → Nat} {cb : Nat} {s : CS} {S : List Nat}

theorem cxsum0 (h : Cx w own cb s) : 0 ≤ xsum s.xs ∧ xsum s.xs ≤ (s.words + 3) / 4 ∧ 512 ≤ s.words ∧ s.words ≤ 65536 := by
  have xf := h.H.facts
  have : ∀ ys : List XC, (∀ y ∈ ys, 0 ≤ y.n) → 0 ≤ xsum ys := fun ys => by
    induction ys with
    | nil => intro _; exact Int.le_refl 0
    | cons y ys ih => intro h; have := ih (fun z hz => h z (by simp [hz])); have := h y (by simp); simp only [xsum]; omega
  exact ⟨this s.xs (fun y hy => (xf.2.2.2.1 y hy).1), xf.2.2.2.2.1, xf.2.2.2.2.2.2.1, xf.2.2.2.2.2.2.2.1⟩

/-- A new heap. -/
theorem cnew_c (words threads : Int) (hr : 1024 ≤ words ∧ words ≤ 65536 ∧ 1 ≤ threads ∧ threads ≤ 8) (own : Nat → Nat) {K : Option Addr → Int → World → Prop}
    (hK : ∀ w' own' cb s, Cx w' own' cb s → s.words = words → s.taken = 0 → s.phase = 0 → s.cycles = 0 → s.last = 0 → s.ss.length = threads.toNat + 1 → s.xs = [] → s.todo = [] → s.free = [] → s.ks = [] → s.rounds = 0 → s.mo = none → s.ts.map (·.rs) = List.replicate threads.toNat [] → StN 15 w w' own own' → K (some ⟨cb, 0, none⟩) 0 w') : C112 words threads w K := by
  refine r_f112 _ _ _ _ (IfB.no (by omega) (IfB.no (by omega) (IfB.no (by omega) (IfB.no (by omega) ⟨fit64 (by omega) (by omega), ?_⟩))))
  refine xnew_c words (threads + 1) (fun h => absurd (by omega) h) (fun _ w1 G hb H1 f1 hG => ?_)
  refine shakeNew_c threads (fun h => absurd (by omega) h) (fun _ w2 sb sm K2 f2 g2 g2b => ?_)
  refine make_c 224 228 Try.t228 (.agg #[.slice none 0 0]) 1 (by kernel_rfl) (by kernel_rfl) rfl rfl rfl (by omega) (by omega) (by decide) (by omega) (by omega) _ (fun b3 w3 V3 f3 g3 => fun cb w4 n4 => ?_)
  have z1 := (f1 []).size
  have z2 := (f2 []).size
  have z3 := (f3 []).size
  have g4 := n4.ge
  have lG := H1.low
  have l3 := V3.low b3 (by simp [ablk])
  have lsb := K2.hd.lt
  obtain ⟨m, clk, hm, _⟩ := K2.mp
  have lsm := heap_lt hm.heap
  have f14 : ∀ S, Fr S w1 w4 := fun S => ((f2 S).more (f3 S)).more (n4.fr S)
  have eT : (List.replicate threads.toNat (Value.cells (.agg #[.slice none 0 0])).toList).flatten = (List.replicate threads.toNat (⟨none, 0, []⟩ : RT)).flatMap encRT.f := by
    have : ∀ n : Nat, (List.replicate n (Value.cells (.agg #[.slice none 0 0])).toList).flatten = (List.replicate n (⟨none, 0, []⟩ : RT)).flatMap encRT.f := fun n => by
      induction n with
      | zero => rfl
      | succ n ih => rw [List.replicate_succ, List.replicate_succ, List.flatten_cons, List.flatMap_cons, ih]; rfl
    exact this _
  have T3 : SR encRT w3 (some ⟨b3, 0, none⟩) threads.toNat (List.replicate threads.toNat (⟨none, 0, []⟩ : RT)) := by
    unfold SR
    rw [List.length_replicate, ← eT]
    exact V3
  have T4 := T3.fr0 (n4.fr [])
  have B4 := n4.blk
  have e8 : ((List.replicate threads.toNat (⟨none, 0, []⟩ : RT)).length : Int) = threads := by rw [List.length_replicate]; omega
  have eN : ∀ (i : Nat) t, (List.replicate threads.toNat (⟨none, 0, []⟩ : RT))[i]? = some t → t = ⟨none, 0, []⟩ := fun i t ht => (List.mem_replicate.1 (List.mem_of_getElem? ht)).2
  refine hK w4 (fun b => if b < w.heap.size then own b else if b = cb then 0 else if b = sb ∨ b = sm then 3 else if b = b3 then 2 else 1) cb
    ⟨hb, sb, sm, G, some ⟨b3, 0, none⟩, threads.toNat, List.replicate threads.toNat ⟨none, 0, []⟩, none, none, 0, none, 0, words, 0, 0, 0, 0, List.replicate (threads + 1).toNat 0, [], [], [], [], [], 0, 0⟩
    ⟨H1.fr0 f14, by dsimp only; rw [e8, List.length_replicate]; exact B4, T4, fun i t ht => by rw [eN i t ht]; exact SI.nil _, ?_, (fun mm e => by cases e), SI.nil _, SI.nil _, fun b hb2 => ?_, fun b hb2 => ?_, fun b hb2 => ?_, fun b hb2 => ?_, by simp [Tag, ablk], fun i t ht => by rw [eN i t ht]; simp [Tag, ablk], by simp; omega, (fun mm e => by cases e), by simp [Tag, ablk]⟩
    rfl rfl rfl rfl rfl (by simp; omega) rfl rfl rfl rfl rfl rfl (by simp) ⟨⟨[], (f1 []).more (f14 []), by simp⟩, fun b hb2 => by simp [hb2]⟩
  · have q := (K2.fr (f3 []) (by simp) (by simp)).fr (n4.fr []) (by simp) (by simp)
    dsimp only; rw [e8]; exact q
  · simp at hb2; subst hb2
    rw [if_neg (by omega), if_pos rfl]
  · have := hG b hb2
    have := lG b hb2
    rw [if_neg (by omega), if_neg (by omega), if_neg (by omega), if_neg (by omega)]
  · simp [ablk] at hb2; subst hb2
    rw [if_neg (by omega), if_neg (by omega), if_neg (by omega), if_pos rfl]
  · simp at hb2
    rcases hb2 with rfl | rfl
    · rw [if_neg (by omega), if_neg (by omega), if_pos (.inl rfl)]
    · rw [if_neg (by omega), if_neg (by omega), if_pos (.inr rfl)]

theorem cthread_c (h : Cx w own cb s) (t : Int) {K : Int → World → Prop} (hK : K (if 0 ≤ t ∧ t < (s.ts.length : Int) then 0 else 1202) w) : C169 (some ⟨cb, 0, none⟩) t w K := by
  refine r_f169 _ _ _ _ (IfB.dec (fun h1 => ?_) (fun h1 => ⟨_, h.hd.cell rfl, IfB.dec (fun h2 => ?_) (fun h2 => ?_)⟩))
  · rw [if_neg (by omega)] at hK; exact hK
  · rw [if_neg (by omega)] at hK; exact hK
  · rw [if_pos (by omega)] at hK; exact hK

theorem cts_at (h : Cx w own cb s) {i : Int} (h0 : 0 ≤ i) (h1 : i < (s.ts.length : Int)) {F : Addr → Prop}
    (hF : ∀ t p, s.ts[i.toNat]? = some t → w.cell? (Addr.add (Addr.add p (Int.toNat i * 1)) 0) = some (.slice t.a t.rs.length t.c) → May w (Addr.add (Addr.add p (Int.toNat i * 1)) 0) →
      (∀ t' w', SetC w w' (Addr.add (Addr.add p (Int.toNat i * 1)) 0) (.slice t'.a t'.rs.length t'.c) → SR encRT w' s.ra s.rc (s.ts.set i.toNat t') ∧ Fr (ablk s.ra) w w') → F p) : PtrOK s.ra F :=
  h.T.get h0 h1 fun t p ht hc hm hs _ => hF t p ht (hc 0 (by decide)) (hm 0 (by decide)) fun t' w' s' => hs t' 0 _ w' (by decide) rfl s'

/-- Nothing is marked outside a marking. -/
theorem cmark0_c (h : Cx w own cb s) (hp : s.phase ≠ 1) (ref : Int) {K : World → Prop} (hK : K w) : C170 (some ⟨cb, 0, none⟩) ref w K :=
  r_f170 _ _ _ _ ⟨_, h.hd.cell rfl, ifb_nno (decide_eq_false hp) hK⟩

theorem cmark1_c (h : Cx w own cb s) (hp : s.phase = 1) {mm : Nat} (hm : s.mo = some mm) (sn : Seen s.xs (s.B, s.todo)) (hxl : s.xs.length ≤ 100000) (ref : Int) {K : World → Prop}
    (hK : ∀ w' own' ta' tc', Cx w' own' cb { s with B := (see1 s.xs (s.B, s.todo) ref).1, todo := (see1 s.xs (s.B, s.todo) ref).2, ta := ta', tc := tc' } → StN 15 w w' own own' → K w') : C170 (some ⟨cb, 0, none⟩) ref w K := by
  obtain ⟨m, clk, hmi, hmk, hmv⟩ := h.M mm hm
  have hsame : see1 s.xs (s.B, s.todo) ref = (s.B, s.todo) → ∀ w1, (∀ S, Fr S w w1) → K w1 := fun e w1 f1 => by
    refine hK w1 own s.ta s.tc ?_ (StN.still f1)
    rw [e]; exact h.still f1
  have hl := sn.len
  have hle := sn.le
  dsimp only at hl hle
  refine r_f170 _ _ _ _ ⟨_, h.hd.cell rfl, ifb_nyes (decide_eq_true hp) ⟨_, h.hd.cell rfl, ?_⟩⟩
  rw [hm]
  refine look_true hmi hmv ref ?_
  rw [hmk]
  by_cases hB : ref ∈ s.B
  · rw [decide_eq_true hB]
    exact ifb_t (hsame (by unfold see1; rw [if_neg (by simp [hB])]) w (fun S => Fr.refl S w))
  rw [decide_eq_false hB]
  refine ifb_f ⟨_, h.hd.cell rfl, xcell_c h.H _ (fun hno w2 f2 => fun b3 w3 n3 => ctold_c n3 fun w4 X4 f4 _ => ?_) (fun x hx ex w2 f2 => fun b3 w3 n3 => ctold_c n3 fun w4 X4 f4 _ => ?_)⟩
  · refine ifb_nno rfl (hsame ?_ w4 (fun S => (f2 S).more (f4 S)))
    unfold see1
    rw [if_neg]
    rintro ⟨hi, _⟩
    obtain ⟨x, hx, ex⟩ := isref_iff.1 hi
    exact hno x hx ex
  · have e1 : see1 s.xs (s.B, s.todo) ref = (s.B ++ [ref], s.todo ++ [ref]) := by
      unfold see1; rw [if_pos ⟨isref_iff.2 ⟨x, hx, ex⟩, hB⟩]
    rw [e1] at hK
    have f24 : ∀ S, Fr S w w4 := fun S => (f2 S).more (f4 S)
    have h4 := h.still f24
    have hmi4 := hmi.fr (f24 []) (by simp)
    refine ifb_nyes rfl ⟨_, h4.hd.cell rfl, ?_⟩
    rw [hm]
    obtain ⟨w5, m5, clk5, hrun, M5, f5, hv5, hk5⟩ := put_true hmi4 hmv ref
    rw [hmk, if_neg hB] at hk5
    refine ⟨w5, hrun, ?_⟩
    obtain ⟨h5, st5⟩ := h4.marks hm ⟨m5, clk5, M5, hk5, hv5⟩ f5
    refine ⟨_, _, _, h5.hd.cell rfl, fun b6 w6 n6 => app_int h5.D n6 (by dsimp only; omega) fun a7 c7 w7 D7 f7 g7 => ?_⟩
    have hd7 := h5.hd.fr f7 (h5.o0.apart h5.o4 (by decide) cb (by simp))
    refine ⟨hd7.may (by simp), fun w8 s8 => ?_⟩
    have B8 := s8.blk hd7
    obtain ⟨h8, st8⟩ := h5.todo (w' := w8) (ta' := a7) (tc' := c7) (todo' := s.todo ++ [ref]) D7 f7 g7 (by rw [List.length_append]; simpa using B8) (s8.fr (by simp))
    exact hK w8 _ a7 c7 h8 (((StN.still f24).trans st5).trans st8)

/-- Make, outside a cycle. -/
theorem cmake_c (h : Cx w own cb s) (htk : s.taken = xsum s.xs) (hl : s.last ≤ 100000) (hss : s.ss.length = s.ts.length + 1) {t kind cls n : Int} (ht : 0 ≤ t ∧ t < (s.ts.length : Int)) {u : RT} (hu : s.ts[t.toNat]? = some u) (hkind : kind ≠ 4) (hf : formE kind cls n = 0)
    {K : Int → Int → World → Prop} (hphase : s.phase = 0)
    (hmany : 64 ≤ u.rs.length → ∀ w', (∀ S, Fr S w w') → K 0 1203 w')
    (hfull : u.rs.length < 64 → s.words < 4 * (s.taken + n + 16) → ∀ w', (∀ S, Fr S w w') → K 0 1201 w')
    (hok : u.rs.length < 64 → 4 * (s.taken + n + 16) ≤ s.words → ∀ w' own' G' ss' u', u'.rs = u.rs ++ [s.last + 1] → Cx w' own' cb { s with ts := s.ts.set t.toNat u', taken := s.taken + (n + 16), G := G', ss := ss', last := s.last + 1, xs := s.xs ++ [⟨s.last + 1, kind, cls, n, List.replicate n.toNat 0⟩] } → ss'.length = s.ss.length → StN 15 w w' own own' → K (s.last + 1) 0 w') :
    C113 (some ⟨cb, 0, none⟩) t kind cls n w K := by
  have hn := formE_ok hf
  have x0 := cxsum0 h
  refine r_f113 _ _ _ _ _ _ _ (cthread_c h t ?_)
  rw [if_pos ht]
  refine ifb_nyes rfl ⟨fun w' => u.rs.length < 64 ∧ 4 * (s.taken + n + 16) ≤ s.words ∧ ∀ S, Fr S w w', ifb_no (decide_eq_false hkind) (form_c kind cls n ?_), ?_⟩
  · rw [hf]
    refine ifb_nyes rfl ⟨_, _, _, h.hd.cell rfl, cts_at h ht.1 ht.2 fun u' p hu' hc _ _ => ⟨ht, _, _, _, hc, ?_⟩⟩
    rw [hu] at hu'; cases hu'
    refine IfB.dec (fun q => hmany (by omega) w (fun S => Fr.refl S w)) (fun q => fun w1 d1 => ?_)
    have h1 := h.still d1.fr
    refine ⟨_, h1.hd.cell rfl, fit64 (by omega) (by omega), fit64 (by omega) (by omega), fit64 (by omega) (by omega), _, h1.hd.cell rfl, IfB.dec (fun q2 => hfull (by omega) q2 w1 d1.fr) (fun q2 => ⟨by omega, by omega, d1.fr⟩)⟩
  · rintro - w1 ⟨q, q2, f1⟩
    have h1 := h.still f1
    refine ⟨_, h1.hd.cell rfl, ?_⟩
    refine xmake_c h1.H hl t kind cls n (fun hn2 => absurd (by omega) hn2) (fun _ hn2 => absurd hf hn2) (fun _ _ hn2 => absurd hn2 (by omega)) (fun _ _ _ w2 G2 ss2 H2 f2 g2 t2 => ?_)
    obtain ⟨h2, st2⟩ := h1.heap H2 f2 g2
    refine ⟨_, h2.hd.cell rfl, fit64 (by omega) (by omega), fit64 (by dsimp only; omega) (by dsimp only; omega), h2.hd.may (by simp), fun w3 s3 => ?_⟩
    obtain ⟨h3, st3⟩ := h2.head (taken' := s.taken + (n + 16)) (phase' := s.phase) (cycles' := s.cycles) (by simpa using s3.blk h2.hd) (s3.fr (by simp))
    refine ⟨fun w' => ∃ own' u', u'.rs = u.rs ++ [s.last + 1] ∧ Cx w' own' cb { s with ts := s.ts.set t.toNat u', taken := s.taken + (n + 16), G := G2, ss := ss2, last := s.last + 1, xs := s.xs ++ [⟨s.last + 1, kind, cls, n, List.replicate n.toNat 0⟩] } ∧ StN 15 w w' own own', fun w4 d4 => ?_, ?_⟩
    · have h4 := h3.still d4.fr
      exact appall_c h4 ht.1 hu (by omega) (s.last + 1) (F := fun w' => ∃ own' u', u'.rs = u.rs ++ [s.last + 1] ∧ Cx w' own' cb { s with ts := s.ts.set t.toNat u', taken := s.taken + (n + 16), G := G2, ss := ss2, last := s.last + 1, xs := s.xs ++ [⟨s.last + 1, kind, cls, n, List.replicate n.toNat 0⟩] } ∧ StN 15 w w' own own') fun w5 own5 u' e R st => ⟨own5, u', e, R, ((((StN.still f1).trans st2).trans st3).trans (StN.still d4.fr)).trans st⟩
    · rintro - w5 ⟨own5, u', e, R, st⟩
      exact ⟨_, R.hd.cell rfl, ifb_nyes (decide_eq_true hphase) (hok q q2 w5 own5 G2 ss2 u' e R t2.1 st)⟩
end
end Go.Proofs.Ytfpghcdjfiggiaa.V

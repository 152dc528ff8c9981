/- Weak references and finalizers: what the operations do. No condition. -/
import Derived.Test.YtfpghcdjfiggiaaRefsA
namespace Go.Proofs.Ytfpghcdjfiggiaa.V
open Go Go.RowKit

section
variable {w w' : World} {own own' : Nat → Nat} {rb hb fm rc qc k : Nat} {G G' S : List Nat} {ra qa : Option Addr} {ts : List RT} {words taken last : Int} {ss : List Int} {xs : List XC} {fin queue : List Int}

/-- A new heap. -/
theorem rnew_c (words threads : Int) (hr : 1024 ≤ words ∧ words ≤ 65536 ∧ 1 ≤ threads ∧ threads ≤ 8) (own : Nat → Nat) {K : Option Addr → Int → World → Prop}
    (hK : ∀ w' own' rb hb fm G ra rc ts, Rx w' own' rb hb fm G ra rc ts none 0 words 0 0 (List.replicate threads.toNat 0) [] [] [] → ts.map (·.rs) = List.replicate threads.toNat [] → St w w' own own' → K (some ⟨rb, 0, none⟩) 0 w') : C102 words threads w K := by
  refine r_f102 _ _ _ _ ⟨fun w' => w' = w, IfB.no (by omega) (IfB.no (by omega) (IfB.no (by omega) (IfB.no (by omega) rfl))), ?_⟩
  rintro - w0 rfl
  refine xnew_c words threads (fun h => absurd (by omega) h) (fun _ w1 G hb H1 f1 hG => ?_)
  refine make_c 126 42 Try.t42 (.slice none 0 0) 1 (by kernel_rfl) (by kernel_rfl) rfl rfl rfl (by omega) (by omega) (by decide) (by omega) (by omega) _ (fun b2 w2 V2 f2 g2 => fun fm w3 n3 => fun rb w4 n4 => ?_)
  have z1 := (f1 []).size
  have z2 := (f2 []).size
  have z3 := (n3.fr []).size
  have g3 := n3.ge
  have g4 := n4.ge
  have lG := H1.low
  have l2 := V2.low b2 (by simp [ablk])
  have hmi : MI w3 fm [] 0 := by
    have hm := n3.mp
    exact ⟨by unfold Mp at hm; simpa using hm, by simp, by simp, by simp⟩
  have l3 := heap_lt hmi.heap
  have f12 : ∀ S, Fr S w1 w4 := fun S => ((f2 S).more (n3.fr S)).more (n4.fr S)
  have eT : (List.replicate threads.toNat (Value.cells (.slice none 0 0)).toList).flatten = (List.replicate threads.toNat (⟨none, 0, []⟩ : RT)).flatMap encRT.f := by
    have : ∀ n : Nat, (List.replicate n (Value.cells (.slice none 0 0)).toList).flatten = (List.replicate n (⟨none, 0, []⟩ : RT)).flatMap encRT.f := fun n => by
      induction n with
      | zero => rfl
      | succ n ih => rw [List.replicate_succ, List.replicate_succ, List.flatten_cons, List.flatMap_cons, ih]; rfl
    exact this _
  have T2 : SR encRT w2 (some ⟨b2, 0, none⟩) threads.toNat (List.replicate threads.toNat (⟨none, 0, []⟩ : RT)) := by
    unfold SR
    rw [List.length_replicate, ← eT]
    exact V2
  have T4 := (T2.fr0 (n3.fr [])).fr0 (n4.fr [])
  have B4 := n4.blk
  refine hK w4 (fun b => if b < w0.heap.size then own b else if b = rb then 0 else if b = fm then 3 else if b = b2 then 2 else 1) rb hb fm G (some ⟨b2, 0, none⟩) threads.toNat (List.replicate threads.toNat ⟨none, 0, []⟩)
    ⟨H1.fr0 f12, by rw [List.length_replicate]; exact B4, T4, fun t ht => ?_, ⟨[], 0, hmi.fr (n4.fr []) (by simp), rfl, by simp⟩, SI.nil _, fun b hb2 => ?_, fun b hb2 => ?_, fun b hb2 => ?_, fun b hb2 => ?_, by simp [Tag, ablk], fun i t ht => ?_, by simp; omega⟩ (by simp) ⟨⟨[], ((f1 []).more (f12 [])), by simp⟩, fun b hb2 => by simp [hb2]⟩
  · rw [(List.mem_replicate.1 ht).2]; exact SI.nil _
  · simp at hb2; subst hb2; simp; omega
  · have := hG b hb2
    have := lG b hb2
    rw [if_neg (by omega), if_neg (by omega), if_neg (by omega), if_neg (by omega)]
  · simp [ablk] at hb2; subst hb2
    rw [if_neg (by omega), if_neg (by omega), if_neg (by omega), if_pos rfl]
  · simp at hb2; subst hb2
    rw [if_neg (by omega), if_neg (by omega), if_pos rfl]
  · rw [(List.mem_replicate.1 (List.mem_of_getElem? ht)).2]; simp [Tag, ablk]

theorem rthread_c (h : Rx w own rb hb fm G ra rc ts qa qc words taken last ss xs fin queue) (t : Int) {K : Int → World → Prop} (hK : K (if 0 ≤ t ∧ t < (ts.length : Int) then 0 else 1302) w) : C166 (some ⟨rb, 0, none⟩) t w K := by
  refine r_f166 _ _ _ _ (IfB.dec (fun h1 => ?_) (fun h1 => ⟨_, _, _, h.hd.cell rfl, IfB.dec (fun h2 => ?_) (fun h2 => ?_)⟩))
  · rw [if_neg (by omega)] at hK; exact hK
  · rw [if_neg (by omega)] at hK; exact hK
  · rw [if_pos (by omega)] at hK; exact hK

theorem rts_at (h : Rx w own rb hb fm G ra rc ts qa qc words taken last ss xs fin queue) {i : Int} (h0 : 0 ≤ i) (h1 : i < (ts.length : Int)) {F : Addr → Prop}
    (hF : ∀ t p, ts[i.toNat]? = some t → w.cell? (Addr.add p (Int.toNat i * 1)) = some (.slice t.a t.rs.length t.c) → May w (Addr.add p (Int.toNat i * 1)) →
      (∀ t' w', SetC w w' (Addr.add p (Int.toNat i * 1)) (.slice t'.a t'.rs.length t'.c) → SR encRT w' ra rc (ts.set i.toNat t') ∧ Fr (ablk ra) w w') → F p) : PtrOK ra F := by
  have a0 : ∀ p : Addr, Addr.add p 0 = p := fun p => by cases p; simp [Addr.add]
  refine h.T.get h0 h1 fun t p ht hc hm hs _ => hF t p ht ?_ ?_ fun t' w' s => ?_
  · have := hc 0 (by decide); rw [a0] at this; exact this
  · have := hm 0 (by decide); rw [a0] at this; exact this
  · exact hs t' 0 _ w' (by decide) rfl (by rw [a0]; exact s)

/-- A root comes off. -/
theorem rpop_c (h : Rx w own rb hb fm G ra rc ts qa qc words taken last ss xs fin queue) (t : Int) (ht : 0 ≤ t ∧ t < (ts.length : Int)) {K : Int → Int → World → Prop}
    (hno : ∀ u, ts[t.toNat]? = some u → u.rs = [] → K 0 1303 w)
    (hok : ∀ u l f, ts[t.toNat]? = some u → u.rs = l ++ [f] → ∀ w' own' u', u'.rs = l → Rx w' own' rb hb fm G ra rc (ts.set t.toNat u') qa qc words taken last ss xs fin queue → St w w' own own' → K f 0 w') : C105 (some ⟨rb, 0, none⟩) t w K := by
  refine r_f105 _ _ _ _ (rthread_c h t ?_)
  rw [if_pos ht]
  refine IfB.nyes rfl ⟨_, _, _, h.hd.cell rfl, rts_at h ht.1 ht.2 fun u p hu hc hm hs => ⟨ht, _, _, _, hc, IfB.dec (fun h0 => hno u hu (List.eq_nil_of_length_eq_zero (by omega))) (fun h0 => fun w1 d1 => ?_)⟩⟩
  rcases List.eq_nil_or_concat u.rs with e | ⟨l, f, e⟩
  · rw [e] at h0; exact absurd rfl h0
  rw [List.concat_eq_append] at e
  have h1 := h.still d1.fr
  have hV := h1.V u (List.mem_of_getElem? hu)
  have hle := hV.le
  have hmx : maxLen < 9223372036854775808 := by decide
  have hlen : (u.rs.length : Int) = l.length + 1 := by rw [e]; simp
  have V' : SI w1 u.a u.c l := by rw [e] at hV; exact hV.pre
  refine ⟨_, _, _, h1.hd.cell rfl, fit64 (by omega) (by omega), ⟨by omega, by omega⟩, rts_at h1 ht.1 ht.2 fun u2 p2 hu2 hc2 hm2 hs2 => ⟨ht, hm2, fun w2 s2 => ⟨fit64 (by omega) (by omega), ?_⟩⟩⟩
  have el : Int.toNat ((u.rs.length : Int) - 1) = l.length := by omega
  rw [el] at s2 ⊢
  obtain ⟨T2, f2⟩ := hs2 ⟨u.a, u.c, l⟩ w2 s2
  obtain ⟨R2, st2⟩ := h1.root hu (t' := ⟨u.a, u.c, l⟩) V' (Fr.refl _ _) (fun b hb => .inl hb) T2 f2
  have V2 := hV.fr f2 (((h1.o5 _ _ hu).apart h1.o2 (by omega)))
  refine V2.get (i := (u.rs.length : Int) - 1) (by omega) (by omega) fun p3 hp3 => ⟨⟨by omega, by omega⟩, _, (by rw [el] at hp3; exact hp3), ?_⟩
  have ef : u.rs.getD l.length 0 = f := by rw [e]; simp [List.getD_eq_getElem?_getD]
  rw [ef]
  exact hok u l f hu e w2 _ ⟨u.a, u.c, l⟩ rfl R2 ((St.still d1.fr).trans st2)

/-- A root is put on. -/
theorem rpush_c (h : Rx w own rb hb fm G ra rc ts qa qc words taken last ss xs fin queue) (t ref : Int) (ht : 0 ≤ t ∧ t < (ts.length : Int)) (h64 : ∀ u, ts[t.toNat]? = some u → u.rs.length < 64) {K : Int → World → Prop}
    (hok : ∀ u, ts[t.toNat]? = some u → ∀ w' own' u', u'.rs = u.rs ++ [ref] → Rx w' own' rb hb fm G ra rc (ts.set t.toNat u') qa qc words taken last ss xs fin queue → St w w' own own' → K 0 w') : C110 (some ⟨rb, 0, none⟩) t ref w K := by
  refine r_f110 _ _ _ _ _ (rthread_c h t ?_)
  rw [if_pos ht]
  refine IfB.nyes rfl ⟨_, _, _, h.hd.cell rfl, rts_at h ht.1 ht.2 fun u p hu hc hm hs => ⟨ht, _, _, _, hc, IfB.no (by have := h64 u hu; omega) (fun w1 d1 => ?_)⟩⟩
  exact approot_c (h.still d1.fr) ht.1 hu (by have := h64 u hu; omega) ref (F := fun w => K 0 w) fun w2 own2 u' e R st => hok u hu w2 own2 u' e R ((St.still d1.fr).trans st)

/-- A cell is made, and pushed. -/
theorem rmade_c (h : Rx w own rb hb fm G ra rc ts qa qc words taken last ss xs fin queue) (htk : taken = xsum xs) (hl : last ≤ 100000) (hss : ss.length = ts.length) {t kind cls n : Int} (ht : 0 ≤ t ∧ t < (ts.length : Int)) (h64 : ∀ u, ts[t.toNat]? = some u → u.rs.length < 64)
    (hf : formE kind cls n = 0) (hroom : 4 * (taken + n + 16) ≤ words) {K : Int → Int → World → Prop}
    (hok : ∀ u, ts[t.toNat]? = some u → ∀ w' own' G' ss' u', u'.rs = u.rs ++ [last + 1] → Rx w' own' rb hb fm G' ra rc (ts.set t.toNat u') qa qc words (taken + (n + 16)) (last + 1) ss' (xs ++ [⟨last + 1, kind, cls, n, List.replicate n.toNat 0⟩]) fin queue → ss'.length = ss.length → St w w' own own' → K (last + 1) 0 w') :
    C167 (some ⟨rb, 0, none⟩) t kind cls n w K := by
  have hn := formE_ok hf
  have xf := h.H.facts
  have hx0 : 0 ≤ xsum xs := by
    have : ∀ ys : List XC, (∀ y ∈ ys, 0 ≤ y.n) → 0 ≤ xsum ys := fun ys => by
      induction ys with
      | nil => intro _; exact Int.le_refl 0
      | cons y ys ih => intro h; have := ih (fun z hz => h z (by simp [hz])); have := h y (by simp); simp only [xsum]; omega
    exact this xs (fun y hy => (xf.2.2.2.1 y hy).1)
  refine r_f167 _ _ _ _ _ _ _ ⟨_, _, _, h.hd.cell rfl, rts_at h ht.1 ht.2 fun u p hu hc hm hs => ⟨ht, _, _, _, hc, IfB.no (by have := h64 u hu; omega) (fun w1 d1 => ?_)⟩⟩
  have h1 := h.still d1.fr
  refine ⟨_, h1.hd.cell rfl, fit64 (by omega) (by omega), fit64 (by omega) (by omega), fit64 (by omega) (by omega), _, h1.hd.cell rfl, IfB.no (by omega) ⟨_, h1.hd.cell rfl, ?_⟩⟩
  refine xmake_c h1.H hl t kind cls n (fun hn2 => absurd (by rw [hss]; exact ht) hn2) (fun _ hn2 => absurd hf hn2) (fun _ _ hn2 => absurd hn2 (by omega)) (fun _ _ _ w2 G2 ss2 H2 f2 g2 t2 => ?_)
  obtain ⟨h2, st2⟩ := h1.heap H2 f2 g2
  refine ⟨_, h2.hd.cell rfl, fit64 (by omega) (by omega), fit64 (by omega) (by omega), h2.hd.may (by simp), fun w3 s3 => fun w4 d4 => ?_⟩
  obtain ⟨h3, st3⟩ := h2.head (taken' := taken + (n + 16)) (by simpa using s3.blk h2.hd) (s3.fr (by simp))
  have h4 := h3.still d4.fr
  exact approot_c h4 ht.1 hu (by have := h64 u hu; omega) (last + 1) (F := fun w => K (last + 1) 0 w) fun w5 own5 u' e R st => hok u hu w5 own5 G2 ss2 u' e R t2.1 ((((St.still d1.fr).trans st2).trans st3).trans ((St.still d4.fr).trans st))

/-- A bool of a map of true ones is looked up. -/
theorem look_true {m : List Ent} {clk mb : Nat} (hm : MI w mb m clk) (hv : ∀ e ∈ m, e.2.1 = .bool true) (k : Int) {K : Bool → World → Prop} (hK : K (decide (k ∈ m.map (·.1))) w) : RunF Try.prog (Instr.lookup 162 (.map (some mb)) (.int .i64 k) false) w [.leaf .bool] K := by
  have hr := run_lookup (P := Try.prog) hm (t := 162) (kt := 3) (et := 4) (by kernel_rfl) (by kernel_rfl) Try.t4 (.bool false) (by kernel_rfl) rfl k false
  by_cases hk : k ∈ m.map (·.1)
  · obtain ⟨e, he, rfl⟩ := List.mem_map.1 hk
    have hg : mget m e.1 = some (.bool true) := by
      have := mget_some hm.nodup (k := e.1) (v := e.2.1) (st := e.2.2) he
      rw [hv e he] at this; exact this
    rw [hg] at hr
    rw [decide_eq_true hk] at hK
    exact ⟨[.bool true], w, hr, hK⟩
  · have hg : mget m k = none := mget_no fun e he e2 => hk (List.mem_map.2 ⟨e, he, e2⟩)
    rw [hg] at hr
    rw [decide_eq_false hk] at hK
    exact ⟨[.bool false], w, hr, hK⟩

/-- A key is put in, of a map of true ones. -/
theorem put_true {m : List Ent} {clk mb : Nat} (hm : MI w mb m clk) (hv : ∀ e ∈ m, e.2.1 = .bool true) (k : Int) : ∃ w' m' clk', Sem.run Try.prog (Instr.mapUpdate 162 (.map (some mb)) (.int .i64 k) (.bool true)) w = .ok () w' ∧ MI w' mb m' clk' ∧ Fr [mb] w w' ∧ (∀ e ∈ m', e.2.1 = .bool true) ∧
    m'.map (·.1) = if k ∈ m.map (·.1) then m.map (·.1) else m.map (·.1) ++ [k] := by
  obtain ⟨w1, m', clk', hrun, M1, f1, hm'⟩ := run_update (P := Try.prog) hm (t := 162) (kt := 3) (et := 4) (by kernel_rfl) (by kernel_rfl) k (.bool true)
  rcases hm' with ⟨hn, rfl, rfl⟩ | ⟨hn, rfl, rfl⟩
  · refine ⟨w1, _, _, hrun, M1, f1, fun e he => ?_, ?_⟩
    · obtain ⟨e0, h0, rfl⟩ := List.mem_map.1 he
      split
      · rfl
      · exact hv e0 h0
    · rw [mput_keys, if_pos]
      refine Classical.byContradiction fun hk => hn (mget_no fun e he e2 => hk (List.mem_map.2 ⟨e, he, e2⟩))
  · refine ⟨w1, _, _, hrun, M1, f1, fun e he => ?_, ?_⟩
    · rcases List.mem_append.1 he with h | h
      · exact hv e h
      · simp at h; subst h; rfl
    · rw [List.map_append, if_neg]
      · rfl
      · intro hk
        obtain ⟨e, he, rfl⟩ := List.mem_map.1 hk
        rw [mget_some hm.nodup (k := e.1) (v := e.2.1) (st := e.2.2) he] at hn
        cases hn

/-- A key is taken out. -/
theorem del_true {m : List Ent} {clk mb : Nat} (hm : MI w mb m clk) (hv : ∀ e ∈ m, e.2.1 = .bool true) (k : Int) {K : World → Prop} (hK : ∀ w', (∃ m' clk', MI w' mb m' clk' ∧ m'.map (·.1) = (m.map (·.1)).filter (fun x => !(k == x)) ∧ ∀ e ∈ m', e.2.1 = .bool true) → Fr [mb] w w' → K w') :
    RunF Try.prog (Builtin.delete_ #[162, 3] 0 #[.map (some mb), .int .i64 k]) w [] K := by
  obtain ⟨w1, hrun, M1, f1⟩ := run_delete (P := Try.prog) hm (t := 162) (kt := 3) (et := 4) (by kernel_rfl) (by kernel_rfl) k 0
  refine ⟨[], w1, hrun, hK w1 ⟨_, _, M1, ?_, fun e he => hv e (List.mem_filter.1 he).1⟩ f1⟩
  unfold mdel
  rw [List.filter_map]; rfl

/-- Make. -/
theorem rmake_c (h : Rx w own rb hb fm G ra rc ts qa qc words taken last ss xs fin queue) (htk : taken = xsum xs) (hl : last ≤ 100000) (hss : ss.length = ts.length) (hfin : ∀ r ∈ fin, r ≤ last) {t kind cls n : Int} (final : Bool) (ht : 0 ≤ t ∧ t < (ts.length : Int)) (h64 : ∀ u, ts[t.toNat]? = some u → u.rs.length < 64)
    (hkind : kind ≠ 4) (hf : formE kind cls n = 0) (hroom : 4 * (taken + n + 16) ≤ words) {K : Int → Int → World → Prop}
    (hok : ∀ u, ts[t.toNat]? = some u → ∀ w' own' G' ss' u', u'.rs = u.rs ++ [last + 1] → Rx w' own' rb hb fm G' ra rc (ts.set t.toNat u') qa qc words (taken + (n + 16)) (last + 1) ss' (xs ++ [⟨last + 1, kind, cls, n, List.replicate n.toNat 0⟩]) (if final = true then fin ++ [last + 1] else fin) queue → ss'.length = ss.length → St w w' own own' → K (last + 1) 0 w') :
    C103 (some ⟨rb, 0, none⟩) t kind cls n final w K := by
  refine r_f103 _ _ _ _ _ _ _ _ (rthread_c h t ?_)
  rw [if_pos ht]
  refine IfB.nyes rfl ⟨fun w' => w' = w, IfB.no hkind (form_c _ _ _ (IfB.nyes hf rfl)), ?_⟩
  rintro - w1 rfl
  refine rmade_c h htk hl hss ht h64 hf hroom fun u hu w2 own2 G2 ss2 u' e R2 es st2 => IfB.yes rfl ?_
  cases final with
  | false => exact ifb_f (hok u hu w2 own2 G2 ss2 u' e R2 es st2)
  | true =>
    obtain ⟨m, clk, hm, hk, hv⟩ := R2.M
    obtain ⟨w3, m', clk', hrun, M3, f3, hv3, hk3⟩ := put_true hm hv (last + 1)
    refine ifb_t ⟨_, R2.hd.cell rfl, w3, hrun, ?_⟩
    have hnew : last + 1 ∉ m.map (·.1) := by rw [hk]; intro hm2; have := hfin _ hm2; omega
    rw [if_neg hnew, hk] at hk3
    obtain ⟨R3, st3⟩ := R2.final (fin' := fin ++ [last + 1]) ⟨m', clk', M3, hk3, hv3⟩ f3
    exact hok u hu w3 _ G2 ss2 u' e R3 es (st2.trans st3)

/-- A weak reference is made. -/
theorem rweak_c (h : Rx w own rb hb fm G ra rc ts qa qc words taken last ss xs fin queue) (htk : taken = xsum xs) (hl : last ≤ 100000) (hss : ss.length = ts.length) {t ref : Int} (ht : 0 ≤ t ∧ t < (ts.length : Int)) (h64 : ∀ u, ts[t.toNat]? = some u → u.rs.length < 64)
    (hx : ∃ x ∈ xs, x.ref = ref) (hroom : 4 * (taken + 17) ≤ words) {K : Int → Int → World → Prop}
    (hok : ∀ u, ts[t.toNat]? = some u → ∀ w' own' G' ss' u', u'.rs = u.rs ++ [last + 1] → Rx w' own' rb hb fm G' ra rc (ts.set t.toNat u') qa qc words (taken + 17) (last + 1) ss' (xs ++ [⟨last + 1, 4, 0, 1, [ref]⟩]) fin queue → ss'.length = ss.length → St w w' own own' → K (last + 1) 0 w') :
    C104 (some ⟨rb, 0, none⟩) t ref w K := by
  refine r_f104 _ _ _ _ _ (rthread_c h t ?_)
  rw [if_pos ht]
  obtain ⟨x, hx, ex⟩ := hx
  refine IfB.nyes rfl ⟨_, h.hd.cell rfl, xcell_c h.H ref (fun hn => absurd ex (hn x hx)) (fun y hy ey w1 f1 => fun b2 w2 n2 => ⟨n2.blk.mayL (by simp), fun w3 s3 => ?_⟩)⟩
  obtain ⟨X3, f3⟩ := newSet n2 s3 rfl
  have h3 := (h.still f1).still f3
  refine IfB.nyes rfl (rmade_c h3 htk hl hss ht h64 (by decide) (by omega) fun u hu w4 own4 G4 ss4 u' e R4 es st4 => IfB.yes rfl ⟨_, R4.hd.cell rfl, ?_⟩)
  have hmem : (⟨last + 1, 4, 0, 1, List.replicate (Int.toNat 1) 0⟩ : XC) ∈ xs ++ [⟨last + 1, 4, 0, 1, List.replicate (Int.toNat 1) 0⟩] := by simp
  refine xput_c R4.H t _ 0 ref (fun hn => absurd ⟨by rw [es, hss]; exact ht, _, hmem, rfl⟩ hn) (fun y hy e' _ hn => ?_) (fun y hy e' _ _ _ w5 ss5 H5 t5 f5 => ?_)
  · have : y = ⟨last + 1, 4, 0, 1, List.replicate (Int.toNat 1) 0⟩ := R4.H.same hy hmem e'
    subst this
    dsimp only at hn
    omega
  · obtain ⟨R5, st5⟩ := R4.heap H5 f5 (fun b hb => .inl hb)
    have ep : xput (xs ++ [⟨last + 1, 4, 0, 1, List.replicate (Int.toNat 1) 0⟩]) (last + 1) 0 ref = xs ++ [⟨last + 1, 4, 0, 1, [ref]⟩] := by
      unfold xput
      rw [List.map_append]
      congr 1
      · conv => rhs; rw [← List.map_id xs]
        refine List.map_congr_left fun y hy => ?_
        have := h.H.facts.2.2.1 y hy
        rw [if_neg (by omega)]; rfl
      · simp
    rw [ep] at R5
    exact hok u hu w5 _ _ ss5 u' e (by have : taken + (1 + 16) = taken + 17 := by omega
                                       rw [this] at R5; exact R5) (t5.1.trans es) ((((St.still f1).trans (St.still f3)).trans st4).trans st5)

/-- What a weak reference leads to. -/
theorem rderef_c (h : Rx w own rb hb fm G ra rc ts qa qc words taken last ss xs fin queue) (hss : ss.length = ts.length) {t weak : Int} (ht : 0 ≤ t ∧ t < (ts.length : Int)) {x : XC} (hx : x ∈ xs) (ex : x.ref = weak) (hk : x.kind = 4) (hn : x.n = 1) {K : Int → Int → World → Prop}
    (hok : ∀ w' own' ss', Rx w' own' rb hb fm G ra rc ts qa qc words taken last ss' xs fin queue → ss'.length = ss.length → St w w' own own' → K (x.vs.getD 0 0) 0 w') : C109 (some ⟨rb, 0, none⟩) t weak w K := by
  refine r_f109 _ _ _ _ _ (rthread_c h t ?_)
  rw [if_pos ht]
  refine IfB.nyes rfl ⟨_, h.hd.cell rfl, xcell_c h.H weak (fun hn => absurd ex (hn x hx)) (fun y hy ey w1 f1 => fun b2 w2 n2 => ⟨n2.blk.mayL (by simp), fun w3 s3 => ?_⟩)⟩
  obtain ⟨X3, f3⟩ := newSet n2 s3 rfl
  have h3 := (h.still f1).still f3
  have : y = x := h.H.same hy hx (ey.trans ex.symm)
  subst this
  refine ⟨_, X3.cell rfl, IfB.nyes hk ⟨_, h3.hd.cell rfl, ?_⟩⟩
  refine xload_c h3.H t weak 0 (fun hn2 => absurd ⟨by rw [hss]; exact ht, y, hy, ex⟩ hn2) (fun z hz e' _ hn2 => ?_) (fun z hz e' _ _ _ w4 H4 f4 => ?_)
  · have : z = y := h.H.same hz hy (e'.trans ex.symm)
    subst this
    omega
  · have : z = y := h.H.same hz hy (e'.trans ex.symm)
    subst this
    obtain ⟨R4, st4⟩ := h3.heap H4 f4 (fun b hb => .inl hb)
    exact hok w4 _ _ R4 (by simp [tickA]) (((St.still f1).trans (St.still f3)).trans st4)

theorem rword_c (h : Rx w own rb hb fm G ra rc ts qa qc words taken last ss xs fin queue) {t ref i : Int} (ht : 0 ≤ t ∧ t < (ts.length : Int)) {x : XC} (hx : x ∈ xs) (ex : x.ref = ref) (hk : x.kind ≠ 4) (hi : 0 ≤ i ∧ i < x.n) {K : Int → World → Prop}
    (hok : ∀ w', (∀ S, Fr S w w') → K 0 w') : C171 (some ⟨rb, 0, none⟩) t ref i w K := by
  refine r_f171 _ _ _ _ _ _ (rthread_c h t ?_)
  rw [if_pos ht]
  refine IfB.nyes rfl ⟨_, h.hd.cell rfl, xcell_c h.H ref (fun hn => absurd ex (hn x hx)) (fun y hy ey w1 f1 => fun b2 w2 n2 => ⟨n2.blk.mayL (by simp), fun w3 s3 => ?_⟩)⟩
  obtain ⟨X3, f3⟩ := newSet n2 s3 rfl
  have : y = x := h.H.same hy hx (ey.trans ex.symm)
  subst this
  exact IfB.nyes rfl ⟨_, X3.cell rfl, IfB.no hk (IfB.no (by omega) ⟨_, X3.cell rfl, IfB.no (by omega) (hok w3 fun S => (f1 S).more (f3 S))⟩)⟩

theorem rload_c (h : Rx w own rb hb fm G ra rc ts qa qc words taken last ss xs fin queue) (hss : ss.length = ts.length) {t ref i : Int} (ht : 0 ≤ t ∧ t < (ts.length : Int)) {x : XC} (hx : x ∈ xs) (ex : x.ref = ref) (hk : x.kind ≠ 4) (hi : 0 ≤ i ∧ i < x.n) {K : Int → Int → World → Prop}
    (hok : ∀ w' own' ss', Rx w' own' rb hb fm G ra rc ts qa qc words taken last ss' xs fin queue → ss'.length = ss.length → St w w' own own' → K (x.vs.getD i.toNat 0) 0 w') : C117 (some ⟨rb, 0, none⟩) t ref i w K := by
  refine r_f117 _ _ _ _ _ _ (rword_c h ht hx ex hk hi fun w1 f1 => IfB.nyes rfl ?_)
  have h1 := h.still f1
  refine ⟨_, h1.hd.cell rfl, xload_c h1.H t ref i (fun hn2 => absurd ⟨by rw [hss]; exact ht, x, hx, ex⟩ hn2) (fun z hz e' _ hn2 => ?_) (fun z hz e' _ _ _ w4 H4 f4 => ?_)⟩
  · have : z = x := h.H.same hz hx (e'.trans ex.symm)
    subst this
    omega
  · have : z = x := h.H.same hz hx (e'.trans ex.symm)
    subst this
    obtain ⟨R4, st4⟩ := h1.heap H4 f4 (fun b hb => .inl hb)
    exact hok w4 _ _ R4 (by simp [tickA]) ((St.still f1).trans st4)

theorem rput_c (h : Rx w own rb hb fm G ra rc ts qa qc words taken last ss xs fin queue) (hss : ss.length = ts.length) {t ref i : Int} (v : Int) (ht : 0 ≤ t ∧ t < (ts.length : Int)) {x : XC} (hx : x ∈ xs) (ex : x.ref = ref) (hk : x.kind ≠ 4) (hi : 0 ≤ i ∧ i < x.n) {K : Int → World → Prop}
    (hok : ∀ w' own' ss', Rx w' own' rb hb fm G ra rc ts qa qc words taken last ss' (xput xs ref i v) fin queue → ss'.length = ss.length → St w w' own own' → K 0 w') : C116 (some ⟨rb, 0, none⟩) t ref i v w K := by
  refine r_f116 _ _ _ _ _ _ _ (rword_c h ht hx ex hk hi fun w1 f1 => IfB.nyes rfl ?_)
  have h1 := h.still f1
  refine ⟨_, h1.hd.cell rfl, xput_c h1.H t ref i v (fun hn2 => absurd ⟨by rw [hss]; exact ht, x, hx, ex⟩ hn2) (fun z hz e' _ hn2 => ?_) (fun z hz e' _ _ _ w4 ss4 H4 t4 f4 => ?_)⟩
  · have : z = x := h.H.same hz hx (e'.trans ex.symm)
    subst this
    omega
  · obtain ⟨R4, st4⟩ := h1.heap H4 f4 (fun b hb => .inl hb)
    exact hok w4 _ _ R4 t4.1 ((St.still f1).trans st4)

theorem rrefs_c (h : Rx w own rb hb fm G ra rc ts qa qc words taken last ss xs fin queue) (hn : xs.length ≤ 100000) {K : Option Addr → Nat → Nat → World → Prop}
    (hK : ∀ a c w', SI w' a c (xs.map (·.ref)) → (∀ S, Fr S w w') → (∀ b ∈ ablk a, w.heap.size ≤ b) → K a xs.length c w') : C108 (some ⟨rb, 0, none⟩) w K :=
  r_f108 _ _ _ ⟨_, h.hd.cell rfl, xrefs_c h.H hn hK⟩
end
end Go.Proofs.Ytfpghcdjfiggiaa.V

/- ObjectActs: words, frees, and one act. No condition. -/
import Derived.Test.YtfpghcdjfiggiaaActsQ
namespace Go.Proofs.Ytfpghcdjfiggiaa.V
open Go Go.RowKit

section
variable {W w w' : World} {own own' : Nat → Nat} {y s pb ab b1 : Nat} {count n : Int} {G G' S : List Nat} {fr fr' : Nat} {ss ss' : List Int} {last last' : Int} {os os' : List Ob} {a qa : Option Addr} {c qc : Nat} {refs : List Int} {rs : List YO}

theorem Yo.obs (h : Yo W w own y s pb ab count G fr ss last os a c refs qa qc rs) : ∀ o ∈ os, 0 ≤ o.n ∧ o.n ≤ 64 ∧ (o.vs.length : Int) = o.n ∧ 1 ≤ o.ref ∧ o.ref ≤ last := fun o ho => by
  obtain ⟨ws, free, I⟩ := h.H.inv
  have := I.sz o ho
  exact ⟨this.1, this.2.1, this.2.2.1, I.ids o ho⟩
theorem Yo.osame (h : Yo W w own y s pb ab count G fr ss last os a c refs qa qc rs) {o o' : Ob} (h1 : o ∈ os) (h2 : o' ∈ os) (e : o.ref = o'.ref) : o = o' := by
  obtain ⟨ws, free, I⟩ := h.H.inv
  exact I.same h1 h2 e

theorem Yo.wat (h : Yo W w own y s pb ab count G fr ss last os a c refs qa qc rs) {i : Nat} {r : YO} (hr : rs[i]? = some r) {F : Addr → Prop} (hF : ∀ p, w.cell? (Addr.add p (Int.toNat (i : Int) * 1)) = some (.slice r.wa r.ws.length r.wc) → F p) : PtrOK qa F := by
  have hil := (List.getElem?_eq_some_iff.1 hr).1
  refine h.T.get (i := (i : Int)) (by omega) (by omega) fun r' p hr' hc' _ _ _ => hF p ?_
  rw [show (i : Int).toNat = i by omega, hr] at hr'; cases hr'
  have := hc' 0 (by decide)
  simpa [Addr.add, encYO] using this

theorem Rel8.put (h : Rel8 refs rs os) (pw : (rs.map (·.ref)).Pairwise (· < ·)) {i : Nat} {r : YO} (hr : rs[i]? = some r) (j v : Int) : Rel8 refs (rs.set i { r with ws := r.ws.set j.toNat v }) (oput os r.ref j v) := by
  have hl := h.len
  constructor
  · rw [h.1, List.map_set]
    apply List.ext_getElem?
    intro m
    simp only [List.getElem?_map, List.getElem?_set]
    by_cases e : i = m
    · subst e
      have hi := (List.getElem?_eq_some_iff.1 hr).1
      rw [if_pos rfl, hr]; simp [hi]
    · rw [if_neg e]
  unfold oput
  apply List.ext_getElem?
  intro m
  simp only [List.getElem?_map, List.getElem?_set]
  by_cases e : i = m
  · subst e
    obtain ⟨x, hx, e1, e2⟩ := h.at hr
    have hi := (List.getElem?_eq_some_iff.1 hr).1
    rw [if_pos rfl, if_pos hi, hx]
    simp [r2, o2f, e1.symm, e2]
  · rw [if_neg e]
    cases hq : rs[m]? with
    | none =>
      have : os[m]? = none := by rw [List.getElem?_eq_none_iff] at hq ⊢; omega
      rw [this]; rfl
    | some q =>
      obtain ⟨x, hx, e1, e2⟩ := h.at hq
      have hne := pw_ne pw hr hq e
      rw [hx]
      have : ¬ x.ref = r.ref := by rw [← e1]; exact hne
      simp [r2, o2f, this, e1, e2]

theorem take_drop_filter {rs : List YO} (pw : (rs.map (·.ref)).Pairwise (· < ·)) {i : Nat} {r : YO} (hr : rs[i]? = some r) : rs.filter (fun q => !(r.ref == q.ref)) = rs.take i ++ rs.drop (i + 1) := by
  have hi := (List.getElem?_eq_some_iff.1 hr).1
  have e : rs = rs.take i ++ r :: rs.drop (i + 1) := by
    have := (List.getElem?_eq_some_iff.1 hr).2
    rw [← this, List.getElem_cons_drop, List.take_append_drop]
  have side : ∀ (m : Nat) q, rs[m]? = some q → m ≠ i → (!(r.ref == q.ref)) = true := fun m q hq hne => by
    have := pw_ne pw hr hq (Ne.symm hne)
    simp; exact fun e => this e.symm
  have hL : (rs.take i).filter (fun q => !(r.ref == q.ref)) = rs.take i := List.filter_eq_self.2 fun q hq => by
    obtain ⟨m, hm⟩ := List.getElem?_of_mem hq
    have hlt := (List.getElem?_eq_some_iff.1 hm).1
    rw [List.length_take] at hlt
    rw [List.getElem?_take_of_lt (by omega)] at hm
    exact side m q hm (by omega)
  have hR : (rs.drop (i + 1)).filter (fun q => !(r.ref == q.ref)) = rs.drop (i + 1) := List.filter_eq_self.2 fun q hq => by
    obtain ⟨m, hm⟩ := List.getElem?_of_mem hq
    rw [List.getElem?_drop] at hm
    exact side _ q hm (by omega)
  conv => lhs; rw [e]
  rw [List.filter_append, List.filter_cons, hL, hR]
  simp

theorem filter2 {α β γ : Type} {p : α → Bool} {q : β → Bool} {f : α → γ} {k : β → γ} : ∀ {l : List α} {m : List β}, l.map f = m.map k → l.map p = m.map q → (l.filter p).map f = (m.filter q).map k
  | [], [], _, _ => rfl
  | [], _ :: _, h, _ => by simp at h
  | _ :: _, [], h, _ => by simp at h
  | a :: l, b :: m, h1, h2 => by
    simp only [List.map_cons, List.cons.injEq] at h1 h2
    have ih := filter2 h1.2 h2.2
    rw [List.filter_cons, List.filter_cons, h2.1]
    split
    · rw [List.map_cons, List.map_cons, h1.1, ih]
    · exact ih

theorem Rel8.free (h : Rel8 refs rs os) (pw : (rs.map (·.ref)).Pairwise (· < ·)) {i : Nat} {r : YO} (hr : rs[i]? = some r) : Rel8 (refs.take i ++ refs.drop (i + 1)) (rs.take i ++ rs.drop (i + 1)) (os.filter fun o => !(r.ref == o.ref)) := by
  constructor
  · rw [h.1, List.map_append, List.map_take, List.map_drop]
  rw [← take_drop_filter pw hr]
  refine filter2 h.2 ?_
  have : ∀ (f : Int → Bool), rs.map (fun q => f q.ref) = os.map (fun o => f o.ref) := fun f => by
    have := congrArg (List.map fun p : Int × List Int => f p.1) h.2
    simpa [r2, o2f, Function.comp_def] using this
  exact this fun z => !(r.ref == z)

/-- What a load or a store answers. -/
def Told (ss : List Int) (os : List Ob) (xa xb xd ref n11 n12 : Int) : Prop :=
  (n11 = 0 ∧ ((¬ ((0 ≤ xb ∧ xb < ss.length) ∧ ∃ o ∈ os, o.ref = ref) ∧ n12 = 803) ∨ ((0 ≤ xb ∧ xb < ss.length) ∧ (∃ o ∈ os, o.ref = ref ∧ ¬ (0 ≤ xd ∧ xd < o.n)) ∧ n12 = 802)))

theorem word161_c (h : Yo W w own y s pb ab count G fr ss last os a c refs qa qc rs) (re : Rel8 refs rs os) (bd : Bd8 ss last n rs) (hn : n < 300) (xa xb xc xd xe ref : Int) {K : Bool → World → Prop} (hK : ∀ w', St8 W w' y s pb ab count (n + 1) → K true w') : C161 (some ⟨y, 0, none⟩) xa xb xc xd xe ref w K := by
  refine r_f161 _ _ _ _ _ _ _ _ _ fun b1 w2 n1 => ?_
  obtain ⟨h2, B2, o2⟩ := h.copy n1
  generalize ext own w.heap.size 4 = own2 at h2 o2
  have B2 : Blk w2 b1 [.int .i64 xa, .int .i64 xb, .int .i64 xc, .int .i64 xd, .int .i64 xe] := B2
  have hb0 := bd.n0; have hb1 := bd.n1; have hla := bd.la; have hrl := bd.rl; have hs3 := bd.s3
  have hfail : ∀ w' own', Yo W w' own' y s pb ab count G fr ss last os a c refs qa qc rs → St8 W w' y s pb ab count (n + 1) := fun w' own' hh => ⟨own', G, fr, ss, last, os, a, c, refs, qa, qc, rs, hh, re, bd.next hn (by omega) (by omega) (Tk.refl ss) (by decide)⟩
  refine h2.at re.1 (by omega) ref fun n3 h3 => fun w5 d5 => ?_
  have h5 := h2.still d5.fr
  have B5 := B2.fr (d5.fr []) (by simp)
  have inx : (∃ o ∈ os, o.ref = ref) → ∃ (i : Nat) (r : YO), n3 = i ∧ rs[i]? = some r ∧ r.ref = ref := fun ⟨x, hx, ex⟩ => by
    rcases h3 with ⟨_, hno⟩ | hyes
    · obtain ⟨r, hr, er⟩ := re.of hx
      exact absurd (er.trans ex) (hno r hr)
    · exact hyes
  refine ⟨_, h5.hd.cell rfl, _, B5.cell rfl, h5.steps bd xb fun n8 hk8 hk0 hk1 => ?_⟩
  refine ⟨fun n11 n12 w' => ∃ own', own' b1 = 4 ∧ Blk w' b1 [.int .i64 xa, .int .i64 xb, .int .i64 xc, .int .i64 xd, .int .i64 xe] ∧
    ((Told ss os xa xb xd ref n11 n12 ∧ Yo W w' own' y s pb ab count G fr ss last os a c refs qa qc rs) ∨
     (n12 = 0 ∧ (0 ≤ xb ∧ xb < ss.length) ∧ (∃ o ∈ os, o.ref = ref ∧ 0 ≤ xd ∧ xd < o.n ∧ (xa < 4 → n11 = o.vs.getD xd.toNat 0)) ∧ ∃ ss', Tk (xd / 7 + 1) ss ss' ∧ Yo W w' own' y s pb ab count G fr ss' last (if xa < 4 then os else oput os ref xd xe) a c refs qa qc rs)), ⟨_, B5.cell rfl, IfB.dec (fun hlt => fun w15 d15 => ?_) (fun hge => fun w15 d15 => ?_)⟩, ?_⟩
  · have h15 := h5.still d15.fr
    have B15 := B5.fr (d15.fr []) (by simp)
    refine ⟨_, h15.hd.cell rfl, _, B15.cell rfl, _, B15.cell rfl, ?_⟩
    obtain ⟨om, F, wb, sb, free, ws, clk, O, eG, e⟩ := h15.H
    refine oload_c O _ _ _ (fun hno w' f' => ?_) (fun x hx ex ha hi w' f' => ?_) (fun x hx ex ha h0 h1 w' ss' O' t' f' => ?_)
    · exact ⟨own2, o2, B15.fr (f' []) (by simp), .inl ⟨⟨rfl, .inl ⟨hno, rfl⟩⟩, h15.still f'⟩⟩
    · exact ⟨own2, o2, B15.fr (f' []) (by simp), .inl ⟨⟨rfl, .inr ⟨ha, ⟨x, hx, ex, hi⟩, rfl⟩⟩, h15.still f'⟩⟩
    · obtain ⟨Y', st'⟩ := h15.store (G' := G) (fr' := fr) (last' := last) ⟨om, F, wb, sb, free, ws, clk, O', eG, e⟩ (f'.mono (by rw [eG]; simp; intro k hk; exact .inl (.inr (.inr hk)))) (fun b hb => .inl hb) (Int.le_refl _)
      obtain ⟨B', o'⟩ := st'.blk B15 o2
      exact ⟨_, o', B', .inr ⟨rfl, ha, ⟨x, hx, ex, h0, h1, fun _ => rfl⟩, ss', t', by rw [if_pos hlt]; exact Y'⟩⟩
  · have h15 := h5.still d15.fr
    have B15 := B5.fr (d15.fr []) (by simp)
    refine ⟨_, h15.hd.cell rfl, _, B15.cell rfl, _, B15.cell rfl, _, B15.cell rfl, ?_⟩
    obtain ⟨om, F, wb, sb, free, ws, clk, O, eG, e⟩ := h15.H
    refine oput_c O _ _ _ _ (fun hno w' f' => ?_) (fun x hx ex ha hi w' f' => ?_) (fun x hx ex ha h0 h1 w' ws' ss' O' t' f' => ?_)
    · exact ⟨own2, o2, B15.fr (f' []) (by simp), .inl ⟨⟨rfl, .inl ⟨hno, rfl⟩⟩, h15.still f'⟩⟩
    · exact ⟨own2, o2, B15.fr (f' []) (by simp), .inl ⟨⟨rfl, .inr ⟨ha, ⟨x, hx, ex, hi⟩, rfl⟩⟩, h15.still f'⟩⟩
    · obtain ⟨Y', st'⟩ := h15.store (G' := G) (fr' := fr) (last' := last) ⟨om, F, wb, sb, free, ws', clk, O', eG, e⟩ (f'.mono (by rw [eG]; simp; intro k hk; exact .inl (.inr (.inr hk)))) (fun b hb => .inl hb) (Int.le_refl _)
      obtain ⟨B', o'⟩ := st'.blk B15 o2
      exact ⟨_, o', B', .inr ⟨rfl, ha, ⟨x, hx, ex, h0, h1, fun q => absurd q hge⟩, ss', t', by rw [if_neg hge]; exact Y'⟩⟩
  rintro - n11 n12 w13 ⟨own13, o13, B13, hcs⟩
  refine ⟨fun w' => n12 = 0 ∧ (0 ≤ xb ∧ xb < ss.length) ∧ ∃ (i : Nat) (r : YO), n3 = i ∧ rs[i]? = some r ∧ r.ref = ref ∧ 0 ≤ xd ∧ xd < r.ws.length ∧ r.ws.length ≤ 64 ∧ (xa < 4 → n11 = r.ws.getD xd.toNat 0) ∧ ∃ own' ss', own' b1 = 4 ∧ Blk w' b1 [.int .i64 xa, .int .i64 xb, .int .i64 xc, .int .i64 xd, .int .i64 xe] ∧ Tk (xd / 7 + 1) ss ss' ∧ Yo W w' own' y s pb ab count G fr ss' last (if xa < 4 then os else oput os ref xd xe) a c refs qa qc rs, ⟨_, B13.cell rfl, ?_⟩, ?_⟩
  · rcases hcs with ⟨⟨rfl, hcs⟩, hy⟩ | ⟨rfl, ha, ⟨x, hx, ex, x0, x1, xv⟩, ss', t', hy⟩
    · have fin : ∀ {w' : World} {e : Int}, (∀ S, Fr S w13 w') → n12 = e → IfB (decide (n12 = e)) (K (decide ((0 : Int) = 0)) w') (K false w') := fun f e => ifb_yes (decide_eq_true e) (hK _ (hfail _ _ (hy.still f)))
      have nof : ∀ S, Fr S w13 w13 := fun S => Fr.refl S w13
      refine IfB.dec (fun q1 => ?_) (fun q1 => ⟨_, B13.cell rfl, IfB.dec (fun q2 => ?_) (fun q2 => IfB.dec (fun q3 => ?_) (fun q3 => ?_))⟩)
      · rcases hcs with ⟨_, e⟩ | ⟨ha, _⟩
        · exact fin nof e
        · omega
      · rcases hcs with ⟨_, e⟩ | ⟨ha, _⟩
        · exact fin nof e
        · omega
      · rcases hcs with ⟨_, e⟩ | ⟨ha, ⟨x, hx, ex, _⟩, _⟩
        · exact fin nof e
        · obtain ⟨i, r, e, _⟩ := inx ⟨x, hx, ex⟩
          omega
      · rcases h3 with ⟨e3, _⟩ | ⟨i, r, rfl, hr, er⟩
        · omega
        obtain ⟨x, hx, e1, e4⟩ := re.at hr
        have hxm := List.mem_of_getElem? hx
        rcases hcs with ⟨hno, _⟩ | ⟨ha, ⟨x', hx', ex', hi⟩, e⟩
        · exact absurd ⟨by omega, x, hxm, e1.symm.trans er⟩ hno
        obtain rfl := h.osame hxm hx' (by rw [ex', ← e1, er])
        have hil := (List.getElem?_eq_some_iff.1 hr).1
        intro w35 d35
        have h35 := hy.still d35.fr
        have B35 := B13.fr (d35.fr []) (by simp)
        have hlen := (h.obs x hxm).2.2.1
        refine ⟨_, B35.cell rfl, IfB.dec (fun _ => fin d35.fr e) (fun q4 => ⟨_, B35.cell rfl, _, _, _, h35.hd.cell rfl, h35.wat hr fun p hp => ⟨⟨by omega, by omega⟩, _, _, _, hp, ?_⟩⟩)⟩
        refine IfB.dec (fun _ => fin d35.fr e) (fun q5 => ?_)
        rw [e4] at q5; omega
    · obtain ⟨i, r, rfl, hr, er⟩ := inx ⟨x, hx, ex⟩
      obtain ⟨x', hx', e1, e4⟩ := re.at hr
      have hxm := List.mem_of_getElem? hx'
      obtain rfl := h.osame hxm hx (by rw [ex, ← e1, er])
      have hlen := h.obs x' hxm
      have hil := (List.getElem?_eq_some_iff.1 hr).1
      refine ifb_no (decide_eq_false (by omega)) ⟨_, B13.cell rfl, ifb_no (decide_eq_false (by omega)) (ifb_no (decide_eq_false (by omega)) fun w35 d35 => ?_)⟩
      have h35 := hy.still d35.fr
      have B35 := B13.fr (d35.fr []) (by simp)
      refine ⟨_, B35.cell rfl, ifb_no (decide_eq_false (by omega)) ⟨_, B35.cell rfl, _, _, _, h35.hd.cell rfl, h35.wat hr fun p hp => ⟨⟨by omega, by omega⟩, _, _, _, hp, ?_⟩⟩⟩
      exact ifb_no (decide_eq_false (by rw [e4]; omega)) ⟨rfl, ha, i, r, rfl, hr, er, x0, by rw [e4]; omega, by rw [e4]; omega, fun q => by rw [e4]; exact xv q, own13, ss', o13, B35, t', h35⟩
  · rintro - w30 ⟨rfl, ha, i, r, rfl, hr, er, x0, x1, x2, xv, own30, ss', o30, B30, t', h30⟩
    have hil := (List.getElem?_eq_some_iff.1 hr).1
    have ei : (i : Int).toNat = i := by omega
    have bd' : Bd8 ss' last (n + 1) rs := bd.next hn (by omega) (by omega) t' (by omega)
    have z6 : ∀ l : Nat, l ≤ 64 → Int.tdiv ((l : Int) + 5) 6 = ((l : Int) + 5) / 6 := fun l _ => Int.tdiv_eq_ediv_of_nonneg (by omega)
    refine ⟨fun w' => ∃ own', own' b1 = 4 ∧ Blk w' b1 [.int .i64 xa, .int .i64 xb, .int .i64 xc, .int .i64 xd, .int .i64 xe] ∧ Yo W w' own' y s pb ab count G fr ss' last (if xa < 4 then os else oput os ref xd xe) a c refs qa qc rs, fun w41 d41 => ifb_nyes rfl ?_, ?_⟩
    · have h41 := h30.still d41.fr
      have B41 := B30.fr (d41.fr []) (by simp)
      have fin : ∀ n44 : Int, (0 ≤ xb ∧ xb < ss'.length → n44 = ss'.getD xb.toNat 0) → ¬ (n8 + 3 + ((r.ws.length : Int) + 5) / 6 < n44) := fun n44 k44 => by
        have := t'.2 (100 * n) (by omega) bd.tk xb.toNat
        have e8 := hk8 ha
        have e44 := k44 (by rw [t'.1]; exact ha)
        omega
      have out : ∃ own', own' b1 = 4 ∧ Blk w41 b1 [.int .i64 xa, .int .i64 xb, .int .i64 xc, .int .i64 xd, .int .i64 xe] ∧ Yo W w41 own' y s pb ab count G fr ss' last (if xa < 4 then os else oput os ref xd xe) a c refs qa qc rs := ⟨own30, o30, B41, h41⟩
      have bnd : ((r.ws.length : Int) + 5) / 6 ≤ 12 ∧ 0 ≤ ((r.ws.length : Int) + 5) / 6 := by omega
      refine ⟨_, h41.hd.cell rfl, _, B41.cell rfl, fit64 (by omega) (by omega), h41.steps bd' xb fun n44 k44 _ _ => ?_, ?_⟩
      · refine ⟨_, _, _, h41.hd.cell rfl, h41.wat hr fun p hp => ⟨⟨by omega, by omega⟩, _, _, _, hp, ?_⟩⟩
        rw [z6 _ x2]
        exact ⟨fit64 (by omega) (by omega), by decide, fit64 (by omega) (by omega), fit64 (by omega) (by omega), ifb_no (decide_eq_false (fin n44 k44)) out⟩
      · refine ⟨_, _, _, h41.hd.cell rfl, h41.wat hr fun p hc0 => ?_⟩
        refine ⟨⟨by omega, by omega⟩, h41.steps bd' xb fun n44 k44 _ _ => ⟨_, _, _, hc0, ?_⟩, ⟨_, _, _, hc0, ?_⟩⟩
        · rw [z6 _ x2]
          exact ⟨fit64 (by omega) (by omega), by decide, fit64 (by omega) (by omega), fit64 (by omega) (by omega), ifb_no (decide_eq_false (fin n44 k44)) out⟩
        · rw [z6 _ x2]
          exact ⟨fit64 (by omega) (by omega), by decide, fit64 (by omega) (by omega), fit64 (by omega) (by omega), h41.steps bd' xb fun n44 k44 _ _ => ifb_no (decide_eq_false (fin n44 k44)) out⟩
    rintro - w51 ⟨own51, o51, B51, h51⟩
    refine ⟨_, B51.cell rfl, IfB.dec (fun q5 => fun w58 d58 => ?_) (fun q5 => fun w58 d58 => ?_)⟩
    · have h58 := h51.still d58.fr
      have B58 := B51.fr (d58.fr []) (by simp)
      rw [if_neg (by omega)] at h58
      refine ⟨_, _, _, h58.hd.cell rfl, h58.wat hr fun p hp => ⟨⟨by omega, by omega⟩, _, _, _, hp, _, B58.cell rfl, _, B58.cell rfl, ?_⟩⟩
      refine (h58.V r (List.mem_of_getElem? hr)).put x0 x1 xe fun p2 m2 _ s2 => ⟨⟨x0, x1⟩, m2, fun w65 c65 => ?_⟩
      obtain ⟨S65, f65⟩ := s2 w65 c65
      obtain ⟨Y65, _⟩ := h58.word hr (by rw [List.length_set]) S65 f65
      refine hK w65 ⟨_, G, fr, ss', last, _, a, c, refs, qa, qc, _, Y65, ?_, ?_⟩
      · rw [← er]; exact re.put h.pw hr xd xe
      · exact ⟨bd'.n0, bd'.n1, bd'.la, by rw [List.length_set]; exact bd'.rl, bd'.tk, bd'.s3⟩
    · have h58 := h51.still d58.fr
      have B58 := B51.fr (d58.fr []) (by simp)
      rw [if_pos (by omega)] at h58
      refine ⟨_, _, _, h58.hd.cell rfl, h58.wat hr fun p hp => ⟨⟨by omega, by omega⟩, _, _, _, hp, _, B58.cell rfl, ?_⟩⟩
      refine (h58.V r (List.mem_of_getElem? hr)).get x0 x1 fun p2 hp2 => ⟨⟨x0, x1⟩, _, hp2, ?_⟩
      rw [decide_eq_true (xv (by omega))]
      exact hK w58 ⟨_, G, fr, ss', last, _, a, c, refs, qa, qc, _, h58, re, bd'⟩

theorem free162_c (h : Yo W w own y s pb ab count G fr ss last os a c refs qa qc rs) (re : Rel8 refs rs os) (bd : Bd8 ss last n rs) (hn : n < 300) (xa xb xc xd xe ref : Int) {K : Bool → World → Prop} (hK : ∀ w', St8 W w' y s pb ab count (n + 1) → K true w') : C162 (some ⟨y, 0, none⟩) xa xb xc xd xe ref w K := by
  refine r_f162 _ _ _ _ _ _ _ _ _ fun b1 w2 n1 => ?_
  obtain ⟨h2, B2, o2⟩ := h.copy n1
  generalize ext own w.heap.size 4 = own2 at h2 o2
  have B2 : Blk w2 b1 [.int .i64 xa, .int .i64 xb, .int .i64 xc, .int .i64 xd, .int .i64 xe] := B2
  have hb0 := bd.n0; have hb1 := bd.n1; have hla := bd.la; have hrl := bd.rl; have hs3 := bd.s3
  have hfail : ∀ w' own', Yo W w' own' y s pb ab count G fr ss last os a c refs qa qc rs → St8 W w' y s pb ab count (n + 1) := fun w' own' hh => ⟨own', G, fr, ss, last, os, a, c, refs, qa, qc, rs, hh, re, bd.next hn (by omega) (by omega) (Tk.refl ss) (by decide)⟩
  refine h2.at re.1 (by omega) ref fun n3 h3 => fun w5 d5 => ?_
  have h5 := h2.still d5.fr
  have B5 := B2.fr (d5.fr []) (by simp)
  refine ⟨_, h5.hd.cell rfl, _, B5.cell rfl, ?_⟩
  obtain ⟨om, F, wb, sb, free, ws, clk, O, eG, e⟩ := h5.H
  refine ofree_c O _ _ (fun hno w9 f9 => ?_) (fun x hx ex ha w9 F' free' ws' ss' O' el t' f' g' => ?_)
  · have h9 := h5.still f9
    have B9 := B5.fr (f9 []) (by simp)
    have ok : K (decide ((803 : Int) = 803)) w9 := hK _ (hfail _ _ h9)
    refine ⟨fun _ => False, ⟨_, B9.cell rfl, IfB.dec (fun _ => ok) (fun q1 => ⟨_, B9.cell rfl, IfB.dec (fun _ => ok) (fun q2 => IfB.dec (fun _ => ok) (fun q3 => ?_))⟩)⟩, fun _ _ hf => hf.elim⟩
    rcases h3 with ⟨e, _⟩ | ⟨i, r, rfl, hr, er⟩
    · omega
    · obtain ⟨x, hx, e1, _⟩ := re.at hr
      exact hno ⟨by omega, x, List.mem_of_getElem? hx, e1.symm.trans er⟩
  · obtain ⟨i, r, rfl, hr, er⟩ : ∃ (i : Nat) (r : YO), n3 = i ∧ rs[i]? = some r ∧ r.ref = ref := by
      rcases h3 with ⟨_, hno⟩ | hyes
      · obtain ⟨r, hr, er⟩ := re.of hx
        exact absurd (er.trans ex) (hno r hr)
      · exact hyes
    have hil := (List.getElem?_eq_some_iff.1 hr).1
    obtain ⟨h9, st9⟩ := h5.store (G' := s :: om :: F') (fr' := free'.length) (last' := last) ⟨om, F', wb, sb, free', ws', clk, O', rfl, rfl⟩ (by rw [eG]; exact f') (fun b hb => by
      rw [eG]
      rcases List.mem_cons.1 hb with q | q
      · exact .inl (by simp [q])
      · rcases List.mem_cons.1 q with q | q
        · exact .inl (by simp [q])
        · exact (g' b q).imp (fun z => by simp [z]) id) (Int.le_refl _)
    obtain ⟨B9, o9⟩ := st9.blk B5 o2
    generalize ext own2 w5.heap.size 1 = own9 at h9 o9
    have erl := re.len
    refine ⟨fun w' => w' = w9, ⟨_, B9.cell rfl, ifb_no (decide_eq_false (by omega)) ⟨_, B9.cell rfl, ifb_no (decide_eq_false (by omega)) (ifb_no (decide_eq_false (by omega)) rfl)⟩⟩, ?_⟩
    rintro - _ rfl
    refine ⟨fun w' => ∃ own' a' c', Yo W w' own' y s pb ab count (s :: om :: F') free'.length ss' last (os.filter fun y => !(ref == y.ref)) a' c' (refs.take i ++ refs.drop (i + 1)) qa qc rs, ?_, ?_⟩
    · exact remrefs_c h9 (by omega) (by omega) fun w' own' a' c' Y' st' => ⟨own', a', c', Y'⟩
    rintro - w15 ⟨own15, a15, c15, h15⟩
    refine remwords_c (F := fun w => K (decide ((0 : Int) = 0)) w) h15 (by omega) hil fun w' own' qa' qc' Y' st' => hK w' ⟨own', _, _, ss', last, _, a15, c15, _, qa', qc', _, Y', ?_, bd.next hn (by omega) ?_ t' (by decide)⟩
    · rw [← er]; exact re.free h.pw hr
    · simp; omega

theorem act92_c (h : Yo W w own y s pb ab count G fr ss last os a c refs qa qc rs) (re : Rel8 refs rs os) (bd : Bd8 ss last n rs) (hn : n < 300) (hc : 1 ≤ count ∧ count ≤ 2000) (xa xb xc xd xe : Int) {K : Bool → World → Prop} (hK : ∀ w', St8 W w' y s pb ab count (n + 1) → K true w') : C92 (some ⟨y, 0, none⟩) xa xb xc xd xe w K := by
  refine r_f92 _ _ _ _ _ _ _ _ fun b1 w2 n1 => ?_
  obtain ⟨h2, B2, o2⟩ := h.copy n1
  generalize ext own w.heap.size 4 = own2 at h2 o2
  have B2 : Blk w2 b1 [.int .i64 xa, .int .i64 xb, .int .i64 xc, .int .i64 xd, .int .i64 xe] := B2
  have hb0 := bd.n0; have hb1 := bd.n1; have hla := bd.la; have hrl := bd.rl; have hs3 := bd.s3
  have hfail : ∀ w' own', Yo W w' own' y s pb ab count G fr ss last os a c refs qa qc rs → St8 W w' y s pb ab count (n + 1) := fun w' own' hh => ⟨own', G, fr, ss, last, os, a, c, refs, qa, qc, rs, hh, re, bd.next hn (by omega) (by omega) (Tk.refl ss) (by decide)⟩
  refine ⟨_, B2.cell rfl, fun _ w' => Yo W w' own2 y s pb ab count G fr ss last os a c refs qa qc rs ∧ Blk w' b1 [.int .i64 xa, .int .i64 xb, .int .i64 xc, .int .i64 xd, .int .i64 xe], ⟨_, _, _, h2.hd.cell rfl, IfB.dec (fun hlt => ⟨_, B2.cell rfl, IfB.dec (fun h0 => fun w9 d9 => ?_) (fun _ => ⟨h2, B2⟩)⟩) (fun _ => ⟨h2, B2⟩)⟩, ?_⟩
  · have h9 := h2.still d9.fr
    have B9 := B2.fr (d9.fr []) (by simp)
    have m0 : 0 ≤ Int.tmod xc (refs.length : Int) := by rw [Int.tmod_eq_emod_of_nonneg h0]; exact Int.emod_nonneg _ (by omega)
    have m1 : Int.tmod xc (refs.length : Int) < refs.length := by rw [Int.tmod_eq_emod_of_nonneg h0]; exact Int.emod_lt_of_pos _ hlt
    exact ⟨_, _, _, h9.hd.cell rfl, _, B9.cell rfl, _, _, _, h9.hd.cell rfl, by omega, h9.R.get m0 m1 fun p hp => ⟨⟨m0, m1⟩, _, hp, h9, B9⟩⟩
  rintro - ref w6 ⟨h6, B6⟩
  clear h2 B2 n1
  refine ⟨_, B6.cell rfl, IfB.dec (fun _ => ⟨_, _, _, _, _, B6.cells, make160_c h6 re bd hn hc _ _ _ _ _ hK⟩) (fun _ => ⟨_, B6.cell rfl, IfB.dec (fun _ => ⟨_, _, _, _, _, B6.cells, word161_c h6 re bd hn _ _ _ _ _ _ hK⟩) (fun _ => ⟨_, B6.cell rfl, IfB.dec (fun _ => ⟨_, _, _, _, _, B6.cells, free162_c h6 re bd hn _ _ _ _ _ _ hK⟩) (fun _ => ?_)⟩)⟩)⟩
  refine ⟨_, h6.hd.cell rfl, ?_⟩
  obtain ⟨om, F, wb, sb, free, ws, clk, O, eG, e⟩ := h6.H
  refine osize_c O _ (fun hno w42 f42 => ?_) (fun x hx ex w42 f42 => ?_)
  · have h42 := h6.still f42
    refine h42.at re.1 (by omega) ref fun n43 h43 => ?_
    rcases h43 with ⟨rfl, _⟩ | ⟨i, r, rfl, hr, er⟩
    · exact ifb_yes rfl (ifb_yes rfl (hK _ (hfail _ _ h42)))
    · obtain ⟨x, hx, e1, _⟩ := re.at hr
      exact absurd (e1.symm.trans er) (hno x (List.mem_of_getElem? hx))
  · have h42 := h6.still f42
    refine h42.at re.1 (by omega) ref fun n43 h43 => ?_
    rcases h43 with ⟨rfl, hno⟩ | ⟨i, r, rfl, hr, er⟩
    · obtain ⟨r, hr, er⟩ := re.of hx
      exact absurd (er.trans ex) (hno r hr)
    obtain ⟨x', hx', e1, e4⟩ := re.at hr
    obtain rfl := h.osame (List.mem_of_getElem? hx') hx (by rw [ex, ← e1, er])
    have hlen := h.obs x' hx
    refine ifb_no (decide_eq_false (by omega)) fun w45 d45 => ifb_yes rfl ?_
    have h45 := h42.still d45.fr
    have fin : ∀ n47 : Int, ((n47 = -1 ∧ ∀ r ∈ rs, r.ref ≠ ref) ∨ ∃ (i : Nat) (r : YO), n47 = i ∧ rs[i]? = some r ∧ r.ref = ref) → (PtrOK qa fun (p49 : Addr) => ((0 : Int) ≤ n47 ∧ n47 < (rs.length : Int)) ∧ ∃ (a50 : Option Addr) (l50 c50 : Nat), World.cell? w45 (Addr.add p49 (Int.toNat n47 * 1)) = some (.slice a50 l50 c50) ∧ K (decide ((x'.n : Int) = (l50 : Int))) w45) := fun n47 h47 => by
      rcases h47 with ⟨rfl, hno⟩ | ⟨i', r', rfl, hr', er'⟩
      · exact absurd er (hno r (List.mem_of_getElem? hr))
      have hil := (List.getElem?_eq_some_iff.1 hr').1
      refine h45.wat hr' fun p hp => ⟨⟨by omega, by omega⟩, _, _, _, hp, ?_⟩
      obtain ⟨x2, hx2, f1, f4⟩ := re.at hr'
      obtain rfl := h.osame (List.mem_of_getElem? hx2) hx (by rw [ex, ← f1, er'])
      rw [f4, decide_eq_true hlen.2.2.1.symm]
      exact hK _ (hfail _ _ h45)
    exact ⟨⟨_, _, _, h45.hd.cell rfl, h45.at re.1 (by omega) ref fun n47 h47 => fin n47 h47⟩, h45.at re.1 (by omega) ref fun n47 h47 => ⟨_, _, _, h45.hd.cell rfl, fin n47 h47⟩⟩
end
end Go.Proofs.Ytfpghcdjfiggiaa.V

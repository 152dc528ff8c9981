/- The reading of a whole function is sound: where it holds, the call comes to it. No condition. -/
import Derived.Test.YtmlhdmnnijapjaaVCP
namespace Go.Proofs.Ytmlhdmnnijapjaa.V
open Go

structure RelD (D : List Deferred) (N : Nat) (a : Act) (e : Env) : Prop where
  size : a.tmps.size = N
  get : ∀ n, a.tmps.getD n undef = e n
  dfr : a.defers = D
abbrev Rel (N : Nat) (a : Act) (e : Env) : Prop := RelD [] N a e

theorem rel_ev {D : List Deferred} {N : Nat} {a : Act} {e : Env} (h : RelD D N a e) : a.eval = e.ev := by
  funext x
  cases x with
  | tmp t => exact h.get t
  | _ => rfl

theorem put_some (e : Env) (d : Nat) (v : Value) (n : Nat) : e.put (some d) v n = if n = d then v else e n := by
  by_cases h : n = d
  · subst h
    show (bif Nat.beq n n then v else e n) = _
    simp
  · have hb : Nat.beq n d = false := by
      rw [Bool.eq_false_iff]
      exact fun h2 => h (Nat.eq_of_beq_eq_true h2)
    show (bif Nat.beq n d then v else e n) = _
    rw [hb, if_neg h]; rfl

theorem rel_put {D : List Deferred} {N : Nat} {a : Act} {e : Env} (h : RelD D N a e) (d : Option Nat) (hd : d.all (fun d => Nat.blt d N) = true) (v : Value) : RelD D N (a.put d v) (e.put d v) := by
  cases d with
  | none => exact h
  | some d =>
    have hlt : d < N := by simpa [Nat.blt_eq] using hd
    refine ⟨by simp [Act.put, h.size], fun n => ?_, h.dfr⟩
    rw [put_some]
    have hs : d < a.tmps.size := by rw [h.size]; exact hlt
    have hg := h.get n
    simp only [Act.put]
    by_cases e1 : n = d
    · subst e1
      rw [if_pos rfl]
      simp [Array.getD_eq_getD_getElem?, hs]
    · rw [if_neg e1, ← hg]
      have : ¬ d = n := fun h => e1 h.symm
      simp [Array.getD_eq_getD_getElem?, this]

theorem good_wp {P : Program} {X : List PanicEntry → World → Prop} {o : Oper} {a : Act} {w : World} {K : Value → World → Prop} {next : Act → World → Prop} {Q : Exit → Act → World → Prop}
    (h : Good P X (execOp a.eval o) w K) (hn : ∀ v w', K v w' → next (a.put o.dst v) w') (hX : ∀ ch w', X ch w' → Q (.panic ch) a w') : o.wp P a w next Q := by
  unfold Oper.wp
  unfold Good at h
  split at h
  · rename_i v w' hr; rw [hr]; exact hn _ _ h
  · rename_i w' hr; rw [hr]; exact hn _ _ h
  · rename_i f args w' hr
    rw [hr]
    refine h.mono fun en w'' hen => ?_
    rcases hen with ⟨v, rfl, hk⟩ | ⟨ch, rfl, hk⟩
    · exact hn _ _ hk
    · exact hX _ _ hk
  · rename_i v w' hr; rw [hr]; exact hX _ _ h
  · exact h.elim

def Off (ms : List Nat) (e e' : Env) : Prop := ∀ n, ms.any (Nat.beq n) = false → e' n = e n

theorem Off.refl (ms : List Nat) (e : Env) : Off ms e e := fun _ _ => rfl
theorem Off.trans {ms ns : List Nat} {e e' e'' : Env} (h : Off ms e e') (h' : Off ns e' e'') : Off (ms ++ ns) e e'' := by
  intro n hn
  rw [List.any_append, Bool.or_eq_false_iff] at hn
  rw [h' n hn.2, h n hn.1]
theorem Off.left {ms ns : List Nat} {e e' : Env} (h : Off ms e e') : Off (ms ++ ns) e e' := by
  intro n hn
  rw [List.any_append, Bool.or_eq_false_iff] at hn
  exact h n hn.1
theorem Off.right {ms ns : List Nat} {e e' : Env} (h : Off ns e e') : Off (ms ++ ns) e e' := by
  intro n hn
  rw [List.any_append, Bool.or_eq_false_iff] at hn
  exact h n hn.2
theorem Off.same {ms : List Nat} {e e' e'' : Env} (h : Off ms e e') (h' : Off ms e' e'') : Off ms e e'' := by
  intro n hn
  rw [h' n hn, h n hn]

theorem off_put (e : Env) (d : Option Nat) (v : Value) : Off d.toList e (e.put d v) := by
  intro n hn
  cases d with
  | none => rfl
  | some d =>
    rw [put_some, if_neg]
    intro h
    subst h
    simp at hn

theorem put_same {e : Env} {d : Nat} {v : Value} (h : e d = v) : e.put (some d) v = e := by
  funext n
  rw [put_some]
  split
  · rename_i hn; subst hn; exact h.symm
  · rfl

theorem yielded_env {D : List Deferred} {N : Nat} {a : Act} {e : Env} {ops : Array Oper} (h : RelD D N a e) {j d : Nat} (hd : dstOf ops j = some d) (hlt : d < N) :
    yielded ops a.tmps j = match e d with | .bool b => some b | _ => none := by
  unfold yielded
  unfold dstOf at hd
  have hs : d < a.tmps.size := by rw [h.size]; exact hlt
  have hg : a.tmps[d]? = some (e d) := by
    rw [← h.get d]
    simp [Array.getD_eq_getD_getElem?, hs]
  rw [hd]
  simp only [Option.bind_some, hg]
  split
  · rename_i b hb; simp only [Option.some.injEq] at hb; rw [hb]
  · rename_i hb
    split
    · rename_i b hb2; exact absurd (by rw [hb2]) (hb b)
    · rfl

def dsts (l : List Oper) : List Nat := l.filterMap (·.dst)

theorem dsts_cons (o : Oper) (l : List Oper) : dsts (o :: l) = o.dst.toList ++ dsts l := by
  unfold dsts
  cases hd : o.dst <;> simp [hd]

/-- One operation under its guard, run. -/
theorem vcG_step {D : List Deferred} {P : Program} {chk : Cfg P} {T : Thr} {ops : Array Oper} {N : Nat} {Q : Exit → Act → World → Prop} {o : Oper} {e : Env} {a : Act} {w : World} {K : Env → World → Prop} {next : Act → World → Prop}
    (ho : okOp P o.op = true ∧ o.dst.all (fun d => Nat.blt d N) = true ∧ o.guard.all (fun g => (dstOf ops g.1).all fun d => Nat.blt d N) = true) (hr : RelD D N a e) (h : vcG P chk T ops o e w K)
    (hn : ∀ e' a' w', RelD D N a' e' → Off o.dst.toList e e' → K e' w' → next a' w') (hX : ∀ ch w', T.X ch w' → Q (.panic ch) a w') :
    if Region.wanted o (yielded ops a.tmps) then o.wp P a w next Q else next (a.put o.dst undef) w := by
  obtain ⟨ho1, ho2, ho3⟩ := ho
  have run : vcOp P chk T e w o (fun v w' => K (e.put o.dst v) w') → o.wp P a w next Q := by
    intro h
    have hg := op_sound ho1 h
    rw [← rel_ev hr] at hg
    exact good_wp hg (fun v w' hk => hn _ _ w' (rel_put hr o.dst ho2 v) (off_put e o.dst v) hk) hX
  have skip : K (e.put o.dst undef) w → next (a.put o.dst undef) w := fun h => hn _ _ w (rel_put hr o.dst ho2 undef) (off_put e o.dst undef) h
  unfold vcG at h
  cases hgd : o.guard with
  | none =>
    simp only [hgd] at h
    rw [if_pos (by simp [Region.wanted, hgd])]
    exact run h
  | some g =>
    obtain ⟨j, want⟩ := g
    simp only [hgd] at h
    cases hdj : dstOf ops j with
    | none =>
      simp only [hdj] at h
      rw [if_neg]
      · exact skip h
      · unfold dstOf at hdj
        simp [Region.wanted, hgd, yielded, hdj]
    | some d =>
      simp only [hdj] at h
      have hlt : d < N := by
        rw [hgd] at ho3
        simp only [Option.all_some, hdj, Nat.blt_eq] at ho3
        exact ho3
      have hy := yielded_env (ops := ops) hr hdj hlt
      split at h
      · rename_i b hb
        rw [hb] at hy
        simp only at hy
        cases want with
        | true =>
          simp only at h
          refine h.elim (fun hb1 h => ?_) (fun hb1 h => ?_)
          · subst hb1
            rw [put_same hb] at h
            rw [if_pos (by simp [Region.wanted, hgd, hy])]
            exact run h
          · subst hb1
            rw [put_same hb] at h
            rw [if_neg (by simp [Region.wanted, hgd, hy])]
            exact skip h
        | false =>
          simp only at h
          refine h.elim (fun hb1 h => ?_) (fun hb1 h => ?_)
          · subst hb1
            rw [put_same hb] at h
            rw [if_neg (by simp [Region.wanted, hgd, hy])]
            exact skip h
          · subst hb1
            rw [put_same hb] at h
            rw [if_pos (by simp [Region.wanted, hgd, hy])]
            exact run h
      · rename_i hb
        have hy2 : yielded ops a.tmps j = none := by
          rw [hy]
          split
          · rename_i b hb2; exact absurd hb2 (hb b)
          · rfl
        rw [if_neg (by simp [Region.wanted, hgd, hy2])]
        exact skip h

/-- The same of an operation that leaves the world alone. -/
theorem vcG_still {D : List Deferred} {P : Program} {chk : Cfg P} {T : Thr} {ops : Array Oper} {N : Nat} {o : Oper} {e : Env} {a : Act} {w : World} {K : Env → World → Prop} {next : Act → Prop}
    (hqt : quietOp P o.op = true)
    (ho : okOp P o.op = true ∧ o.dst.all (fun d => Nat.blt d N) = true ∧ o.guard.all (fun g => (dstOf ops g.1).all fun d => Nat.blt d N) = true) (hr : RelD D N a e) (h : vcG P chk T ops o e w K)
    (hn : ∀ e' a', RelD D N a' e' → Off o.dst.toList e e' → K e' w → next a') :
    if Region.wanted o (yielded ops a.tmps) then o.still P a w next else next (a.put o.dst undef) := by
  obtain ⟨ho1, ho2, ho3⟩ := ho
  have run : vcOp P chk T e w o (fun v w' => K (e.put o.dst v) w') → o.still P a w next := by
    intro h
    obtain ⟨v, hv, hk⟩ := quiet_sound hqt ho1 h
    unfold Oper.still
    rw [rel_ev hr, hv]
    exact ⟨rfl, hn _ _ (rel_put hr o.dst ho2 v) (off_put e o.dst v) hk⟩
  have skip : K (e.put o.dst undef) w → next (a.put o.dst undef) := fun h => hn _ _ (rel_put hr o.dst ho2 undef) (off_put e o.dst undef) h
  unfold vcG at h
  cases hgd : o.guard with
  | none =>
    simp only [hgd] at h
    rw [if_pos (by simp [Region.wanted, hgd])]
    exact run h
  | some g =>
    obtain ⟨j, want⟩ := g
    simp only [hgd] at h
    cases hdj : dstOf ops j with
    | none =>
      simp only [hdj] at h
      rw [if_neg]
      · exact skip h
      · unfold dstOf at hdj
        simp [Region.wanted, hgd, yielded, hdj]
    | some d =>
      simp only [hdj] at h
      have hlt : d < N := by
        rw [hgd] at ho3
        simp only [Option.all_some, hdj, Nat.blt_eq] at ho3
        exact ho3
      have hy := yielded_env (ops := ops) hr hdj hlt
      split at h
      · rename_i b hb
        rw [hb] at hy
        simp only at hy
        cases want with
        | true =>
          simp only at h
          refine h.elim (fun hb1 h => ?_) (fun hb1 h => ?_)
          · subst hb1
            rw [put_same hb] at h
            rw [if_pos (by simp [Region.wanted, hgd, hy])]
            exact run h
          · subst hb1
            rw [put_same hb] at h
            rw [if_neg (by simp [Region.wanted, hgd, hy])]
            exact skip h
        | false =>
          simp only at h
          refine h.elim (fun hb1 h => ?_) (fun hb1 h => ?_)
          · subst hb1
            rw [put_same hb] at h
            rw [if_neg (by simp [Region.wanted, hgd, hy])]
            exact skip h
          · subst hb1
            rw [put_same hb] at h
            rw [if_pos (by simp [Region.wanted, hgd, hy])]
            exact run h
      · rename_i hb
        have hy2 : yielded ops a.tmps j = none := by
          rw [hy]
          split
          · rename_i b hb2; exact absurd hb2 (hb b)
          · rfl
        rw [if_neg (by simp [Region.wanted, hgd, hy2])]
        exact skip h

def OkO (P : Program) (N : Nat) (ops : Array Oper) (o : Oper) : Prop :=
  okOp P o.op = true ∧ o.dst.all (fun d => Nat.blt d N) = true ∧ o.guard.all (fun g => (dstOf ops g.1).all fun d => Nat.blt d N) = true

theorem vcL_sound {D : List Deferred} {P : Program} {chk : Cfg P} {T : Thr} {ops : Array Oper} {N : Nat} {Q : Exit → Act → World → Prop} : ∀ (l : List Oper) (e : Env) (a : Act) (w : World) (K : Env → World → Prop),
    (∀ o ∈ l, OkO P N ops o) → RelD D N a e → vcL P chk T ops l e w K →
    (∀ e' a' w', RelD D N a' e' → Off (dsts l) e e' → K e' w' → Q .normal a' w') → (∀ e' a' ch w', RelD D N a' e' → Off (dsts l) e e' → T.X ch w' → Q (.panic ch) a' w') → wpList P ops Q l a w := by
  intro l
  induction l with
  | nil => intro e a w K _ hr h hq _; exact hq e a w hr (Off.refl _ _) h
  | cons o rest ih =>
    intro e a w K hok hr h hq hX
    have hok' := fun o' (h' : o' ∈ rest) => hok o' (List.mem_cons_of_mem _ h')
    have := vcG_step (next := wpList P ops Q rest) (Q := Q) (hok o (List.mem_cons_self ..)) hr h (fun e' a' w' h1 h2 h3 =>
      ih e' a' w' K hok' h1 h3 (fun e2 a2 w2 g1 g2 g3 => hq e2 a2 w2 g1 (by rw [dsts_cons]; exact h2.trans g2) g3) (fun e2 a2 ch w2 g1 g2 g3 => hX e2 a2 ch w2 g1 (by rw [dsts_cons]; exact h2.trans g2) g3)) (fun ch w' h => hX e a ch w' hr (Off.refl _ _) h)
    unfold wpList
    split
    · rename_i hw; rw [if_pos hw] at this; exact .inl this
    · rename_i hw; rw [if_neg hw] at this; exact this

theorem vcL_still {D : List Deferred} {P : Program} {chk : Cfg P} {T : Thr} {ops : Array Oper} {N : Nat} {w : World} {R : Act → Prop} (l2 : List Oper) (K : Env → World → Prop) : ∀ (l : List Oper) (e : Env) (a : Act),
    (∀ o ∈ l, OkO P N ops o) → (∀ o ∈ l, quietOp P o.op = true) → RelD D N a e → vcL P chk T ops (l ++ l2) e w K →
    (∀ e' a', RelD D N a' e' → Off (dsts l) e e' → vcL P chk T ops l2 e' w K → R a') → wpStill P ops w R l a := by
  intro l
  induction l with
  | nil => intro e a _ _ hr h hq; exact hq e a hr (Off.refl _ _) h
  | cons o rest ih =>
    intro e a hok hqt hr h hq
    have hok' := fun o' (h' : o' ∈ rest) => hok o' (List.mem_cons_of_mem _ h')
    have hqt' := fun o' (h' : o' ∈ rest) => hqt o' (List.mem_cons_of_mem _ h')
    exact vcG_still (next := wpStill P ops w R rest) (hqt o (List.mem_cons_self ..)) (hok o (List.mem_cons_self ..)) hr h fun e' a' h1 h2 h3 =>
      ih e' a' hok' hqt' h1 h3 fun e2 a2 g1 g2 g3 => hq e2 a2 g1 (by rw [dsts_cons]; exact h2.trans g2) g3

theorem allL_mem {α : Type} {F : α → Prop} : ∀ (l : List α), AllL F l → ∀ x ∈ l, F x := by
  intro l
  induction l with
  | nil => intro _ x hx; cases hx
  | cons y ys ih =>
    intro h x hx
    cases ys with
    | nil =>
      rw [List.mem_singleton] at hx
      subst hx
      exact h
    | cons z zs =>
      rcases List.mem_cons.1 hx with rfl | hx
      · exact h.1
      · exact ih h.2 x hx

theorem off_in {ops : Array Oper} {o : Oper} {i : Nat} {e e' : Env} (hi : ops[i]? = some o) (h : Off o.dst.toList e e') : Off (dsts ops.toList) e e' := by
  intro n hn
  refine h n ?_
  cases hd : o.dst with
  | none => rfl
  | some d =>
    simp only [Option.toList_some, List.any_cons, List.any_nil, Bool.or_false]
    have hm : d ∈ dsts ops.toList := by
      unfold dsts
      rw [List.mem_filterMap]
      exact ⟨o, by have := Array.mem_of_getElem? hi; exact Array.mem_toList_iff.2 this, hd⟩
    rw [List.any_eq_false] at hn
    have := hn d hm
    rw [Bool.eq_false_iff]
    exact this

/-- Guard and operation, once: either it runs, with K behind it, or it is passed over. -/
theorem vcG_cases {D : List Deferred} {P : Program} {chk : Cfg P} {T : Thr} {ops : Array Oper} {N : Nat} {o : Oper} {e : Env} {a : Act} {w : World} {K : Env → World → Prop}
    (ho3 : o.guard.all (fun g => (dstOf ops g.1).all fun d => Nat.blt d N) = true) (hr : RelD D N a e) (h : vcG P chk T ops o e w K) :
    (Region.wanted o (yielded ops a.tmps) = true ∧ vcOp P chk T e w o fun v w' => K (e.put o.dst v) w') ∨
    (Region.wanted o (yielded ops a.tmps) = false ∧ K (e.put o.dst undef) w) := by
  unfold vcG at h
  cases hgd : o.guard with
  | none =>
    simp only [hgd] at h
    exact .inl ⟨by simp [Region.wanted, hgd], h⟩
  | some g =>
    obtain ⟨j, want⟩ := g
    simp only [hgd] at h
    cases hdj : dstOf ops j with
    | none =>
      simp only [hdj] at h
      refine .inr ⟨?_, h⟩
      unfold dstOf at hdj
      simp [Region.wanted, hgd, yielded, hdj]
    | some d =>
      simp only [hdj] at h
      have hlt : d < N := by
        rw [hgd] at ho3
        simp only [Option.all_some, hdj, Nat.blt_eq] at ho3
        exact ho3
      have hy := yielded_env (ops := ops) hr hdj hlt
      split at h
      · rename_i b hb
        rw [hb] at hy
        simp only at hy
        cases want with
        | true =>
          simp only at h
          refine h.elim (fun hb1 h => ?_) (fun hb1 h => ?_)
          · subst hb1
            rw [put_same hb] at h
            exact .inl ⟨by simp [Region.wanted, hgd, hy], h⟩
          · subst hb1
            rw [put_same hb] at h
            exact .inr ⟨by simp [Region.wanted, hgd, hy], h⟩
        | false =>
          simp only at h
          refine h.elim (fun hb1 h => ?_) (fun hb1 h => ?_)
          · subst hb1
            rw [put_same hb] at h
            exact .inr ⟨by simp [Region.wanted, hgd, hy], h⟩
          · subst hb1
            rw [put_same hb] at h
            exact .inl ⟨by simp [Region.wanted, hgd, hy], h⟩
      · rename_i hb
        have hy2 : yielded ops a.tmps j = none := by
          rw [hy]
          split
          · rename_i b hb2; exact absurd hb2 (hb b)
          · rfl
        exact .inr ⟨by simp [Region.wanted, hgd, hy2], h⟩

theorem vcG_pure {D : List Deferred} {P : Program} {chk : Cfg P} {T : Thr} {ops : Array Oper} {N : Nat} {o : Oper} {e : Env} {a : Act} {w : World} {K : Env → World → Prop}
    (hp : pureOp P o.op = true) (ho : OkO P N ops o) (hr : RelD D N a e) (h : vcG P chk T ops o e w K) :
    ∃ v e', YieldsA P ops o v a ∧ RelD D N (a.put o.dst v) e' ∧ Off o.dst.toList e e' ∧ K e' w := by
  obtain ⟨ho1, ho2, ho3⟩ := ho
  rcases vcG_cases ho3 hr h with ⟨hw, h⟩ | ⟨hw, h⟩
  · obtain ⟨v, hv, hk⟩ := pure_sound hp ho1 h
    exact ⟨v, _, .inl ⟨hw, fun w => by rw [rel_ev hr]; exact hv w⟩, rel_put hr o.dst ho2 v, off_put e o.dst v, hk⟩
  · exact ⟨undef, _, .inr ⟨hw, rfl⟩, rel_put hr o.dst ho2 undef, off_put e o.dst undef, h⟩

theorem vcG_quiet {D : List Deferred} {P : Program} {chk : Cfg P} {T : Thr} {ops : Array Oper} {N : Nat} {o : Oper} {e : Env} {a : Act} {w : World} {K : Env → World → Prop}
    (hp : quietOp P o.op = true) (ho : OkO P N ops o) (hr : RelD D N a e) (h : vcG P chk T ops o e w K) :
    ∃ v e', YieldsAt P ops w o v a ∧ RelD D N (a.put o.dst v) e' ∧ Off o.dst.toList e e' ∧ K e' w := by
  obtain ⟨ho1, ho2, ho3⟩ := ho
  rcases vcG_cases ho3 hr h with ⟨hw, h⟩ | ⟨hw, h⟩
  · obtain ⟨v, hv, hk⟩ := quiet_sound hp ho1 h
    exact ⟨v, _, .inl ⟨hw, .inl (by rw [rel_ev hr]; exact hv)⟩, rel_put hr o.dst ho2 v, off_put e o.dst v, hk⟩
  · exact ⟨undef, _, .inr ⟨hw, rfl⟩, rel_put hr o.dst ho2 undef, off_put e o.dst undef, h⟩

theorem opAt_some {ops : Array Oper} {i : Nat} {o : Oper} (h : ops[i]? = some o) : opAt ops i = o.op := by
  unfold opAt; rw [h]

theorem vcAny_sound {D : List Deferred} {P : Program} {chk : Cfg P} {T : Thr} {ops : Array Oper} {N : Nat} {Q : Exit → Act → World → Prop} (hQ : Stable ops Q) (hns : Region.noSelect ops = true) (hok : ∀ o ∈ ops.toList, OkO P N ops o) :
    ∀ (n : Nat) (listed : Array Bool) (e : Env) (a : Act) (w : World) (K : Env → World → Prop), Closed ops listed → RelD D N a e → vcAny P chk T ops n listed e w K →
    (∀ e' a' w', RelD D N a' e' → Off (dsts ops.toList) e e' → K e' w' → Q .normal a' w') → (∀ e' a' ch w', RelD D N a' e' → Off (dsts ops.toList) e e' → T.X ch w' → Q (.panic ch) a' w') → wpT P ops Q n listed a w := by
  intro n
  induction n with
  | zero =>
    intro listed e a w K _ hr h hq hX
    simp only [vcAny] at h
    split at h
    · rename_i h0; exact ⟨h0, hq e a w hr (Off.refl _ _) h⟩
    · exact h.elim
  | succ n ih =>
    intro listed e a w K hcl hr h hq hX
    have hmem : ∀ {i o}, ops[i]? = some o → OkO P N ops o := fun ho => hok _ (Array.mem_toList_iff.2 (Array.mem_of_getElem? ho))
    have h0 : Region.ready .any ops listed = [] → Q .normal a w := by
      intro h0
      simp only [vcAny, h0] at h
      exact hq e a w hr (Off.refl _ _) h
    by_cases hemp : Region.ready .any ops listed = []
    · exact ⟨h0, fun i hi => by rw [hemp] at hi; cases hi⟩
    have h' : (match pickI P ops listed (Region.ready .any ops listed) with
      | some i => match ops[i]? with
        | some o => vcG P chk T ops o e w fun e w => vcAny P chk T ops n (listed.setIfInBounds i true) e w K
        | none => False
      | none => AllL (fun i => match ops[i]? with
        | some o => vcG P chk T ops o e w fun e w => vcAny P chk T ops n (listed.setIfInBounds i true) e w K
        | none => False) (Region.ready .any ops listed)) := by
      cases hrd : Region.ready .any ops listed with
      | nil => exact absurd hrd hemp
      | cons x xs =>
        simp only [vcAny, hrd] at h
        exact h
    cases hpk : pickI P ops listed (Region.ready .any ops listed) with
    | some i =>
      simp only [hpk] at h'
      unfold pickI at hpk
      have hmr := List.mem_of_find?_eq_some hpk
      have hcond := List.find?_some hpk
      simp only [Bool.and_eq_true, Bool.or_eq_true] at hcond
      obtain ⟨hfr, hcond⟩ := hcond
      cases ho : ops[i]? with
      | none => simp only [ho] at h'
      | some o =>
        simp only [ho] at h'
        have hfree := Region.free_spec ho hfr
        rcases hcond with hpure | ⟨hquiet, hall⟩
        · rw [opAt_some ho] at hpure
          obtain ⟨v, e', hy, hr', hoff, hk⟩ := vcG_pure hpure (hmem ho) hr h'
          refine wpT_first hQ ho (Region.noSelect_spec hns) n listed a w hfree hmr hy ?_
          exact ih _ e' _ w K (hcl.set hmr) hr' hk (fun e2 a2 w2 g1 g2 g3 => hq e2 a2 w2 g1 ((off_in ho hoff).same g2) g3) (fun e2 a2 ch w2 g1 g2 g3 => hX e2 a2 ch w2 g1 ((off_in ho hoff).same g2) g3)
        · have hq2 := hquiet
          rw [opAt_some ho] at hq2
          obtain ⟨v, e', hy, hr', hoff, hk⟩ := vcG_quiet hq2 (hmem ho) hr h'
          refine wpT_still ho hquiet (Region.noSelect_spec hns) n listed a hfree ?_ hcl hmr hy ?_
          · intro j hj hun hji hqj
            rw [List.all_eq_true] at hall
            have := hall j (List.mem_range.2 hj)
            simp only [hun, hqj, Bool.false_or, Bool.or_false, Bool.or_eq_true] at this
            rcases this with h1 | h1
            · exact absurd (Nat.eq_of_beq_eq_true h1) hji
            · exact h1
          · exact ih _ e' _ w K (hcl.set hmr) hr' hk (fun e2 a2 w2 g1 g2 g3 => hq e2 a2 w2 g1 ((off_in ho hoff).same g2) g3) (fun e2 a2 ch w2 g1 g2 g3 => hX e2 a2 ch w2 g1 ((off_in ho hoff).same g2) g3)
    | none =>
      simp only [hpk] at h'
      refine ⟨h0, fun i hi => ?_⟩
      have h2 := allL_mem _ h' i hi
      split at h2
      · rename_i o ho
        unfold stepT
        split
        · rename_i hqi
          rw [opAt_some ho] at hqi
          obtain ⟨v, e', hy, hr', hoff, hk⟩ := vcG_quiet hqi (hmem ho) hr h2
          refine hy.stOp ho ?_
          exact ih _ e' _ w K (hcl.set hi) hr' hk (fun e2 a2 w2 g1 g2 g3 => hq e2 a2 w2 g1 ((off_in ho hoff).same g2) g3) (fun e2 a2 ch w2 g1 g2 g3 => hX e2 a2 ch w2 g1 ((off_in ho hoff).same g2) g3)
        · unfold wpOp
          simp only [ho]
          have := vcG_step (T := T) (next := wpT P ops Q n (listed.setIfInBounds i true)) (Q := Q) (hmem ho) hr h2 (fun e' a' w' h1 h2 h3 =>
            ih _ e' a' w' K (hcl.set hi) h1 h3 (fun e2 a2 w2 g1 g2 g3 => hq e2 a2 w2 g1 ((off_in ho h2).same g2) g3) (fun e2 a2 ch w2 g1 g2 g3 => hX e2 a2 ch w2 g1 ((off_in ho h2).same g2) g3)) (fun ch w' h => hX e a ch w' hr (Off.refl _ _) h)
          split
          · rename_i hw; rw [if_pos hw] at this; exact .inl this
          · rename_i hw; rw [if_neg hw] at this; exact this
      · exact h2.elim

theorem getD_replicate_false' (m j : Nat) : (Array.replicate m false).getD j false = false := by
  simp only [Array.getD_eq_getD_getElem?, Array.getElem?_replicate]
  split <;> rfl

theorem findIdx_getD (e : Env) : ∀ (ss : List Nat) (n i : Nat), ss.findIdx? (Nat.beq n) = some i → (ss.map e).getD i undef = e n := by
  intro ss
  induction ss with
  | nil => intro n i h; simp at h
  | cons s ss ih =>
    intro n i h
    rw [List.findIdx?_cons] at h
    by_cases hb : Nat.beq n s = true
    · rw [if_pos hb] at h
      simp only [Option.some.injEq] at h
      subst h
      have := Nat.eq_of_beq_eq_true hb
      subst this
      rfl
    · rw [if_neg hb] at h
      cases hf : ss.findIdx? (Nat.beq n) with
      | none => rw [hf] at h; simp at h
      | some k =>
        rw [hf] at h
        simp only [Option.map_some, Option.some.injEq] at h
        subst h
        exact ih n k hf

theorem loopEnv_self {e e2 : Env} {ss ms : List Nat} (h : Off ms e e2) : loopEnv e e2 ss (ss.map e2) ms = e2 := by
  funext n
  unfold loopEnv
  cases hm : ms.any (Nat.beq n) with
  | false => exact (h n hm).symm
  | true =>
    simp only [cond_true]
    split
    · rename_i i hi; exact findIdx_getD e2 ss n i hi
    · rfl

theorem loopEnv_off (e J : Env) (ss : List Nat) (vs : List Value) (ms : List Nat) : Off ms e (loopEnv e J ss vs ms) := by
  intro n hn
  unfold loopEnv
  rw [hn]
  rfl

theorem fixC_same {e : Env} {c : Operand} {b : Bool} (h : e.ev c = .bool b) : fixC e c b = e := by
  cases c with
  | tmp t => exact put_same h
  | _ => rfl

theorem vcC_sound {D : List Deferred} {P : Program} {chk : Cfg P} {T : Thr} {lo cut : Nat → Option Ann} {tl : Nat → Option Nat} {N : Nat} : ∀ (c : Code) (cur : Nat) (e : Env) (a : Act) (w : World) (q : Post),
    okC P tl N c = true → (∀ ch w', T.X ch w' → q.pan ch w') → RelD D N a e → vcC P chk T lo cut tl cur c q e w → c.wp P (fun x a' w' => ∃ e', RelD D N a' e' ∧ Off (mods c) e e' ∧ q.at x e' w') a w := by
  intro c
  induction c with
  | skip => intro cur e a w q _ hp hr h; exact wp_skip ⟨e, hr, Off.refl _ _, h⟩
  | label l => intro cur e a w q _ hp hr h; exact wp_label ⟨e, hr, Off.refl _ _, h⟩
  | exit i => intro cur e a w q _ hp hr h; exact wp_exit ⟨e, hr, Off.refl _ _, h⟩
  | ret => intro cur e a w q _ hp hr h; exact wp_ret ⟨e, hr, Off.refl _ _, h⟩
  | region id ops draw =>
    intro cur e a w q hok hp hr h
    simp only [okC, Bool.and_eq_true, List.all_eq_true] at hok
    obtain ⟨hops, hdr⟩ := hok
    have hO : ∀ o ∈ ops.toList, OkO P N ops o := fun o ho => by
      have := hops o ho
      exact ⟨this.1.1, this.1.2, this.2⟩
    cases draw with
    | true =>
      simp only [Bool.not_true, Bool.false_or] at hdr
      simp only [vcC] at h
      unfold okDraw at hdr
      rw [Bool.and_eq_true] at hdr
      obtain ⟨hm, hdr⟩ := hdr
      split at h
      · rename_i n htl
        rw [htl] at hdr
        simp only [Bool.and_eq_true, List.all_eq_true] at hdr
        obtain ⟨hqt, hB⟩ := hdr
        have heta : ops = ops.toList.toArray := rfl
        by_cases hn : Nat.blt n ops.size = true
        · rw [hn, cond_true] at hB
          rw [heta]
          refine wp_region_still_tail n hm hB ?_
          have h1 : vcL P chk T ops (ops.toList.take n ++ ops.toList.drop n) e w.drew q.norm := by rw [List.take_append_drop]; exact h _ rfl
          refine vcL_still (ops.toList.drop n) q.norm _ e a (fun o ho => hO o (List.mem_of_mem_take ho)) hqt hr h1 ?_
          intro e' a' g1 g2 g3
          have hmd : mods (.region id ops.toList.toArray true) = dsts (ops.toList.take n) ++ dsts (ops.toList.drop n) := by
            unfold mods dsts
            rw [← List.filterMap_append, List.take_append_drop]
          refine vcL_sound (T := T) _ e' a' w.drew q.norm (fun o ho => hO o (List.mem_of_mem_drop ho)) g1 g3 ?_ ?_
          · intro e2 a2 w2 k1 k2 k3
            refine ⟨e2, k1, ?_, k3⟩
            rw [hmd]
            exact g2.trans k2
          · intro e2 a2 ch w2 k1 k2 k3
            refine ⟨e2, k1, ?_, hp ch w2 k3⟩
            rw [hmd]
            exact g2.trans k2
        · rw [Bool.not_eq_true] at hn
          rw [hn, cond_false] at hB
          have hsz : ops.toList.take n = ops.toList := by
            refine List.take_of_length_le ?_
            rw [Array.length_toList]
            rcases Nat.lt_or_ge n ops.size with h5 | h5
            · have h6 : Nat.blt n ops.size = true := by rw [Nat.blt_eq]; exact h5
              rw [h6] at hn; simp at hn
            · exact h5
          rw [hsz] at hqt
          refine wp_region_still hm hB ?_
          exact vcL_still [] q.norm _ e a hO hqt hr (by rw [List.append_nil]; exact h _ rfl) fun e' a' g1 g2 g3 => ⟨e', g1, g2, g3⟩
      · rename_i htl
        rw [htl] at hdr
        have hst : Stable ops (fun x a' w' => (x = .normal ∧ ∃ e', RelD D N a' e' ∧ Off (dsts ops.toList) e e' ∧ q.norm e' w') ∨ ∃ ch, x = .panic ch ∧ (∃ e', RelD D N a' e' ∧ Off (dsts ops.toList) e e') ∧ T.X ch w') := by
          refine ⟨fun a w h => ?_, fun i o ho ch a' v w' h => ?_⟩
          · rcases h with ⟨h, _⟩ | ⟨_, h, _⟩ <;> cases h
          · rcases h with ⟨h, _⟩ | ⟨ch', h, ⟨e', h1, h2⟩, h3⟩
            · cases h
            · cases h
              refine .inr ⟨ch, rfl, ⟨fun n => a'.tmps.getD n undef, ⟨?_, fun _ => rfl, ?_⟩, fun n hn => ?_⟩, h3⟩
              · have := h1.size
                cases hd : o.dst <;> simpa [Act.put, hd] using this
              · have := h1.dfr
                cases hd : o.dst <;> simpa [Act.put, hd] using this
              · have h4 := h1.get n
                rw [h2 n hn] at h4
                rw [← h4]
                cases hd : o.dst with
                | none => rfl
                | some d =>
                  have hm : d ∈ dsts ops.toList := by
                    unfold dsts
                    rw [List.mem_filterMap]
                    exact ⟨o, Array.mem_toList_iff.2 (Array.mem_of_getElem? ho), hd⟩
                  have hne : ¬ d = n := by
                    intro he
                    subst he
                    rw [List.any_eq_false] at hn
                    exact absurd (hn d hm) (by simp)
                  simp [Act.put, Array.getD_eq_getD_getElem?, hne]
        have h1 : (Code.region id ops true).wp P (fun x a' w' => (x = .normal ∧ ∃ e', RelD D N a' e' ∧ Off (dsts ops.toList) e e' ∧ q.norm e' w') ∨ ∃ ch, x = .panic ch ∧ (∃ e', RelD D N a' e' ∧ Off (dsts ops.toList) e e') ∧ T.X ch w') a w := by
          refine wp_region_any hm (wpT_any _ _ _ _ (vcAny_sound (T := T) hst hdr hO _ _ e a w.drew q.norm ?_ hr (h _ rfl) ?_ ?_))
          · intro j oj _ hl
            rw [getD_replicate_false'] at hl
            cases hl
          · intro e' a' w' h1 h2 h3
            exact .inl ⟨rfl, e', h1, h2, h3⟩
          · intro e' a' ch w' h1 h2 h3
            exact .inr ⟨ch, rfl, ⟨e', h1, h2⟩, h3⟩
        refine wp_mono h1 ?_
        rintro ex a1 w1 (⟨rfl, e1, g1, g2, g3⟩ | ⟨ch, rfl, ⟨e1, g1, g2⟩, g3⟩)
        · exact ⟨e1, g1, g2, g3⟩
        · exact ⟨e1, g1, g2, hp ch w1 g3⟩
    | false =>
      refine wp_region_list (vcL_sound (T := T) ops.toList e a w q.norm hO hr h ?_ ?_)
      · intro e' a' w' h1 h2 h3
        exact ⟨e', h1, h2, h3⟩
      · intro e' a' ch w' h1 h2 h3
        exact ⟨e', h1, h2, hp ch w' h3⟩
  | seq x y ihx ihy =>
    intro cur e a w q hok hp hr h
    simp only [okC, Bool.and_eq_true] at hok
    simp only [vcC] at h
    refine wp_seq ?_
    split at h
    · refine wp_mono (ihx cur e a w _ hok.1 (by exact hp) hr h) ?_
      rintro ex a1 w1 ⟨e1, h1, h2, h3⟩
      cases ex with
      | normal =>
        refine wp_mono (ihy cur e1 a1 w1 q hok.2 (by exact hp) h1 h3) ?_
        rintro ex a2 w2 ⟨e2, h4, h5, h6⟩
        exact ⟨e2, h4, h2.trans h5, h6⟩
      | _ => exact ⟨e1, h1, h2.left, h3⟩
    · rename_i an _
      obtain ⟨M, h, hM⟩ := h
      refine wp_mono (ihx cur e a w _ hok.1 (by exact hp) hr h) ?_
      rintro ex a1 w1 ⟨e1, h1, h2, h3⟩
      cases ex with
      | normal =>
        have hf := app_fits (α := World → Prop) (Q := fun p => p w1) (fun h => h) an.kds M _ h3
        have h4 := allV_at an.kds _ (hM e1) _ hf w1 h3
        rw [loopEnv_self h2] at h4
        refine wp_mono (ihy cur e1 a1 w1 q hok.2 (by exact hp) h1 h4) ?_
        rintro ex a2 w2 ⟨e2, h4, h5, h6⟩
        exact ⟨e2, h4, h2.trans h5, h6⟩
      | _ => exact ⟨e1, h1, h2.left, h3⟩
  | cond c x y ihx ihy =>
    intro cur e a w q hok hp hr h
    simp only [okC, Bool.and_eq_true] at hok
    simp only [vcC] at h
    split at h
    · rename_i t ht
      have hc : a.eval c = .bool t := by rw [rel_ev hr]; exact ht
      refine wp_cond_split hc (fun ht1 => ?_) (fun ht1 => ?_)
      · subst ht1
        have h' : vcC P chk T lo cut tl cur x q (fixC e c true) w := h
        rw [fixC_same ht] at h'
        refine wp_mono (ihx cur e a w q hok.1 hp hr h') ?_
        rintro ex a1 w1 ⟨e1, h1, h2, h3⟩
        exact ⟨e1, h1, (h2.left).right, h3⟩
      · subst ht1
        have h' : vcC P chk T lo cut tl cur y q (fixC e c false) w := h
        rw [fixC_same ht] at h'
        refine wp_mono (ihy cur e a w q hok.2 hp hr h') ?_
        rintro ex a1 w1 ⟨e1, h1, h2, h3⟩
        exact ⟨e1, h1, (h2.right).right, h3⟩
    · exact h.elim
  | block id c ih =>
    intro cur e a w q hok hp hr h
    simp only [okC] at hok
    simp only [vcC] at h
    refine wp_block ?_
    refine wp_mono (ih id e a w _ hok (by exact hp) hr h) ?_
    rintro ex a1 w1 ⟨e1, h1, h2, h3⟩
    cases ex with
    | exit i =>
      simp only [Exit.inBlock]
      simp only [Post.at] at h3
      split at h3
      · rename_i hi _
        rw [if_pos hi]
        exact ⟨e1, h1, h2, h3⟩
      · rename_i hi _
        rw [if_neg hi]
        exact ⟨e1, h1, h2, h3⟩
    | _ => exact ⟨e1, h1, h2, h3⟩
  | loop c ih =>
    intro cur e a w q hok hp hr h
    simp only [okC] at hok
    simp only [vcC] at h
    split at h
    · exact h.elim
    · rename_i an _
      obtain ⟨I, μ, h0, hround⟩ := h
      refine wp_loop (fun a w => ∃ vs J, appP an.kds I vs w ∧ RelD D N a (loopEnv e J an.slots vs (mods c)) ∧ an.slots.map (loopEnv e J an.slots vs (mods c)) = vs)
        (fun a w => app (fun _ => 0) an.kds μ (an.slots.map fun s => a.tmps.getD s undef) w) ?_ ?_
      · refine ⟨an.slots.map e, e, h0, ?_, ?_⟩
        · rw [loopEnv_self (Off.refl _ _)]; exact hr
        · rw [loopEnv_self (Off.refl _ _)]
      · rintro a1 w1 ⟨vs, J, hI, hr1, hvs⟩
        have hf := app_fits (α := World → Prop) (Q := fun p => p w1) (fun h => h) an.kds I _ hI
        have hbody := allV_at an.kds _ (hround J) vs hf w1 hI
        refine wp_mono (ih cur _ a1 w1 _ hok (by exact hp) hr1 hbody) ?_
        have hm1 : (an.slots.map fun s => a1.tmps.getD s undef) = vs := by
          conv => rhs; rw [← hvs]
          exact List.map_congr_left fun s _ => hr1.get s
        rintro ex a2 w2 ⟨e2, h1, h2, h3⟩
        cases ex with
        | normal =>
          obtain ⟨h4, h5⟩ := h3
          have hoff : Off (mods c) e e2 := (loopEnv_off e J an.slots vs (mods c)).same h2
          refine ⟨⟨an.slots.map e2, e2, h4, ?_, ?_⟩, ?_⟩
          · rw [loopEnv_self hoff]; exact h1
          · rw [loopEnv_self hoff]
          · have hm2 : (an.slots.map fun s => a2.tmps.getD s undef) = an.slots.map e2 := List.map_congr_left fun s _ => h1.get s
            simp only [hm1, hm2]
            exact h5
        | _ => exact ⟨e2, h1, (loopEnv_off e J an.slots vs (mods c)).same h2, h3⟩
  | _ => intro cur e a w q _ hp hr h; exact h.elim

/-! ### Functions -/

/-- The results' values. -/
def retVals (P : Program) (e : Env) (w : World) : List ResultVar → (List Value → Prop) → Prop
  | [], F => F []
  | .tmp t :: rs, F => retVals P e w rs fun vs => F (e t :: vs)
  | .cell a t :: rs, F => match e a with
    | .pointer (some p) => vcLoad P t p w fun v _ => retVals P e w rs fun vs => F (v :: vs)
    | _ => False

theorem retVals_run {P : Program} {w : World} {e : Env} (tmps : Array Value) (hg : ∀ n, tmps.getD n undef = e n) (f : ResultVar → Sem Value) (hf : ∀ t, f (.tmp t) = pure (tmps.getD t undef))
    (hc : ∀ a t, f (.cell a t) = do loadVar t (← asAddr (tmps.getD a undef))) : ∀ (rs : List ResultVar) (F : List Value → Prop),
    (∀ r ∈ rs, match r with | .cell _ t => known P t = true | _ => True) → retVals P e w rs F → ∃ vs, (rs.mapM f).run P w = .ok vs w ∧ F vs := by
  intro rs
  induction rs with
  | nil => intro F _ h; exact ⟨[], rfl, h⟩
  | cons r rs ih =>
    intro F hk h
    have hk' := fun r' (h' : r' ∈ rs) => hk r' (List.mem_cons_of_mem _ h')
    cases r with
    | tmp t =>
      obtain ⟨vs, hr, hF⟩ := ih _ hk' h
      refine ⟨_, ?_, hF⟩
      rw [List.mapM_cons]
      simp only [hf, Sem.run_bind, Sem.run_pure, Result.andThen_ok, hr, hg]
    | cell a t =>
      simp only [retVals] at h
      split at h
      · rename_i p hp
        obtain ⟨v, hr, h⟩ := load_sound (hk _ (List.mem_cons_self ..)) h
        obtain ⟨vs, hr2, hF⟩ := ih _ hk' h
        refine ⟨_, ?_, hF⟩
        rw [List.mapM_cons]
        have hl : (loadVar t p).run P w = .ok v w := by
          have hs : (Instr.sureAddr (.pointer (some p))) = pure p := rfl
          rw [← hr]
          simp only [Instr.loadAt, hs, pure_bind]
        simp only [hc, hg, hp, asAddr, pure_bind, Sem.run_bind, Sem.run_pure, Result.andThen_ok, hl, hr2]
      · exact h.elim

theorem results_run {P : Program} {w : World} {fn : Func} {tmps : Array Value} {e : Env} (hg : ∀ n, tmps.getD n undef = e n) {F : List Value → Prop}
    (hk : ∀ r ∈ fn.results.toList, match r with | .cell _ t => known P t = true | _ => True) (h : retVals P e w fn.results.toList F) :
    ∃ vs, (results fn tmps).run P w = .ok (one vs) w ∧ F vs := by
  unfold results
  rw [Array.mapM_eq_mapM_toList]
  simp only [bind_pure_comp, Sem.run_map]
  obtain ⟨vs, hr, hF⟩ := retVals_run tmps hg (fun r => match r with | .tmp t => pure (tmps.getD t undef) | .cell a t => do loadVar t (← asAddr (tmps.getD a undef))) (fun _ => rfl) (fun _ _ => rfl) _ _ hk h
  refine ⟨vs, ?_, hF⟩
  erw [hr]
  simp only [Result.andThen_ok]
  congr 1
  match vs with
  | [] => rfl
  | [v] => rfl
  | v :: u :: vs => simp [one]

/-- The environment of a call. -/
def argEnv (args : List Value) : Env := fun n => args.getD n undef

/-- The parts of values of these shapes. -/
def flatS : List Sh → List Value → Option (List Value)
  | [], [] => some []
  | .leaf _ :: ss, v :: vs => (flatS ss vs).map (v :: ·)
  | .agg ks :: ss, .agg cs :: vs => match decEq cs.toList.length ks.length with
    | isTrue _ => (flatS ss vs).map (cs.toList ++ ·)
    | isFalse _ => none
  | _, _ => none

theorem packs_flatS : ∀ (ss : List Sh) (vs l : List Value), flatS ss vs = some l → packs ss l = vs := by
  intro ss
  induction ss with
  | nil => intro vs l h; cases vs with | nil => rfl | cons v vs => simp [flatS] at h
  | cons s ss ih =>
    intro vs l h
    cases vs with
    | nil => cases s <;> simp [flatS] at h
    | cons v vs =>
      cases s with
      | leaf k =>
        simp only [flatS, Option.map_eq_some_iff] at h
        obtain ⟨l', h1, rfl⟩ := h
        simp only [packs, Sh.take, ih vs l' h1]
      | agg ks =>
        cases v <;> try (simp [flatS] at h; done)
        rename_i cs
        simp only [flatS] at h
        split at h
        · rename_i he _
          simp only [Option.map_eq_some_iff] at h
          obtain ⟨l', h1, rfl⟩ := h
          simp only [packs, Sh.take]
          rw [← he, List.take_left, List.drop_left, ih vs l' h1]
        · simp at h

/-- At a function's end: K of the results' parts. -/
def retPost (P : Program) (rs : List ResultVar) (ss : List Sh) (K : Pd (flats ss)) (e : Env) (w : World) : Prop :=
  retVals P e w rs fun vs => match flatS ss vs with
    | some l => appP (flats ss) K l w
    | none => False

theorem argEnv_rel (args : Array Value) (n : Nat) (h : args.size ≤ n) :
    Rel n { tmps := args ++ Array.replicate (n - args.size) undef, defers := [] } (argEnv args.toList) := by
  refine ⟨by simp; omega, fun i => ?_, rfl⟩
  simp only [argEnv, Array.getD_eq_getD_getElem?, List.getD_eq_getElem?_getD, Array.getElem?_toList, Array.getElem?_append, Array.getElem?_replicate]
  split
  · rfl
  · rename_i hi
    have hn : args[i]? = none := Array.getElem?_eq_none (by omega)
    rw [hn]
    split <;> rfl

/-- The reading of a function. -/
def vcF (P : Program) (chk : Cfg P) (T : Thr) (lo cut : Nat → Option Ann) (tl : Nat → Option Nat) (fn : Func) (args : List Value) (ss : List Sh) (K : Pd (flats ss)) (w : World) : Prop :=
  vcC P chk T lo cut tl 0 (fn.body.getD .skip) ⟨retPost P fn.results.toList ss K, retPost P fn.results.toList ss K, fun _ _ _ => False, T.X⟩ (argEnv args) w

def okF (P : Program) (tl : Nat → Option Nat) (fn : Func) (n : Nat) : Bool :=
  match fn.body with
  | some c => okC P tl fn.ntmps c && Nat.ble n fn.ntmps && fn.results.toList.all fun r => match r with | .cell _ t => known P t | _ => true
  | none => false

theorem calls_of_vcFX {P : Program} {f : FuncId} {fn : Func} {args : List Value} {w : World} {ss : List Sh} {K : Pd (flats ss)}
    (chk : Cfg P) (T : Thr) (lo cut : Nat → Option Ann) (tl : Nat → Option Nat) (hf : P.funcs[f]? = some fn) (hok : okF P tl fn args.length = true)
    (h : vcF P chk T lo cut tl fn args ss K w) : Calls P f args.toArray w (RetX T.X ss K) := by
  unfold okF at hok
  split at hok
  · rename_i c hb
    simp only [Bool.and_eq_true, List.all_eq_true] at hok
    obtain ⟨⟨hok, hlen⟩, hres⟩ := hok
    have hk : ∀ r ∈ fn.results.toList, match r with | .cell _ t => known P t = true | _ => True := fun r hr => by
      have := hres r hr
      cases r with
      | tmp t => trivial
      | cell a t => exact this
    refine calls_of_wp hf hb ?_
    have hr := argEnv_rel args.toArray fn.ntmps (by simpa using Nat.le_of_ble_eq_true hlen)
    unfold vcF at h
    rw [hb] at h
    refine wp_mono (vcC_sound c 0 _ _ w _ hok (fun _ _ h => h) hr h) ?_
    have fin : ∀ (a' : Act) (w' : World) (e' : Env), Rel fn.ntmps a' e' → retPost P fn.results.toList ss K e' w' →
        a'.defers = [] ∧ ∃ v, (results fn a'.tmps).run P w' = .ok v w' ∧ RetX T.X ss K (.returned v) w' := by
      intro a' w' e' h1 h2
      obtain ⟨vs, hrun, hF⟩ := results_run h1.get hk h2
      refine ⟨h1.dfr, _, hrun, .inl ?_⟩
      split at hF
      · rename_i l hl
        exact ⟨l, by rw [packs_flatS _ _ _ hl], hF⟩
      · exact hF.elim
    rintro ex a' w' ⟨e', h1, _, h3⟩
    cases ex with
    | normal => exact fin a' w' e' h1 h3
    | ret => exact fin a' w' e' h1 h3
    | panic ch => exact ⟨h1.dfr, .inr ⟨ch, rfl, h3⟩⟩
    | _ => exact h3.elim
  · simp at hok

theorem calls_of_vcF {P : Program} {f : FuncId} {fn : Func} {args : List Value} {w : World} {ss : List Sh} {K : Pd (flats ss)}
    (chk : Cfg P) (lo cut : Nat → Option Ann) (tl : Nat → Option Nat) (hf : P.funcs[f]? = some fn) (hok : okF P tl fn args.length = true)
    (h : vcF P chk thr0 lo cut tl fn args ss K w) : Calls P f args.toArray w (Ret ss K) :=
  (calls_of_vcFX chk thr0 lo cut tl hf hok h).mono fun _ _ h => h.elim id (fun ⟨_, _, h⟩ => h.elim)

/-- The same, by the reading's own text. -/
theorem calls_of_eq {P : Program} {f : FuncId} {fn : Func} {args : List Value} {w : World} {ss : List Sh} {K : Pd (flats ss)} {V : Prop}
    (chk : Cfg P) (lo cut : Nat → Option Ann) (tl : Nat → Option Nat) (hf : P.funcs[f]? = some fn) (hok : okF P tl fn args.length = true)
    (he : V = vcF P chk thr0 lo cut tl fn args ss K w) (h : V) : Calls P f args.toArray w (Ret ss K) :=
  calls_of_vcF chk lo cut tl hf hok (he.mp h)

/-- Nothing is thrown; function values are loaded. -/
def thrF (fl : Nat → Option (Nat × Nat × Nat)) : Thr := ⟨fun _ => false, fun _ _ => False, fl⟩

theorem calls_of_eqF {P : Program} {f : FuncId} {fn : Func} {args : List Value} {w : World} {ss : List Sh} {K : Pd (flats ss)} {V : Prop}
    (chk : Cfg P) (fl : Nat → Option (Nat × Nat × Nat)) (lo cut : Nat → Option Ann) (tl : Nat → Option Nat) (hf : P.funcs[f]? = some fn) (hok : okF P tl fn args.length = true)
    (he : V = vcF P chk (thrF fl) lo cut tl fn args ss K w) (h : V) : Calls P f args.toArray w (Ret ss K) :=
  (calls_of_vcFX chk (thrF fl) lo cut tl hf hok (he.mp h)).mono fun _ _ h => h.elim id (fun ⟨_, _, h⟩ => h.elim)

/-- The same of a function that may throw. -/
theorem calls_of_eqX {P : Program} {f : FuncId} {fn : Func} {args : List Value} {w : World} {ss : List Sh} {K : Pd (flats ss)} {V : Prop}
    (chk : Cfg P) (T : Thr) (lo cut : Nat → Option Ann) (tl : Nat → Option Nat) (hf : P.funcs[f]? = some fn) (hok : okF P tl fn args.length = true)
    (he : V = vcF P chk T lo cut tl fn args ss K w) (h : V) : Calls P f args.toArray w (RetX T.X ss K) :=
  calls_of_vcFX chk T lo cut tl hf hok (he.mp h)

end Go.Proofs.Ytmlhdmnnijapjaa.V

/- The reading 'vcC' is sound: where it holds, the code comes to what it says. No condition. -/
import Derived.Test.YtmlhdmnnijapjaaVC
namespace Go.Proofs.Ytmlhdmnnijapjaa.V
open Go

section ops
variable {P : Program} {w : World} {K : Value → World → Prop} {X : List PanicEntry → World → Prop}

theorem good_value {s : Sem Value} {v : Value} {w' : World} (h : s.run P w = .ok v w') (hk : K v w') :
    Good P X (do pure (.value (← s))) w K := by
  unfold Good
  simp only [Sem.run_bind, h, Result.andThen_ok, Sem.run_pure]
  exact hk

theorem good_unit {s : Sem Unit} {w' : World} (h : s.run P w = .ok () w') (hk : K undef w') :
    Good P X (do s; pure .skip) w K := by
  unfold Good
  simp only [Sem.run_bind, h, Result.andThen_ok, Sem.run_pure]
  exact hk

theorem good_runF {s : Sem Value} {ss : List Sh} (h : RunF P s w ss (curry _ fun vs w' => K (one (packs ss vs)) w')) :
    Good P X (do pure (.value (← s))) w K := by
  obtain ⟨vs, w', hr, hk⟩ := h
  exact good_value hr (appP_curry hk)

theorem run_load_some {a : Addr} {v : Value} (h : w.cell? a = some v) : (load a).run P w = .ok v w := by
  simp [h]

theorem run_store_may {a : Addr} {v : Value} (h1 : isCell v = true) (h : May w a) : (store a v).run P w = .ok () (w.setCell a v) := by
  obtain ⟨⟨u, hu⟩, hf⟩ := h
  cases v <;> first | (simp [isCell] at h1; done) | simp [store, Sem.run, hu, hf]

theorem loads_run (p : Addr) : ∀ (vs : List Value) (i : Nat) (acc : List Value), (∀ j v, vs[j]? = some v → w.cell? (p.add (i + j)) = some v) →
    (loadCellsFrom p i vs.length acc.toArray).run P w = .ok (acc ++ vs).toArray w := by
  intro vs
  induction vs with
  | nil => intro i acc h; rw [List.append_nil]; rfl
  | cons v vs ih =>
    intro i acc h
    have hv := h 0 v rfl
    rw [Nat.add_zero] at hv
    have hr := ih (i + 1) (acc ++ [v]) (fun j u hj => by
      have := h (j + 1) u (by simpa using hj)
      rwa [show i + (j + 1) = i + 1 + j by omega] at this)
    simp only [List.length_cons, loadCellsFrom, Sem.run_bind, run_load_some hv, Result.andThen_ok]
    rw [show acc ++ v :: vs = acc ++ [v] ++ vs from by simp, ← hr]
    congr 1
    simp

theorem exL_some : ∀ (ks : List Kd) (acc : List Value) (F : List Value → Prop), exL ks acc F → ∃ vs, vs.length = acc.length + ks.length ∧ F vs := by
  intro ks
  induction ks with
  | nil => intro acc F h; exact ⟨acc, rfl, h⟩
  | cons k ks ih =>
    intro acc F h
    obtain ⟨v, h⟩ := exK_some h
    obtain ⟨vs, hl, hF⟩ := ih _ F h
    exact ⟨vs, by rw [hl, List.length_append, List.length_cons, List.length_cons, List.length_nil]; omega, hF⟩

theorem run_sizeOf (P : Program) (w : World) (t : TypeId) {n : Nat} (h : P.cellsOf t = n) (hn : 0 < n) : (sizeOf t).run P w = .ok n w := by
  unfold Program.cellsOf at h
  cases hi : P.info? t with
  | none => rw [hi] at h; simp at h; omega
  | some i =>
    rw [hi] at h
    simp at h
    simp [sizeOf, typeInfo, hi, h]

theorem isAgg_run {t : TypeId} {b : Bool} (hu : isAggT P t = b) (hd : ∃ d, P.underlying t = some d) : (isAgg t).run P w = .ok b w := by
  obtain ⟨d, hd⟩ := hd
  unfold isAggT at hu
  simp only [isAgg, underlying, Sem.run_bind, run_program, Result.andThen_ok, hd, Sem.run_pure]
  rw [hd] at hu
  cases d <;> simp_all

theorem und_some {t : TypeId} (h : isAggT P t = true) : ∃ d, P.underlying t = some d := by
  unfold isAggT at h
  cases hd : P.underlying t with
  | none => rw [hd] at h; simp at h
  | some d => exact ⟨d, rfl⟩

end ops

theorem known_und {P : Program} {t : TypeId} (h : known P t = true) : ∃ d, P.underlying t = some d := by
  unfold known at h
  cases hd : P.underlying t with
  | none => rw [hd] at h; simp at h
  | some d => exact ⟨d, rfl⟩

theorem size_known {P : Program} {w : World} {t : TypeId} (h : known P t = true) : (sizeOf t).run P w = .ok (P.cellsOf t) w := by
  unfold known at h
  unfold Program.cellsOf
  cases hi : P.info? t with
  | none => rw [hi] at h; simp at h
  | some i => simp [sizeOf, typeInfo, hi]

theorem load_sound {P : Program} {w : World} {K : Value → World → Prop} {t : TypeId} {p : Addr} (hk : known P t = true) (h : vcLoad P t p w K) :
    ∃ v, (Instr.loadAt t (.pointer (some p))).run P w = .ok v w ∧ K v w := by
  unfold vcLoad at h
  have hs : ∀ q : Addr, (Instr.sureAddr (.pointer (some q))) = pure q := fun _ => rfl
  split at h
  · rename_i hb
    split at h
    case h_2 => exact h.elim
    rename_i hl _
    obtain ⟨vs, hvl, hc, hF⟩ := exL_some _ _ _ h
    have hr := loads_run (P := P) p vs 0 [] (fun j v hj => by rw [Nat.zero_add]; exact hc j v hj)
    rw [List.length_nil, Nat.zero_add] at hvl
    rw [hvl] at hr
    refine ⟨_, ?_, hF⟩
    have hsz : (sizeOf t).run P w = .ok (P.cellsOf t) w := by
      unfold known at hk
      unfold Program.cellsOf
      cases hi : P.info? t with
      | none => rw [hi] at hk; simp at hk
      | some i => simp [sizeOf, typeInfo, hi]
    simp only [Instr.loadAt, hs, pure_bind, loadVar, Sem.run_bind, isAgg_run hb (known_und hk), Result.andThen_ok, if_true, hsz, loadCells]
    rw [← hl]
    rw [show (#[] : Array Value) = ([] : List Value).toArray from rfl, hr]
    rfl
  · rename_i hb
    obtain ⟨v, hv, h⟩ := exK_some h
    refine ⟨v, ?_, h⟩
    simp only [Instr.loadAt, hs, pure_bind, loadVar, Sem.run_bind, isAgg_run hb (known_und hk), Result.andThen_ok, Bool.false_eq_true, if_false, run_load_some hv]

theorem fl_sound {P : Program} {w : World} {K : Value → World → Prop} {t : TypeId} {p : Addr} {g nf nc : Nat} (hk : known P t = true) (h : vcFl P t p g nf nc w K) :
    ∃ v, (Instr.loadAt t (.pointer (some p))).run P w = .ok v w ∧ K v w := by
  unfold vcFl at h
  have hs : ∀ q : Addr, (Instr.sureAddr (.pointer (some q))) = pure q := fun _ => rfl
  split at h
  · exact h.elim
  · rename_i hb
    obtain ⟨vs, _, hv, h⟩ := exL_some _ _ _ h
    refine ⟨_, ?_, h⟩
    simp only [Instr.loadAt, hs, pure_bind, loadVar, Sem.run_bind, isAgg_run hb (known_und hk), Result.andThen_ok, Bool.false_eq_true, if_false, run_load_some hv]

theorem may_set {w : World} {p q : Addr} {v : Value} (h : May w p) : May (w.setCell q v) p := by
  obtain ⟨⟨u, hu⟩, hf⟩ := h
  constructor
  · by_cases e : p = q
    · subst e; exact ⟨v, World.cell?_setCell_same _ _ _ hu⟩
    · exact ⟨u, by rw [World.cell?_setCell_other _ _ _ _ (fun h => e h.symm)]; exact hu⟩
  · rw [World.frozen?_setCell]; exact hf

theorem stores_run {P : Program} (p : Addr) : ∀ (vs : List Value) (i : Nat) (w : World), (∀ j, j < vs.length → May w (p.add (i + j))) → vs.all isCell = true →
    (storeCells p vs i).run P w = .ok () (setL p vs i w) := by
  intro vs
  induction vs with
  | nil => intro i w _ _; rfl
  | cons v vs ih =>
    intro i w h hc
    rw [List.all_cons, Bool.and_eq_true] at hc
    have hm := h 0 (by simp)
    rw [Nat.add_zero] at hm
    have hr := ih (i + 1) (w.setCell (p.add i) v) (fun j hj => by
      have := h (j + 1) (by simpa using hj)
      rw [show i + (j + 1) = i + 1 + j by omega] at this
      exact may_set this) hc.2
    simp only [storeCells, Sem.run_bind, run_store_may hc.1 hm, Result.andThen_ok, hr]
    rfl

theorem store_sound {P : Program} {w : World} {K : Value → World → Prop} {t : TypeId} {p : Addr} {v : Value} (hk : known P t = true) (h : vcStore P t p v w K) :
    ∃ w', (Instr.storeAt t (.pointer (some p)) v).run P w = .ok () w' ∧ K undef w' := by
  have hs : ∀ q : Addr, (Instr.sureAddr (.pointer (some q))) = pure q := fun _ => rfl
  have hsz : (sizeOf t).run P w = .ok (P.cellsOf t) w := by
    unfold known at hk
    unfold Program.cellsOf
    cases hi : P.info? t with
    | none => rw [hi] at hk; simp at hk
    | some i => simp [sizeOf, typeInfo, hi]
  have single : ∀ v : Value, v.cells = #[v] → isCell v = true → vcStore1 P t p v w K →
      ∃ w', (Instr.storeAt t (.pointer (some p)) v).run P w = .ok () w' ∧ K undef w' := by
    intro v hc h1 h
    unfold vcStore1 at h
    split at h
    case h_2 => exact h.elim
    rename_i hn _
    obtain ⟨hm, h⟩ := h
    refine ⟨_, ?_, h _ rfl⟩
    have h0 : p.add 0 = p := by cases p; simp [Addr.add]
    simp only [Instr.storeAt, hs, pure_bind, storeVar, Sem.run_bind, hsz, Result.andThen_ok, hc, hn, storeCells, h0, List.size_toArray, List.length_cons, List.length_nil]
    simp
    rw [run_store_may h1 hm]
  cases v with
  | agg cs =>
    simp only [vcStore] at h
    split at h
    case h_2 => exact h.elim
    rename_i hn _ hall
    obtain ⟨hm, h⟩ := h
    have hr := stores_run (P := P) p cs.toList 0 w (fun j hj => by rw [Nat.zero_add]; exact hm j (by rw [← hn]; exact hj)) hall
    refine ⟨_, ?_, h _ rfl⟩
    rw [Array.length_toList] at hn
    simp only [Instr.storeAt, hs, pure_bind, storeVar, Sem.run_bind, hsz, Result.andThen_ok, Value.cells, hn]
    simpa using hr
  | tuple vs => exact h.elim
  | _ => exact single _ rfl rfl h

theorem idx_sound {P : Program} {w : World} {K : Value → World → Prop} {t : TypeId} {x i : Value} (hk : ∀ el, (P.underlying t = some (.slice el) ∨ ∃ n, P.underlying t = some (.array n el)) → known P el = true) (h : vcIdx P t x i w K) :
    ∃ v, (∀ w, (Instr.indexAt t x i).run P w = .ok v w) ∧ K v w := by
  have hs : ∀ q : Addr, (Instr.sureAddr (.pointer (some q))) = pure q := fun _ => rfl
  unfold vcIdx at h
  split at h
  · rename_i el a l c k i hu
    obtain ⟨b, rfl, hb, h⟩ := h.some
    refine ⟨_, fun w => ?_, h⟩
    have hz := size_known (w := w) (hk el (.inl hu))
    simp [Instr.indexAt, underlying, hu, asIntOf, hb, hz]
  · rename_i n el b k i hu
    obtain ⟨hb, h⟩ := h
    refine ⟨_, fun w => ?_, h⟩
    have hz := size_known (w := w) (hk el (.inr ⟨n, hu⟩))
    simp [Instr.indexAt, underlying, hu, asIntOf, hb, hz, hs]
  · exact h.elim

theorem slice_sound {P : Program} {w : World} {K : Value → World → Prop} {t : TypeId} {x : Value} {lo hi : Option Value} (hk : ∀ el, P.underlying t = some (.slice el) → known P el = true)
    (h : vcSlice P t x lo hi w K) : ∃ v, (∀ w, (Instr.sliceAt t x lo hi none).run P w = .ok v w) ∧ K v w := by
  unfold vcSlice at h
  split at h
  · rename_i s k hh hu
    obtain ⟨hb, h⟩ := h
    refine ⟨_, fun w => ?_, h⟩
    simp [Instr.sliceAt, Instr.slice, Instr.sliceBounds, Instr.sliceBound, underlying, hu, asIntOf, hb]
  · rename_i s k l hu
    obtain ⟨hb, h⟩ := h
    refine ⟨_, fun w => ?_, h⟩
    simp [Instr.sliceAt, Instr.slice, Instr.sliceBounds, Instr.sliceBound, underlying, hu, asIntOf, hb]
  · rename_i s k l k' hh hu
    obtain ⟨⟨h0, h1, h2⟩, h⟩ := h
    refine ⟨_, fun w => ?_, h⟩
    have g1 : 0 ≤ hh ∧ hh ≤ (s.size : Int) := ⟨by omega, h2⟩
    have g2 : 0 ≤ l ∧ l ≤ ((hh.toNat : Nat) : Int) := ⟨h0, by omega⟩
    simp only [Instr.sliceAt, Instr.slice, Instr.sliceBounds, Instr.sliceBound, underlying, hu, asIntOf, Sem.run_bind, run_program, Result.andThen_ok, Sem.run_pure, Option.isSome_none, Bool.false_eq_true, if_false, if_pos g1, if_pos g2]
  · rename_i el a n c k hh hu
    obtain ⟨hb, h⟩ := h
    refine ⟨_, fun w => ?_, h⟩
    have hz := size_known (w := w) (hk el hu)
    have ha : (if c = 0 then a else a.map (·.add 0)) = a := by
      split
      · rfl
      · cases a <;> simp [Addr.add]
    simp only [Instr.sliceAt, Instr.slice, Instr.sliceBounds, Instr.sliceBound, underlying, hu, asIntOf, Sem.run_bind, run_program, Result.andThen_ok, Sem.run_pure, if_pos hb, hz, Nat.zero_mul, Nat.sub_zero, ha]
  · rename_i el a n c k l hu
    obtain ⟨hb, h⟩ := h
    refine ⟨_, fun w => ?_, h⟩
    have hz := size_known (w := w) (hk el hu)
    simp only [Instr.sliceAt, Instr.slice, Instr.sliceBounds, Instr.sliceBound, underlying, hu, asIntOf, Sem.run_bind, run_program, Result.andThen_ok, Sem.run_pure, if_pos hb, hz, Adv]
  · rename_i el a n c k l k' hh hu
    obtain ⟨⟨h0, h1, h2⟩, h⟩ := h
    refine ⟨_, fun w => ?_, h⟩
    have hz := size_known (w := w) (hk el hu)
    have g1 : 0 ≤ hh ∧ hh ≤ (c : Int) := ⟨by omega, h2⟩
    have g2 : 0 ≤ l ∧ l ≤ ((hh.toNat : Nat) : Int) := ⟨h0, by omega⟩
    simp only [Instr.sliceAt, Instr.slice, Instr.sliceBounds, Instr.sliceBound, underlying, hu, asIntOf, Sem.run_bind, run_program, Result.andThen_ok, Sem.run_pure, if_pos g1, if_pos g2, hz, Adv]
  · exact h.elim

theorem fit_wrap {k : IntKind} {n : Int} (h : Fit k n) : k.wrap n = n := by
  unfold Fit IntKind.min IntKind.max IntKind.signed IntKind.bits at h
  unfold IntKind.wrap IntKind.signed IntKind.bits
  cases k <;> simp at h ⊢ <;> (try split) <;> omega

theorem shift_sound {P : Program} {w : World} {K : Value → World → Prop} {op : BinOp} {t : TypeId} {k k' : IntKind} {a b : Int} {p : Prop}
    (he : vcShift op k a b w K = some p) (h : p) : ∃ v, (∀ w, (binOp op t (.int k a) (.int k' b)).run P w = .ok v w) ∧ K v w := by
  unfold vcShift at he
  split at he
  · simp only [Option.some.injEq] at he
    subst he
    obtain ⟨⟨h0, h1⟩, h⟩ := h
    refine ⟨_, fun w => ?_, h⟩
    simp only [binOp]
    rw [shift_shr k k' a b h0 h1]
    rfl
  · simp only [Option.some.injEq] at he
    subst he
    obtain ⟨⟨h0, h1⟩, h⟩ := h
    refine ⟨_, fun w => ?_, h⟩
    simp only [binOp]
    rw [shift_shl k k' a b h0 h1]
    rfl
  · simp at he

theorem out_sound {w : World} {K : Value → World → Prop} {chk : Bool} {k : IntKind} {z : Int} (h : vcOut chk k w K z) : K (.int k (k.wrap z)) w := by
  unfold vcOut at h
  cases chk with
  | true => obtain ⟨hf, h⟩ := h; rw [fit_wrap hf]; exact h
  | false => exact h

theorem arith_sound {P : Program} {w : World} {K : Value → World → Prop} {op : BinOp} {chk : Bool} {t : TypeId} {k : IntKind} {a b : Int} {p : Prop}
    (hs : vcShift op k a b w K = none) (he : vcArith op chk k a b w K = some p) (h : p) : ∃ v, (∀ w, (binOp op t (.int k a) (.int k b)).run P w = .ok v w) ∧ K v w := by
  cases op <;> simp only [vcArith, Option.some.injEq, reduceCtorEq] at he <;> try subst he
  case add => exact ⟨_, fun w => by simp [binOp, Op.intArith], out_sound h⟩
  case sub => exact ⟨_, fun w => by simp [binOp, Op.intArith], out_sound h⟩
  case mul => exact ⟨_, fun w => by simp [binOp, Op.intArith], out_sound h⟩
  case quo => exact ⟨_, fun w => by simp [binOp, Op.intDiv, h.1], out_sound h.2⟩
  case rem => exact ⟨_, fun w => by simp [binOp, Op.intDiv, h.1], h.2⟩
  case eql => exact ⟨_, fun w => by simp [binOp, Op.intCmp]; rfl, h⟩
  case neq => exact ⟨_, fun w => by simp [binOp, Op.intCmp]; rfl, h⟩
  case lss => exact ⟨_, fun w => by simp [binOp, Op.intCmp], h⟩
  case leq => exact ⟨_, fun w => by simp [binOp, Op.intCmp], h⟩
  case gtr => exact ⟨_, fun w => by simp [binOp, Op.intCmp], h⟩
  case geq => exact ⟨_, fun w => by simp [binOp, Op.intCmp], h⟩
  case and => exact ⟨_, fun w => by simp [binOp, intBits_and], h⟩
  case or => exact ⟨_, fun w => by simp [binOp, intBits_or], h⟩
  case xor => exact ⟨_, fun w => by simp [binOp, intBits_xor], h⟩

theorem guard_skip {P : Program} {w : World} {op : BinOp} {t : TypeId} {xo yo : Operand} {x y : Value} (h : ∀ a b, ¬(x = .agg a ∧ y = .agg b)) (h2 : ¬(x = .nilIface ∧ y = .nilIface)) :
    (eqGuard op t xo yo x y).run P w = .ok () w := by
  unfold eqGuard
  cases op <;> simp <;> (split <;> first | exact absurd ⟨rfl, rfl⟩ h2 | exact absurd ⟨rfl, rfl⟩ (h _ _) | rfl)

theorem eq_ptr {P : Program} {w : World} {t e : TypeId} {p : Option Addr} (h : P.underlying t = some (.pointer e)) : (Op.equal t (.pointer p) (.pointer none)).run P w = .ok p.isNone w := by
  have : Op.equal t (.pointer p) (.pointer none) = Op.equalIn (9999 + 1) t (.pointer p) (.pointer none) := rfl
  rw [this, Op.equalIn]
  cases p <;> simp [underlying, h]

theorem eq_bool {P : Program} {w : World} {t : TypeId} {a b : Bool} (h : P.underlying t = some .bool) : (Op.equal t (.bool a) (.bool b)).run P w = .ok (a == b) w := by
  have : Op.equal t (.bool a) (.bool b) = Op.equalIn (9999 + 1) t (.bool a) (.bool b) := rfl
  rw [this, Op.equalIn]
  simp [underlying, h]

theorem bin_sound {P : Program} {w : World} {K : Value → World → Prop} {chk : Bool} {op : BinOp} {t : TypeId} {xo yo : Operand} {x y : Value}
    (h : vcBin P chk op t xo yo x y w K) : (∃ v, (∀ w, (binS op t xo yo x y).run P w = .ok v w) ∧ K v w) ∨ (isAggT P t = true ∧ ∃ v, (binS op t xo yo x y).run P w = .ok v w ∧ K v w) := by
  have go : (∀ w : World, (eqGuard op t xo yo x y).run P w = .ok () w) → (∃ v, (∀ w, (binOp op t x y).run P w = .ok v w) ∧ K v w) → (∃ v, (∀ w, (binS op t xo yo x y).run P w = .ok v w) ∧ K v w) ∨ (isAggT P t = true ∧ ∃ v, (binS op t xo yo x y).run P w = .ok v w ∧ K v w) := by
    intro hg ⟨v, hr, hk⟩
    refine .inl ⟨v, fun w => ?_, hk⟩
    simp only [binS, Sem.run_bind, hg w, Result.andThen_ok, hr w]
  unfold vcBin at h
  split at h
  · rename_i k a k' b
    split at h
    · rename_i p he
      exact go (fun _ => guard_skip (by simp) (by simp)) (shift_sound he h)
    · rename_i he
      split at h
      · rename_i e _
        subst e
        split at h
        · rename_i p he2
          exact go (fun _ => guard_skip (by simp) (by simp)) (arith_sound he he2 h)
        · exact h.elim
      · exact h.elim
  · rename_i p
    split at h
    · rename_i e hu
      exact go (fun _ => guard_skip (by simp) (by simp)) ⟨_, fun w => by rw [show binOp .eql t (.pointer p) (.pointer none) = (do pure (.bool (← Op.equal t (.pointer p) (.pointer none)))) from rfl, Sem.run_bind, eq_ptr hu]; rfl, h⟩
    · rename_i e hu
      exact go (fun _ => guard_skip (by simp) (by simp)) ⟨_, fun w => by rw [show binOp .neq t (.pointer p) (.pointer none) = (do pure (.bool (!(← Op.equal t (.pointer p) (.pointer none))))) from rfl, Sem.run_bind, eq_ptr hu]; rfl, h⟩
    · exact h.elim
  · rename_i a b
    split at h
    · rename_i hu
      exact go (fun _ => guard_skip (by simp) (by simp)) ⟨_, fun w => by rw [show binOp .eql t (.bool a) (.bool b) = (do pure (.bool (← Op.equal t (.bool a) (.bool b)))) from rfl, Sem.run_bind, eq_bool hu]; rfl, h⟩
    · rename_i hu
      exact go (fun _ => guard_skip (by simp) (by simp)) ⟨_, fun w => by rw [show binOp .neq t (.bool a) (.bool b) = (do pure (.bool (!(← Op.equal t (.bool a) (.bool b))))) from rfl, Sem.run_bind, eq_bool hu]; rfl, h⟩
    · exact h.elim
  · rename_i xs ys
    split at h
    · rename_i hu
      obtain ⟨hg, b, hr, hk⟩ := h
      exact .inr ⟨by unfold isAggT; rw [hu], _, by simp only [binS, Sem.run_bind, hg, Result.andThen_ok]; rw [show binOp .eql t (.agg xs) (.agg ys) = (do pure (.bool (← Op.equal t (.agg xs) (.agg ys)))) from rfl, Sem.run_bind, hr]; rfl, hk⟩
    · rename_i hu
      obtain ⟨hg, b, hr, hk⟩ := h
      exact .inr ⟨by unfold isAggT; rw [hu], _, by simp only [binS, Sem.run_bind, hg, Result.andThen_ok]; rw [show binOp .neq t (.agg xs) (.agg ys) = (do pure (.bool (!(← Op.equal t (.agg xs) (.agg ys))))) from rfl, Sem.run_bind, hr]; rfl, hk⟩
    · exact h.elim
  · rename_i a b
    split at h
    · exact go (fun _ => guard_skip (by simp) (by simp)) ⟨_, fun w => by simp [binOp, Op.stringOp], h⟩
    · exact go (fun _ => guard_skip (by simp) (by simp)) ⟨_, fun w => by simp [binOp, Op.stringOp], h⟩
    · obtain ⟨hl, h⟩ := h
      have h63 : ¬ (((a.size + b.size : Nat) : Int) > IntKind.i64.max) := by
        have : IntKind.i64.max = 9223372036854775807 := by decide
        omega
      exact go (fun _ => guard_skip (by simp) (by simp)) ⟨_, fun w => by simp only [binOp, Op.stringOp, if_neg h63]; rfl, h⟩
    · exact h.elim
  · exact h.elim

theorem bi_sound {P : Program} {X : List PanicEntry → World → Prop} {w : World} {K : Value → World → Prop} {b : Builtin} {ts : Array TypeId} {type : TypeId} {consts : Array Bool} {args : List Value}
    (h : vcBi P b ts type args w K) : Good P X (builtin b ts type consts args.toArray) w K := by
  have gv : ∀ {s : Sem Value}, (∃ v, s.run P w = .ok v w ∧ K v w) → Good P X (do pure (.value (← s))) w K := fun ⟨v, hr, hk⟩ => good_value hr hk
  obtain ⟨tl⟩ := ts
  unfold vcBi at h
  split at h
  · rename_i t v e1
    simp only at e1
    subst e1
    split at h
    · rename_i el a n c hu
      exact gv ⟨_, by simp [Builtin.len_, underlying, hu, goInt], h⟩
    · rename_i s hu
      exact gv ⟨_, by simp [Builtin.len_, underlying, hu, goInt], h⟩
    · exact good_runF h
    · exact h.elim
  · exact good_runF h
  · exact good_runF (ss := []) h
  · rename_i a b
    have e : (if b < a then b else a) = min a b := by simp only [Int.min_def]; split <;> split <;> omega
    exact gv ⟨_, by simp [Builtin.min_, Builtin.min2, e], h⟩
  · rename_i a b
    have e : (if a < b then b else a) = max a b := by simp only [Int.max_def]; split <;> split <;> omega
    exact gv ⟨_, by simp [Builtin.max_, Builtin.max2, e], h⟩
  · exact h.elim

theorem fillL_fill (place : Nat → Option (Nat × Nat)) : ∀ (parts : List (Nat × Value)) (cells l : List Value), fillL place cells parts = some l →
    Instr.fill place cells.toArray parts = some l.toArray := by
  intro parts
  induction parts with
  | nil => intro cells l h; simp only [fillL, Option.some.injEq] at h; subst h; rfl
  | cons p rest ih =>
    intro cells l h
    obtain ⟨i, v⟩ := p
    simp only [fillL] at h
    simp only [Instr.fill]
    split at h
    · simp at h
    · rename_i off size hp
      split at h
      · rename_i he h1 h2
        rw [Array.length_toList] at he
        have hle : off + v.cells.size ≤ cells.length := by
          have := Nat.le_of_ble_eq_true h2
          rw [Array.length_toList] at this
          exact this
        have hfold : ∀ (zs : List (Value × Nat)) (cs : List Value), (zs.foldl (fun (cs : Array Value) (x : Value × Nat) => cs.setIfInBounds (off + x.2) x.1) cs.toArray) = (zs.foldl (fun (cs : List Value) (x : Value × Nat) => cs.set (off + x.2) x.1) cs).toArray := by
          intro zs
          induction zs with
          | nil => intro cs; rfl
          | cons z zs ihz => intro cs; simp only [List.foldl_cons]; rw [← ihz]; congr 1; simp
        have := ih _ l h
        simp only [hp]
        rw [if_neg (by simp [he]; rw [← he]; omega), ← this]
        congr 1
        rw [← Array.foldl_toList, Array.toList_zipIdx]
        exact hfold _ _
      · simp at h

theorem zeroL_run {P : Program} {w : World} {t : TypeId} {z : List Value} (h : zeroL P t = some z) : ∃ v, (zeroValue t).run P w = .ok v w ∧ v.cells = z.toArray := by
  unfold zeroL at h
  split at h
  · rename_i i hi
    split at h
    · rename_i v hv
      simp only [Option.some.injEq] at h
      subst h
      exact ⟨v, by simp [zeroValue, typeInfo, hi, hv], by simp⟩
    · simp at h
  · simp at h

theorem build_sound {P : Program} {w : World} {K : Value → World → Prop} {t : TypeId} {ρ : Operand → Value} {parts : Array (Nat × Operand)}
    (hk : ∀ fs, P.underlying t = some (.struct fs) → fs.toList.all (fun f => known P f.type) = true)
    (h : vcBuild P t (parts.toList.map fun p => (p.1, ρ p.2)) w K) : ∃ v, (∀ w, (Instr.build t (parts.map fun (i, x) => (i, ρ x))).run P w = .ok v w) ∧ K v w := by
  unfold vcBuild at h
  split at h
  · rename_i fs z hu hz
    split at h
    · rename_i cs hcs
      refine ⟨_, fun w => ?_, h⟩
      obtain ⟨zv, hz1, hz2⟩ := zeroL_run (w := w) hz
      have hkn : ∀ f ∈ fs.toList, known P f.type = true := fun f hf => by
        have := hk fs hu
        rw [List.all_eq_true] at this
        exact this f hf
      have places : ∀ (l : List Field), (∀ f ∈ l, known P f.type = true) →
          (l.mapM (m := Sem) fun f => do pure (f.offset, ← sizeOf f.type)).run P w = .ok (l.map fun f => (f.offset, P.cellsOf f.type)) w := by
        intro l
        induction l with
        | nil => intro _; rfl
        | cons f l ih =>
          intro hl
          rw [List.mapM_cons]
          simp only [Sem.run_bind, size_known (hl f (List.mem_cons_self ..)), Result.andThen_ok, Sem.run_pure, ih fun g hg => hl g (List.mem_cons_of_mem _ hg), List.map_cons]
      have hfill := fillL_fill _ _ _ _ hcs
      have hplace : (fun i => (fs.toList.map fun f => (f.offset, P.cellsOf f.type)).toArray[i]?) = structPlaces P fs := by
        funext i
        unfold structPlaces
        rw [List.getElem?_toArray, List.getElem?_map]
        cases hi : fs.toList[i]? with
        | none => rfl
        | some f =>
          have hf := hkn f (List.mem_of_getElem? hi)
          unfold known at hf
          cases hti : P.info? f.type with
          | none => rw [hti] at hf; simp at hf
          | some ti => simp [hti, Program.cellsOf]
      have hparts : (parts.map fun (i, x) => (i, ρ x)).toList = parts.toList.map fun p => (p.1, ρ p.2) := by simp
      unfold Instr.build
      simp only [Sem.run_bind, hz1, Result.andThen_ok, underlying, run_program, hu, Sem.run_pure]
      rw [Array.mapM_eq_mapM_toList]
      simp only [bind_pure_comp, Sem.run_map]
      have hp := places fs.toList hkn
      simp only [bind_pure_comp] at hp
      rw [hp]
      simp only [Result.andThen_ok]
      rw [hplace, hz2, hparts, hfill]
      rfl
    · exact h.elim
  · rename_i n el z hu hz
    split at h
    · rename_i ti hti
      split at h
      · rename_i cs hcs
        refine ⟨_, fun w => ?_, h⟩
        obtain ⟨zv, hz1, hz2⟩ := zeroL_run (w := w) hz
        have hfill := fillL_fill _ _ _ _ hcs
        have hparts : (parts.map fun (i, x) => (i, ρ x)).toList = parts.toList.map fun p => (p.1, ρ p.2) := by simp
        have hsz : (sizeOf el).run P w = .ok ti.size w := by simp [sizeOf, typeInfo, hti]
        unfold Instr.build
        simp only [Sem.run_bind, hz1, Result.andThen_ok, underlying, run_program, hu, Sem.run_pure, hsz]
        rw [hz2, hparts, hfill]
        rfl
      · exact h.elim
    · exact h.elim
  · exact h.elim

theorem repL_range (z : List Value) (n : Nat) (hz : 0 < z.length) : ((Array.range (n * z.length)).map (z.toArray[· % z.toArray.size]!)).toList = repL n z := by
  induction n with
  | zero => simp [repL]
  | succ n ih =>
    have e : repL (n + 1) z = repL n z ++ z := by
      unfold repL
      rw [List.replicate_succ', List.flatten_append]
      simp
    rw [e, ← ih]
    apply List.ext_getElem?
    intro i
    simp only [Array.toList_map, Array.toList_range, List.getElem?_map, List.getElem?_append, List.length_map, List.length_range, List.size_toArray]
    have hmul : (n + 1) * z.length = n * z.length + z.length := by rw [Nat.add_mul, Nat.one_mul]
    by_cases h1 : i < n * z.length
    · rw [if_pos h1, List.getElem?_range (by omega), List.getElem?_range h1]
    · rw [if_neg h1]
      by_cases h2 : i < n * z.length + z.length
      · rw [List.getElem?_range (by omega)]
        have h3 : i % z.length = i - n * z.length := by
          have h4 : i = (i - n * z.length) + n * z.length := by omega
          conv => lhs; rw [h4]
          rw [Nat.add_mul_mod_self_right, Nat.mod_eq_of_lt (by omega)]
        have h5 : i - n * z.length < z.length := by omega
        simp [h3, h5]
      · rw [List.getElem?_eq_none (by simp; omega), List.getElem?_eq_none (by omega)]
        rfl

theorem buildSlice_sound {P : Program} {w : World} {K : Value → World → Prop} {t : TypeId} {len : Nat} {ρ : Operand → Value} {parts : Array (Nat × Operand)}
    (hk : ∀ el, P.underlying t = some (.slice el) → known P el = true)
    (h : vcBuildSlice P t len (parts.toList.map fun p => (p.1, ρ p.2)) w K) : ∃ v w', (Instr.buildSlice t len (parts.map fun (i, x) => (i, ρ x))).run P w = .ok v w' ∧ K v w' := by
  unfold vcBuildSlice at h
  split at h
  · rename_i el hu
    split at h
    · rename_i z hz hb
      split at h
      · rename_i hl _
        split at h
        · rename_i cs hcs
          refine ⟨_, _, ?_, h _ _ ⟨rfl, rfl⟩⟩
          obtain ⟨zv, hz1, hz2⟩ := zeroL_run (w := w) hz
          have hsz := size_known (w := w) (hk el hu)
          have hfill := fillL_fill _ _ _ _ hcs
          have hparts : (parts.map fun (i, x) => (i, ρ x)).toList = parts.toList.map fun p => (p.1, ρ p.2) := by simp
          have hle : len * P.cellsOf el ≤ 1000 := Nat.le_of_ble_eq_true hb
          unfold Instr.buildSlice
          simp only [Sem.run_bind, underlying, run_program, Result.andThen_ok, hu, Sem.run_pure, hsz]
          rw [if_neg (by omega)]
          by_cases h0 : len * P.cellsOf el = 0
          · have hrep : repL len z = [] := by
              rcases Nat.mul_eq_zero.1 h0 with h1 | h1
              · subst h1; rfl
              · have : z = [] := List.eq_nil_of_length_eq_zero (by omega)
                subst this; simp [repL]
            rw [hrep] at hfill
            simp only [Sem.run_bind, Sem.run_pure, Result.andThen_ok, h0, if_true]
            have hr : (Array.map (fun x => (#[] : Array Value)[x % (#[] : Array Value).size]!) (Array.range 0)) = ([] : List Value).toArray := by simp
            rw [hr, hparts, hfill]
            rfl
          · have hzp : 0 < z.length := by
              rcases Nat.eq_zero_or_pos z.length with h1 | h1
              · rw [hl] at h1; rw [h1] at h0; simp at h0
              · exact h1
            simp only [Sem.run_bind, Sem.run_pure, Result.andThen_ok, h0, if_false, hz1]
            have hr : (Array.range (len * P.cellsOf el)).map (fun x => zv.cells[x % zv.cells.size]!) = (repL len z).toArray := by
              apply Array.toList_inj.1
              rw [hz2, ← hl]
              exact repL_range z len hzp
            rw [hr, hparts, hfill]
            rfl
        · exact h.elim
      · exact h.elim
    · exact h.elim
  · exact h.elim

theorem field_sound {P : Program} {w : World} {K : Value → World → Prop} {t : TypeId} {x : Value} {f : Nat} (hk : ∀ fs, P.underlying t = some (.struct fs) → fs.toList.all (fun f => known P f.type) = true)
    (h : vcField P t x f w K) : ∃ v, (∀ w, (Instr.field t x f).run P w = .ok v w) ∧ K v w := by
  unfold vcField at h
  split at h
  · rename_i fs cs hu
    split at h
    · rename_i fd hfd
      have hkn : known P fd.type = true := by
        have := hk fs hu
        rw [List.all_eq_true] at this
        exact this fd (List.mem_of_getElem? hfd)
      have hfd' : fs[f]? = some fd := by simpa using hfd
      split at h
      · rename_i hb
        refine ⟨_, fun w => ?_, h⟩
        have hsz := size_known (w := w) hkn
        have := isAgg_run (w := w) hb (known_und hkn)
        simp only [Instr.field, underlying, Sem.run_bind, run_program, Result.andThen_ok, hu, Sem.run_pure, hfd', asAgg, part, this, if_true, hsz]
        congr 2
        apply Array.toList_inj.1
        simp [List.take_drop]
      · rename_i hb
        split at h
        · rename_i v hv
          refine ⟨_, fun w => ?_, h⟩
          have := isAgg_run (w := w) hb (known_und hkn)
          have hv' : cs[fd.offset]? = some v := by simpa using hv
          simp only [Instr.field, underlying, Sem.run_bind, run_program, Result.andThen_ok, hu, Sem.run_pure, hfd', asAgg, part, this, Bool.false_eq_true, if_false, hv']
        · exact h.elim
    · exact h.elim
  · exact h.elim

theorem callable_run {P : Program} {g : FuncId} {args : Array Value} {w : World} (h : callable P g = true) : (callFunc g args).run P w = .ok (.enter g args) w := by
  unfold callable at h
  split at h
  · rename_i fn hf
    simp only [Bool.and_eq_true, bne_iff_ne, ne_eq] at h
    obtain ⟨h1, h2⟩ := h
    cases hb : fn.body with
    | none => rw [hb] at h2; simp at h2
    | some c => simp [callFunc, hf, h1, hb]
  · simp at h

theorem pure_sound {P : Program} {w : World} {K : Value → World → Prop} {chk : Cfg P} {T : Thr} {e : Env} {o : Oper} (hq : pureOp P o.op = true) (hok : okOp P o.op = true)
    (h : vcOp P chk T e w o K) : ∃ v, (∀ w, (execOp e.ev o).run P w = .ok (.value v) w) ∧ K v w := by
  obtain ⟨dst, op, type, pos, after, guard⟩ := o
  have gv : ∀ {s : Sem Value}, (∃ v, (∀ w, s.run P w = .ok v w) ∧ K v w) → ∃ v, (∀ w, (do pure (Next.value (← s)) : Sem Next).run P w = .ok (.value v) w) ∧ K v w := fun ⟨v, hr, hk⟩ => ⟨v, fun w => by simp [hr w], hk⟩
  cases op with
  | move x => exact ⟨_, fun _ => rfl, h⟩
  | assign x => exact ⟨_, fun _ => rfl, h⟩
  | pick c a b =>
    simp only [vcOp] at h
    split at h
    · rename_i t ht
      simp only [execOp, ht, asBool, pure_bind, Sem.run_pure]
      cases t <;> exact ⟨_, fun _ => rfl, h⟩
    · exact h.elim
  | build t parts => exact gv (build_sound (fun fs hfs => by simp only [okOp, hfs] at hok; exact hok) h)
  | field t x f => exact gv (field_sound (fun fs hfs => by simp only [okOp, hfs] at hok; exact hok) h)
  | nilCheck x =>
    simp only [vcOp] at h
    split at h
    · rename_i q hq'
      obtain ⟨b, rfl, h⟩ := h.some
      simp only [execOp, hq']
      exact ⟨_, fun _ => rfl, h⟩
    · rename_i f first cap hf
      simp only [execOp, hf]
      exact ⟨_, fun _ => rfl, h⟩
    · exact h.elim
  | binOp op t x y u =>
    rcases bin_sound h with h | ⟨h, _⟩
    · exact gv h
    · simp only [pureOp, h, Bool.not_true, Bool.false_eq_true] at hq
  | unOp op t x =>
    simp only [vcOp] at h
    split at h
    · rename_i b hb
      refine gv ⟨_, fun w => ?_, h⟩
      rw [hb]; rfl
    · rename_i k n hn
      refine gv ⟨_, fun w => ?_, out_sound h⟩
      rw [hn]
      simp [Op.unary, Op.intArith]
    · exact h.elim
  | fieldAddr t x f =>
    simp only [vcOp] at h
    split at h
    · rename_i fs q hu hp
      split at h
      · rename_i fd hfd
        split at h
        · exact h.elim
        · rename_i hne _
          obtain ⟨p, rfl, h⟩ := h.some
          refine gv ⟨_, fun w => ?_, h⟩
          rw [hp]
          have hs : ∀ q : Addr, (Instr.sureAddr (.pointer (some q))) = pure q := fun _ => rfl
          have hfd' : fs[f]? = some fd := by simpa using hfd
          have hkn : known P fd.type = true := by
            simp only [okOp, hu] at hok
            rw [List.all_eq_true] at hok
            exact hok fd (List.mem_of_getElem? hfd)
          simp [Instr.fieldAt, underlying, hu, hfd', hs, fieldPlace, size_known hkn, hne]
      · exact h.elim
    · exact h.elim
  | indexAddr t x i =>
    refine gv (idx_sound ?_ h)
    intro el hel
    simp only [okOp] at hok
    rcases hel with he | ⟨n, he⟩ <;> (rw [he] at hok; exact hok)
  | index t x i =>
    simp only [vcOp] at h
    split at h
    · rename_i s k i hu hs hi
      obtain ⟨hlt, h0, h⟩ := h
      refine gv ⟨_, fun w => ?_, h⟩
      rw [hs, hi]
      have : s[i.toNat]? = some (s[i.toNat]'hlt) := getElem?_pos s i.toNat hlt
      simp [Instr.index, asIntOf, underlying, hu, h0, this]
    · rename_i n el cs k i hu hs hi
      obtain ⟨hb, h⟩ := h
      split at h
      · exact h.elim
      · rename_i hag
        obtain ⟨v, hv, h⟩ := exK_some h
        refine gv ⟨v, fun w => ?_, h⟩
        rw [hs, hi]
        have hk : known P el = true := by simp only [okOp, hu] at hok; exact hok
        have hag' := isAgg_run (w := w) hag (known_und hk)
        have hsz := size_known (w := w) hk
        have hv' : cs[i.toNat * P.cellsOf el]? = some v := by simpa using hv
        simp only [Instr.index, asIntOf, underlying, Sem.run_bind, run_program, Result.andThen_ok, hu, Sem.run_pure, if_pos hb, hsz, part, hag', Bool.false_eq_true, if_false, hv']
    · exact h.elim
  | slice t x lo hi mx =>
    cases mx with
    | some m => simp [pureOp] at hq
    | none =>
      refine gv (slice_sound ?_ h)
      intro el hel
      simp only [okOp, hel] at hok
      exact hok
  | extract x i =>
    simp only [vcOp] at h
    split at h
    · rename_i vs hvs
      split at h
      · rename_i v hv
        refine gv ⟨v, fun w => ?_, h⟩
        rw [hvs]
        simp [Instr.extract, hv]
      · exact h.elim
    · exact h.elim
  | call c =>
    obtain ⟨callee, args, argTypes⟩ := c
    cases callee with
    | value f => simp [pureOp] at hq
    | invoke r m => simp [pureOp] at hq
    | builtin b =>
      cases b <;> try (simp [pureOp] at hq; done)
      obtain ⟨al⟩ := args
      obtain ⟨tl⟩ := argTypes
      match al, tl, hq, h with
      | [x], [t], hq, h =>
        simp only [pureOp] at hq
        simp only [vcOp, List.map_cons, List.map_nil, vcBi] at h
        refine gv ?_
        split at h
        · rename_i el a n c hu hv
          refine ⟨_, fun w => ?_, h⟩
          simp [hv, Builtin.len_, underlying, hu, goInt]
        · rename_i s hu hv
          refine ⟨_, fun w => ?_, h⟩
          simp [hv, Builtin.len_, underlying, hu, goInt]
        · rename_i hu
          rw [hu] at hq
          simp at hq
        · exact h.elim
  | _ => simp [pureOp] at hq

theorem quiet_sound {P : Program} {w : World} {K : Value → World → Prop} {chk : Cfg P} {T : Thr} {e : Env} {o : Oper} (hq : quietOp P o.op = true) (hok : okOp P o.op = true)
    (h : vcOp P chk T e w o K) : ∃ v, (execOp e.ev o).run P w = .ok (.value v) w ∧ K v w := by
  by_cases hp : pureOp P o.op = true
  · obtain ⟨v, hr, hk⟩ := pure_sound hp hok h
    exact ⟨v, hr w, hk⟩
  · obtain ⟨dst, op, type, pos, after, guard⟩ := o
    have gv : ∀ {s : Sem Value}, (∃ v, s.run P w = .ok v w ∧ K v w) → ∃ v, (do pure (Next.value (← s)) : Sem Next).run P w = .ok (.value v) w ∧ K v w := fun ⟨v, hr, hk⟩ => ⟨v, by simp [hr], hk⟩
    simp only [quietOp, Bool.or_eq_true] at hq
    rcases hq with hq | hq
    · exact absurd hq hp
    · cases op with
      | load t a =>
        simp only [vcOp] at h
        split at h
        · rename_i q hp
          obtain ⟨p, rfl, h⟩ := h.some
          refine gv ?_
          rw [hp]
          split at h
          · exact load_sound hok h
          · exact fl_sound hok h
        · exact h.elim
      | binOp op t x y u =>
        rcases bin_sound h with ⟨v, hr, hk⟩ | ⟨_, h⟩
        · exact gv ⟨v, hr w, hk⟩
        · exact gv h
      | _ => simp at hq

theorem op_sound {P : Program} {w : World} {K : Value → World → Prop} {chk : Cfg P} {T : Thr} {e : Env} {o : Oper} (hok : okOp P o.op = true)
    (h : vcOp P chk T e w o K) : Good P T.X (execOp e.ev o) w K := by
  obtain ⟨dst, op, type, pos, after, guard⟩ := o
  have gv : ∀ {s : Sem Value}, (∃ v, s.run P w = .ok v w ∧ K v w) → Good P T.X (do pure (.value (← s))) w K := fun ⟨v, hr, hk⟩ => good_value hr hk
  have gw : ∀ {s : Sem Value}, (∃ v, (∀ w, s.run P w = .ok v w) ∧ K v w) → Good P T.X (do pure (.value (← s))) w K := fun ⟨v, hr, hk⟩ => good_value (hr w) hk
  cases op with
  | move x => exact h
  | assign x => exact h
  | pick c a b =>
    simp only [vcOp] at h
    split at h
    · rename_i t ht
      unfold Good
      simp only [execOp, ht, asBool, pure_bind, Sem.run_pure]
      cases t <;> exact h
    · exact h.elim
  | alloc t =>
    simp only [vcOp] at h
    split at h
    · rename_i z hz
      cases hi : P.info? t with
      | none => rw [hi] at hz; simp at hz
      | some i =>
        rw [hi] at hz
        simp at hz
        refine good_value (w' := w.alloc (.cells z.cells t)) ?_ (h _ _ ⟨rfl, rfl⟩)
        simp [Instr.alloc, zeroValue, typeInfo, hi, hz, newVar, newRow]
    · exact h.elim
  | box t x =>
    refine good_value (w' := w.alloc (.cells (e.ev x).cells t)) ?_ (h _ _ ⟨rfl, rfl⟩)
    simp [Instr.box, newVar, newRow]
  | makeMap t n =>
    cases n with
    | none => exact good_value (w' := w.alloc (.map #[] 0)) rfl (h _ _ ⟨rfl, rfl⟩)
    | some n => exact h
  | load t a =>
    simp only [vcOp] at h
    split at h
    · rename_i q hp
      obtain ⟨p, rfl, h⟩ := h.some
      refine gv ?_
      rw [hp]
      split at h
      · exact load_sound hok h
      · exact fl_sound hok h
    · exact h.elim
  | store t a x =>
    simp only [vcOp] at h
    split at h
    · rename_i q hp
      obtain ⟨p, rfl, h⟩ := h.some
      obtain ⟨w', hr, hk⟩ := store_sound hok h
      refine good_unit (w' := w') ?_ hk
      rw [hp]; exact hr
    · exact h.elim
  | build t parts => exact gw (build_sound (fun fs hfs => by simp only [okOp, hfs] at hok; exact hok) h)
  | buildSlice t len parts =>
    obtain ⟨v, w', hr, hk⟩ := buildSlice_sound (fun el hel => by simp only [okOp, hel] at hok; exact hok) h
    exact good_value hr hk
  | makeFunc fn first cap =>
    refine gv ⟨_, ?_, h⟩
    have h1 : first.map e.ev = (first.toList.map e.ev).toArray := by apply Array.toList_inj.1; simp
    have h2 : cap.map e.ev = (cap.toList.map e.ev).toArray := by apply Array.toList_inj.1; simp
    rw [h1, h2]
    rfl
  | field t x f => exact gw (field_sound (fun fs hfs => by simp only [okOp, hfs] at hok; exact hok) h)
  | nilCheck x =>
    simp only [vcOp] at h
    split at h
    · rename_i q hq
      obtain ⟨b, rfl, h⟩ := h.some
      unfold Good
      simp only [execOp, hq]
      exact h
    · rename_i f first cap hf
      unfold Good
      simp only [execOp, hf]
      exact h
    · exact h.elim
  | binOp op t x y u =>
    rcases bin_sound h with h | ⟨_, h⟩
    · exact gw h
    · exact gv h
  | unOp op t x =>
    simp only [vcOp] at h
    split at h
    · rename_i b hb
      refine gv ⟨_, ?_, h⟩
      rw [hb]; rfl
    · rename_i k n hn
      refine gv ⟨_, ?_, out_sound h⟩
      rw [hn]
      simp [Op.unary, Op.intArith]
    · exact h.elim
  | fieldAddr t x f =>
    simp only [vcOp] at h
    split at h
    · rename_i fs q hu hp
      split at h
      · rename_i fd hfd
        split at h
        · exact h.elim
        · rename_i hne _
          obtain ⟨p, rfl, h⟩ := h.some
          refine gv ⟨_, ?_, h⟩
          rw [hp]
          have hs : ∀ q : Addr, (Instr.sureAddr (.pointer (some q))) = pure q := fun _ => rfl
          have hfd' : fs[f]? = some fd := by simpa using hfd
          have hkn : known P fd.type = true := by
            simp only [okOp, hu] at hok
            rw [List.all_eq_true] at hok
            exact hok fd (List.mem_of_getElem? hfd)
          simp [Instr.fieldAt, underlying, hu, hfd', hs, fieldPlace, size_known hkn, hne]
      · exact h.elim
    · exact h.elim
  | indexAddr t x i =>
    refine gw (idx_sound ?_ h)
    intro el hel
    simp only [okOp] at hok
    rcases hel with he | ⟨n, he⟩ <;> (rw [he] at hok; exact hok)
  | index t x i =>
    simp only [vcOp] at h
    split at h
    · rename_i s k i hu hs hi
      obtain ⟨hlt, h0, h⟩ := h
      refine gv ⟨_, ?_, h⟩
      rw [hs, hi]
      have : s[i.toNat]? = some (s[i.toNat]'hlt) := getElem?_pos s i.toNat hlt
      simp [Instr.index, asIntOf, underlying, hu, h0, this]
    · rename_i n el cs k i hu hs hi
      obtain ⟨hb, h⟩ := h
      split at h
      · exact h.elim
      · rename_i hag
        obtain ⟨v, hv, h⟩ := exK_some h
        refine gv ⟨v, ?_, h⟩
        rw [hs, hi]
        have hk : known P el = true := by simp only [okOp, hu] at hok; exact hok
        have hag' := isAgg_run (w := w) hag (known_und hk)
        have hsz := size_known (w := w) hk
        have hv' : cs[i.toNat * P.cellsOf el]? = some v := by simpa using hv
        simp only [Instr.index, asIntOf, underlying, Sem.run_bind, run_program, Result.andThen_ok, hu, Sem.run_pure, if_pos hb, hsz, part, hag', Bool.false_eq_true, if_false, hv']
    · exact h.elim
  | slice t x lo hi mx =>
    cases mx with
    | some m => exact h
    | none =>
      refine gw (slice_sound ?_ h)
      intro el hel
      simp only [okOp, hel] at hok
      exact hok
  | makeSlice t l c => exact good_runF h
  | lookup t x i ok =>
    cases ok with
    | true => exact good_runF h
    | false => exact good_runF h
  | mapUpdate t m k x =>
    obtain ⟨w', hr, hk⟩ := h
    exact good_unit hr hk
  | extract x i =>
    simp only [vcOp] at h
    split at h
    · rename_i vs hvs
      split at h
      · rename_i v hv
        refine gv ⟨v, ?_, h⟩
        rw [hvs]
        simp [Instr.extract, hv]
      · exact h.elim
    · exact h.elim
  | range t x => exact good_runF h
  | entry it => exact good_runF h
  | next it s =>
    obtain ⟨b, vs, w', hr, hk⟩ := h
    exact good_value hr hk
  | convert s d x =>
    simp only [vcOp] at h
    split at h
    · rename_i k n k' hx hu
      refine gv ⟨_, ?_, out_sound h⟩
      obtain ⟨ds, hds⟩ := known_und (P := P) (t := s) hok
      rw [hx]
      simp [convert, underlying, hds, hu, Conv.intToInt]
    · exact good_runF h
  | call c =>
    simp only [vcOp] at h
    obtain ⟨callee, args, argTypes⟩ := c
    cases callee with
    | value f =>
      simp only at h
      split at h
      · rename_i g first cap hg
        split at h
        · rename_i hc
          unfold Good
          have ha : first ++ args.map e.ev ++ cap = (first.toList ++ args.toList.map e.ev ++ cap.toList).toArray := by
            apply Array.toList_inj.1
            simp
          have hrun : (execOp e.ev ⟨dst, .call ⟨.value f, args, argTypes⟩, type, pos, after, guard⟩).run P w = .ok (.enter g (first.toList ++ args.toList.map e.ev ++ cap.toList).toArray) w := by
            simp only [execOp, resolve, hg, Deferred.ofValue, pure_bind, invoke, ha]
            exact callable_run hc
          rw [hrun]
          split at h
          · rename_i hid
            unfold vcId at h
            split at h
            · rename_i n hl
              rw [hl]
              exact (chk.idOK g hid n w).mono fun en w'' hret => by
                obtain ⟨rfl, rfl⟩ := hret
                exact .inl ⟨_, rfl, h⟩
            · exact h.elim
          · split at h
            · refine h.mono fun en w'' hret => ?_
              obtain ⟨vs, he, hk⟩ := hret
              exact .inl ⟨_, he, appP_curry hk⟩
            · refine h.mono fun en w'' hret => ?_
              rcases hret with ⟨vs, he, hk⟩ | ⟨ch, he, hk⟩
              · exact .inl ⟨_, he, appP_curry hk⟩
              · exact .inr ⟨ch, he, hk⟩
        · exact h.elim
      · exact h.elim
    | invoke r m => exact h.elim
    | builtin b =>
      have he : args.map e.ev = (args.toList.map e.ev).toArray := by apply Array.toList_inj.1; simp
      simp only [execOp, resolve, pure_bind, invoke, he]
      exact bi_sound h
  | makeInterface t x =>
    simp only [vcOp] at h
    split at h
    · exact h.elim
    · exact h.elim
    · rename_i d hne h1
      obtain ⟨ds, hds⟩ : ∃ d, P.underlying t = some d := by
        cases hd : P.underlying t with
        | none => exact absurd hd h1
        | some d => exact ⟨d, rfl⟩
      refine gv ⟨_, ?_, h⟩
      cases ds <;> first | (exact absurd hds (hne _)) | simp [Instr.makeInterface, underlying, hds]
  | typeAssert x xt t ok =>
    cases ok with
    | false => exact h
    | true =>
      simp only [vcOp] at h
      split at h
      · exact h.elim
      · rename_i d t' v hd hx hne
        split at h
        · rename_i ht _
          subst ht
          refine gv ⟨_, ?_, h⟩
          simp only [hne, Instr.typeAssert, underlying, Sem.run_bind, run_program, Result.andThen_ok, hx]
          cases d <;> first | (exact (hd _ rfl).elim) | simp
        · exact h.elim
      · exact h.elim
  | panic x =>
    simp only [vcOp] at h
    split at h
    · rename_i t v hv
      unfold Good
      have : (execOp e.ev ⟨dst, .panic x, type, pos, after, guard⟩).run P w = .halt (.panic (.iface t v)) w := by
        simp [execOp, hv, Instr.panic]
      rw [this]
      exact h
    · exact h.elim
  | _ => exact h

end Go.Proofs.Ytmlhdmnnijapjaa.V

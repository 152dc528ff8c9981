/- Reading a program: Decode. No condition. -/
import Derived.Test.YtmlhdmnnijapjaaClassQ
import Derived.Test.YtmlhdmnnijapjaaGClsD
namespace Go.Proofs.Ytmlhdmnnijapjaa.V
open Go Go.RowKit Go.Proofs.Ytmlhdmnnijapjaa.WirePlain

/-- The deferred call of Decode. -/
def dfr29 (pb ab eb : Nat) : Deferred := { target := .fn (.func 46) #[.pointer (some ⟨pb, 0, none⟩), .pointer (some ⟨ab, 0, none⟩), .pointer (some ⟨eb, 0, none⟩)], args := #[] }

theorem defer29 {a : Act} {e : Env} {w : World} {pb ab eb : Nat} {Q : Exit → Act → World → Prop} (hr : RelD [] 46 a e) (h2 : e 2 = .pointer (some ⟨pb, 0, none⟩)) (h3 : e 3 = .pointer (some ⟨ab, 0, none⟩)) (h4 : e 4 = .pointer (some ⟨eb, 0, none⟩))
    (hQ : ∀ a' v, RelD [dfr29 pb ab eb] 46 a' (e.put (some 21) v) → Q .normal a' w) : (seqL (seqR (seqR (bodyC Try.f29)))).wp Try.prog Q a w := by
  show (Code.region 5 #[{ dst := some 21, op := Op.makeFunc (.func 46) #[] #[.tmp 2, .tmp 3, .tmp 4], type := 1, pos := "class.go:139", after := #[], guard := none },
    { dst := none, op := Op.defer { callee := .value (.tmp 21), args := #[], argTypes := #[] }, type := 0, pos := "class.go:139", after := #[{ on := 0, ground := Ground.data }], guard := none }] false).wp Try.prog Q a w
  refine wp_region_list ?_
  have he := rel_ev hr
  have e2 : a.eval (.tmp 2) = .pointer (some ⟨pb, 0, none⟩) := by rw [he]; exact h2
  have e3 : a.eval (.tmp 3) = .pointer (some ⟨ab, 0, none⟩) := by rw [he]; exact h3
  have e4 : a.eval (.tmp 4) = .pointer (some ⟨eb, 0, none⟩) := by rw [he]; exact h4
  obtain ⟨v, hv⟩ : ∃ v, v = Value.func (.func 46) #[] #[.pointer (some ⟨pb, 0, none⟩), .pointer (some ⟨ab, 0, none⟩), .pointer (some ⟨eb, 0, none⟩)] := ⟨_, rfl⟩
  have hr1 := rel_put hr (some 21) (by decide) v
  have ev : (a.put (some 21) v).eval (.tmp 21) = v := by rw [rel_ev hr1]; rfl
  refine .inl ?_
  unfold Oper.wp
  have hrun : (execOp a.eval { dst := some 21, op := Op.makeFunc (.func 46) #[] #[.tmp 2, .tmp 3, .tmp 4], type := 1, pos := "class.go:139", after := #[], guard := none }).run Try.prog w = .ok (.value v) w := by
    rw [hv]
    simp [execOp, Instr.makeFunc, e2, e3, e4]
  rw [hrun]
  refine .inl ?_
  unfold Oper.wp
  have hrun2 : (execOp (a.put (some 21) v).eval { dst := none, op := Op.defer { callee := .value (.tmp 21), args := #[], argTypes := #[] }, type := 0, pos := "class.go:139", after := #[{ on := 0, ground := Ground.data }], guard := none }).run Try.prog w = .ok (.defer (dfr29 pb ab eb)) w := by
    simp only [execOp, resolve, ev]
    rw [hv]
    simp [Deferred.ofValue, dfr29]
  rw [hrun2]
  exact hQ _ v ⟨hr1.size, hr1.get, by show dfr29 pb ab eb :: (a.put (some 21) v).defers = _; rw [hr1.dfr]⟩

/-- The deferred closure, where a fault was thrown. -/
theorem catch_fault {w : World} {pb ab eb : Nat} {x y z pl cd : Int} {aa : Option Addr} {l c : Nat} (hd : pb ≠ ab ∧ pb ≠ eb ∧ ab ≠ eb) (P : Blk w pb [.int .i64 x, .slice aa l c]) (A : Blk w ab [.int .i64 y]) (B : Blk w eb [.int .i64 z]) :
    CallsD Try.prog 46 #[.pointer (some ⟨pb, 0, none⟩), .pointer (some ⟨ab, 0, none⟩), .pointer (some ⟨eb, 0, none⟩)] (.panicking (Thrown (pl, cd))) w fun e u' w' =>
      e = .returned (.tuple #[]) ∧ (∃ v, u' = .panicking [{ v, recovered := true }]) ∧ Fr [pb, ab, eb] w w' ∧ Blk w' pb [.int .i64 0, .slice none 0 0] ∧ Blk w' ab [.int .i64 pl] ∧ Blk w' eb [.int .i64 cd] := by
  refine callsD_of_wpS Try.func46 rfl fun c₀ cs hu => ?_
  apply wpS_seq
  apply wpS_region
  simp [wpOpsS, go_sem, recoverD, hu, Thrown, Try.ntmps46, Exit.thenS]
  apply wpS_seq
  apply wpS_region
  simp [wpOpsS, go_sem, Exit.thenS]
  refine wpS_cond (t := true) (by simp [Act.eval, Array.replicate]) ?_
  simp only [if_true]
  refine wpS_of_wp ?_
  refine wp_mono (r_d3 pb ab eb pl cd w (fun w' => Fr [pb, ab, eb] w w' ∧ Blk w' pb [.int .i64 0, .slice none 0 0] ∧ Blk w' ab [.int .i64 pl] ∧ Blk w' eb [.int .i64 cd]) (fun _ => False) (D := []) (e := fun n => Array.getD _ n undef) ?_ ?_ ⟨by simp, fun _ => rfl, rfl⟩) ?_
  · intro b1 w2 n1
    have P2 := P.fr (n1.fr []) (by simp)
    have A2 := A.fr (n1.fr []) (by simp)
    have B2 := B.fr (n1.fr []) (by simp)
    have g1 := n1.ge
    have lp := P.lt
    have la := A.lt
    have lb := B.lt
    refine ⟨n1.blk.mayL (by simp), fun w3 s3 => ?_⟩
    obtain ⟨N3, f3⟩ := setAll s3 n1.blk rfl
    intro w4 d4
    have f4 : Fr [pb, ab, eb] w w4 := ((n1.fr _).trans f3 (by simp; omega)).more (d4.fr _)
    have P4 := (P2.fr f3 (by simp; omega)).fr (d4.fr []) (by simp)
    have A4 := (A2.fr f3 (by simp; omega)).fr (d4.fr []) (by simp)
    have B4 := (B2.fr f3 (by simp; omega)).fr (d4.fr []) (by simp)
    have N4 := N3.fr (d4.fr []) (by simp)
    clear P2 A2 B2 N3 n1 s3 d4
    have pS : ∀ w', SetL w4 w' ⟨pb, 0, none⟩ [.int .i64 0, .slice none 0 0] → Blk w' pb [.int .i64 0, .slice none 0 0] ∧ Blk w' ab [.int .i64 y] ∧ Blk w' eb [.int .i64 z] ∧ Blk w' b1 [.int .i64 pl, .int .i64 cd] ∧ Fr [pb, ab, eb] w w' := by
      intro w' s
      obtain ⟨P5, f5⟩ := setAll s P4 rfl
      exact ⟨P5, A4.fr f5 (by simp; omega), B4.fr f5 (by simp; omega), N4.fr f5 (by simp; omega), f4.more (f5.mono (by simp))⟩
    have aS : ∀ w5 w', Blk w5 pb [.int .i64 0, .slice none 0 0] ∧ Blk w5 ab [.int .i64 y] ∧ Blk w5 eb [.int .i64 z] ∧ Blk w5 b1 [.int .i64 pl, .int .i64 cd] ∧ Fr [pb, ab, eb] w w5 → SetC w5 w' ⟨ab, 0, none⟩ (.int .i64 pl) →
        Blk w' pb [.int .i64 0, .slice none 0 0] ∧ Blk w' ab [.int .i64 pl] ∧ Blk w' eb [.int .i64 z] ∧ Blk w' b1 [.int .i64 pl, .int .i64 cd] ∧ Fr [pb, ab, eb] w w' := by
      rintro w5 w' ⟨P5, A5, B5, N5, f5⟩ s
      have f6 : Fr [ab] w5 w' := s.fr (by simp)
      exact ⟨P5.fr f6 (by simp; omega), s.blk A5, B5.fr f6 (by simp; omega), N5.fr f6 (by simp; omega), f5.more (f6.mono (by simp))⟩
    have bS : ∀ w5 w', Blk w5 pb [.int .i64 0, .slice none 0 0] ∧ Blk w5 ab [.int .i64 pl] ∧ Blk w5 eb [.int .i64 z] ∧ Blk w5 b1 [.int .i64 pl, .int .i64 cd] ∧ Fr [pb, ab, eb] w w5 → SetC w5 w' ⟨eb, 0, none⟩ (.int .i64 cd) →
        Fr [pb, ab, eb] w w' ∧ Blk w' pb [.int .i64 0, .slice none 0 0] ∧ Blk w' ab [.int .i64 pl] ∧ Blk w' eb [.int .i64 cd] := by
      rintro w5 w' ⟨P5, A5, B5, N5, f5⟩ s
      have f6 : Fr [eb] w5 w' := s.fr (by simp)
      exact ⟨f5.more (f6.mono (by simp)), P5.fr f6 (by simp; omega), A5.fr f6 (by simp; omega), s.blk B5⟩
    have m2 := P4.mayL (o := 0) (n := 2) (by simp)
    refine ⟨⟨_, N4.cell rfl, ⟨_, N4.cell rfl, m2, fun w7 s7 => ⟨(pS _ s7).2.1.may (by simp), fun w8 s8 => ⟨(aS _ _ (pS _ s7) s8).2.2.1.may (by simp), fun w9 s9 => bS _ _ (aS _ _ (pS _ s7) s8) s9⟩⟩⟩,
      m2, fun w10 s10 => ⟨⟨_, (pS _ s10).2.2.2.1.cell rfl, (pS _ s10).2.1.may (by simp), fun w12 s12 => ⟨(aS _ _ (pS _ s10) s12).2.2.1.may (by simp), fun w13 s13 => bS _ _ (aS _ _ (pS _ s10) s12) s13⟩⟩,
        (pS _ s10).2.1.may (by simp), fun w14 s14 => ⟨_, (aS _ _ (pS _ s10) s14).2.2.2.1.cell rfl, (aS _ _ (pS _ s10) s14).2.2.1.may (by simp), fun w16 s16 => bS _ _ (aS _ _ (pS _ s10) s14) s16⟩⟩⟩,
      ⟨_, N4.cell rfl, ⟨_, N4.cell rfl, m2, fun w7 s7 => ⟨(pS _ s7).2.1.may (by simp), fun w8 s8 => ⟨(aS _ _ (pS _ s7) s8).2.2.1.may (by simp), fun w9 s9 => bS _ _ (aS _ _ (pS _ s7) s8) s9⟩⟩⟩,
        m2, fun w22 s22 => ⟨_, (pS _ s22).2.2.2.1.cell rfl, (pS _ s22).2.1.may (by simp), fun w24 s24 => ⟨(aS _ _ (pS _ s22) s24).2.2.1.may (by simp), fun w25 s25 => bS _ _ (aS _ _ (pS _ s22) s24) s25⟩⟩⟩,
      m2, fun w26 s26 => ⟨_, (pS _ s26).2.2.2.1.cell rfl, ⟨_, (pS _ s26).2.2.2.1.cell rfl, (pS _ s26).2.1.may (by simp), fun w29 s29 => ⟨(aS _ _ (pS _ s26) s29).2.2.1.may (by simp), fun w30 s30 => bS _ _ (aS _ _ (pS _ s26) s29) s30⟩⟩,
        (pS _ s26).2.1.may (by simp), fun w31 s31 => ⟨_, (aS _ _ (pS _ s26) s31).2.2.2.1.cell rfl, (aS _ _ (pS _ s26) s31).2.2.1.may (by simp), fun w33 s33 => bS _ _ (aS _ _ (pS _ s26) s31) s33⟩⟩⟩
  · intro p hp
    simp at hp
    rcases hp with rfl | rfl | rfl | rfl <;> simp [Array.replicate]
  · rintro ex a' w' ⟨e', h1, _, h3⟩
    cases ex with
    | normal =>
      refine ⟨h1.dfr, _, rfl, .tuple #[], by simp [results, Try.results46], rfl, ⟨_, rfl⟩, h3⟩
    | ret => exact h3.elim
    | exit i => exact h3.elim
    | goto l => exact h3.elim
    | panic ch => exact h3.elim
    | outgrown => exact h3.elim

theorem catch_idle46 (pb ab eb : Nat) (w : World) :
    CallsD Try.prog 46 #[.pointer (some ⟨pb, 0, none⟩), .pointer (some ⟨ab, 0, none⟩), .pointer (some ⟨eb, 0, none⟩)] .returning w fun e u' w' => e = .returned (.tuple #[]) ∧ u' = .returning ∧ w' = w := by
  refine callsD_of_wpS Try.func46 rfl fun c₀ cs hu => ?_
  apply wpS_seq
  apply wpS_region
  simp [wpOpsS, go_sem, recoverD, hu, Try.ntmps46, Exit.thenS]
  apply wpS_seq
  apply wpS_region
  simp [wpOpsS, go_sem, Exit.thenS]
  refine wpS_cond (t := false) (by simp [Act.eval, Array.replicate]) ?_
  simp only [Bool.false_eq_true, if_false]
  refine wpS_of_wp (wp_skip ?_)
  cases c₀
  simp_all [bodyPostS, results, Try.results46]

theorem body29 : Try.f29.body = some (.seq (seqL (bodyC Try.f29)) (.seq (seqL (seqR (bodyC Try.f29))) (.seq (seqL (seqR (seqR (bodyC Try.f29)))) (seqR (seqR (seqR (bodyC Try.f29))))))) := by kernel_rfl

/-- The results' places. -/
structure Res3 (w : World) (pb ab eb : Nat) (m : Int) (a : Option Addr) (l c : Nat) (pl cd : Int) : Prop where
  P : Blk w pb [.int .i64 m, .slice a l c]
  A : Blk w ab [.int .i64 pl]
  B : Blk w eb [.int .i64 cd]
  d : pb ≠ ab ∧ pb ≠ eb ∧ ab ≠ eb

theorem Res3.fr {w w' : World} {pb ab eb : Nat} {m : Int} {a : Option Addr} {l c : Nat} {pl cd : Int} {S : List Nat} (h : Res3 w pb ab eb m a l c pl cd) (f : Fr S w w') (hp : pb ∉ S) (ha : ab ∉ S) (hb : eb ∉ S) : Res3 w' pb ab eb m a l c pl cd := ⟨h.P.fr f hp, h.A.fr f ha, h.B.fr f hb, h.d⟩

set_option maxRecDepth 100000 in
theorem res29 {w : World} {pb ab eb : Nat} {m : Int} {a : Option Addr} {l c : Nat} {pl cd : Int} (h : Res3 w pb ab eb m a l c pl cd) {tmps : Array Value} {e : Env} (hg : ∀ n, tmps.getD n undef = e n) (h2 : e 2 = .pointer (some ⟨pb, 0, none⟩)) (h3 : e 3 = .pointer (some ⟨ab, 0, none⟩)) (h4 : e 4 = .pointer (some ⟨eb, 0, none⟩)) :
    (results Try.f29 tmps).run Try.prog w = .ok (.tuple #[.agg #[.int .i64 m, .slice a l c], .int .i64 pl, .int .i64 cd]) w := by
  obtain ⟨vs, hr, rfl⟩ := results_run (P := Try.prog) (w := w) (fn := Try.f29) (tmps := tmps) (e := e) hg (F := fun vs => vs = [.agg #[.int .i64 m, .slice a l c], .int .i64 pl, .int .i64 cd])
    (by intro r hr; have : r ∈ [ResultVar.cell 2 54, .cell 3 3, .cell 4 25] := hr; simp at this; rcases this with rfl | rfl | rfl <;> first | (show known Try.prog 54 = true; kernel_rfl) | (show known Try.prog 3 = true; kernel_rfl) | (show known Try.prog 25 = true; kernel_rfl))
    (by
      show retVals Try.prog e w [.cell 2 54, .cell 3 3, .cell 4 25] _
      simp only [retVals, h2, h3, h4]
      have e1 : vcLoad Try.prog 54 ⟨pb, 0, none⟩ w = fun K => ∃ (n : Int) (a : Option Addr) (l c : Nat), CellsAt w ⟨pb, 0, none⟩ [.int .i64 n, .slice a l c] ∧ K (.agg #[.int .i64 n, .slice a l c]) w := by kernel_rfl
      have e2 : ∀ (K : Value → World → Prop), vcLoad Try.prog 3 ⟨ab, 0, none⟩ w K = ∃ n : Int, World.cell? w ⟨ab, 0, none⟩ = some (.int .i64 n) ∧ K (.int .i64 n) w := fun _ => by kernel_rfl
      have e3 : ∀ (K : Value → World → Prop), vcLoad Try.prog 25 ⟨eb, 0, none⟩ w K = ∃ n : Int, World.cell? w ⟨eb, 0, none⟩ = some (.int .i64 n) ∧ K (.int .i64 n) w := fun _ => by kernel_rfl
      rw [e1]
      refine ⟨_, _, _, _, h.P.cells, ?_⟩
      exact (e2 _).mpr ⟨_, h.A.cell rfl, (e3 _).mpr ⟨_, h.B.cell rfl, rfl⟩⟩)
  exact hr

theorem ptr3 {KN : Option Addr → Option Addr → Option Addr → World → Prop} {v1 v2 v3 : Value} {w : World} (h : appP [.ptr, .ptr, .ptr] KN [v1, v2, v3] w) : ∃ q1 q2 q3, v1 = .pointer q1 ∧ v2 = .pointer q2 ∧ v3 = .pointer q3 ∧ KN q1 q2 q3 w := by
  cases v1 <;> first | exact False.elim h | skip
  cases v2 <;> first | exact False.elim h | skip
  cases v3 <;> first | exact False.elim h | skip
  exact ⟨_, _, _, rfl, rfl, rfl, h⟩

theorem Res3.setA {w w' : World} {pb ab eb : Nat} {m : Int} {a : Option Addr} {l c : Nat} {pl cd n : Int} (h : Res3 w pb ab eb m a l c pl cd) (s : SetC w w' ⟨ab, 0, none⟩ (.int .i64 n)) : Res3 w' pb ab eb m a l c n cd ∧ Fr [ab] w w' := by
  have d := h.d
  have f : Fr [ab] w w' := s.fr (by simp)
  exact ⟨⟨h.P.fr f (by simp; omega), s.blk h.A, h.B.fr f (by simp; omega), h.d⟩, f⟩
theorem Res3.setB {w w' : World} {pb ab eb : Nat} {m : Int} {a : Option Addr} {l c : Nat} {pl cd n : Int} (h : Res3 w pb ab eb m a l c pl cd) (s : SetC w w' ⟨eb, 0, none⟩ (.int .i64 n)) : Res3 w' pb ab eb m a l c pl n ∧ Fr [eb] w w' := by
  have d := h.d
  have f : Fr [eb] w w' := s.fr (by simp)
  exact ⟨⟨h.P.fr f (by simp; omega), h.A.fr f (by simp; omega), s.blk h.B, h.d⟩, f⟩
theorem Res3.setM {w w' : World} {pb ab eb : Nat} {m : Int} {a : Option Addr} {l c : Nat} {pl cd n : Int} (h : Res3 w pb ab eb m a l c pl cd) (s : SetC w w' ⟨pb, 0, none⟩ (.int .i64 n)) : Res3 w' pb ab eb n a l c pl cd ∧ Fr [pb] w w' := by
  have d := h.d
  have f : Fr [pb] w w' := s.fr (by simp)
  exact ⟨⟨s.blk h.P, h.A.fr f (by simp; omega), h.B.fr f (by simp; omega), h.d⟩, f⟩
theorem Res3.setS {w w' : World} {pb ab eb : Nat} {m : Int} {a a' : Option Addr} {l c l' c' : Nat} {pl cd : Int} (h : Res3 w pb ab eb m a l c pl cd) (s : SetC w w' ⟨pb, 1, none⟩ (.slice a' l' c')) : Res3 w' pb ab eb m a' l' c' pl cd ∧ Fr [pb] w w' := by
  have d := h.d
  have f : Fr [pb] w w' := s.fr (by simp)
  exact ⟨⟨s.blk h.P, h.A.fr f (by simp; omega), h.B.fr f (by simp; omega), h.d⟩, f⟩
theorem put29 {w w' : World} {pb ab eb : Nat} {m m' : Int} {a a' : Option Addr} {l c l' c' : Nat} {pl cd : Int} (h : Res3 w pb ab eb m a l c pl cd) (s : SetL w w' ⟨pb, 0, none⟩ [.int .i64 m', .slice a' l' c']) (_ : False → False) : Res3 w' pb ab eb m' a' l' c' pl cd ∧ Fr [pb] w w' := by
  have d := h.d
  obtain ⟨P', f⟩ := setAll s h.P rfl
  exact ⟨⟨P', h.A.fr f (by simp; omega), h.B.fr f (by simp; omega), h.d⟩, f⟩

theorem decode_c (s : ByteArray) {w : World} {K : Int → Option Addr → Nat → Nat → Int → Int → World → Prop}
    (hK : ∀ w' m a l c, rPrg (fun b => w.heap.size ≤ b) True w' m a l (decP s).1 → Fr [] w w' → K m a l c (decP s).2.1 (decP s).2.2 w') : C29 s w K := by
  have fin : ∀ w' pb ab eb m a l c, Res3 w' pb ab eb m a l c (decP s).2.1 (decP s).2.2 → rPrg (fun b => w.heap.size ≤ b) True w' m a l (decP s).1 → Fr [] w w' →
      Ret [.agg [.int .i64, .slice], .leaf (.int .i64), .leaf (.int .i64)] K (.returned (.tuple #[.agg #[.int .i64 m, .slice a l c], .int .i64 (decP s).2.1, .int .i64 (decP s).2.2])) w' := fun w' pb ab eb m a l c _ hp f =>
    ⟨[.int .i64 m, .slice a l c, .int .i64 (decP s).2.1, .int .i64 (decP s).2.2], rfl, hK w' m a l c hp f⟩
  refine calls_of_wp_defers Try.func29 body29 ?_
  have hr0 : RelD [] 46 { tmps := #[.string s] ++ Array.replicate (Try.f29.ntmps - 1) undef, defers := [] } (argEnv [.string s]) := argEnv_rel #[.string s] 46 (by simp)
  refine wp_seq (wp_mono (r_d0 (fun _ _ => False) w (fun q1 q2 q3 w' => ∃ pb ab eb, q1 = some ⟨pb, 0, none⟩ ∧ q2 = some ⟨ab, 0, none⟩ ∧ q3 = some ⟨eb, 0, none⟩ ∧ Res3 w' pb ab eb 0 none 0 0 0 0 ∧ Fr [] w w' ∧ w.heap.size ≤ pb ∧ w.heap.size ≤ ab ∧ w.heap.size ≤ eb) (fun _ => False) ?_ (by simp) hr0) ?_)
  · intro b1 w2 n1 b3 w4 n3 b5 w6 n5
    have g1 := n1.ge
    have g3 : w2.heap.size ≤ b3 := n3.ge
    have g5 : w4.heap.size ≤ b5 := n5.ge
    have l1 := n1.blk.lt
    have l3 := n3.blk.lt
    have z2 := (n1.fr []).size
    have z4 := (n3.fr []).size
    exact ⟨b1, b3, b5, rfl, rfl, rfl, ⟨(n1.blk.fr (n3.fr []) (by simp)).fr (n5.fr []) (by simp), n3.blk.fr (n5.fr []) (by simp), n5.blk, by omega⟩, ((n1.fr _).more (n3.fr _)).more (n5.fr _), g1, by omega, by omega⟩
  rintro ex a1 w1 ⟨e1, hr1, off1, h1⟩
  cases ex with
  | ret => exact h1.elim
  | exit i => exact h1.elim
  | goto l => exact h1.elim
  | panic ch => exact h1.elim
  | outgrown => exact h1.elim
  | normal =>
  obtain ⟨q1, q2, q3, h12, h13, h14, pb, ab, eb, rfl, rfl, rfl, R1, f1, gp, ga, ge⟩ := ptr3 h1
  have h10 : e1 0 = .string s := (off1 0 (by kernel_rfl)).trans rfl
  clear h1
  have dec0 : ∀ c, 32768 < s.size ∧ c = 1406 ∨ ¬ 32768 < s.size ∧ ¬ magicOK s ∧ c = 1400 → decP s = (prg0, 0, c) := by
    rintro c (⟨h1, rfl⟩ | ⟨h1, h2, rfl⟩)
    · unfold decP; rw [if_pos h1]
    · unfold decP; rw [if_neg h1, if_pos h2]
  refine wp_seq (wp_mono (r_d1 (fun _ _ => False) s pb ab eb w1 (fun w' => w' = w1 ∧ ¬ 32768 < s.size ∧ magicOK s) (fun w' => ∃ c, decP s = (prg0, 0, c) ∧ Res3 w' pb ab eb 0 none 0 0 0 c ∧ Fr [] w w') ?_ (by
    intro p hp
    simp at hp
    rcases hp with rfl | rfl | rfl | rfl
    · exact h10
    · exact h12
    · exact h13
    · exact h14) hr1) ?_)
  · have store : ∀ c, decP s = (prg0, 0, c) → ∃ (n1 : Int), ∃ (a2 : Option Addr) (l2 c2 : Nat), CellsAt w1 ⟨pb, 0, none⟩ [.int .i64 n1, .slice a2 l2 c2] ∧
        MayL w1 ⟨pb, 0, none⟩ 2 ∧ ∀ w3 : World, SetL w1 w3 ⟨pb, 0, none⟩ [.int .i64 n1, .slice a2 l2 c2] → May w3 ⟨ab, 0, none⟩ ∧ ∀ w4 : World, SetC w3 w4 ⟨ab, 0, none⟩ (.int .i64 0) →
        May w4 ⟨eb, 0, none⟩ ∧ ∀ w5 : World, SetC w4 w5 ⟨eb, 0, none⟩ (.int .i64 c) → ∃ c, decP s = (prg0, 0, c) ∧ Res3 w5 pb ab eb 0 none 0 0 0 c ∧ Fr [] w w5 := by
      intro c hc
      obtain ⟨w', q⟩ : ∃ w', w' = w1 := ⟨_, rfl⟩
      refine ⟨_, _, _, _, R1.P.cells, R1.P.mayL (by simp), fun w3 s3 => ?_⟩
      obtain ⟨Q3, f3⟩ := put29 R1 s3 (fun h => h)
      exact ⟨Q3.A.may (by simp), fun w4 s4 => ⟨(Q3.setA s4).1.B.may (by simp), fun w5 s5 => ⟨c, hc, ((Q3.setA s4).1.setB s5).1, ((f1.trans f3 (by simp; omega)).trans (Q3.setA s4).2 (by simp; omega)).trans ((Q3.setA s4).1.setB s5).2 (by simp; omega)⟩⟩⟩
    refine IfB.dec (fun h => store 1406 (dec0 _ (.inl ⟨by omega, rfl⟩))) (fun h => IfB.dec (fun h2 => store 1400 (dec0 _ (.inr ⟨by omega, fun hm => by have := hm.1; omega, rfl⟩))) (fun h2 => ⟨⟨by omega, by omega⟩, ?_⟩))
    have hmg : nats (ByteArray.mk #[71, 78, 83, 83]) = [71, 78, 83, 83] := rfl
    have em : (!(ByteArray.toList (ByteArray.extract s 0 (Int.toNat 4)) == ByteArray.toList (ByteArray.mk #[71, 78, 83, 83]))) = !decide (magicOK s) := by
      rw [str_beq]
      congr 1
      rw [decide_eq_decide]
      unfold magicOK
      constructor
      · intro he
        refine ⟨by omega, ?_⟩
        have := congrArg nats he
        rw [nats_extract, hmg] at this
        simpa using this
      · rintro ⟨_, he⟩
        refine nats_inj ?_
        rw [nats_extract, hmg]
        simpa using he
    rw [em]
    exact IfB.nd (fun hm => ⟨rfl, by omega, hm⟩) (fun hm => store 1400 (dec0 _ (.inr ⟨by omega, hm, rfl⟩)))
  rintro ex a2 w2 ⟨e2, hr2, off2, h2⟩
  have h20 : e2 0 = .string s := (off2 0 (by kernel_rfl)).trans h10
  have h22 := (off2 2 (by kernel_rfl)).trans h12
  have h23 := (off2 3 (by kernel_rfl)).trans h13
  have h24 := (off2 4 (by kernel_rfl)).trans h14
  cases ex with
  | exit i => exact h2.elim
  | goto l => exact h2.elim
  | panic ch => exact h2.elim
  | outgrown => exact h2.elim
  | ret =>
    obtain ⟨c, hc, R2, f2⟩ := h2
    show Leaves Try.prog Try.f29 a2.tmps _ a2.defers .returning w2
    rw [hr2.dfr]
    have hf := fin w2 pb ab eb 0 none 0 0
    rw [hc] at hf
    exact ⟨_, res29 R2 hr2.get h22 h23 h24, hf R2 ⟨rfl, rSeq.nil⟩ f2⟩
  | normal =>
  obtain ⟨rfl, hs, hm⟩ := h2
  refine wp_seq (defer29 hr2 h22 h23 h24 fun a3 v hr3 => ?_)
  have h30 : (e2.put (some 21) v) 0 = .string s := h20
  have h32 : (e2.put (some 21) v) 2 = _ := h22
  have h33 : (e2.put (some 21) v) 3 = _ := h23
  have h34 : (e2.put (some 21) v) 4 = _ := h24
  refine wp_mono (r_d2 (fun ch w' => ∃ e, ch = Thrown e ∧ decP s = (prg0, e.1, e.2) ∧ Fr [] w w' ∧ ∃ m a l c, Res3 w' pb ab eb m a l c 0 0) s pb ab eb w2 (fun _ => False)
    (fun w' => ∃ m a l c, decP s = ((decP s).1, 0, 0) ∧ Res3 w' pb ab eb m a l c 0 0 ∧ rPrg (fun b => w.heap.size ≤ b) True w' m a l (decP s).1 ∧ Fr [] w w') ?_ (by
    intro p hp
    simp at hp
    rcases hp with rfl | rfl | rfl | rfl
    · exact h30
    · exact h32
    · exact h33
    · exact h34) hr3) ?_
  · intro b1 w3 n1
    have g1 := n1.ge
    have lp := R1.P.lt
    have la := R1.A.lt
    have lb := R1.B.lt
    have R3 := R1.fr (n1.fr []) (by simp) (by simp) (by simp)
    have RR : RdW w3 b1 s 4 := ⟨n1.blk, by decide, by have := hm.1; omega⟩
    have f3 : Fr [] w w3 := f1.more (n1.fr _)
    have gb : w.heap.size ≤ b1 := Nat.le_trans f1.size g1
    have decE : ∀ e, prgD s 4 = .error e → decP s = (prg0, e.1, e.2) := fun e he => by unfold decP; rw [if_neg hs, if_neg (by simpa using hm), he]
    refine num_x RR (by omega) (Out.of (numD s 4) w3 fun e w' he f => ⟨e, rfl, decE e (by unfold prgD; rw [he]; rfl), f3.trans f (by simp; omega), _, _, _, _, R3.fr f (by simp; omega) (by simp; omega) (by simp; omega)⟩) fun m q w4 R4 f4 ⟨hn, _⟩ => ?_
    have Q4 := R3.fr f4 (by simp; omega) (by simp; omega) (by simp; omega)
    have f4' : Fr [] w w4 := f3.trans f4 (by simp; omega)
    refine ⟨Q4.P.may (by simp), fun w5 s5 => ?_⟩
    obtain ⟨Q5, f5⟩ := Q4.setM s5
    have f5' : Fr [] w w5 := f4'.trans f5 (by simp; omega)
    have R5 := R4.fr f5 (by simp; omega)
    refine clss_x R5 (by omega) (by decide) (Out.of (listD s 40 (clsD s) q) w5 fun e w' he f => ⟨e, rfl, decE e (by unfold prgD; rw [hn]; simp only [bindD]; rw [he]), f5'.trans f (by simp; omega), _, _, _, _, Q5.fr f (by simp; omega) (by simp; omega) (by simp; omega)⟩) fun cs q2 a c w7 R7 f7 ⟨hc, _⟩ S7 => ?_
    have Q7 := Q5.fr f7 (by simp; omega) (by simp; omega) (by simp; omega)
    have f7' : Fr [] w w7 := f5'.trans f7 (by simp; omega)
    have hpd : prgD s 4 = .ok (⟨m, cs⟩, q2) := by unfold prgD; rw [hn]; simp only [bindD]; rw [hc]
    refine ⟨Q7.P.may (by simp), fun w8 s8 => ?_⟩
    obtain ⟨Q8, f8⟩ := Q7.setS s8
    have f8' : Fr [] w w8 := f7'.trans f8 (by simp; omega)
    have R8 := R7.fr f8 (by simp; omega)
    have lp5 := Q5.P.lt
    have S8 := rel_seq (U' := fun b => w5.heap.size ≤ b) rel_cls S7 (SameU.of_fr f8 fun b hb hm => by simp at hm; omega) f8.size fun b hb _ => hb
    intro w9 d9
    have R9 := R8.fr (d9.fr []) (by simp)
    refine ⟨_, R9.hd.cell rfl, _, R9.hd.cell rfl, fail_x (fun hlt => ?_) (fun hge => ?_)⟩
    · refine ⟨(q2, 1405), rfl, ?_, f8'.more (d9.fr _), _, _, _, _, Q8.fr (d9.fr []) (by simp) (by simp) (by simp)⟩
      unfold decP
      rw [if_neg hs, if_neg (by simpa using hm), hpd]
      simp only
      rw [if_pos (of_decide_eq_true hlt)]
    have hdp : decP s = (⟨m, cs⟩, 0, 0) := by
      unfold decP
      rw [if_neg hs, if_neg (by simpa using hm), hpd]
      simp only
      rw [if_neg (of_decide_eq_false hge)]
    have Q9 := Q8.fr (d9.fr []) (by simp) (by simp) (by simp)
    refine ⟨_, _, _, _, Q9.P.cells, Q9.P.mayL (by simp), fun w15 s15 => ?_⟩
    obtain ⟨Q15, f15⟩ := put29 Q9 s15 (fun h => h)
    refine ⟨Q15.A.may (by simp), fun w16 s16 => ⟨(Q15.setA s16).1.B.may (by simp), fun w17 s17 => ?_⟩⟩
    have f17 : Fr [pb, ab, eb] w8 w17 := (((d9.fr _).more (f15.mono (by simp))).more ((Q15.setA s16).2.mono (by simp))).more (((Q15.setA s16).1.setB s17).2.mono (by simp))
    refine ⟨m, a, cs.length, c, by rw [hdp], ((Q15.setA s16).1.setB s17).1, ?_, f8'.trans f17 (by simp; omega)⟩
    rw [hdp]
    exact ⟨rfl, rel_seq rel_cls S8 (SameU.of_fr f17 fun b hb hm => by have := Q5.A.lt; have := Q5.B.lt; simp at hm; omega) f17.size fun b hb _ => Nat.le_trans f5'.size hb⟩
  rintro ex a4 w4 ⟨e4, hr4, off4, h4⟩
  have h42 := (off4 2 (by kernel_rfl)).trans h32
  have h43 := (off4 3 (by kernel_rfl)).trans h33
  have h44 := (off4 4 (by kernel_rfl)).trans h34
  have hinv : (invoke (.fn (.func 46) #[.pointer (some ⟨pb, 0, none⟩), .pointer (some ⟨ab, 0, none⟩), .pointer (some ⟨eb, 0, none⟩)]) #[]).run Try.prog w4 = .ok (.enter 46 #[.pointer (some ⟨pb, 0, none⟩), .pointer (some ⟨ab, 0, none⟩), .pointer (some ⟨eb, 0, none⟩)]) w4 := by
    show (callFunc 46 _).run Try.prog w4 = _
    exact callable_run (by kernel_rfl)
  cases ex with
  | normal => exact h4.elim
  | exit i => exact h4.elim
  | goto l => exact h4.elim
  | outgrown => exact h4.elim
  | ret =>
    obtain ⟨m, a, l, c, hd, R4, hp, f4⟩ := h4
    show Leaves Try.prog Try.f29 a4.tmps _ a4.defers .returning w4
    rw [hr4.dfr]
    refine leaves_cons (by simp) hinv ((catch_idle46 pb ab eb w4).mono ?_)
    rintro e u' w' ⟨rfl, rfl, rfl⟩
    have hf := fin w' pb ab eb m a l c
    rw [hd] at hf
    rw [hd] at hp
    exact ⟨_, res29 R4 hr4.get h42 h43 h44, hf R4 hp f4⟩
  | panic ch =>
    obtain ⟨e, rfl, hd, f4, m, a, l, c, R4⟩ := h4
    show Leaves Try.prog Try.f29 a4.tmps _ a4.defers (.panicking (Thrown e)) w4
    rw [hr4.dfr]
    refine leaves_cons (by simp) hinv ((catch_fault R4.d R4.P R4.A R4.B).mono ?_)
    rintro e' u' w' ⟨rfl, ⟨v, rfl⟩, f', P', A', B'⟩
    have hf := fin w' pb ab eb 0 none 0 0
    rw [hd] at hf
    have Q' : Res3 w' pb ab eb 0 none 0 0 e.1 e.2 := ⟨P', A', B', R4.d⟩
    show Leaves Try.prog Try.f29 a4.tmps _ [] .returning w'
    exact ⟨_, res29 Q' hr4.get h42 h43 h44, hf Q' ⟨rfl, rSeq.nil⟩ (f4.trans f' (by simp; omega))⟩
end Go.Proofs.Ytmlhdmnnijapjaa.V

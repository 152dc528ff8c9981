/- Programs compared: one and the same program, told twice. No condition. -/
import Derived.Test.YtmlhdmnnijapjaaClassM
import Derived.Test.YtmlhdmnnijapjaaClassE
import Derived.Test.YtmlhdmnnijapjaaGClsM
import Derived.Laws.StructEq
namespace Go.Proofs.Ytmlhdmnnijapjaa.V
open Go Go.RowKit

theorem eqFld (w : World) (x y : Operand) (s : ByteArray) (n : Int) :
    Sem.run Try.prog (eqGuard .neq 77 x y (.agg #[.string s, .int .i64 n]) (.agg #[.string s, .int .i64 n])) w = .ok () w ∧ Sem.run Try.prog (Op.equal 77 (.agg #[.string s, .int .i64 n]) (.agg #[.string s, .int .i64 n])) w = .ok true w := by
  refine ⟨run_eqGuard_agg w .neq 77 x y _ _ (by kernel_rfl), ?_⟩
  have hu : Try.prog.underlying 77 = some (.struct (Try.prog.fieldsOf 77)) := by kernel_rfl
  refine (run_equalIn_struct (P := Try.prog) w 9999 77 _ _ hu (by kernel_rfl)).trans ?_
  have hf : (Try.prog.fieldsOf 77).toList = [{ name := "Name", type := 9, offset := 0, embedded := false, tag := "", pkgPath := "", byteOffset := 0 }, { name := "Type", type := 3, offset := 1, embedded := false, tag := "", pkgPath := "", byteOffset := 16 }] := by kernel_rfl
  have pt : ∀ (t : TypeId) (cs : Array Value) (k : Nat) (v : Value), Sem.run Try.prog (isAgg t) w = .ok false w → cs[k]? = some v → Sem.run Try.prog (part t cs k) w = .ok v w := fun t cs k v ag hv => by
    unfold part
    rw [Sem.run_bind, ag]
    simp [hv]
  have p0 := pt 9 #[.string s, .int .i64 n] 0 (.string s) (by kernel_rfl) rfl
  have p1 := pt 3 #[.string s, .int .i64 n] 1 (.int .i64 n) (by kernel_rfl) rfl
  rw [hf]
  have eq3 : Sem.run Try.prog (Op.equalIn 9999 3 (.int .i64 n) (.int .i64 n)) w = .ok (n == n) w := run_equalIn_int w 9998 3 .i64 .i64 n n (by kernel_rfl)
  have eq9 : Sem.run Try.prog (Op.equalIn 9999 9 (.string s) (.string s)) w = .ok (s.toList == s.toList) w := run_equalIn_string w 9998 9 s s (by kernel_rfl)
  simp only [Op.eqFields]
  have n0 : ("Name" : String) ≠ "_" := by decide
  have n1 : ("Type" : String) ≠ "_" := by decide
  rw [if_pos n0, if_pos n1]
  rw [beq_self_eq_true] at eq9 eq3
  simp only [Sem.run_bind, p0, p1, Result.andThen_ok]
  rw [eq9]
  simp [p1, eq3]

theorem eqIns (w : World) (x y : Operand) (a b c : Int) :
    Sem.run Try.prog (eqGuard .neq 87 x y (.agg #[.int .i64 a, .int .i64 b, .int .i64 c]) (.agg #[.int .i64 a, .int .i64 b, .int .i64 c])) w = .ok () w ∧ Sem.run Try.prog (Op.equal 87 (.agg #[.int .i64 a, .int .i64 b, .int .i64 c]) (.agg #[.int .i64 a, .int .i64 b, .int .i64 c])) w = .ok true w := by
  refine ⟨run_eqGuard_agg w .neq 87 x y _ _ (by kernel_rfl), ?_⟩
  have hu : Try.prog.underlying 87 = some (.struct (Try.prog.fieldsOf 87)) := by kernel_rfl
  refine (run_equalIn_struct (P := Try.prog) w 9999 87 _ _ hu (by kernel_rfl)).trans ?_
  have hf : (Try.prog.fieldsOf 87).toList = [{ name := "Op", type := 3, offset := 0, embedded := false, tag := "", pkgPath := "", byteOffset := 0 }, { name := "A", type := 3, offset := 1, embedded := false, tag := "", pkgPath := "", byteOffset := 8 }, { name := "B", type := 3, offset := 2, embedded := false, tag := "", pkgPath := "", byteOffset := 16 }] := by kernel_rfl
  have pt : ∀ (t : TypeId) (cs : Array Value) (k : Nat) (v : Value), Sem.run Try.prog (isAgg t) w = .ok false w → cs[k]? = some v → Sem.run Try.prog (part t cs k) w = .ok v w := fun t cs k v ag hv => by
    unfold part
    rw [Sem.run_bind, ag]
    simp [hv]
  have p0 := pt 3 #[.int .i64 a, .int .i64 b, .int .i64 c] 0 _ (by kernel_rfl) rfl
  have p1 := pt 3 #[.int .i64 a, .int .i64 b, .int .i64 c] 1 _ (by kernel_rfl) rfl
  have p2 := pt 3 #[.int .i64 a, .int .i64 b, .int .i64 c] 2 _ (by kernel_rfl) rfl
  rw [hf]
  have eq3 : ∀ n, Sem.run Try.prog (Op.equalIn 9999 3 (.int .i64 n) (.int .i64 n)) w = .ok (n == n) w := fun n => run_equalIn_int w 9998 3 .i64 .i64 n n (by kernel_rfl)
  simp only [Op.eqFields]
  have n0 : ("Op" : String) ≠ "_" := by decide
  have n1 : ("A" : String) ≠ "_" := by decide
  have n2 : ("B" : String) ≠ "_" := by decide
  rw [if_pos n0, if_pos n1, if_pos n2]
  simp only [Sem.run_bind, p0, p1, p2, eq3, Result.andThen_ok]
  simp [p1, p2, eq3]

theorem eqHnd (w : World) (x y : Operand) (a b c d : Int) :
    Sem.run Try.prog (eqGuard .neq 91 x y (.agg #[.int .i64 a, .int .i64 b, .int .i64 c, .int .i64 d]) (.agg #[.int .i64 a, .int .i64 b, .int .i64 c, .int .i64 d])) w = .ok () w ∧ Sem.run Try.prog (Op.equal 91 (.agg #[.int .i64 a, .int .i64 b, .int .i64 c, .int .i64 d]) (.agg #[.int .i64 a, .int .i64 b, .int .i64 c, .int .i64 d])) w = .ok true w := by
  refine ⟨run_eqGuard_agg w .neq 91 x y _ _ (by kernel_rfl), ?_⟩
  have hu : Try.prog.underlying 91 = some (.struct (Try.prog.fieldsOf 91)) := by kernel_rfl
  refine (run_equalIn_struct (P := Try.prog) w 9999 91 _ _ hu (by kernel_rfl)).trans ?_
  have hf : (Try.prog.fieldsOf 91).toList = [{ name := "From", type := 3, offset := 0, embedded := false, tag := "", pkgPath := "", byteOffset := 0 }, { name := "To", type := 3, offset := 1, embedded := false, tag := "", pkgPath := "", byteOffset := 8 }, { name := "At", type := 3, offset := 2, embedded := false, tag := "", pkgPath := "", byteOffset := 16 },
    { name := "Class", type := 3, offset := 3, embedded := false, tag := "", pkgPath := "", byteOffset := 24 }] := by kernel_rfl
  have pt : ∀ (t : TypeId) (cs : Array Value) (k : Nat) (v : Value), Sem.run Try.prog (isAgg t) w = .ok false w → cs[k]? = some v → Sem.run Try.prog (part t cs k) w = .ok v w := fun t cs k v ag hv => by
    unfold part
    rw [Sem.run_bind, ag]
    simp [hv]
  have p0 := pt 3 #[.int .i64 a, .int .i64 b, .int .i64 c, .int .i64 d] 0 _ (by kernel_rfl) rfl
  have p1 := pt 3 #[.int .i64 a, .int .i64 b, .int .i64 c, .int .i64 d] 1 _ (by kernel_rfl) rfl
  have p2 := pt 3 #[.int .i64 a, .int .i64 b, .int .i64 c, .int .i64 d] 2 _ (by kernel_rfl) rfl
  have p3 := pt 3 #[.int .i64 a, .int .i64 b, .int .i64 c, .int .i64 d] 3 _ (by kernel_rfl) rfl
  rw [hf]
  have eq3 : ∀ n, Sem.run Try.prog (Op.equalIn 9999 3 (.int .i64 n) (.int .i64 n)) w = .ok (n == n) w := fun n => run_equalIn_int w 9998 3 .i64 .i64 n n (by kernel_rfl)
  simp only [Op.eqFields]
  have n0 : ("From" : String) ≠ "_" := by decide
  have n1 : ("To" : String) ≠ "_" := by decide
  have n2 : ("At" : String) ≠ "_" := by decide
  have n3 : ("Class" : String) ≠ "_" := by decide
  rw [if_pos n0, if_pos n1, if_pos n2, if_pos n3]
  simp only [Sem.run_bind, p0, p1, p2, p3, eq3, Result.andThen_ok]
  simp [p1, p2, p3, eq3]

/-- Anywhere. -/
abbrev Al : Nat → Prop := fun _ => True
theorem add0 (q : Addr) : Addr.add q 0 = q := by simp [Addr.add]
theorem same_al {w w' : World} (f : ∀ S, Fr S w w') : SameU Al w w' := SameU.of_fr (f []) (by simp)

theorem rSeq.get2 {α : Type} {U U' : Nat → Prop} {m m' : Prop} {w : World} {k : Nat} {R R' : List Value → α → Prop} {a a' : Option Addr} {l l' : Nat} {xs : List α} (h : rSeq U m w k R a l xs) (h' : rSeq U' m' w k R' a' l' xs) {i : Int} (h0 : 0 ≤ i) (h1 : i < (xs.length : Int)) :
    ∃ x p vs p' vs', x ∈ xs ∧ a = some p ∧ a' = some p' ∧ CellsAt w (Addr.add p (Int.toNat i * k)) vs ∧ CellsAt w (Addr.add p' (Int.toNat i * k)) vs' ∧ R vs x ∧ R' vs' x := by
  have hlt : i.toNat < xs.length := by omega
  obtain ⟨p, vs, g1, _, _, _, g5, _, g7⟩ := h.2 i.toNat _ (List.getElem?_eq_getElem hlt)
  obtain ⟨p', vs', g1', _, _, _, g5', _, g7'⟩ := h'.2 i.toNat _ (List.getElem?_eq_getElem hlt)
  exact ⟨_, p, vs, p', vs', List.getElem_mem hlt, g1, g1', g5, g5', g7, g7'⟩

section
variable {w : World} {m m' : Prop}

theorem same55 {a a' : Option Addr} {l c l' c' : Nat} {xs : List Int} (D : rSeq Al m w 1 RInt a l xs) (D' : rSeq Al m' w 1 RInt a' l' xs) (hs : smL xs) {K : Bool → World → Prop} (hK : ∀ w', (∀ S, Fr S w w') → K true w') : C55 a l c a' l' c' w K := by
  have e := D.1
  have e' := D'.1
  unfold smL at hs
  refine r_f55 _ _ _ _ _ _ _ _ (IfB.nyes (by omega) ⟨fun n w' => 0 ≤ n ∧ (∀ S, Fr S w w'), fun n _ => (l - n).toNat, ⟨Int.le_refl _, fun S => Fr.refl S w⟩, ?_⟩)
  rintro - n w4 ⟨hn, f4⟩
  refine IfB.dec (fun hlt w5 d5 => ?_) (fun _ => hK w4 f4)
  have f5 : ∀ S, Fr S w w5 := fun S => (f4 S).more (d5.fr S)
  obtain ⟨x, p, vs, p', vs', hx, rfl, rfl, h1, h2, h3, h4⟩ := (rel_seq1 (U' := Al) D (same_al f5) (f5 []).size fun _ _ _ => trivial).get2 (rel_seq1 (U' := Al) D' (same_al f5) (f5 []).size fun _ _ _ => trivial) hn (by omega)
  cases h3
  cases h4
  refine ⟨⟨hn, hlt⟩, x, by have := h1 0 _ rfl; rwa [add0] at this, ⟨hn, by omega⟩, x, by have := h2 0 _ rfl; rwa [add0] at this, IfB.nyes rfl ⟨fit64 (by omega) (by omega), ⟨by omega, f5⟩, by (try dsimp only); omega⟩⟩

theorem same56 {a a' : Option Addr} {l c l' c' : Nat} {xs : List Fld} (D : rSeq Al m w 2 RFld a l xs) (D' : rSeq Al m' w 2 RFld a' l' xs) (hs : smL xs) {K : Bool → World → Prop} (hK : ∀ w', (∀ S, Fr S w w') → K true w') : C56 a l c a' l' c' w K := by
  have e := D.1
  have e' := D'.1
  unfold smL at hs
  refine r_f56 _ _ _ _ _ _ _ _ (IfB.nyes (by omega) ⟨fun n w' => 0 ≤ n ∧ (∀ S, Fr S w w'), fun n _ => (l - n).toNat, ⟨Int.le_refl _, fun S => Fr.refl S w⟩, ?_⟩)
  rintro - n w4 ⟨hn, f4⟩
  refine IfB.dec (fun hlt w5 d5 => ?_) (fun _ => hK w4 f4)
  have f5 : ∀ S, Fr S w w5 := fun S => (f4 S).more (d5.fr S)
  obtain ⟨x, p, vs, p', vs', hx, rfl, rfl, h1, h2, h3, h4⟩ := (rel_seq1 (U' := Al) D (same_al f5) (f5 []).size fun _ _ _ => trivial).get2 (rel_seq1 (U' := Al) D' (same_al f5) (f5 []).size fun _ _ _ => trivial) hn (by omega)
  cases h3
  cases h4
  refine ⟨⟨hn, hlt⟩, _, _, h1, ⟨hn, by omega⟩, _, _, h2, (eqFld _ _ _ _ _).1, true, (eqFld _ (.tmp 0) (.tmp 0) _ _).2, ⟨fit64 (by omega) (by omega), ⟨by omega, f5⟩, by (try dsimp only); omega⟩⟩

theorem same57 {a1 a2 a3 a4 a1' a2' a3' a4' : Option Addr} {l1 c1 l2 c2 l3 c3 l4 c4 l1' c1' l2' c2' l3' c3' l4' c4' : Nat} (x : Mth) (hs : x.sm)
    (d1 : rSeq Al m w 1 RInt a1 l1 x.args) (d2 : rSeq Al m w 3 RIns a2 l2 x.code) (d3 : rSeq Al m w 4 RHnd a3 l3 x.tab) (d4 : rSeq Al m w 3 (RMpe Al m w) a4 l4 x.maps)
    (d1' : rSeq Al m' w 1 RInt a1' l1' x.args) (d2' : rSeq Al m' w 3 RIns a2' l2' x.code) (d3' : rSeq Al m' w 4 RHnd a3' l3' x.tab) (d4' : rSeq Al m' w 3 (RMpe Al m' w) a4' l4' x.maps) {K : Bool → World → Prop} (hK : ∀ w', (∀ S, Fr S w w') → K true w') :
    C57 x.name x.stat a1 l1 c1 x.ret x.locs x.stk a2 l2 c2 a3 l3 c3 a4 l4 c4 x.name x.stat a1' l1' c1' x.ret x.locs x.stk a2' l2' c2' a3' l3' c3' a4' l4' c4' w K := by
  obtain ⟨q1, q2, q3, q4, q5⟩ := hs
  have e1 := d1.1; have e2 := d2.1; have e3 := d3.1; have e4 := d4.1
  have e1' := d1'.1; have e2' := d2'.1; have e3' := d3'.1; have e4' := d4'.1
  unfold smL at q2 q3 q4
  refine r_f57 _ _ _ _ _ _ _ _ _ _ _ _ _ _ _ _ _ _ _ _ _ _ _ _ _ _ _ _ _ _ _ _ _ _ _ _ fun b1 w2 n1 b3 w4 n4 => ?_
  have f4 : ∀ S, Fr S w w4 := fun S => (n1.fr S).more (n4.fr S)
  have B1 := n1.blk.fr (n4.fr []) (by simp)
  have B3 := n4.blk
  have car : ∀ {w'}, (∀ S, Fr S w4 w') → (∀ S, Fr S w w') := fun f S => (f4 S).more (f S)
  have carB : ∀ {w' b cs}, (∀ S, Fr S w4 w') → Blk w4 b cs → Blk w' b cs := fun f B => B.fr (f []) (by simp)
  refine ⟨fun w' => ∀ S, Fr S w4 w', ?_, ?_⟩
  · refine ⟨_, B1.cell rfl, _, B3.cell rfl, ifb_nyes (by simp) ⟨_, B1.cell rfl, _, B3.cell rfl, ifb_nyes (by simp) ⟨_, _, _, B1.cell rfl, _, _, _, B3.cell rfl, ?_⟩⟩⟩
    refine same55 (rel_seq1 d1 (same_al f4) (f4 []).size fun _ _ _ => trivial) (rel_seq1 d1' (same_al f4) (f4 []).size fun _ _ _ => trivial) q1 fun w14 f14 => ifb_nyes rfl ?_
    have C1 := carB f14 B1
    have C3 := carB f14 B3
    exact ⟨_, C1.cell rfl, _, C3.cell rfl, IfB.nyes rfl ⟨_, C1.cell rfl, _, C3.cell rfl, IfB.nyes rfl ⟨_, C1.cell rfl, _, C3.cell rfl, IfB.nyes rfl ⟨_, _, _, C1.cell rfl, _, _, _, C3.cell rfl, IfB.nyes (by omega) ⟨_, _, _, C1.cell rfl, _, _, _, C3.cell rfl, IfB.nyes (by omega) ⟨_, _, _, C1.cell rfl, _, _, _, C3.cell rfl, IfB.nyes (by omega) f14⟩⟩⟩⟩⟩⟩
  rintro - w6 f6
  refine ⟨fun n w' => 0 ≤ n ∧ (∀ S, Fr S w4 w'), fun n _ => (l2 - n).toNat, ⟨Int.le_refl _, f6⟩, ?_⟩
  rintro - n w30 ⟨hn, f30⟩
  refine ⟨_, _, _, (carB f30 B1).cell rfl, IfB.dec (fun hlt w32 d32 => ?_) (fun _ => ?_)⟩
  · have f32 : ∀ S, Fr S w4 w32 := fun S => (f30 S).more (d32.fr S)
    have g := car f32
    obtain ⟨y, p, vs, p', vs', hy, rfl, rfl, h1, h2, h3, h4⟩ := (rel_seq1 (U' := Al) d2 (same_al g) (g []).size fun _ _ _ => trivial).get2 (rel_seq1 (U' := Al) d2' (same_al g) (g []).size fun _ _ _ => trivial) hn (by omega)
    cases h3
    cases h4
    exact ⟨_, _, _, (carB f32 B1).cell rfl, PtrOK.of rfl ⟨⟨hn, hlt⟩, _, _, _, h1, _, _, _, (carB f32 B3).cell rfl, PtrOK.of rfl ⟨⟨hn, by omega⟩, _, _, _, h2, (eqIns _ _ _ _ _ _).1, true, (eqIns _ (.tmp 0) (.tmp 0) _ _ _).2, ⟨fit64 (by omega) (by omega), ⟨by omega, f32⟩, by (try dsimp only); omega⟩⟩⟩⟩
  refine ⟨fun n w' => 0 ≤ n ∧ (∀ S, Fr S w4 w'), fun n _ => (l3 - n).toNat, ⟨Int.le_refl _, f30⟩, ?_⟩
  rintro - n w47 ⟨hn, f47⟩
  refine ⟨_, _, _, (carB f47 B1).cell rfl, IfB.dec (fun hlt w49 d49 => ?_) (fun _ => ?_)⟩
  · have f49 : ∀ S, Fr S w4 w49 := fun S => (f47 S).more (d49.fr S)
    have g := car f49
    obtain ⟨y, p, vs, p', vs', hy, rfl, rfl, h1, h2, h3, h4⟩ := (rel_seq1 (U' := Al) d3 (same_al g) (g []).size fun _ _ _ => trivial).get2 (rel_seq1 (U' := Al) d3' (same_al g) (g []).size fun _ _ _ => trivial) hn (by omega)
    cases h3
    cases h4
    exact ⟨_, _, _, (carB f49 B1).cell rfl, PtrOK.of rfl ⟨⟨hn, hlt⟩, _, _, _, _, h1, _, _, _, (carB f49 B3).cell rfl, PtrOK.of rfl ⟨⟨hn, by omega⟩, _, _, _, _, h2, (eqHnd _ _ _ _ _ _ _).1, true, (eqHnd _ (.tmp 0) (.tmp 0) _ _ _ _).2, ⟨fit64 (by omega) (by omega), ⟨by omega, f49⟩, by (try dsimp only); omega⟩⟩⟩⟩
  refine ⟨fun n w' => 0 ≤ n ∧ (∀ S, Fr S w4 w'), fun n _ => (l4 - n).toNat, ⟨Int.le_refl _, f47⟩, ?_⟩
  rintro - n w66 ⟨hn, f66⟩
  refine ⟨_, _, _, (carB f66 B1).cell rfl, IfB.dec (fun hlt w68 d68 => ?_) (fun _ => hK w66 (car f66))⟩
  have f68 : ∀ S, Fr S w4 w68 := fun S => (f66 S).more (d68.fr S)
  have g := car f68
  obtain ⟨y, p, vs, p', vs', hy, rfl, rfl, h1, h2, h3, h4⟩ := (rel_seq (U' := Al) rel_mpe d4 (same_al g) (g []).size fun _ _ _ => trivial).get2 (rel_seq (U' := Al) rel_mpe d4' (same_al g) (g []).size fun _ _ _ => trivial) hn (by omega)
  obtain ⟨z1, k1, o1, z2, k2, o2, rfl, g1, g2⟩ := h3
  obtain ⟨z1', k1', o1', z2', k2', o2', rfl, g1', g2'⟩ := h4
  obtain ⟨s1, s2⟩ := q5 y hy
  refine ⟨_, _, _, (carB f68 B1).cell rfl, PtrOK.of rfl ⟨⟨hn, hlt⟩, _, h1 0 _ rfl, _, _, _, (carB f68 B3).cell rfl, PtrOK.of rfl ⟨⟨hn, by omega⟩, _, h2 0 _ rfl, IfB.nyes rfl ⟨_, _, _, (carB f68 B1).cell rfl, PtrOK.of rfl ⟨⟨hn, hlt⟩, _, _, _, h1 1 _ rfl, _, _, _, (carB f68 B3).cell rfl, PtrOK.of rfl ⟨⟨hn, by omega⟩, _, _, _, h2 1 _ rfl, ?_⟩⟩⟩⟩⟩⟩
  refine same55 g1 g1' s1 fun w82 f82 => ifb_nyes rfl ?_
  have v82 : ∀ S, Fr S w4 w82 := fun S => (f68 S).more (f82 S)
  have h1 := h1.same (U := Al) (same_al f82) trivial
  have h2 := h2.same (U := Al) (same_al f82) trivial
  refine ⟨_, _, _, (carB v82 B1).cell rfl, PtrOK.of rfl ⟨⟨hn, hlt⟩, _, _, _, h1 2 _ rfl, _, _, _, (carB v82 B3).cell rfl, PtrOK.of rfl ⟨⟨hn, by omega⟩, _, _, _, h2 2 _ rfl, ?_⟩⟩⟩
  refine same55 (rel_seq1 g2 (same_al f82) (f82 []).size fun _ _ _ => trivial) (rel_seq1 g2' (same_al f82) (f82 []).size fun _ _ _ => trivial) s2 fun w90 f90 => ifb_nyes rfl ⟨fit64 (by omega) (by omega), ⟨by omega, fun S => (v82 S).more (f90 S)⟩, by (try dsimp only); omega⟩
end
end Go.Proofs.Ytmlhdmnnijapjaa.V

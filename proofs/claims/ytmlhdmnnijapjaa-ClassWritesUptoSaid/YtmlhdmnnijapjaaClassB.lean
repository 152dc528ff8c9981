/- Arguments that are programs. (Printed by gen6.py.) No condition. -/
import Derived.Test.YtmlhdmnnijapjaaClassS
import Derived.Test.YtmlhdmnnijapjaaArgs
import Derived.OpenShut
namespace Go.Proofs.Ytmlhdmnnijapjaa.V
open Go Go.RowKit Go.WideShapes Go.ChangeShapes

section
variable {H : Type} {enc : TypeId × Value → H} {w : World} {spare : Nat → Bool} {held : Bool}

theorem open_seq {α : Type} {t e : TypeId} {k : Nat} (ht : Try.prog.underlying t = some (.slice e)) (hc : Try.prog.cellsOf e = k) (hk : 0 < k) {R : List Value → α → Prop} {ok : α → Prop}
    (hE : ∀ fuel cs x, DataW.trod enc Try.prog w 0 spare held fuel e cs = some x → ∃ y, R cs y ∧ ok y) {fuel : Nat} {cs : List Value} {x : DataW H × List MemPlace} (h : DataW.trod enc Try.prog w 0 spare held fuel t cs = some x) :
    ∃ a l c ys, cs = [.slice a l c] ∧ rSeq Al False w k R a l ys ∧ ∀ y ∈ ys, ok y := by
  rcases DataW.trod_slice ht h with ⟨rfl, _⟩ | ⟨a, len, cap, elems, rest, n, _, rfl, _, _, hl, hm, hlen, hel, _, _⟩
  · exact ⟨none, 0, 0, [], rfl, rSeq.nil, by simp⟩
  rw [hc] at hel
  have each : ∀ i, i < len → ∃ y, (∃ vs, vs.length = k ∧ CellsAt w (Addr.add a (i * k)) vs ∧ R vs y) ∧ ok y := by
    intro i hi
    have h2 := hel i hi
    have h3 : elems[i]? = some (elems[i]'(by omega)) := List.getElem?_eq_getElem (by omega)
    rw [h3, Option.bind_eq_some_iff] at h2
    obtain ⟨vs, hcs, h2⟩ := h2
    obtain ⟨_, hcl, hcell⟩ := World.cells?_some hcs
    obtain ⟨y, h4, h5⟩ := hE _ _ _ h2
    refine ⟨y, ⟨vs, hcl, fun j v hj => ?_, h4⟩, h5⟩
    have hjk : j < k := by have := (List.getElem?_eq_some_iff.1 hj).1; omega
    rw [hcell j hjk]; exact hj
  refine ⟨some a, len, cap, List.ofFn fun i : Fin len => Classical.choose (each i i.2), rfl, ⟨by simp, fun i y hy => ?_⟩, fun y hy => ?_⟩
  · have hi : i < len := by have := (List.getElem?_eq_some_iff.1 hy).1; simpa using this
    have e : y = Classical.choose (each i hi) := by
      rw [List.getElem?_ofFn, dif_pos hi] at hy
      cases hy; rfl
    obtain ⟨⟨vs, h1, h2, h3⟩, _⟩ := Classical.choose_spec (each i hi)
    rw [← e] at h3
    refine ⟨a, vs, rfl, trivial, ?_, h1, h2, fun h => h.elim, h3⟩
    have := cell_low (h2 0 _ (List.getElem?_eq_getElem (by omega)))
    rwa [add_blk, add_blk] at this
  · obtain ⟨i, rfl⟩ := List.mem_ofFn.1 hy
    exact (Classical.choose_spec (each i i.2)).2

theorem fieldAt {t ft : TypeId} {fuel : Nat} {cs : List Value} {x : DataW H × List MemPlace} (i off c : Nat) (ht : Try.prog.underlying t = some (.struct (Try.prog.fieldsOf t))) (h : DataW.trod enc Try.prog w 0 spare held fuel t cs = some x)
    (hf : ((Try.prog.fieldsOf t)[i]?).map (fun f => (f.type, f.offset)) = some (ft, off)) (hc : Try.prog.cellsOf ft = c) : ∃ n y, DataW.trod enc Try.prog w 0 spare held n ft ((cs.drop off).take c) = some y := by
  obtain ⟨xs, n, _, _, _, hl, hfs⟩ := DataW.trod_struct ht h
  rw [Option.map_eq_some_iff] at hf
  obtain ⟨f, hf, e⟩ := hf
  cases e
  have := hfs i f hf
  have hi : i < xs.length := by
    rw [hl]
    exact (Array.getElem?_eq_some_iff.1 hf).1
  rw [List.getElem?_eq_getElem hi, hc] at this
  exact ⟨n, _, this⟩

theorem open_i {fuel : Nat} {cs : List Value} {x : DataW H × List MemPlace} (h : DataW.trod enc Try.prog w 0 spare held fuel 3 cs = some x) : ∃ n, cs = [.int .i64 n] ∧ I6 n := by
  obtain ⟨n, rfl, _, hw⟩ := DataW.trod_int (k := .i64) (by kernel_rfl) h
  exact ⟨n, rfl, wf_i64 hw⟩
theorem open_int_R {fuel : Nat} {cs : List Value} {x : DataW H × List MemPlace} (h : DataW.trod enc Try.prog w 0 spare held fuel 3 cs = some x) : ∃ n, RInt cs n ∧ I6 n := open_i h
theorem open_s {fuel : Nat} {cs : List Value} {x : DataW H × List MemPlace} (h : DataW.trod enc Try.prog w 0 spare held fuel 9 cs = some x) : ∃ s, cs = [.string s] := by
  obtain ⟨s, rfl, _⟩ := DataW.trod_string (by kernel_rfl) h
  exact ⟨s, rfl⟩
theorem open_b {fuel : Nat} {cs : List Value} {x : DataW H × List MemPlace} (h : DataW.trod enc Try.prog w 0 spare held fuel 4 cs = some x) : ∃ b, cs = [.bool b] := by
  obtain ⟨s, rfl, _⟩ := DataW.trod_bool (by kernel_rfl) h
  exact ⟨s, rfl⟩

theorem len2 {l : List Value} (h : l.length = 2) : ∃ x0 x1, l = [x0, x1] := by
  match l, h with
  | [x0, x1], _ => exact ⟨x0, x1, rfl⟩
theorem len3 {l : List Value} (h : l.length = 3) : ∃ x0 x1 x2, l = [x0, x1, x2] := by
  match l, h with
  | [x0, x1, x2], _ => exact ⟨x0, x1, x2, rfl⟩
theorem len4 {l : List Value} (h : l.length = 4) : ∃ x0 x1 x2 x3, l = [x0, x1, x2, x3] := by
  match l, h with
  | [x0, x1, x2, x3], _ => exact ⟨x0, x1, x2, x3, rfl⟩
theorem len8 {l : List Value} (h : l.length = 8) : ∃ x0 x1 x2 x3 x4 x5 x6 x7, l = [x0, x1, x2, x3, x4, x5, x6, x7] := by
  match l, h with
  | [x0, x1, x2, x3, x4, x5, x6, x7], _ => exact ⟨x0, x1, x2, x3, x4, x5, x6, x7, rfl⟩
theorem len9 {l : List Value} (h : l.length = 9) : ∃ x0 x1 x2 x3 x4 x5 x6 x7 x8, l = [x0, x1, x2, x3, x4, x5, x6, x7, x8] := by
  match l, h with
  | [x0, x1, x2, x3, x4, x5, x6, x7, x8], _ => exact ⟨x0, x1, x2, x3, x4, x5, x6, x7, x8, rfl⟩
theorem open_Fld {fuel : Nat} {cs : List Value} {x : DataW H × List MemPlace} (h : DataW.trod enc Try.prog w 0 spare held fuel 77 cs = some x) : ∃ y : Fld, RFld cs y ∧ I6 y.ty := by
  obtain ⟨n0, y0, h0⟩ := fieldAt (ft := 9) 0 0 1 (by kernel_rfl) h (by kernel_rfl) (by kernel_rfl)
  obtain ⟨n1, y1, h1⟩ := fieldAt (ft := 3) 1 1 1 (by kernel_rfl) h (by kernel_rfl) (by kernel_rfl)
  obtain ⟨xs, n, _, _, hl, _⟩ := DataW.trod_struct (fs := Try.prog.fieldsOf 77) (by kernel_rfl) h
  have hl' : cs.length = 2 := hl.trans (by kernel_rfl)
  obtain ⟨x0, x1, rfl⟩ := len2 hl'
  obtain ⟨s0, e0⟩ := open_s (cs := [x0]) h0
  cases e0
  obtain ⟨i1, e1, w1⟩ := open_i (cs := [x1]) h1
  cases e1
  exact ⟨⟨s0, i1⟩, rfl, w1⟩
theorem open_Ins {fuel : Nat} {cs : List Value} {x : DataW H × List MemPlace} (h : DataW.trod enc Try.prog w 0 spare held fuel 87 cs = some x) : ∃ y : Ins, RIns cs y ∧ y.ok := by
  obtain ⟨n0, y0, h0⟩ := fieldAt (ft := 3) 0 0 1 (by kernel_rfl) h (by kernel_rfl) (by kernel_rfl)
  obtain ⟨n1, y1, h1⟩ := fieldAt (ft := 3) 1 1 1 (by kernel_rfl) h (by kernel_rfl) (by kernel_rfl)
  obtain ⟨n2, y2, h2⟩ := fieldAt (ft := 3) 2 2 1 (by kernel_rfl) h (by kernel_rfl) (by kernel_rfl)
  obtain ⟨xs, n, _, _, hl, _⟩ := DataW.trod_struct (fs := Try.prog.fieldsOf 87) (by kernel_rfl) h
  have hl' : cs.length = 3 := hl.trans (by kernel_rfl)
  obtain ⟨x0, x1, x2, rfl⟩ := len3 hl'
  obtain ⟨i0, e0, w0⟩ := open_i (cs := [x0]) h0
  cases e0
  obtain ⟨i1, e1, w1⟩ := open_i (cs := [x1]) h1
  cases e1
  obtain ⟨i2, e2, w2⟩ := open_i (cs := [x2]) h2
  cases e2
  exact ⟨⟨i0, i1, i2⟩, rfl, ⟨w0, w1, w2⟩⟩
theorem open_Hnd {fuel : Nat} {cs : List Value} {x : DataW H × List MemPlace} (h : DataW.trod enc Try.prog w 0 spare held fuel 91 cs = some x) : ∃ y : Hnd, RHnd cs y ∧ y.ok := by
  obtain ⟨n0, y0, h0⟩ := fieldAt (ft := 3) 0 0 1 (by kernel_rfl) h (by kernel_rfl) (by kernel_rfl)
  obtain ⟨n1, y1, h1⟩ := fieldAt (ft := 3) 1 1 1 (by kernel_rfl) h (by kernel_rfl) (by kernel_rfl)
  obtain ⟨n2, y2, h2⟩ := fieldAt (ft := 3) 2 2 1 (by kernel_rfl) h (by kernel_rfl) (by kernel_rfl)
  obtain ⟨n3, y3, h3⟩ := fieldAt (ft := 3) 3 3 1 (by kernel_rfl) h (by kernel_rfl) (by kernel_rfl)
  obtain ⟨xs, n, _, _, hl, _⟩ := DataW.trod_struct (fs := Try.prog.fieldsOf 91) (by kernel_rfl) h
  have hl' : cs.length = 4 := hl.trans (by kernel_rfl)
  obtain ⟨x0, x1, x2, x3, rfl⟩ := len4 hl'
  obtain ⟨i0, e0, w0⟩ := open_i (cs := [x0]) h0
  cases e0
  obtain ⟨i1, e1, w1⟩ := open_i (cs := [x1]) h1
  cases e1
  obtain ⟨i2, e2, w2⟩ := open_i (cs := [x2]) h2
  cases e2
  obtain ⟨i3, e3, w3⟩ := open_i (cs := [x3]) h3
  cases e3
  exact ⟨⟨i0, i1, i2, i3⟩, rfl, ⟨w0, w1, w2, w3⟩⟩
theorem open_Mpe {fuel : Nat} {cs : List Value} {x : DataW H × List MemPlace} (h : DataW.trod enc Try.prog w 0 spare held fuel 89 cs = some x) : ∃ y : Mpe, RMpe Al False w cs y ∧ y.ok := by
  obtain ⟨n0, y0, h0⟩ := fieldAt (ft := 3) 0 0 1 (by kernel_rfl) h (by kernel_rfl) (by kernel_rfl)
  obtain ⟨n1, y1, h1⟩ := fieldAt (ft := 38) 1 1 1 (by kernel_rfl) h (by kernel_rfl) (by kernel_rfl)
  obtain ⟨n2, y2, h2⟩ := fieldAt (ft := 38) 2 2 1 (by kernel_rfl) h (by kernel_rfl) (by kernel_rfl)
  obtain ⟨xs, n, _, _, hl, _⟩ := DataW.trod_struct (fs := Try.prog.fieldsOf 89) (by kernel_rfl) h
  have hl' : cs.length = 3 := hl.trans (by kernel_rfl)
  obtain ⟨x0, x1, x2, rfl⟩ := len3 hl'
  obtain ⟨i0, e0, w0⟩ := open_i (cs := [x0]) h0
  cases e0
  obtain ⟨a1, l1, c1, z1, e1, d1, o1⟩ := open_seq (R := RInt) (ok := I6) (k := 1) (cs := [x1]) (by kernel_rfl) (by kernel_rfl) (by decide) (fun _ _ _ h => open_int_R h) h1
  cases e1
  obtain ⟨a2, l2, c2, z2, e2, d2, o2⟩ := open_seq (R := RInt) (ok := I6) (k := 1) (cs := [x2]) (by kernel_rfl) (by kernel_rfl) (by decide) (fun _ _ _ h => open_int_R h) h2
  cases e2
  exact ⟨⟨i0, z1, z2⟩, ⟨a1, l1, c1, a2, l2, c2, rfl, d1, d2⟩, ⟨w0, o1, o2⟩⟩
theorem open_Mth {fuel : Nat} {cs : List Value} {x : DataW H × List MemPlace} (h : DataW.trod enc Try.prog w 0 spare held fuel 82 cs = some x) : ∃ y : Mth, RMth Al False w cs y ∧ y.ok := by
  obtain ⟨n0, y0, h0⟩ := fieldAt (ft := 9) 0 0 1 (by kernel_rfl) h (by kernel_rfl) (by kernel_rfl)
  obtain ⟨n1, y1, h1⟩ := fieldAt (ft := 4) 1 1 1 (by kernel_rfl) h (by kernel_rfl) (by kernel_rfl)
  obtain ⟨n2, y2, h2⟩ := fieldAt (ft := 38) 2 2 1 (by kernel_rfl) h (by kernel_rfl) (by kernel_rfl)
  obtain ⟨n3, y3, h3⟩ := fieldAt (ft := 3) 3 3 1 (by kernel_rfl) h (by kernel_rfl) (by kernel_rfl)
  obtain ⟨n4, y4, h4⟩ := fieldAt (ft := 3) 4 4 1 (by kernel_rfl) h (by kernel_rfl) (by kernel_rfl)
  obtain ⟨n5, y5, h5⟩ := fieldAt (ft := 3) 5 5 1 (by kernel_rfl) h (by kernel_rfl) (by kernel_rfl)
  obtain ⟨n6, y6, h6⟩ := fieldAt (ft := 78) 6 6 1 (by kernel_rfl) h (by kernel_rfl) (by kernel_rfl)
  obtain ⟨n7, y7, h7⟩ := fieldAt (ft := 79) 7 7 1 (by kernel_rfl) h (by kernel_rfl) (by kernel_rfl)
  obtain ⟨n8, y8, h8⟩ := fieldAt (ft := 80) 8 8 1 (by kernel_rfl) h (by kernel_rfl) (by kernel_rfl)
  obtain ⟨xs, n, _, _, hl, _⟩ := DataW.trod_struct (fs := Try.prog.fieldsOf 82) (by kernel_rfl) h
  have hl' : cs.length = 9 := hl.trans (by kernel_rfl)
  obtain ⟨x0, x1, x2, x3, x4, x5, x6, x7, x8, rfl⟩ := len9 hl'
  obtain ⟨s0, e0⟩ := open_s (cs := [x0]) h0
  cases e0
  obtain ⟨b1, e1⟩ := open_b (cs := [x1]) h1
  cases e1
  obtain ⟨a2, l2, c2, z2, e2, d2, o2⟩ := open_seq (R := RInt) (ok := I6) (k := 1) (cs := [x2]) (by kernel_rfl) (by kernel_rfl) (by decide) (fun _ _ _ h => open_int_R h) h2
  cases e2
  obtain ⟨i3, e3, w3⟩ := open_i (cs := [x3]) h3
  cases e3
  obtain ⟨i4, e4, w4⟩ := open_i (cs := [x4]) h4
  cases e4
  obtain ⟨i5, e5, w5⟩ := open_i (cs := [x5]) h5
  cases e5
  obtain ⟨a6, l6, c6, z6, e6, d6, o6⟩ := open_seq (R := RIns) (ok := Ins.ok) (k := 3) (cs := [x6]) (by kernel_rfl) (by kernel_rfl) (by decide) (fun _ _ _ h => open_Ins h) h6
  cases e6
  obtain ⟨a7, l7, c7, z7, e7, d7, o7⟩ := open_seq (R := RHnd) (ok := Hnd.ok) (k := 4) (cs := [x7]) (by kernel_rfl) (by kernel_rfl) (by decide) (fun _ _ _ h => open_Hnd h) h7
  cases e7
  obtain ⟨a8, l8, c8, z8, e8, d8, o8⟩ := open_seq (R := (RMpe Al False w)) (ok := Mpe.ok) (k := 3) (cs := [x8]) (by kernel_rfl) (by kernel_rfl) (by decide) (fun _ _ _ h => open_Mpe h) h8
  cases e8
  exact ⟨⟨s0, b1, z2, i3, i4, i5, z6, z7, z8⟩, ⟨a2, l2, c2, a6, l6, c6, a7, l7, c7, a8, l8, c8, rfl, d2, d6, d7, d8⟩, ⟨o2, w3, w4, w5, o6, o7, o8⟩⟩
theorem open_Cls {fuel : Nat} {cs : List Value} {x : DataW H × List MemPlace} (h : DataW.trod enc Try.prog w 0 spare held fuel 75 cs = some x) : ∃ y : Cls, RCls Al False w cs y ∧ y.ok := by
  obtain ⟨n0, y0, h0⟩ := fieldAt (ft := 9) 0 0 1 (by kernel_rfl) h (by kernel_rfl) (by kernel_rfl)
  obtain ⟨n1, y1, h1⟩ := fieldAt (ft := 4) 1 1 1 (by kernel_rfl) h (by kernel_rfl) (by kernel_rfl)
  obtain ⟨n2, y2, h2⟩ := fieldAt (ft := 4) 2 2 1 (by kernel_rfl) h (by kernel_rfl) (by kernel_rfl)
  obtain ⟨n3, y3, h3⟩ := fieldAt (ft := 3) 3 3 1 (by kernel_rfl) h (by kernel_rfl) (by kernel_rfl)
  obtain ⟨n4, y4, h4⟩ := fieldAt (ft := 38) 4 4 1 (by kernel_rfl) h (by kernel_rfl) (by kernel_rfl)
  obtain ⟨n5, y5, h5⟩ := fieldAt (ft := 72) 5 5 1 (by kernel_rfl) h (by kernel_rfl) (by kernel_rfl)
  obtain ⟨n6, y6, h6⟩ := fieldAt (ft := 72) 6 6 1 (by kernel_rfl) h (by kernel_rfl) (by kernel_rfl)
  obtain ⟨n7, y7, h7⟩ := fieldAt (ft := 73) 7 7 1 (by kernel_rfl) h (by kernel_rfl) (by kernel_rfl)
  obtain ⟨xs, n, _, _, hl, _⟩ := DataW.trod_struct (fs := Try.prog.fieldsOf 75) (by kernel_rfl) h
  have hl' : cs.length = 8 := hl.trans (by kernel_rfl)
  obtain ⟨x0, x1, x2, x3, x4, x5, x6, x7, rfl⟩ := len8 hl'
  obtain ⟨s0, e0⟩ := open_s (cs := [x0]) h0
  cases e0
  obtain ⟨b1, e1⟩ := open_b (cs := [x1]) h1
  cases e1
  obtain ⟨b2, e2⟩ := open_b (cs := [x2]) h2
  cases e2
  obtain ⟨i3, e3, w3⟩ := open_i (cs := [x3]) h3
  cases e3
  obtain ⟨a4, l4, c4, z4, e4, d4, o4⟩ := open_seq (R := RInt) (ok := I6) (k := 1) (cs := [x4]) (by kernel_rfl) (by kernel_rfl) (by decide) (fun _ _ _ h => open_int_R h) h4
  cases e4
  obtain ⟨a5, l5, c5, z5, e5, d5, o5⟩ := open_seq (R := RFld) (ok := (fun f : Fld => I6 f.ty)) (k := 2) (cs := [x5]) (by kernel_rfl) (by kernel_rfl) (by decide) (fun _ _ _ h => open_Fld h) h5
  cases e5
  obtain ⟨a6, l6, c6, z6, e6, d6, o6⟩ := open_seq (R := RFld) (ok := (fun f : Fld => I6 f.ty)) (k := 2) (cs := [x6]) (by kernel_rfl) (by kernel_rfl) (by decide) (fun _ _ _ h => open_Fld h) h6
  cases e6
  obtain ⟨a7, l7, c7, z7, e7, d7, o7⟩ := open_seq (R := (RMth Al False w)) (ok := Mth.ok) (k := 9) (cs := [x7]) (by kernel_rfl) (by kernel_rfl) (by decide) (fun _ _ _ h => open_Mth h) h7
  cases e7
  exact ⟨⟨s0, b1, b2, i3, z4, z5, z6, z7⟩, ⟨a4, l4, c4, a5, l5, c5, a6, l6, c6, a7, l7, c7, rfl, d4, d5, d6, d7⟩, ⟨w3, o4, o5, o6, o7⟩⟩
set_option maxRecDepth 100000 in
set_option linter.constructorNameAsVariable false in
theorem open_prg {b0 : Nat} {v : Value} {d : DataW H} {ps : List MemPlace} (hval : Value.okWide Try.prog w .any b0 54 v) (hd : DataW.Trod enc Try.prog w 0 spare held 54 v d ps) :
    ∃ a l c p, v = .agg #[.int .i64 p.main, .slice a l c] ∧ rPrg Al False w p.main a l p ∧ p.ok := by
  obtain ⟨cs, rfl, hcs⟩ := okWide_struct (fs := Try.prog.fieldsOf 54) (by kernel_rfl) hval
  obtain ⟨fuel, h⟩ := hd
  have e : Value.cells (.agg cs) = cs := rfl
  rw [e] at h
  obtain ⟨cs⟩ := cs
  obtain ⟨n0, y0, h0⟩ := fieldAt (ft := 3) 0 0 1 (by kernel_rfl) h (by kernel_rfl) (by kernel_rfl)
  obtain ⟨n1, y1, h1⟩ := fieldAt (ft := 52) 1 1 1 (by kernel_rfl) h (by kernel_rfl) (by kernel_rfl)
  obtain ⟨xs, n, _, _, hl, _⟩ := DataW.trod_struct (fs := Try.prog.fieldsOf 54) (by kernel_rfl) h
  have hl' : cs.length = 2 := hl.trans (by kernel_rfl)
  obtain ⟨x0, x1, rfl⟩ := len2 hl'
  obtain ⟨i0, e0, w0⟩ := open_i (cs := [x0]) h0
  cases e0
  obtain ⟨a1, l1, c1, z1, e1, d1, o1⟩ := open_seq (R := (RCls Al False w)) (ok := Cls.ok) (k := 8) (cs := [x1]) (by kernel_rfl) (by kernel_rfl) (by decide) (fun _ _ _ h => open_Cls h) h1
  cases e1
  exact ⟨a1, l1, c1, ⟨i0, z1⟩, rfl, ⟨rfl, d1⟩, w0, o1⟩
end
end Go.Proofs.Ytmlhdmnnijapjaa.V

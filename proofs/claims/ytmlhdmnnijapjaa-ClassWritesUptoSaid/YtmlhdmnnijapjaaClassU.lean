/- Programs compared: the whole. No condition. -/
import Derived.Test.YtmlhdmnnijapjaaClassT2
import Derived.Test.YtmlhdmnnijapjaaGClsN
namespace Go.Proofs.Ytmlhdmnnijapjaa.V
open Go Go.RowKit

theorem same31 {w : World} {m m' : Prop} {a a' : Option Addr} {l c l' c' : Nat} (p : Prg) (hs : p.sm) (D : rSeq Al m w 8 (RCls Al m w) a l p.clss) (D' : rSeq Al m' w 8 (RCls Al m' w) a' l' p.clss) {K : Bool → World → Prop} (hK : ∀ w', (∀ S, Fr S w w') → K true w') : C31 p.main a l c p.main a' l' c' w K := by
  obtain ⟨hs0, hs1⟩ := hs
  have e := D.1
  have e' := D'.1
  unfold smL at hs0
  refine r_f31 _ _ _ _ _ _ _ _ _ _ fun b1 w2 n1 b3 w4 n4 => ?_
  have f4 : ∀ S, Fr S w w4 := fun S => (n1.fr S).more (n4.fr S)
  have B1 := n1.blk.fr (n4.fr []) (by simp)
  have B3 := n4.blk
  have car : ∀ {w'}, (∀ S, Fr S w4 w') → (∀ S, Fr S w w') := fun f S => (f4 S).more (f S)
  have carB : ∀ {w0 w' b cs}, (∀ S, Fr S w0 w') → Blk w0 b cs → Blk w' b cs := fun f B => B.fr (f []) (by simp)
  refine ⟨fun w' => ∀ S, Fr S w4 w', ⟨_, B1.cell rfl, _, B3.cell rfl, IfB.nyes rfl ⟨_, _, _, B1.cell rfl, _, _, _, B3.cell rfl, IfB.nyes (by omega) (fun S => Fr.refl S _)⟩⟩, ?_⟩
  rintro - w6 f6
  refine ⟨fun n w' => 0 ≤ n ∧ (∀ S, Fr S w4 w'), fun n _ => (l - n).toNat, ⟨Int.le_refl _, f6⟩, ?_⟩
  rintro - n w14 ⟨hn, f14⟩
  refine ⟨_, _, _, (carB f14 B1).cell rfl, IfB.dec (fun hlt => ?_) (fun _ => hK w14 (car f14))⟩
  have g := car f14
  obtain ⟨x, p1, vs, p2, vs', hx, rfl, rfl, h1, h2, h3, h4⟩ := (rel_seq (U' := Al) rel_cls D (same_al g) (g []).size fun _ _ _ => trivial).get2 (rel_seq (U' := Al) rel_cls D' (same_al g) (g []).size fun _ _ _ => trivial) hn (by omega)
  obtain ⟨a1, l1, c1, a2, l2, c2, a3, l3, c3, a4, l4, c4, rfl, d1, d2, d3, d4⟩ := h3
  obtain ⟨a1', l1', c1', a2', l2', c2', a3', l3', c3', a4', l4', c4', rfl, d1', d2', d3', d4'⟩ := h4
  obtain ⟨q1, q2, q3, q4, q5⟩ := hs1 x hx
  unfold smL at q4
  refine ⟨_, two31 (carB f14 B1) (carB f14 B3) hn hlt (by omega) h1 h2 (Two w14 [.string x.name, .bool x.face, .bool x.fin, .int .i64 x.sup, .slice a1 l1 c1, .slice a2 l2 c2, .slice a3 l3 c3, .slice a4 l4 c4] [.string x.name, .bool x.face, .bool x.fin, .int .i64 x.sup, .slice a1' l1' c1', .slice a2' l2' c2', .slice a3' l3' c3', .slice a4' l4' c4']) (fun _ _ _ h => h), ?_⟩
  rintro - q17 q18 w19 ⟨b, b', rfl, rfl, X, Y, f19⟩
  have g19 : ∀ S, Fr S w14 w19 := fun S => f19.mono (by simp)
  have mvP : ∀ {w'} {k : Nat} {α : Type} {R : List Value → α → Prop} {y : List α} {z : Option Addr} {j : Nat} {u : Prop}, (∀ S, Fr S w14 w') → rSeq Al u w14 k R z j y → rSeq Al u w' k R z j y := fun f h => rel_seq1 h (same_al f) (f []).size fun _ _ _ => trivial
  have e4 := d4.1
  have e4' := d4'.1
  refine ⟨fun w' => ∀ S, Fr S w19 w', ?_, ?_⟩
  · refine PtrOK.of rfl ⟨_, X.cella rfl, PtrOK.of rfl ⟨_, Y.cella rfl, ifb_nyes (by simp) (PtrOK.of rfl ⟨_, X.cella rfl, PtrOK.of rfl ⟨_, Y.cella rfl, ifb_nyes (by simp) (PtrOK.of rfl ⟨_, X.cella rfl, PtrOK.of rfl ⟨_, Y.cella rfl, ifb_nyes (by simp) (PtrOK.of rfl ⟨_, X.cella rfl, PtrOK.of rfl ⟨_, Y.cella rfl, IfB.nyes rfl (PtrOK.of rfl ⟨_, _, _, X.cella rfl, PtrOK.of rfl ⟨_, _, _, Y.cella rfl, ?_⟩⟩)⟩⟩)⟩⟩)⟩⟩)⟩⟩
    refine same55 (mvP g19 d1) (mvP g19 d1') q1 fun w28 f28 => ifb_nyes rfl ?_
    have g28 : ∀ S, Fr S w14 w28 := fun S => (g19 S).more (f28 S)
    refine PtrOK.of rfl ⟨_, _, _, (carB f28 X).cella rfl, PtrOK.of rfl ⟨_, _, _, (carB f28 Y).cella rfl, same56 (mvP g28 d2) (mvP g28 d2') q2 fun w34 f34 => ifb_nyes rfl ?_⟩⟩
    have h34 : ∀ S, Fr S w19 w34 := fun S => (f28 S).more (f34 S)
    have g34 : ∀ S, Fr S w14 w34 := fun S => (g19 S).more (h34 S)
    refine PtrOK.of rfl ⟨_, _, _, (carB h34 X).cella rfl, PtrOK.of rfl ⟨_, _, _, (carB h34 Y).cella rfl, same56 (mvP g34 d3) (mvP g34 d3') q3 fun w40 f40 => ifb_nyes rfl ?_⟩⟩
    have h40 : ∀ S, Fr S w19 w40 := fun S => (h34 S).more (f40 S)
    exact PtrOK.of rfl ⟨_, _, _, (carB h40 X).cella rfl, PtrOK.of rfl ⟨_, _, _, (carB h40 Y).cella rfl, IfB.nyes (by omega) h40⟩⟩
  rintro - w3006 f3006
  refine ⟨fun n w' => 0 ≤ n ∧ (∀ S, Fr S w19 w'), fun n _ => (l4 - n).toNat, ⟨Int.le_refl _, f3006⟩, ?_⟩
  rintro - k w48 ⟨hk, f48⟩
  refine PtrOK.of rfl ⟨_, _, _, (carB f48 X).cella rfl, IfB.dec (fun hlt4 w51 d51 => ?_) (fun _ => ?_)⟩
  · have f51 : ∀ S, Fr S w19 w51 := fun S => (f48 S).more (d51.fr S)
    have g51 : ∀ S, Fr S w14 w51 := fun S => (g19 S).more (f51 S)
    obtain ⟨y, p3, us, p4, us', hy, rfl, rfl, i1, i2, i3, i4⟩ := (rel_seq (U' := Al) rel_mth d4 (same_al g51) (g51 []).size fun _ _ _ => trivial).get2 (rel_seq (U' := Al) rel_mth d4' (same_al g51) (g51 []).size fun _ _ _ => trivial) hk (by omega)
    obtain ⟨z1, k1, o1, z2, k2, o2, z3, k3, o3, z4, k4, o4, rfl, r1, r2, r3, r4⟩ := i3
    obtain ⟨z1', k1', o1', z2', k2', o2', z3', k3', o3', z4', k4', o4', rfl, r1', r2', r3', r4'⟩ := i4
    refine PtrOK.of rfl ⟨_, _, _, (carB f51 X).cella rfl, PtrOK.of rfl ⟨⟨hk, hlt4⟩, _, _, _, _, _, _, _, _, _, _, _, _, _, _, _, _, _, i1, PtrOK.of rfl ⟨_, _, _, (carB f51 Y).cella rfl, PtrOK.of rfl ⟨⟨hk, by omega⟩, _, _, _, _, _, _, _, _, _, _, _, _, _, _, _, _, _, i2, ?_⟩⟩⟩⟩
    refine same57 y (q5 y hy) r1 r2 r3 r4 r1' r2' r3' r4' fun w77 f77 => ifb_nyes rfl ⟨fit64 (by omega) (by omega), ⟨by omega, fun S => (f51 S).more (f77 S)⟩, by (try dsimp only); omega⟩
  · exact ⟨fit64 (by omega) (by omega), ⟨by omega, fun S => ((f14 S).more (g19 S)).more (f48 S)⟩, by (try dsimp only); omega⟩
end Go.Proofs.Ytmlhdmnnijapjaa.V

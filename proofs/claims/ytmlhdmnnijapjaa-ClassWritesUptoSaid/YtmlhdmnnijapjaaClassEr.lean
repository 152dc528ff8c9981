/- Programs as bytes: what the document's writer writes, plainly; it answers as the other does. No Go, no memory. -/
import Derived.Test.YtmlhdmnnijapjaaClassF
namespace Go.Proofs.Ytmlhdmnnijapjaa.V
open Go Go.RowKit Go.Proofs.Ytmlhdmnnijapjaa.WirePlain

def nameR (s : ByteArray) : Wr := ⟨nats (putNum (s.size : Int) ++ s), false, !nameOK s, false⟩
def layR {α : Type} (most : Nat) (one : α → Wr) (xs : List α) : Wr := (⟨[], decide (most < xs.length), false, false⟩ : Wr).app ((numW (xs.length : Int)).app (seqW one xs))
def fldR (f : Fld) : Wr := (nameR f.name).app (numW f.ty)
def mpeR (m : Mpe) : Wr := (numW m.pl).app ((layR 24 numW m.ls).app (layR 24 numW m.st))
def mthR (m : Mth) : Wr := (nameR m.name).app ((numW (flagI m.stat 1)).app ((layR 8 numW m.args).app ((numW m.ret).app ((formW (roomB m.locs m.stk)).app ((numW m.locs).app ((numW m.stk).app
  ((layR 300 insW m.code).app ((layR 16 hndW m.tab).app (layR 64 mpeR m.maps)))))))))
def clsR (c : Cls) : Wr := (nameR c.name).app ((numW (flagI c.face 1 + flagI c.fin 2)).app ((numW c.sup).app ((layR 8 numW c.faces).app ((layR 24 fldR c.flds).app ((layR 24 fldR c.stats).app (layR 24 mthR c.mths))))))
def encRW (p : Prg) : Wr := (numW p.main).app (layR 40 clsR p.clss)
def encRP (p : Prg) : ByteArray × Int :=
  if (encRW p).many then (⟨#[]⟩, 1404) else if (encRW p).nm then (⟨#[]⟩, 1403) else if (encRW p).fm then (⟨#[]⟩, 1402)
  else if 32768 < (magicN ++ (encRW p).bs).length then (⟨#[]⟩, 1406) else (strOfNums ((magicN ++ (encRW p).bs).map fun (n : Nat) => (n : Int)), 0)

/-- They tell the same: too much, or not; and if not, the same of names and numbers, and the same bytes where all texts are names. -/
structure Eqv (a b : Wr) : Prop where
  many : a.many = b.many
  rest : a.many = false → a.nm = b.nm ∧ a.fm = b.fm ∧ (a.nm = false → a.bs = b.bs)

theorem Eqv.refl (a : Wr) : Eqv a a := ⟨rfl, fun _ => ⟨rfl, rfl, fun _ => rfl⟩⟩
theorem Eqv.app {a b a' b' : Wr} (h : Eqv a a') (h' : Eqv b b') : Eqv (a.app b) (a'.app b') := by
  refine ⟨by simp [Wr.app, h.many, h'.many], fun hm => ?_⟩
  simp only [Wr.app, Bool.or_eq_false_iff] at hm
  obtain ⟨q1, q2, q3⟩ := h.rest hm.1
  obtain ⟨r1, r2, r3⟩ := h'.rest hm.2
  refine ⟨by simp [Wr.app, q1, r1], by simp [Wr.app, q2, r2], fun hn => ?_⟩
  simp only [Wr.app, Bool.or_eq_false_iff] at hn
  simp [Wr.app, q3 hn.1, r3 hn.2]
theorem name_eqv (s : ByteArray) : Eqv (nameW s) (nameR s) := by
  refine ⟨rfl, fun _ => ⟨rfl, rfl, fun hn => ?_⟩⟩
  have h : nameOK s = true := by simpa [nameW] using hn
  unfold nameW nameR
  rw [cutN_name (name_size h).2]
theorem seq_eqv {α : Type} {one one' : α → Wr} (h : ∀ x, Eqv (one x) (one' x)) : ∀ xs, Eqv (seqW one xs) (seqW one' xs)
  | [] => Eqv.refl _
  | x :: xs => (h x).app (seq_eqv h xs)
theorem lay_eqv {α : Type} {most : Nat} {one one' : α → Wr} (h : ∀ x, Eqv (one x) (one' x)) (xs : List α) : Eqv (layW most one xs) (layR most one' xs) := by
  unfold layW layR
  by_cases hm : most < xs.length
  · rw [if_pos hm]
    exact ⟨by simp [manyW, Wr.app, hm], fun h => by simp [manyW] at h⟩
  · rw [if_neg hm]
    have e : (⟨[], decide (most < xs.length), false, false⟩ : Wr).app ((numW (xs.length : Int)).app (seqW one' xs)) = (numW (xs.length : Int)).app (seqW one' xs) := by
      rw [decide_eq_false hm]; simp [Wr.app]
    rw [e]
    exact (Eqv.refl _).app (seq_eqv h xs)
theorem fld_eqv (f : Fld) : Eqv (fldW f) (fldR f) := (name_eqv _).app (Eqv.refl _)
theorem mpe_eqv (m : Mpe) : Eqv (mpeW m) (mpeR m) := (Eqv.refl _).app ((lay_eqv Eqv.refl' _).app (lay_eqv Eqv.refl' _))
where Eqv.refl' (x : Int) : Eqv (numW x) (numW x) := Eqv.refl _
theorem mth_eqv (m : Mth) : Eqv (mthW m) (mthR m) := (name_eqv _).app ((Eqv.refl _).app ((lay_eqv (fun _ => Eqv.refl _) _).app ((Eqv.refl _).app ((Eqv.refl _).app ((Eqv.refl _).app ((Eqv.refl _).app
  ((lay_eqv (fun _ => Eqv.refl _) _).app ((lay_eqv (fun _ => Eqv.refl _) _).app (lay_eqv mpe_eqv _)))))))))
theorem cls_eqv (c : Cls) : Eqv (clsW c) (clsR c) := (name_eqv _).app ((Eqv.refl _).app ((Eqv.refl _).app ((lay_eqv (fun _ => Eqv.refl _) _).app ((lay_eqv fld_eqv _).app ((lay_eqv fld_eqv _).app (lay_eqv mth_eqv _))))))
theorem enc_eqv (p : Prg) : Eqv (encW p) (encRW p) := (Eqv.refl _).app (lay_eqv cls_eqv _)

/-- Both writers answer the same. -/
theorem encRP_eq (p : Prg) : encRP p = encP p := by
  have h := enc_eqv p
  unfold encRP encP
  rw [← h.many]
  by_cases h1 : (encW p).many = true
  · rw [if_pos h1, if_pos h1]
  rw [if_neg h1, if_neg h1]
  obtain ⟨r1, r2, r3⟩ := h.rest (by simpa using h1)
  rw [← r1]
  by_cases h2 : (encW p).nm = true
  · rw [if_pos h2, if_pos h2]
  rw [if_neg h2, if_neg h2, ← r2, ← r3 (by simpa using h2)]
end Go.Proofs.Ytmlhdmnnijapjaa.V

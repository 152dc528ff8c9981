/- Programs as bytes: what is written, plainly. No Go, no memory. -/
import Derived.Test.YtmlhdmnnijapjaaClassP
namespace Go.Proofs.Ytmlhdmnnijapjaa.V
open Go Go.RowKit Go.Proofs.Ytmlhdmnnijapjaa.WirePlain

/-- What a writer has written: bytes; and was there too much, a text that is no name, a number that may not be? -/
structure Wr where
  bs : List Nat
  many : Bool
  nm : Bool
  fm : Bool

def Wr.app (a b : Wr) : Wr := ⟨a.bs ++ b.bs, a.many || b.many, a.nm || b.nm, a.fm || b.fm⟩
def Wr.nil : Wr := ⟨[], false, false, false⟩
theorem Wr.app_assoc (a b c : Wr) : (a.app b).app c = a.app (b.app c) := by simp [Wr.app, Bool.or_assoc]
theorem Wr.app_nil (a : Wr) : a.app .nil = a := by simp [Wr.app, Wr.nil]
theorem Wr.nil_app (a : Wr) : Wr.nil.app a = a := by simp [Wr.app, Wr.nil]

def fitsI (x : Int) : Bool := decide (-2147483648 ≤ x ∧ x ≤ 2147483647)
def numW (x : Int) : Wr := ⟨nats (putNum x), false, false, !fitsI x⟩
def cutN (s : ByteArray) : ByteArray := ByteArray.extract s 0 (Int.toNat (min (ByteArray.size s : Int) 16))
def nameW (s : ByteArray) : Wr := ⟨nats (putNum ((cutN s).size : Int) ++ cutN s), false, !nameOK s, false⟩
def seqW {α : Type} (one : α → Wr) : List α → Wr
  | [] => .nil
  | x :: xs => (one x).app (seqW one xs)
def manyW : Wr := ⟨[], true, false, false⟩
def formW (b : Bool) : Wr := ⟨[], false, false, b⟩
def layW {α : Type} (most : Nat) (one : α → Wr) (xs : List α) : Wr := if most < xs.length then manyW else (numW (xs.length : Int)).app (seqW one xs)
def fldW (f : Fld) : Wr := (nameW f.name).app (numW f.ty)
def insW (i : Ins) : Wr := seqW numW [i.op, i.a, i.b]
def hndW (h : Hnd) : Wr := seqW numW [h.lo, h.hi, h.pl, h.cl]
def mpeW (m : Mpe) : Wr := (numW m.pl).app ((layW 24 numW m.ls).app (layW 24 numW m.st))
def flagI (b : Bool) (k : Int) : Int := if b then k else 0
def roomB (l k : Int) : Bool := decide (l < 0) || decide (24 < l) || decide (k < 0) || decide (24 < k)
def mthW (m : Mth) : Wr := (nameW m.name).app ((numW (flagI m.stat 1)).app ((layW 8 numW m.args).app ((numW m.ret).app ((formW (roomB m.locs m.stk)).app ((numW m.locs).app ((numW m.stk).app
  ((layW 300 insW m.code).app ((layW 16 hndW m.tab).app (layW 64 mpeW m.maps)))))))))
def clsW (c : Cls) : Wr := (nameW c.name).app ((numW (flagI c.face 1 + flagI c.fin 2)).app ((numW c.sup).app ((layW 8 numW c.faces).app ((layW 24 fldW c.flds).app ((layW 24 fldW c.stats).app (layW 24 mthW c.mths))))))
def encW (p : Prg) : Wr := (numW p.main).app (layW 40 clsW p.clss)
def magicN : List Nat := [71, 78, 83, 83]
/-- A program written: its bytes, or why not. -/
def encP (p : Prg) : ByteArray × Int :=
  if (encW p).many then (⟨#[]⟩, 1404) else if (encW p).nm then (⟨#[]⟩, 1403) else if (encW p).fm then (⟨#[]⟩, 1402)
  else if 32768 < (magicN ++ (encW p).bs).length then (⟨#[]⟩, 1406) else (strOfNums ((magicN ++ (encW p).bs).map fun (n : Nat) => (n : Int)), 0)

theorem seqW_snoc {α : Type} (one : α → Wr) (xs : List α) (x : α) : seqW one (xs ++ [x]) = (seqW one xs).app (one x) := by
  induction xs with
  | nil => simp [seqW, Wr.app_nil, Wr.nil_app]
  | cons y ys ih => simp only [List.cons_append, seqW]; rw [ih, Wr.app_assoc]

/-! ### How long -/
theorem numW_len (x : Int) : (numW x).bs.length ≤ 5 := by unfold numW; rw [nats_length]; exact putNum_size x
theorem cutN_size (s : ByteArray) : (cutN s).size ≤ 16 := by
  unfold cutN
  rw [ByteArray.size_extract]
  omega
theorem nameW_len (s : ByteArray) : (nameW s).bs.length ≤ 21 := by
  unfold nameW
  rw [nats_length, ByteArray.size_append]
  have := putNum_size ((cutN s).size : Int)
  have := cutN_size s
  omega
theorem app_len (a b : Wr) : (a.app b).bs.length = a.bs.length + b.bs.length := by simp [Wr.app]
theorem seqW_len {α : Type} {one : α → Wr} {c : Nat} (h : ∀ x, (one x).bs.length ≤ c) : ∀ xs, (seqW one xs).bs.length ≤ xs.length * c
  | [] => by simp [seqW, Wr.nil]
  | x :: xs => by
    rw [seqW, app_len, List.length_cons, Nat.succ_mul]
    have := seqW_len h xs
    have := h x
    omega
theorem layW_len {α : Type} {one : α → Wr} {c : Nat} (most : Nat) (h : ∀ x, (one x).bs.length ≤ c) (xs : List α) : (layW most one xs).bs.length ≤ 5 + most * c := by
  unfold layW
  split
  · simp [manyW]
  · rw [app_len]
    have := numW_len (xs.length : Int)
    have := seqW_len h xs
    have : xs.length * c ≤ most * c := Nat.mul_le_mul_right _ (by omega)
    omega
theorem fldW_len (f : Fld) : (fldW f).bs.length ≤ 26 := by
  unfold fldW; rw [app_len]; have := nameW_len f.name; have := numW_len f.ty; omega
theorem insW_len (i : Ins) : (insW i).bs.length ≤ 15 := seqW_len numW_len _
theorem hndW_len (h : Hnd) : (hndW h).bs.length ≤ 20 := seqW_len numW_len _
theorem mpeW_len (m : Mpe) : (mpeW m).bs.length ≤ 255 := by
  unfold mpeW; rw [app_len, app_len]; have := numW_len m.pl; have := layW_len 24 numW_len m.ls; have := layW_len 24 numW_len m.st; omega
theorem mthW_len (m : Mth) : (mthW m).bs.length ≤ 21241 := by
  unfold mthW
  simp only [app_len]
  have := nameW_len m.name; have := numW_len (flagI m.stat 1); have := layW_len 8 numW_len m.args; have := numW_len m.ret; have := numW_len m.locs; have := numW_len m.stk
  have := layW_len 300 insW_len m.code; have := layW_len 16 hndW_len m.tab; have := layW_len 64 mpeW_len m.maps
  have : (formW (roomB m.locs m.stk)).bs.length = 0 := rfl
  omega
theorem clsW_len (c : Cls) : (clsW c).bs.length ≤ 511123 := by
  unfold clsW
  simp only [app_len]
  have := nameW_len c.name; have := numW_len (flagI c.face 1 + flagI c.fin 2); have := numW_len c.sup; have := layW_len 8 numW_len c.faces
  have := layW_len 24 fldW_len c.flds; have := layW_len 24 fldW_len c.stats; have := layW_len 24 mthW_len c.mths
  omega

/-! ### Words -/
def I6 (x : Int) : Prop := -9223372036854775808 ≤ x ∧ x ≤ 9223372036854775807
def Ins.ok (i : Ins) : Prop := I6 i.op ∧ I6 i.a ∧ I6 i.b
def Hnd.ok (h : Hnd) : Prop := I6 h.lo ∧ I6 h.hi ∧ I6 h.pl ∧ I6 h.cl
def Mpe.ok (m : Mpe) : Prop := I6 m.pl ∧ (∀ x ∈ m.ls, I6 x) ∧ ∀ x ∈ m.st, I6 x
def Mth.ok (m : Mth) : Prop := (∀ x ∈ m.args, I6 x) ∧ I6 m.ret ∧ I6 m.locs ∧ I6 m.stk ∧ (∀ x ∈ m.code, x.ok) ∧ (∀ x ∈ m.tab, x.ok) ∧ ∀ x ∈ m.maps, x.ok
def Cls.ok (c : Cls) : Prop := I6 c.sup ∧ (∀ x ∈ c.faces, I6 x) ∧ (∀ x ∈ c.flds, I6 x.ty) ∧ (∀ x ∈ c.stats, I6 x.ty) ∧ ∀ x ∈ c.mths, x.ok
def Prg.ok (p : Prg) : Prop := I6 p.main ∧ ∀ c ∈ p.clss, c.ok

/-! ### Rooms -/
def smL {α : Type} (xs : List α) : Prop := xs.length ≤ 1099511627776
def Mpe.sm (m : Mpe) : Prop := smL m.ls ∧ smL m.st
def Mth.sm (m : Mth) : Prop := smL m.args ∧ smL m.code ∧ smL m.tab ∧ smL m.maps ∧ ∀ x ∈ m.maps, x.sm
def Cls.sm (c : Cls) : Prop := smL c.faces ∧ smL c.flds ∧ smL c.stats ∧ smL c.mths ∧ ∀ x ∈ c.mths, x.sm
def Prg.sm (p : Prg) : Prop := smL p.clss ∧ ∀ c ∈ p.clss, c.sm
end Go.Proofs.Ytmlhdmnnijapjaa.V

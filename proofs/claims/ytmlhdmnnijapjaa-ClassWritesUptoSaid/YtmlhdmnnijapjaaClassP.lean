/- Programs as bytes: what is read, and what is written, plainly. No Go, no memory. -/
import Derived.Test.YtmlhdmnnijapjaaWire3
import Derived.Laws.Strings
namespace Go.Proofs.Ytmlhdmnnijapjaa.V
open Go Go.RowKit Go.Proofs.Ytmlhdmnnijapjaa.WirePlain

structure Ins where
  op : Int
  a : Int
  b : Int

structure Hnd where
  lo : Int
  hi : Int
  pl : Int
  cl : Int

structure Mpe where
  pl : Int
  ls : List Int
  st : List Int

structure Mth where
  name : ByteArray
  stat : Bool
  args : List Int
  ret : Int
  locs : Int
  stk : Int
  code : List Ins
  tab : List Hnd
  maps : List Mpe

structure Fld where
  name : ByteArray
  ty : Int

structure Cls where
  name : ByteArray
  face : Bool
  fin : Bool
  sup : Int
  faces : List Int
  flds : List Fld
  stats : List Fld
  mths : List Mth

structure Prg where
  main : Int
  clss : List Cls

theorem str_beq (a b : ByteArray) : (ByteArray.toList a == ByteArray.toList b) = decide (a = b) := by
  rw [ByteArray.toList_eq, ByteArray.toList_eq, Bool.eq_iff_iff, decide_eq_true_eq, beq_iff_eq]
  constructor
  · intro h
    cases a; cases b
    simp at h
    rw [h]
  · intro h; rw [h]

/-! ### Names -/
def letB (c : Nat) : Bool := (Nat.ble 97 c && Nat.ble c 122) || (Nat.ble 65 c && Nat.ble c 90) || Nat.beq c 95
def okB (i c : Nat) : Bool := letB c || (Nat.ble 1 i && Nat.ble 48 c && Nat.ble c 57)
/-- Is a text a name? -/
def nameOK (s : ByteArray) : Bool := decide (s.size ≠ 0 ∧ s.size ≤ 16 ∧ ∀ j, j < s.size → okB j ((nats s).getD j 0) = true)

/-! ### Reading -/
/-- What is read, and the place behind; or where it failed, and how. -/
abbrev Rs (α : Type) := Except (Int × Int) (α × Int)
def bindD {α β : Type} (r : Rs α) (f : α → Int → Rs β) : Rs β := match r with
  | .ok p => f p.1 p.2
  | .error e => .error e

def numD (s : ByteArray) (p : Int) : Rs Int :=
  if (getR s p).2.2 = 200 then .error (p, 1401) else if (getR s p).2.2 ≠ 0 then .error (p, 1402) else .ok ((getR s p).1, (getR s p).2.1)
def rangD (s : ByteArray) (lo hi : Int) (p : Int) : Rs Int := bindD (numD s p) fun x q => if x < lo ∨ hi < x then .error (p, 1402) else .ok (x, q)
def nameD (s : ByteArray) (p : Int) : Rs ByteArray := bindD (numD s p) fun n q =>
  if n < 0 ∨ 16 < n then .error (p, 1403) else if (s.size : Int) - q < n then .error (p, 1401)
  else if nameOK (s.extract q.toNat (q + n).toNat) then .ok (s.extract q.toNat (q + n).toNat, q + n) else .error (p, 1403)
def repD {α : Type} (one : Int → Rs α) : Nat → Int → Rs (List α)
  | 0, p => .ok ([], p)
  | n + 1, p => bindD (one p) fun x q => bindD (repD one n q) fun xs q' => .ok (x :: xs, q')
def listD {α : Type} (s : ByteArray) (most : Int) (one : Int → Rs α) (p : Int) : Rs (List α) := bindD (numD s p) fun n q =>
  if n < 0 then .error (p, 1402) else if most < n then .error (p, 1404) else repD one n.toNat q
def fldD (s : ByteArray) (p : Int) : Rs Fld := bindD (nameD s p) fun nm q => bindD (numD s q) fun t q => .ok (⟨nm, t⟩, q)
def insD (s : ByteArray) (p : Int) : Rs Ins := bindD (numD s p) fun a q => bindD (numD s q) fun b q => bindD (numD s q) fun c q => .ok (⟨a, b, c⟩, q)
def hndD (s : ByteArray) (p : Int) : Rs Hnd := bindD (numD s p) fun a q => bindD (numD s q) fun b q => bindD (numD s q) fun c q => bindD (numD s q) fun d q => .ok (⟨a, b, c, d⟩, q)
def mpeD (s : ByteArray) (p : Int) : Rs Mpe := bindD (numD s p) fun a q => bindD (listD s 24 (numD s) q) fun l q => bindD (listD s 24 (numD s) q) fun t q => .ok (⟨a, l, t⟩, q)
def mthD (s : ByteArray) (p : Int) : Rs Mth := bindD (nameD s p) fun nm q => bindD (rangD s 0 1 q) fun st q => bindD (listD s 8 (numD s) q) fun ag q => bindD (numD s q) fun r q =>
  bindD (rangD s 0 24 q) fun l q => bindD (rangD s 0 24 q) fun k q => bindD (listD s 300 (insD s) q) fun cd q => bindD (listD s 16 (hndD s) q) fun tb q => bindD (listD s 64 (mpeD s) q) fun mp q =>
  .ok (⟨nm, decide (st = 1), ag, r, l, k, cd, tb, mp⟩, q)
def clsD (s : ByteArray) (p : Int) : Rs Cls := bindD (nameD s p) fun nm q => bindD (rangD s 0 3 q) fun fl q => bindD (numD s q) fun su q => bindD (listD s 8 (numD s) q) fun fs q =>
  bindD (listD s 24 (fldD s) q) fun a q => bindD (listD s 24 (fldD s) q) fun b q => bindD (listD s 24 (mthD s) q) fun ms q =>
  .ok (⟨nm, decide (bits .and .i64 fl 1 = 1), decide (bits .and .i64 fl 2 = 2), su, fs, a, b, ms⟩, q)
def prgD (s : ByteArray) (p : Int) : Rs Prg := bindD (numD s p) fun m q => bindD (listD s 40 (clsD s) q) fun cs q => .ok (⟨m, cs⟩, q)

def prg0 : Prg := ⟨0, []⟩
def magicOK (s : ByteArray) : Prop := 4 ≤ s.size ∧ (nats s).take 4 = [71, 78, 83, 83]
instance (s : ByteArray) : Decidable (magicOK s) := by unfold magicOK; infer_instance
/-- A program read: itself, the place and the kind of the first fault. -/
def decP (s : ByteArray) : Prg × Int × Int :=
  if 32768 < s.size then (prg0, 0, 1406) else if ¬ magicOK s then (prg0, 0, 1400) else match prgD s 4 with
    | .error e => (prg0, e.1, e.2)
    | .ok (p, q) => if q < s.size then (prg0, q, 1405) else (p, 0, 0)

/-- A list gathered on. -/
theorem repD_acc {α : Type} (one : Int → Rs α) (n : Nat) (p : Int) (acc : List α) :
    (bindD (repD one (n + 1) p) fun ys q => (.ok (acc ++ ys, q) : Rs (List α))) = bindD (one p) fun x q => bindD (repD one n q) fun ys q => .ok ((acc ++ [x]) ++ ys, q) := by
  rw [repD]
  cases one p with
  | error e => rfl
  | ok r =>
    simp only [bindD]
    cases repD one n r.2 with
    | error e => rfl
    | ok r2 => simp

theorem bind_ok {α : Type} (r : Rs α) : (bindD r fun x q => .ok (x, q)) = r := by
  cases r <;> rfl

/-! ### What is read lies within -/
/-- It reads on, within n; its faults lie within. -/
def Mono1 (n : Nat) (p : Int) {α : Type} (r : Rs α) : Prop := match r with
  | .ok r => p < r.2 ∧ r.2 ≤ n
  | .error e => p ≤ e.1 ∧ e.1 ≤ n ∧ e.2 ≠ 0
def Mono (n : Nat) {α : Type} (f : Int → Rs α) : Prop := ∀ p : Int, 0 ≤ p → p ≤ (n : Int) → Mono1 n p (f p)

/-- The same, where nothing may have been read. -/
def Mono0 (n : Nat) (lo : Int) {α : Type} (r : Rs α) : Prop := match r with
  | .ok r => lo ≤ r.2 ∧ r.2 ≤ n
  | .error e => lo ≤ e.1 ∧ e.1 ≤ n ∧ e.2 ≠ 0

theorem dec_rng (p : Int) : ∀ (l : List Nat) (i u : Nat) (x q e : Int), dec p l i u = (x, q, e) → (e = 0 ∧ p + i < q ∧ q ≤ p + i + l.length) ∨ (e = 200 ∨ e = 201) := by
  intro l
  induction l with
  | nil => intro i u x q e h; simp [dec] at h; exact .inr (.inl h.2.2.symm)
  | cons b bs ih =>
    intro i u x q e h
    unfold dec at h
    split at h
    · simp at h; exact .inr (.inr h.2.2.symm)
    split at h
    · simp at h; exact .inr (.inr h.2.2.symm)
    split at h
    · simp at h; exact .inr (.inr h.2.2.symm)
    split at h
    · simp only [Prod.mk.injEq] at h
      obtain ⟨_, rfl, rfl⟩ := h
      refine .inl ⟨rfl, by omega, ?_⟩
      simp; omega
    · rcases ih _ _ _ _ _ h with ⟨h1, h2, h3⟩ | h1
      · refine .inl ⟨h1, by omega, ?_⟩
        simp; omega
      · exact .inr h1

theorem numD_mono (s : ByteArray) : Mono s.size (numD s) := by
  intro p h0 h1
  have e : getR s p = dec p ((nats s).drop p.toNat) 0 0 := by unfold getR; rw [if_pos ⟨h0, h1⟩]
  unfold numD
  rw [e]
  have hl : ((nats s).drop p.toNat).length = s.size - p.toNat := by rw [List.length_drop, nats_length]
  rcases hdd : dec p ((nats s).drop p.toNat) 0 0 with ⟨x, q, c⟩
  have hd := dec_rng p _ 0 0 _ _ _ hdd
  rw [hl] at hd
  by_cases h2 : c = 200
  · rw [if_pos h2]; exact ⟨Int.le_refl _, h1, by simp⟩
  rw [if_neg h2]
  by_cases h3 : c ≠ 0
  · rw [if_pos h3]; exact ⟨Int.le_refl _, h1, by simp⟩
  rw [if_neg h3]
  rcases hd with ⟨_, h4, h5⟩ | h4
  · exact ⟨by (try dsimp only); omega, by (try dsimp only); omega⟩
  · omega

theorem Mono.bind {n : Nat} {α β : Type} {f : Int → Rs α} {g : Int → α → Int → Rs β} (h : Mono n f) (hg : ∀ (p : Int) x (q : Int), 0 ≤ p → p < q → q ≤ (n : Int) → f p = .ok (x, q) → Mono0 n p (g p x q) ∧ ∀ r, g p x q = .ok r → p < r.2) : Mono n fun p => bindD (f p) (g p) := by
  intro p h0 h1
  have := h p h0 h1
  show Mono1 n p (bindD (f p) (g p))
  cases hf : f p with
  | error e => rw [hf] at this; exact this
  | ok r =>
    rw [hf] at this
    obtain ⟨x, q⟩ := r
    obtain ⟨m1, m2⟩ := hg p x q h0 this.1 this.2 hf
    show Mono1 n p (g p x q)
    cases hgr : g p x q with
    | error e => rw [hgr] at m1; exact m1
    | ok r => rw [hgr] at m1; exact ⟨m2 r hgr, m1.2⟩

theorem Mono.at0 {n : Nat} {α : Type} {f : Int → Rs α} (h : Mono n f) {p lo : Int} (h0 : 0 ≤ p) (h1 : p ≤ n) (hl : lo ≤ p) : Mono0 n lo (f p) := by
  have := h p h0 h1
  unfold Mono0
  cases hf : f p with
  | error e => rw [hf] at this; exact ⟨by have := this.1; (try dsimp only); omega, this.2⟩
  | ok r => rw [hf] at this; exact ⟨by have := this.1; (try dsimp only); omega, this.2⟩

theorem Mono0.bind {n : Nat} {α β : Type} {r : Rs α} {lo : Int} {g : α → Int → Rs β} (h : Mono0 n lo r) (hg : ∀ x q, lo ≤ q → q ≤ n → r = .ok (x, q) → Mono0 n lo (g x q)) : Mono0 n lo (bindD r g) := by
  cases hf : r with
  | error e => rw [hf] at h; exact h
  | ok r =>
    rw [hf] at h
    obtain ⟨x, q⟩ := r
    exact hg x q h.1 h.2 hf

theorem repD_mono {n : Nat} {α : Type} {one : Int → Rs α} (h : Mono n one) : ∀ (m : Nat) (p : Int), 0 ≤ p → p ≤ n → Mono0 n p (repD one m p) := by
  intro m
  induction m with
  | zero => intro p _ h1; exact ⟨Int.le_refl _, h1⟩
  | succ m ih =>
    intro p h0 h1
    rw [repD]
    refine (h.at0 h0 h1 (Int.le_refl _)).bind fun x q h2 h3 _ => ?_
    have := ih q (by omega) h3
    refine Mono0.bind (r := repD one m q) ?_ fun xs q' h4 h5 _ => ⟨h4, h5⟩
    unfold Mono0 at this ⊢
    cases hr : repD one m q with
    | error e => rw [hr] at this; exact ⟨by have := this.1; (try dsimp only); omega, this.2⟩
    | ok r => rw [hr] at this; exact ⟨by have := this.1; (try dsimp only); omega, this.2⟩

/-- Of what is bound behind: it only reads on. -/
theorem Mono.of0 {n : Nat} {α β : Type} {f : Int → Rs α} {g : Int → α → Int → Rs β} (h : Mono n f) (hg : ∀ (p : Int) x (q : Int), 0 ≤ p → p < q → q ≤ (n : Int) → Mono0 n q (g p x q) ∨ ∃ c, c ≠ 0 ∧ g p x q = .error (p, c)) : Mono n fun p => bindD (f p) (g p) := by
  refine h.bind fun p x q h0 h1 h2 _ => ?_
  rcases hg p x q h0 h1 h2 with hm | ⟨c, hc, he⟩
  · unfold Mono0 at hm ⊢
    cases hr : g p x q with
    | error e => rw [hr] at hm; exact ⟨⟨by have := hm.1; (try dsimp only); omega, hm.2⟩, fun r hr => by cases hr⟩
    | ok r => rw [hr] at hm; exact ⟨⟨by have := hm.1; (try dsimp only); omega, hm.2⟩, fun r' hr => by cases hr; have := hm.1; omega⟩
  · rw [he]
    exact ⟨⟨Int.le_refl _, by (try dsimp only); omega, hc⟩, fun r hr => by cases hr⟩

theorem rangD_mono (s : ByteArray) (lo hi : Int) : Mono s.size (rangD s lo hi) := by
  refine (numD_mono s).of0 fun p x q h0 h1 h2 => ?_
  split
  · exact .inr ⟨_, by decide, rfl⟩
  · exact .inl ⟨Int.le_refl _, h2⟩

theorem nameD_mono (s : ByteArray) : Mono s.size (nameD s) := by
  refine (numD_mono s).of0 fun p x q h0 h1 h2 => ?_
  split
  · exact .inr ⟨_, by decide, rfl⟩
  split
  · exact .inr ⟨_, by decide, rfl⟩
  split
  · exact .inl ⟨by (try dsimp only); omega, by (try dsimp only); omega⟩
  · exact .inr ⟨_, by decide, rfl⟩

theorem listD_mono {α : Type} (s : ByteArray) (most : Int) {one : Int → Rs α} (h : Mono s.size one) : Mono s.size (listD s most one) := by
  refine (numD_mono s).of0 fun p x q h0 h1 h2 => ?_
  split
  · exact .inr ⟨_, by decide, rfl⟩
  split
  · exact .inr ⟨_, by decide, rfl⟩
  · exact .inl (repD_mono h _ _ (by omega) h2)

theorem Mono0.seq {n : Nat} {α β : Type} {f : Int → Rs α} {g : α → Int → Rs β} (h : Mono n f) {p : Int} (h0 : 0 ≤ p) (h1 : p ≤ n) (hg : ∀ x q, p ≤ q → q ≤ n → Mono0 n q (g x q)) : Mono0 n p (bindD (f p) g) := by
  refine (h.at0 h0 h1 (Int.le_refl _)).bind fun x q h2 h3 _ => ?_
  have := hg x q h2 h3
  unfold Mono0 at this ⊢
  cases hr : g x q with
  | error e => rw [hr] at this; exact ⟨by have := this.1; (try dsimp only); omega, this.2⟩
  | ok r => rw [hr] at this; exact ⟨by have := this.1; (try dsimp only); omega, this.2⟩

theorem Mono0.ret {n : Nat} {α : Type} {x : α} {q : Int} (h : q ≤ n) : Mono0 n q (.ok (x, q) : Rs α) := ⟨Int.le_refl _, h⟩

theorem fldD_mono (s : ByteArray) : Mono s.size (fldD s) :=
  (nameD_mono s).of0 fun p x q h0 h1 h2 => .inl (Mono0.seq (numD_mono s) (by omega) h2 fun _ q _ h => Mono0.ret h)
theorem insD_mono (s : ByteArray) : Mono s.size (insD s) :=
  (numD_mono s).of0 fun p x q h0 h1 h2 => .inl (Mono0.seq (numD_mono s) (by omega) h2 fun _ q h3 h => Mono0.seq (numD_mono s) (by omega) h fun _ q _ h => Mono0.ret h)
theorem hndD_mono (s : ByteArray) : Mono s.size (hndD s) :=
  (numD_mono s).of0 fun p x q h0 h1 h2 => .inl (Mono0.seq (numD_mono s) (by omega) h2 fun _ q h3 h => Mono0.seq (numD_mono s) (by omega) h fun _ q h4 h => Mono0.seq (numD_mono s) (by omega) h fun _ q _ h => Mono0.ret h)
theorem mpeD_mono (s : ByteArray) : Mono s.size (mpeD s) :=
  (numD_mono s).of0 fun p x q h0 h1 h2 => .inl (Mono0.seq (listD_mono s 24 (numD_mono s)) (by omega) h2 fun _ q h3 h => Mono0.seq (listD_mono s 24 (numD_mono s)) (by omega) h fun _ q _ h => Mono0.ret h)
theorem mthD_mono (s : ByteArray) : Mono s.size (mthD s) :=
  (nameD_mono s).of0 fun p x q h0 h1 h2 => .inl (Mono0.seq (rangD_mono s 0 1) (by omega) h2 fun _ q h3 h => Mono0.seq (listD_mono s 8 (numD_mono s)) (by omega) h fun _ q h4 h => Mono0.seq (numD_mono s) (by omega) h fun _ q h5 h =>
    Mono0.seq (rangD_mono s 0 24) (by omega) h fun _ q h6 h => Mono0.seq (rangD_mono s 0 24) (by omega) h fun _ q h7 h => Mono0.seq (listD_mono s 300 (insD_mono s)) (by omega) h fun _ q h8 h =>
    Mono0.seq (listD_mono s 16 (hndD_mono s)) (by omega) h fun _ q h9 h => Mono0.seq (listD_mono s 64 (mpeD_mono s)) (by omega) h fun _ q _ h => Mono0.ret h)
theorem clsD_mono (s : ByteArray) : Mono s.size (clsD s) :=
  (nameD_mono s).of0 fun p x q h0 h1 h2 => .inl (Mono0.seq (rangD_mono s 0 3) (by omega) h2 fun _ q h3 h => Mono0.seq (numD_mono s) (by omega) h fun _ q h4 h => Mono0.seq (listD_mono s 8 (numD_mono s)) (by omega) h fun _ q h5 h =>
    Mono0.seq (listD_mono s 24 (fldD_mono s)) (by omega) h fun _ q h6 h => Mono0.seq (listD_mono s 24 (fldD_mono s)) (by omega) h fun _ q h7 h => Mono0.seq (listD_mono s 24 (mthD_mono s)) (by omega) h fun _ q _ h => Mono0.ret h)
theorem prgD_mono (s : ByteArray) : Mono s.size (prgD s) :=
  (numD_mono s).of0 fun p x q h0 h1 h2 => .inl (Mono0.seq (listD_mono s 40 (clsD_mono s)) (by omega) h2 fun _ q _ h => Mono0.ret h)

end Go.Proofs.Ytmlhdmnnijapjaa.V

/- A reading of loaded Go code as a proposition: 'vcC' goes through a function's code and says what must hold for the call to come to its answer; 'calls_of_vc': then the call comes to it. No condition. -/
import Derived.WalkKit
import Derived.KernelRfl
import Derived.StillTail
namespace Go.Proofs.Ytmlhdmnnijapjaa.V
open Go

/-! ### Shapes of values -/

inductive Kd where
  | int (k : IntKind) | bool | str | ptr | slice | map | any

inductive Sh where
  | leaf (k : Kd)
  | agg (ks : List Kd)

def Sh.flat : Sh → List Kd
  | .leaf k => [k]
  | .agg ks => ks

def flats : List Sh → List Kd
  | [] => []
  | s :: ss => s.flat ++ flats ss

/-- A predicate on worlds, over variables of these kinds. -/
@[reducible] def FnT (α : Type) : List Kd → Type
  | [] => α
  | .int _ :: ks => Int → FnT α ks
  | .bool :: ks => Bool → FnT α ks
  | .str :: ks => ByteArray → FnT α ks
  | .ptr :: ks => Option Addr → FnT α ks
  | .slice :: ks => Option Addr → Nat → Nat → FnT α ks
  | .map :: ks => Option Nat → FnT α ks
  | .any :: ks => Value → FnT α ks

def curry {α : Type} : (ks : List Kd) → (List Value → α) → FnT α ks
  | [], F => F []
  | .int k :: ks, F => fun n => curry ks fun vs => F (.int k n :: vs)
  | .bool :: ks, F => fun b => curry ks fun vs => F (.bool b :: vs)
  | .str :: ks, F => fun s => curry ks fun vs => F (.string s :: vs)
  | .ptr :: ks, F => fun q => curry ks fun vs => F (.pointer q :: vs)
  | .slice :: ks, F => fun a l c => curry ks fun vs => F (.slice a l c :: vs)
  | .map :: ks, F => fun r => curry ks fun vs => F (.map r :: vs)
  | .any :: ks, F => fun v => curry ks fun vs => F (v :: vs)

/-- Its value at a list of values; 'bad' if they are not of these kinds. -/
def app {α : Type} (bad : α) : (ks : List Kd) → FnT α ks → List Value → α
  | [], I, [] => I
  | .int k :: ks, I, .int k' n :: vs => match decEq k' k with | isTrue _ => app bad ks (I n) vs | isFalse _ => bad
  | .bool :: ks, I, .bool b :: vs => app bad ks (I b) vs
  | .str :: ks, I, .string s :: vs => app bad ks (I s) vs
  | .ptr :: ks, I, .pointer q :: vs => app bad ks (I q) vs
  | .slice :: ks, I, .slice a l c :: vs => app bad ks (I a l c) vs
  | .map :: ks, I, .map r :: vs => app bad ks (I r) vs
  | .any :: ks, I, v :: vs => app bad ks (I v) vs
  | _, _, _ => bad

/-- Of these kinds. -/
def Fits : List Kd → List Value → Prop
  | [], [] => True
  | .int k :: ks, .int k' _ :: vs => k' = k ∧ Fits ks vs
  | .bool :: ks, .bool _ :: vs => Fits ks vs
  | .str :: ks, .string _ :: vs => Fits ks vs
  | .ptr :: ks, .pointer _ :: vs => Fits ks vs
  | .slice :: ks, .slice .. :: vs => Fits ks vs
  | .map :: ks, .map _ :: vs => Fits ks vs
  | .any :: ks, _ :: vs => Fits ks vs
  | _, _ => False

abbrev Pd (ks : List Kd) := FnT (World → Prop) ks
abbrev appP (ks : List Kd) (I : Pd ks) (vs : List Value) : World → Prop := app (fun _ => False) ks I vs

def allV (ks : List Kd) (F : List Value → Prop) : Prop := match ks with
  | [] => F []
  | .int k :: ks => ∀ n : Int, allV ks fun vs => F (.int k n :: vs)
  | .bool :: ks => ∀ b : Bool, allV ks fun vs => F (.bool b :: vs)
  | .str :: ks => ∀ s : ByteArray, allV ks fun vs => F (.string s :: vs)
  | .ptr :: ks => ∀ q : Option Addr, allV ks fun vs => F (.pointer q :: vs)
  | .slice :: ks => ∀ (a : Option Addr) (l c : Nat), allV ks fun vs => F (.slice a l c :: vs)
  | .map :: ks => ∀ r : Option Nat, allV ks fun vs => F (.map r :: vs)
  | .any :: ks => ∀ v : Value, allV ks fun vs => F (v :: vs)

theorem app_curry {α : Type} {bad : α} {Q : α → Prop} (hb : ¬ Q bad) : ∀ (ks : List Kd) (F : List Value → α) (vs : List Value), Q (app bad ks (curry ks F) vs) → Q (F vs) := by
  intro ks
  induction ks with
  | nil =>
    intro F vs h
    cases vs with
    | nil => exact h
    | cons v vs => exact (hb h).elim
  | cons k ks ih =>
    intro F vs h
    cases vs with
    | nil => cases k <;> exact (hb h).elim
    | cons v vs =>
      cases k with
      | any => exact ih (fun vs => F (v :: vs)) vs h
      | int k =>
        cases v <;> first
          | exact (hb h).elim
          | (rename_i k' n
             simp only [app] at h
             split at h
             · rename_i e _; subst e; exact ih (fun vs => F (.int k' n :: vs)) vs h
             · exact (hb h).elim)
      | bool => cases v <;> first | exact (hb h).elim | exact ih _ vs h
      | str => cases v <;> first | exact (hb h).elim | exact ih _ vs h
      | ptr => cases v <;> first | exact (hb h).elim | exact ih _ vs h
      | slice => cases v <;> first | exact (hb h).elim | exact ih (fun vs => F (.slice _ _ _ :: vs)) vs h
      | map => cases v <;> first | exact (hb h).elim | exact ih _ vs h

theorem appP_curry {ks : List Kd} {F : List Value → World → Prop} {vs : List Value} {w : World} (h : appP ks (curry ks F) vs w) : F vs w :=
  app_curry (α := World → Prop) (Q := fun p => p w) (fun h => h) ks F vs h

theorem app_fits {α : Type} {bad : α} {Q : α → Prop} (hb : ¬ Q bad) : ∀ (ks : List Kd) (I : FnT α ks) (vs : List Value), Q (app bad ks I vs) → Fits ks vs := by
  intro ks
  induction ks with
  | nil =>
    intro I vs h
    cases vs with
    | nil => trivial
    | cons v vs => exact (hb h).elim
  | cons k ks ih =>
    intro I vs h
    cases vs with
    | nil => cases k <;> exact (hb h).elim
    | cons v vs =>
      cases k with
      | any => exact ih (I v) vs h
      | int k =>
        cases v <;> first
          | exact (hb h).elim
          | (rename_i k' n
             simp only [app] at h
             split at h
             · rename_i e _; exact ⟨e, ih (I n) vs h⟩
             · exact (hb h).elim)
      | bool => cases v <;> first | exact (hb h).elim | exact ih _ vs h
      | str => cases v <;> first | exact (hb h).elim | exact ih _ vs h
      | ptr => cases v <;> first | exact (hb h).elim | exact ih _ vs h
      | slice => cases v <;> first | exact (hb h).elim | exact ih (I _ _ _) vs h
      | map => cases v <;> first | exact (hb h).elim | exact ih _ vs h

theorem allV_at : ∀ (ks : List Kd) (F : List Value → Prop), allV ks F → ∀ vs, Fits ks vs → F vs := by
  intro ks
  induction ks with
  | nil =>
    intro F h vs hf
    cases vs with
    | nil => exact h
    | cons v vs => exact hf.elim
  | cons k ks ih =>
    intro F h vs hf
    cases vs with
    | nil => cases k <;> exact hf.elim
    | cons v vs =>
      cases k with
      | any => exact ih _ (h v) vs hf
      | int k => cases v <;> first | exact hf.elim | (obtain ⟨e, hf⟩ := hf; subst e; exact ih _ (h _) vs hf)
      | bool => cases v <;> first | exact hf.elim | exact ih _ (h _) vs hf
      | str => cases v <;> first | exact hf.elim | exact ih _ (h _) vs hf
      | ptr => cases v <;> first | exact hf.elim | exact ih _ (h _) vs hf
      | slice => cases v <;> first | exact hf.elim | exact ih _ (h _ _ _) vs hf
      | map => cases v <;> first | exact hf.elim | exact ih _ (h _) vs hf

/-- The value of a shape, out of a flat list; and what is left. -/
def Sh.take : Sh → List Value → Value × List Value
  | .leaf _, v :: vs => (v, vs)
  | .leaf _, [] => (.tuple #[], [])
  | .agg ks, vs => (.agg (vs.take ks.length).toArray, vs.drop ks.length)

def packs : List Sh → List Value → List Value
  | [], _ => []
  | s :: ss, vs => (s.take vs).1 :: packs ss (s.take vs).2

/-- A call's result, by its parts. -/
def one (vs : List Value) : Value := match vs with
  | [v] => v
  | vs => .tuple vs.toArray

/-- What a call comes to: results of these shapes, of which K holds. -/
def Ret (ss : List Sh) (K : Pd (flats ss)) : Ending → World → Prop := fun en w => ∃ vs, en = .returned (one (packs ss vs)) ∧ appP (flats ss) K vs w

/-! ### Types -/

def kdOf (P : Program) (t : TypeId) : Kd := match P.underlying t with
  | some (.int k) => .int k
  | some .bool => .bool
  | some .string => .str
  | some (.pointer _) => .ptr
  | some (.slice _) => .slice
  | some (.map ..) => .map
  | _ => .any

def leaves (P : Program) : Nat → TypeId → List Kd
  | 0, t => [kdOf P t]
  | n + 1, t => match P.underlying t with
    | some (.struct fs) => fs.toList.flatMap fun f => leaves P n f.type
    | some (.array k e) => (List.replicate k (leaves P n e)).flatten
    | _ => [kdOf P t]

def shOf (P : Program) (t : TypeId) : Sh := match P.underlying t with
  | some (.struct _) | some (.array ..) => .agg (leaves P 6 t)
  | _ => .leaf (kdOf P t)

def shsOf (P : Program) (t : TypeId) : List Sh := match P.underlying t with
  | some (.tuple ts) => ts.toList.map (shOf P)
  | _ => [shOf P t]

/-! ### Environments -/

abbrev Env := Nat → Value
def Env.put (e : Env) (d : Option Nat) (v : Value) : Env := match d with
  | none => e
  | some d => fun n => bif Nat.beq n d then v else e n
def Env.ev (e : Env) : Operand → Value
  | .tmp t => e t
  | .const v => v
  | .global g => .pointer (some ⟨g, 0, none⟩)
  | .func f => .func (.func f) #[] #[]

def IfB (b : Bool) (A B : Prop) : Prop := match b with
  | true => A
  | false => B

theorem IfB.of {b : Bool} {A B : Prop} (h1 : b = true → A) (h2 : b = false → B) : IfB b A B := by
  cases b
  · exact h2 rfl
  · exact h1 rfl
theorem IfB.dec {p : Prop} [Decidable p] {A B : Prop} (h1 : p → A) (h2 : ¬p → B) : IfB (decide p) A B :=
  IfB.of (fun h => h1 (of_decide_eq_true h)) (fun h => h2 (of_decide_eq_false h))
theorem IfB.yes {p : Prop} [Decidable p] {A B : Prop} (h : p) (h1 : A) : IfB (decide p) A B := IfB.dec (fun _ => h1) (fun h2 => (h2 h).elim)
theorem IfB.no {p : Prop} [Decidable p] {A B : Prop} (h : ¬p) (h1 : B) : IfB (decide p) A B := IfB.dec (fun h2 => (h h2).elim) (fun _ => h1)
theorem IfB.elim {b : Bool} {A B C : Prop} (h : IfB b A B) (h1 : b = true → A → C) (h2 : b = false → B → C) : C := by
  cases b
  · exact h2 rfl h
  · exact h1 rfl h

/-- A pointer that is not nil. -/
def PtrOK (q : Option Addr) (F : Addr → Prop) : Prop := match q with
  | some b => F b
  | none => False

theorem PtrOK.of {q : Option Addr} {F : Addr → Prop} {b : Addr} (h : q = some b) (h2 : F b) : PtrOK q F := by subst h; exact h2
theorem PtrOK.some {q : Option Addr} {F : Addr → Prop} (h : PtrOK q F) : ∃ b, q = some b ∧ F b := by
  cases q with
  | none => exact h.elim
  | some b => exact ⟨b, rfl, h⟩

/-! ### Operations -/

/-- What an operation comes to; what is thrown. -/
def Good (P : Program) (X : List PanicEntry → World → Prop) (s : Sem Next) (w : World) (K : Value → World → Prop) : Prop :=
  match s.run P w with
  | .ok (.value v) w' => K v w'
  | .ok .skip w' => K undef w'
  | .ok (.enter f args) w' => Calls P f args w' fun en w'' => (∃ v, en = .returned v ∧ K v w'') ∨ ∃ ch, en = .panicked ch ∧ X ch w''
  | .halt (.panic v) w' => X [{ v, recovered := false }] w'
  | _ => False

/-- A value of these shapes comes out, and the world is as K says. -/
def RunF (P : Program) (s : Sem Value) (w : World) (ss : List Sh) (K : Pd (flats ss)) : Prop :=
  ∃ vs w', s.run P w = .ok (one (packs ss vs)) w' ∧ appP (flats ss) K vs w'

def Fit (k : IntKind) (n : Int) : Prop := k.min ≤ n ∧ n ≤ k.max

/-- One cell of a kind is read. -/
def exK (k : Kd) (F : Value → Prop) : Prop := match k with
  | .int k => ∃ n : Int, F (.int k n)
  | .bool => ∃ b : Bool, F (.bool b)
  | .str => ∃ s : ByteArray, F (.string s)
  | .ptr => ∃ q : Option Addr, F (.pointer q)
  | .slice => ∃ (a : Option Addr) (l c : Nat), F (.slice a l c)
  | .map => ∃ r : Option Nat, F (.map r)
  | .any => ∃ v : Value, F v

theorem exK_some {k : Kd} {F : Value → Prop} (h : exK k F) : ∃ v, F v := by
  cases k <;> first | (obtain ⟨a, l, c, h⟩ := h; exact ⟨_, h⟩) | (obtain ⟨n, h⟩ := h; exact ⟨_, h⟩)

/-- Cells in a row hold these. -/
def CellsAt (w : World) (p : Addr) (vs : List Value) : Prop := ∀ i v, vs[i]? = some v → w.cell? (p.add i) = some v

/-- Values of these kinds. -/
def exL : List Kd → List Value → (List Value → Prop) → Prop
  | [], acc, F => F acc
  | k :: ks, acc, F => exK k fun v => exL ks (acc ++ [v]) F

def isAggT (P : Program) (t : TypeId) : Bool := match P.underlying t with
  | some (.struct _) | some (.array ..) => true
  | _ => false

def vcLoad (P : Program) (t : TypeId) (p : Addr) (w : World) (K : Value → World → Prop) : Prop :=
  match isAggT P t with
  | true => match decEq (leaves P 6 t).length (P.cellsOf t) with
    | isTrue _ => exL (leaves P 6 t) [] fun vs => CellsAt w p vs ∧ K (.agg vs.toArray) w
    | isFalse _ => False
  | false => exK (kdOf P t) fun v => w.cell? p = some v ∧ K v w

/-- The value of one cell. -/
def isCell : Value → Bool
  | .agg _ | .tuple _ => false
  | _ => true

/-- A cell may be written. -/
def May (w : World) (p : Addr) : Prop := (∃ v, w.cell? p = some v) ∧ w.frozen? p = false

/-- A new block. -/
def NewAt (w w' : World) (b : Nat) (cs : Array Value) (T : TypeId) : Prop := b = w.heap.size ∧ w' = w.alloc (.cells cs T)
/-- A new map. -/
def NewMap (w w' : World) (b : Nat) : Prop := b = w.heap.size ∧ w' = w.alloc (.map #[] 0)
/-- A cell is written. -/
def SetC (w w' : World) (p : Addr) (v : Value) : Prop := w' = w.setCell p v
def setL (p : Addr) : List Value → Nat → World → World
  | [], _, w => w
  | v :: vs, i, w => setL p vs (i + 1) (w.setCell (p.add i) v)
/-- Cells in a row are written. -/
def SetL (w w' : World) (p : Addr) (vs : List Value) : Prop := w' = setL p vs 0 w
/-- An order was drawn. -/
def Drew (w w' : World) : Prop := w' = w.drew
/-- Cells in a row may be written. -/
def MayL (w : World) (p : Addr) (n : Nat) : Prop := ∀ i, i < n → May w (p.add i)

def vcStore1 (P : Program) (t : TypeId) (p : Addr) (v : Value) (w : World) (K : Value → World → Prop) : Prop :=
  match decEq (P.cellsOf t) 1 with
  | isTrue _ => May w p ∧ ∀ w' : World, SetC w w' p v → K undef w'
  | isFalse _ => False

def vcStore (P : Program) (t : TypeId) (p : Addr) (v : Value) (w : World) (K : Value → World → Prop) : Prop :=
  match v with
  | .agg cs => match decEq cs.toList.length (P.cellsOf t), cs.toList.all isCell with
    | isTrue _, true => MayL w p (P.cellsOf t) ∧ ∀ w' : World, SetL w w' p cs.toList → K undef w'
    | _, _ => False
  | .tuple _ => False
  | v => vcStore1 P t p v w K

def vcIdx (P : Program) (t : TypeId) (x i : Value) (w : World) (K : Value → World → Prop) : Prop :=
  match P.underlying t, x, i with
  | some (.slice el), .slice a l _, .int _ i => PtrOK a fun b => (0 ≤ i ∧ i < (l : Int)) ∧ K (.pointer (some (b.add (i.toNat * P.cellsOf el)))) w
  | some (.array n el), .pointer (some b), .int _ i => (0 ≤ i ∧ i < (n : Int)) ∧ K (.pointer (some (b.add (i.toNat * P.cellsOf el)))) w
  | _, _, _ => False

/-- Where a slice begins that is cut from 'lo' on. -/
def Adv (a : Option Addr) (c lo size : Nat) : Option Addr := if c = lo then a else a.map (·.add (lo * size))

def vcSlice (P : Program) (t : TypeId) (x : Value) (lo hi : Option Value) (w : World) (K : Value → World → Prop) : Prop :=
  match P.underlying t, x, lo, hi with
  | some .string, .string s, none, some (.int _ h) => (0 ≤ h ∧ h ≤ (s.size : Int)) ∧ K (.string (s.extract 0 h.toNat)) w
  | some .string, .string s, some (.int _ l), none => (0 ≤ l ∧ l ≤ (s.size : Int)) ∧ K (.string (s.extract l.toNat s.size)) w
  | some .string, .string s, some (.int _ l), some (.int _ h) => (0 ≤ l ∧ l ≤ h ∧ h ≤ (s.size : Int)) ∧ K (.string (s.extract l.toNat h.toNat)) w
  | some (.slice _), .slice a _ c, none, some (.int _ h) => (0 ≤ h ∧ h ≤ (c : Int)) ∧ K (.slice a h.toNat c) w
  | some (.slice el), .slice a n c, some (.int _ l), none => (0 ≤ l ∧ l ≤ (n : Int)) ∧ K (.slice (Adv a c l.toNat (P.cellsOf el)) (n - l.toNat) (c - l.toNat)) w
  | some (.slice el), .slice a _ c, some (.int _ l), some (.int _ h) => (0 ≤ l ∧ l ≤ h ∧ h ≤ (c : Int)) ∧ K (.slice (Adv a c l.toNat (P.cellsOf el)) (h.toNat - l.toNat) (c - l.toNat)) w
  | _, _, _, _ => False

def vcOut (chk : Bool) (k : IntKind) (w : World) (K : Value → World → Prop) (z : Int) : Prop := match chk with
  | true => Fit k z ∧ K (.int k z) w
  | false => K (.int k (k.wrap z)) w

def vcArith (op : BinOp) (chk : Bool) (k : IntKind) (x y : Int) (w : World) (K : Value → World → Prop) : Option Prop :=
  match op with
  | .add => some (vcOut chk k w K (x + y))
  | .sub => some (vcOut chk k w K (x - y))
  | .mul => some (vcOut chk k w K (x * y))
  | .quo => some (y ≠ 0 ∧ vcOut chk k w K (x.tdiv y))
  | .rem => some (y ≠ 0 ∧ K (.int k (x.tmod y)) w)
  | .eql => some (K (.bool (decide (x = y))) w)
  | .neq => some (K (.bool (!decide (x = y))) w)
  | .lss => some (K (.bool (decide (x < y))) w)
  | .leq => some (K (.bool (decide (x ≤ y))) w)
  | .gtr => some (K (.bool (decide (y < x))) w)
  | .geq => some (K (.bool (decide (y ≤ x))) w)
  | .and => some (K (.int k (bits .and k x y)) w)
  | .or => some (K (.int k (bits .or k x y)) w)
  | .xor => some (K (.int k (bits .xor k x y)) w)
  | _ => none

def vcShift (op : BinOp) (k : IntKind) (x y : Int) (w : World) (K : Value → World → Prop) : Option Prop :=
  match op with
  | .shr => some ((0 ≤ y ∧ y ≤ (k.bits : Int)) ∧ K (.int k (x / 2 ^ y.toNat)) w)
  | .shl => some ((0 ≤ y ∧ y ≤ (k.bits : Int)) ∧ K (.int k (k.wrap (x * 2 ^ y.toNat))) w)
  | _ => none

def binS (op : BinOp) (t : TypeId) (xo yo : Operand) (x y : Value) : Sem Value := do eqGuard op t xo yo x y; binOp op t x y

def vcBin (P : Program) (chk : Bool) (op : BinOp) (t : TypeId) (xo yo : Operand) (x y : Value) (w : World) (K : Value → World → Prop) : Prop :=
  match x, y with
  | .int k a, .int k' b =>
    match vcShift op k a b w K with
    | some p => p
    | none => match decEq k k' with
      | isTrue _ => match vcArith op chk k a b w K with
        | some p => p
        | none => False
      | isFalse _ => False
  | .pointer p, .pointer none => match P.underlying t, op with
    | some (.pointer _), .eql => K (.bool p.isNone) w
    | some (.pointer _), .neq => K (.bool (!p.isNone)) w
    | _, _ => False
  | .bool a, .bool b => match P.underlying t, op with
    | some .bool, .eql => K (.bool (a == b)) w
    | some .bool, .neq => K (.bool (!(a == b))) w
    | _, _ => False
  | .agg xs, .agg ys => match P.underlying t, op with
    | some (.struct _), .eql => (eqGuard op t xo yo x y).run P w = .ok () w ∧ ∃ b, (Op.equal t (.agg xs) (.agg ys)).run P w = .ok b w ∧ K (.bool b) w
    | some (.struct _), .neq => (eqGuard op t xo yo x y).run P w = .ok () w ∧ ∃ b, (Op.equal t (.agg xs) (.agg ys)).run P w = .ok b w ∧ K (.bool (!b)) w
    | _, _ => False
  | .string a, .string b => match op with
    | .eql => K (.bool (a.toList == b.toList)) w
    | .neq => K (.bool (!(a.toList == b.toList))) w
    | .add => a.size + b.size ≤ 9223372036854775807 ∧ K (.string (a ++ b)) w
    | _ => False
  | _, _ => False

def vcBi (P : Program) (b : Builtin) (ts : Array TypeId) (type : TypeId) (args : List Value) (w : World) (K : Value → World → Prop) : Prop :=
  match b, ts.toList, args with
  | .len, [t], [v] => match P.underlying t, v with
    | some (.slice _), .slice _ n _ => K (.int .i64 (n : Int)) w
    | some .string, .string s => K (.int .i64 (s.size : Int)) w
    | some (.map ..), v => RunF P (Builtin.len_ #[t] type #[v]) w [.leaf (.int .i64)] (curry _ fun vs w' => K (one (packs [.leaf (.int .i64)] vs)) w')
    | _, _ => False
  | .append, _, _ => RunF P (Builtin.append_ ts type args.toArray) w [.leaf .slice] (curry _ fun vs w' => K (one (packs [.leaf .slice] vs)) w')
  | .delete, _, _ => RunF P (Builtin.delete_ ts type args.toArray) w [] (K (one []))
  | .min, _, [.int .i64 a, .int .i64 b] => K (.int .i64 (min a b)) w
  | .max, _, [.int .i64 a, .int .i64 b] => K (.int .i64 (max a b)) w
  | _, _, _ => False

/-- Parts laid into a row of cells. -/
def fillL (place : Nat → Option (Nat × Nat)) (cells : List Value) : List (Nat × Value) → Option (List Value)
  | [] => some cells
  | (i, v) :: rest =>
    match place i with
    | none => none
    | some (off, size) =>
      match decEq v.cells.toList.length size, Nat.ble (off + v.cells.toList.length) cells.length with
      | isTrue _, true => fillL place (v.cells.toList.zipIdx.foldl (fun cs (c, j) => cs.set (off + j) c) cells) rest
      | _, _ => none

def structPlaces (P : Program) (fs : Array Field) (i : Nat) : Option (Nat × Nat) := match fs.toList[i]? with
  | some f => match P.info? f.type with
    | some ti => some (f.offset, ti.size)
    | none => none
  | none => none

def zeroL (P : Program) (t : TypeId) : Option (List Value) := match P.info? t with
  | some i => match i.zero with
    | some z => some z.cells.toList
    | none => none
  | none => none

def vcBuild (P : Program) (t : TypeId) (parts : List (Nat × Value)) (w : World) (K : Value → World → Prop) : Prop :=
  match P.underlying t, zeroL P t with
  | some (.struct fs), some z => match fillL (structPlaces P fs) z parts with
    | some cs => K (.agg cs.toArray) w
    | none => False
  | some (.array _ el), some z => match P.info? el with
    | some ti => match fillL (fun i => some (i * ti.size, ti.size)) z parts with
      | some cs => K (.agg cs.toArray) w
      | none => False
    | none => False
  | _, _ => False

def repL (n : Nat) (z : List Value) : List Value := (List.replicate n z).flatten

def vcBuildSlice (P : Program) (t : TypeId) (len : Nat) (parts : List (Nat × Value)) (w : World) (K : Value → World → Prop) : Prop :=
  match P.underlying t with
  | some (.slice el) => match zeroL P el, Nat.ble (len * P.cellsOf el) 1000 with
    | some z, true => match decEq z.length (P.cellsOf el) with
      | isTrue _ => match fillL (fun i => some (i * P.cellsOf el, P.cellsOf el)) (repL len z) parts with
        | some cs => ∀ (b : Nat) (w' : World), NewAt w w' b cs.toArray el → K (.slice (some ⟨b, 0, none⟩) len len) w'
        | none => False
      | isFalse _ => False
    | _, _ => False
  | _ => False

def vcField (P : Program) (t : TypeId) (x : Value) (f : Nat) (w : World) (K : Value → World → Prop) : Prop :=
  match P.underlying t, x with
  | some (.struct fs), .agg cs => match fs.toList[f]? with
    | some fd => match isAggT P fd.type with
      | true => K (.agg ((cs.toList.drop fd.offset).take (P.cellsOf fd.type)).toArray) w
      | false => match cs.toList[fd.offset]? with
        | some v => K v w
        | none => False
    | none => False
  | _, _ => False

/-- A function with a Go body. -/
def callable (P : Program) (g : FuncId) : Bool := match P.funcs[g]? with
  | some fn => fn.name != "runtime.NumGoroutine" && fn.body.isSome
  | none => false

/-- A function that gives its one argument back. -/
def IdFn (P : Program) (g : FuncId) : Prop := ∀ (n : Int) (w : World), Calls P g #[.int .i64 n] w fun en w' => en = .returned (.int .i64 n) ∧ w' = w

/-- Is each sum to be shown to fit; the shapes of what a map's entries are, by the slot that takes them; functions that give their argument back. -/
structure Cfg (P : Program) where
  chk : Bool
  ents : Nat → List Sh
  idf : Nat → Bool
  idOK : ∀ g, idf g = true → IdFn P g

def cfg0 {P : Program} (chk : Bool) (ents : Nat → List Sh) : Cfg P := ⟨chk, ents, fun _ => false, fun _ h => by cases h⟩

/-- Which functions may throw; what is thrown; slots that take a function value out of memory: the function, how many pointers stand ahead of its arguments, and behind. -/
structure Thr where
  thr : Nat → Bool
  X : List PanicEntry → World → Prop
  fl : Nat → Option (Nat × Nat × Nat)

def thr0 : Thr := ⟨fun _ => false, fun _ _ => False, fun _ => none⟩

/-- What a call comes to that may throw. -/
def RetX (X : List PanicEntry → World → Prop) (ss : List Sh) (K : Pd (flats ss)) : Ending → World → Prop := fun en w => Ret ss K en w ∨ ∃ ch, en = .panicked ch ∧ X ch w

/-- A function value is loaded. -/
def vcFl (P : Program) (t : TypeId) (p : Addr) (g nf nc : Nat) (w : World) (K : Value → World → Prop) : Prop :=
  match isAggT P t with
  | true => False
  | false => exL (List.replicate (nf + nc) .ptr) [] fun vs => w.cell? p = some (.func (.func g) (vs.take nf).toArray (vs.drop nf).toArray) ∧ K (.func (.func g) (vs.take nf).toArray (vs.drop nf).toArray) w

/-- A call of a function that gives its argument back. -/
def vcId (vs : List Value) (w : World) (K : Value → World → Prop) : Prop := match vs with
  | [.int .i64 n] => K (.int .i64 n) w
  | _ => False

def vcOp (P : Program) (chk : Cfg P) (T : Thr) (e : Env) (w : World) (o : Oper) (K : Value → World → Prop) : Prop :=
  match o.op with
  | .move x | .assign x => K (e.ev x) w
  | .pick c a b => match e.ev c with
    | .bool t => IfB t (K (e.ev a) w) (K (e.ev b) w)
    | _ => False
  | .alloc t => match (P.info? t).bind (·.zero) with
    | some z => ∀ (b : Nat) (w' : World), NewAt w w' b z.cells t → K (.pointer (some ⟨b, 0, none⟩)) w'
    | none => False
  | .box t x => ∀ (b : Nat) (w' : World), NewAt w w' b (e.ev x).cells t → K (.pointer (some ⟨b, 0, none⟩)) w'
  | .makeMap _ none => ∀ (b : Nat) (w' : World), NewMap w w' b → K (.map (some b)) w'
  | .load t a => match e.ev a with
    | .pointer q => PtrOK q fun p => match T.fl (o.dst.getD 0) with
      | none => vcLoad P t p w K
      | some (g, nf, nc) => vcFl P t p g nf nc w K
    | _ => False
  | .store t a x => match e.ev a with
    | .pointer q => PtrOK q fun p => vcStore P t p (e.ev x) w K
    | _ => False
  | .build t parts => vcBuild P t (parts.toList.map fun p => (p.1, e.ev p.2)) w K
  | .buildSlice t len parts => vcBuildSlice P t len (parts.toList.map fun p => (p.1, e.ev p.2)) w K
  | .makeFunc fn first cap => K (.func fn (first.toList.map e.ev).toArray (cap.toList.map e.ev).toArray) w
  | .field t x f => vcField P t (e.ev x) f w K
  | .nilCheck x => match e.ev x with
    | .pointer q => PtrOK q fun b => K (.pointer (some b)) w
    | .func (.func f) first cap => K (.func (.func f) first cap) w
    | _ => False
  | .binOp op t x y _ => vcBin P chk.chk op t x y (e.ev x) (e.ev y) w K
  | .unOp op _ x => match op, e.ev x with
    | .not, .bool b => K (.bool (!b)) w
    | .neg, .int k n => vcOut chk.chk k w K (-n)
    | _, _ => False
  | .fieldAddr t x f => match P.underlying t, e.ev x with
    | some (.struct fs), .pointer q => match fs.toList[f]? with
      | some fd => match decEq (P.cellsOf fd.type) 0 with
        | isTrue _ => False
        | isFalse _ => PtrOK q fun p => K (.pointer (some (p.add fd.offset))) w
      | none => False
    | _, _ => False
  | .indexAddr t x i => vcIdx P t (e.ev x) (e.ev i) w K
  | .index t x i => match P.underlying t, e.ev x, e.ev i with
    | some .string, .string s, .int _ i => ∃ h : i.toNat < s.size, 0 ≤ i ∧ K (.int .u8 ((s[i.toNat]'h).toNat : Int)) w
    | some (.array n el), .agg cs, .int _ i => (0 ≤ i ∧ i < (n : Int)) ∧ match isAggT P el with
      | true => False
      | false => exK (kdOf P el) fun v => cs.toList[i.toNat * P.cellsOf el]? = some v ∧ K v w
    | _, _, _ => False
  | .slice t x lo hi none => vcSlice P t (e.ev x) (lo.map e.ev) (hi.map e.ev) w K
  | .makeSlice t l c => RunF P (Instr.makeSlice t (e.ev l) (e.ev c)) w [.leaf .slice] (curry _ fun vs w' => K (one (packs [.leaf .slice] vs)) w')
  | .lookup t x i true => RunF P (Instr.lookup t (e.ev x) (e.ev i) true) w (shsOf P o.type) (curry _ fun vs w' => K (one (packs (shsOf P o.type) vs)) w')
  | .lookup t x i false => RunF P (Instr.lookup t (e.ev x) (e.ev i) false) w [shOf P o.type] (curry _ fun vs w' => K (one (packs [shOf P o.type] vs)) w')
  | .mapUpdate t m k x => ∃ w', (Instr.mapUpdate t (e.ev m) (e.ev k) (e.ev x)).run P w = .ok () w' ∧ K undef w'
  | .extract x i => match e.ev x with
    | .tuple vs => match vs[i]? with
      | some v => K v w
      | none => False
    | _ => False
  | .range t x => RunF P (Instr.range t (e.ev x)) w [.leaf .any] (curry _ fun vs w' => K (one (packs [.leaf .any] vs)) w')
  | .entry it => RunF P (Instr.entry (e.ev it)) w (chk.ents (o.dst.getD 0)) (curry _ fun vs w' => K (one (packs (chk.ents (o.dst.getD 0)) vs)) w')
  | .next it s => ∃ (b : Bool) (vs : List Value) (w' : World), Sem.run P (Instr.next (e.ev it) s o.type) w = .ok (.tuple (List.toArray (.bool b :: vs))) w' ∧ K (.tuple (List.toArray (.bool b :: vs))) w'
  | .convert s d x => match e.ev x, P.underlying d with
    | .int _ n, some (.int k) => vcOut chk.chk k w K n
    | v, _ => RunF P (convert s d v) w [shOf P d] (curry _ fun vs w' => K (one (packs [shOf P d] vs)) w')
  | .call c => match c.callee with
    | .value f => match e.ev f with
      | .func (.func g) first cap => match callable P g with
        | true => match chk.idf g with
          | true => vcId (first.toList ++ c.args.toList.map e.ev ++ cap.toList) w K
          | false => match T.thr g with
            | false => Calls P g (first.toList ++ c.args.toList.map e.ev ++ cap.toList).toArray w (Ret (shsOf P o.type) (curry _ fun vs w' => K (one (packs (shsOf P o.type) vs)) w'))
            | true => Calls P g (first.toList ++ c.args.toList.map e.ev ++ cap.toList).toArray w (RetX T.X (shsOf P o.type) (curry _ fun vs w' => K (one (packs (shsOf P o.type) vs)) w'))
        | false => False
      | _ => False
    | .builtin b => vcBi P b c.argTypes o.type (c.args.toList.map e.ev) w K
    | _ => False
  | .makeInterface t x => match P.underlying t with
    | some (.interface _) | none => False
    | _ => K (.iface t (e.ev x)) w
  | .typeAssert x _ t true => match P.underlying t, e.ev x with
    | some (.interface _), _ => False
    | some _, .iface t' v => match decEq t' t with
      | isTrue _ => K (.tuple #[v, .bool true]) w
      | isFalse _ => False
    | _, _ => False
  | .panic x => match e.ev x with
    | .iface t v => T.X [{ v := .iface t v, recovered := false }] w
    | _ => False
  | _ => Good P T.X (execOp e.ev o) w K

/-! ### Code -/

structure Post where
  norm : Env → World → Prop
  ret : Env → World → Prop
  exit : Nat → Env → World → Prop
  pan : List PanicEntry → World → Prop

def Post.at (q : Post) : Exit → Env → World → Prop
  | .normal, e, w => q.norm e w
  | .ret, e, w => q.ret e w
  | .exit i, e, w => q.exit i e w
  | .panic ch, _, w => q.pan ch w
  | _, _, _ => False

def dstOf (ops : Array Oper) (j : Nat) : Option Nat := (ops[j]?).bind (·.dst)

/-- One operation, under its guard. -/
def vcG (P : Program) (chk : Cfg P) (T : Thr) (ops : Array Oper) (o : Oper) (e : Env) (w : World) (K : Env → World → Prop) : Prop :=
  match o.guard with
  | none => vcOp P chk T e w o fun v w' => K (e.put o.dst v) w'
  | some (j, want) =>
    match dstOf ops j with
    | none => K (e.put o.dst undef) w
    | some d => match e d with
      | .bool b => match want with
        | true => IfB b (vcOp P chk T (e.put (some d) (.bool true)) w o fun v w' => K ((e.put (some d) (.bool true)).put o.dst v) w')
            (K ((e.put (some d) (.bool false)).put o.dst undef) w)
        | false => IfB b (K ((e.put (some d) (.bool true)).put o.dst undef) w)
            (vcOp P chk T (e.put (some d) (.bool false)) w o fun v w' => K ((e.put (some d) (.bool false)).put o.dst v) w')
      | _ => K (e.put o.dst undef) w

def vcL (P : Program) (chk : Cfg P) (T : Thr) (ops : Array Oper) : List Oper → Env → World → (Env → World → Prop) → Prop
  | [], e, w, K => K e w
  | o :: rest, e, w, K => vcG P chk T ops o e w fun e w => vcL P chk T ops rest e w K

def AllL {α : Type} (F : α → Prop) : List α → Prop
  | [] => True
  | [x] => F x
  | x :: xs => F x ∧ AllL F xs

def fixC (e : Env) (c : Operand) (b : Bool) : Env := match c with
  | .tmp t => e.put (some t) (.bool b)
  | _ => e

/-- The slots that code may write. -/
def mods : Code → List Nat
  | .region _ ops _ => ops.toList.filterMap (·.dst)
  | .seq a b => mods a ++ mods b
  | .cond c a b => (match c with | .tmp t => [t] | _ => []) ++ (mods a ++ mods b)
  | .block _ c | .loop c | .scope c => mods c
  | _ => []

def loopEnv (e J : Env) (ss : List Nat) (vs : List Value) (ms : List Nat) : Env := fun n =>
  bif ms.any (Nat.beq n) then
    match ss.findIdx? (Nat.beq n) with
    | some i => vs.getD i undef
    | none => J n
  else e n

structure Ann where
  slots : List Nat
  kds : List Kd

def firstId : Code → Nat
  | .region id _ _ => id
  | .seq a _ => firstId a
  | .block _ c | .loop c | .scope c => firstId c
  | _ => 0

/-- An operation that hangs on no world, and leaves it alone. -/
def pureOp (P : Program) : Op → Bool
  | .move _ | .assign _ | .pick .. | .nilCheck _ | .unOp .. | .indexAddr .. | .index .. | .fieldAddr .. | .field .. | .slice _ _ _ _ none | .extract .. | .build .. => true
  | .binOp _ t _ _ _ => !isAggT P t
  | .call { callee := .builtin .len, args := ⟨[_]⟩, argTypes := ⟨[t]⟩ } => match P.underlying t with
    | some (.slice _) | some .string => true
    | _ => false
  | _ => false

/-- An operation that leaves the world alone. -/
def quietOp (P : Program) (o : Op) : Bool := pureOp P o || match o with
  | .load .. | .binOp .. => true
  | _ => false

/-- Does operation j wait for operation i, perhaps through others? -/
def reach (ops : Array Oper) : Nat → Nat → Nat → Bool
  | 0, _, _ => false
  | n + 1, j, i => match ops[j]? with
    | some oj => oj.after.toList.any fun e => Region.binds .any e && (Nat.beq e.on i || reach ops n e.on i)
    | none => false

def opAt (ops : Array Oper) (i : Nat) : Op := match ops[i]? with
  | some o => o.op
  | none => .move (.tmp 0)

/-- An operation that may be taken first. -/
def pickI (P : Program) (ops : Array Oper) (listed : Array Bool) (l : List Nat) : Option Nat := l.find? fun i =>
  Region.free .any ops listed i && (pureOp P (opAt ops i) || (quietOp P (opAt ops i) &&
    (List.range ops.size).all fun j => listed.getD j true || Nat.beq j i || quietOp P (opAt ops j) || reach ops ops.size j i))

/-- In whatever order, but that what may be taken first is. -/
def vcAny (P : Program) (chk : Cfg P) (T : Thr) (ops : Array Oper) : Nat → Array Bool → Env → World → (Env → World → Prop) → Prop
  | 0, listed, e, w, K => match Region.ready .any ops listed with
    | [] => K e w
    | _ => False
  | n + 1, listed, e, w, K => match Region.ready .any ops listed with
    | [] => K e w
    | l => match pickI P ops listed l with
      | some i => match ops[i]? with
        | some o => vcG P chk T ops o e w fun e w => vcAny P chk T ops n (listed.setIfInBounds i true) e w K
        | none => False
      | none => AllL (fun i => match ops[i]? with
        | some o => vcG P chk T ops o e w fun e w => vcAny P chk T ops n (listed.setIfInBounds i true) e w K
        | none => False) l

def vcC (P : Program) (chk : Cfg P) (T : Thr) (lo cut : Nat → Option Ann) (tl : Nat → Option Nat) : Nat → Code → Post → Env → World → Prop
  | _, .skip, q, e, w => q.norm e w
  | _, .label _, q, e, w => q.norm e w
  | _, .region _ ops false, q, e, w => vcL P chk T ops ops.toList e w q.norm
  | _, .region id ops true, q, e, w => match tl id with
    | some _ => ∀ w' : World, Drew w w' → vcL P chk T ops ops.toList e w' q.norm
    | none => ∀ w' : World, Drew w w' → vcAny P chk T ops ops.size (Array.replicate ops.size false) e w' q.norm
  | cur, .seq a b, q, e, w =>
    match cut (firstId b) with
    | none => vcC P chk T lo cut tl cur a { q with norm := fun e w => vcC P chk T lo cut tl cur b q e w } e w
    | some an => ∃ M : Pd an.kds,
        vcC P chk T lo cut tl cur a { q with norm := fun e w => appP an.kds M (an.slots.map e) w } e w ∧
        ∀ J : Env, allV an.kds fun vs => ∀ w', appP an.kds M vs w' → vcC P chk T lo cut tl cur b q (loopEnv e J an.slots vs (mods a)) w'
  | cur, .cond c a b, q, e, w =>
    match e.ev c with
    | .bool t => IfB t (vcC P chk T lo cut tl cur a q (fixC e c true) w) (vcC P chk T lo cut tl cur b q (fixC e c false) w)
    | _ => False
  | _, .block id c, q, e, w => vcC P chk T lo cut tl id c { q with exit := fun i e w => match decEq i id with | isTrue _ => q.norm e w | isFalse _ => q.exit i e w } e w
  | cur, .loop c, q, e, w =>
    match lo cur with
    | none => False
    | some an => ∃ (I : Pd an.kds) (μ : FnT (World → Nat) an.kds),
        appP an.kds I (an.slots.map e) w ∧
        ∀ J : Env, allV an.kds fun vs => ∀ w', appP an.kds I vs w' →
          vcC P chk T lo cut tl cur c { q with norm := fun e2 w2 => appP an.kds I (an.slots.map e2) w2 ∧ app (fun _ => 0) an.kds μ (an.slots.map e2) w2 < app (fun _ => 0) an.kds μ vs w' }
            (loopEnv e J an.slots vs (mods c)) w'
  | _, .exit i, q, e, w => q.exit i e w
  | _, .ret, q, e, w => q.ret e w
  | _, _, _, _, _ => False

/-- The type is known to the program. -/
def known (P : Program) (t : TypeId) : Bool := (P.underlying t).isSome && (P.info? t).isSome

def okOp (P : Program) : Op → Bool
  | .load t _ | .store t _ _ => known P t
  | .indexAddr t _ _ | .index t _ _ | .slice t _ _ _ _ | .buildSlice t _ _ => match P.underlying t with
    | some (.slice el) | some (.array _ el) => known P el
    | _ => true
  | .convert s _ _ => known P s
  | .field t _ _ | .build t _ | .fieldAddr t _ _ => match P.underlying t with
    | some (.struct fs) => fs.toList.all fun f => known P f.type
    | _ => true
  | _ => true

/-- A region that draws: its order makes no difference, or each order is gone through. -/
def okDraw (P : Program) (tl : Option Nat) (ops : Array Oper) : Bool :=
  P.follows .mixedOrders && match tl with
  | some n => ((ops.toList.take n).all fun o => quietOp P o.op) && (bif Nat.blt n ops.size then Region.lexTailB .any ops n else Region.lexB .any ops)
  | none => Region.noSelect ops

/-- Each slot that is written lies in the frame; the types are known. -/
def okC (P : Program) (tl : Nat → Option Nat) (n : Nat) : Code → Bool
  | .region id ops draw => (ops.toList.all fun o => okOp P o.op && (o.dst.all fun d => Nat.blt d n) && (o.guard.all fun g => (dstOf ops g.1).all fun d => Nat.blt d n)) && (!draw || okDraw P (tl id) ops)
  | .seq a b => okC P tl n a && okC P tl n b
  | .cond _ a b => okC P tl n a && okC P tl n b
  | .block _ c | .loop c | .scope c => okC P tl n c
  | _ => true

end Go.Proofs.Ytmlhdmnnijapjaa.V

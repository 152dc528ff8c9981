/- Readings of the program's functions. No condition. -/
import Derived.Test.YtfpghcdjfiggiaaGCfg
namespace Go.Proofs.Ytfpghcdjfiggiaa.V
open Go
set_option maxRecDepth 100000
set_option linter.unusedVariables false
/-- (*gneiss/collect.Heap).thread -/
def V_f169 (hV : Nat) (t : Int) (w : World) (K : Int → World → Prop) : Prop :=
 IfB (decide ((t : Int) < 0))
 (K 1202 w)
 (∃ (n1 : Int), World.cell? w ⟨hV, 3, none⟩ = some (.int .i64 n1) ∧
 IfB (decide ((n1 : Int) ≤ t))
 (K 1202 w)
 (K 0 w))
theorem r_f169 (hV : Nat) (t : Int) (w : World) (K : Int → World → Prop) (h : V_f169 hV t w K) : C169 (some ⟨hV, 0, none⟩) t w K :=
  @calls_of_eq Try.prog 169 Try.f169 [.pointer (some ⟨hV, 0, none⟩), .int .i64 t] w [.leaf (.int .i64)] K _ (cfg true (fun _ => [])) (fun _ => none) (fun _ => none) (fun _ => none) Try.func169 (by kernel_rfl) (by kernel_rfl) h

/-- gneiss/collect.told -/
def V_f172 (e : Int) (w : World) (K : Int → World → Prop) : Prop :=
 IfB (decide ((e : Int) = 0))
 (K e w)
 (IfB (decide ((e : Int) = 903))
 (K 1204 w)
 (K 1205 w))
theorem r_f172 (e : Int) (w : World) (K : Int → World → Prop) (h : V_f172 e w K) : C172 e w K :=
  @calls_of_eq Try.prog 172 Try.f172 [.int .i64 e] w [.leaf (.int .i64)] K _ (cfg true (fun _ => [])) (fun _ => none) (fun _ => none) (fun _ => none) Try.func172 (by kernel_rfl) (by kernel_rfl) h

/-- gneiss/collect.New -/
def V_f112 (words : Int) (threads : Int) (w : World) (K : Option Addr → Int → World → Prop) : Prop :=
 IfB (decide ((words : Int) < 1024))
 (K none 1200 w)
 (IfB (decide ((65536 : Int) < words))
 (K none 1200 w)
 (IfB (decide ((threads : Int) < 1))
 (K none 1200 w)
 (IfB (decide ((8 : Int) < threads))
 (K none 1200 w)
 (Fit .i64 (threads + 1) ∧
 C80 words (threads + 1) w fun q1 n2 w3 =>
 C32 threads w3 fun q4 n5 w6 =>
 RunF Try.prog (Instr.makeSlice 224 (.int .i64 threads) (.int .i64 threads)) w6 [.leaf .slice] fun (a7 : Option Addr) (l7 c7 : Nat) (w8 : World) =>
 ∀ (b9 : Nat) (w10 : World), NewAt w8 w10 b9 #[.pointer q1, .int .i64 words, .int .i64 0, .int .i64 threads, .slice a7 l7 c7, .pointer q4, .int .i64 0, .map none, .slice none 0 0, .slice none 0 0, .int .i64 0] 226 →
 K (some ⟨b9, 0, none⟩) 0 w10))))
theorem r_f112 (words : Int) (threads : Int) (w : World) (K : Option Addr → Int → World → Prop) (h : V_f112 words threads w K) : C112 words threads w K :=
  @calls_of_eq Try.prog 112 Try.f112 [.int .i64 words, .int .i64 threads] w [.leaf .ptr, .leaf (.int .i64)] K _ (cfg true (fun _ => [])) (fun _ => none) (fun _ => none) (fun _ => none) Try.func112 (by kernel_rfl) (by kernel_rfl) h

/-- (*gneiss/collect.Heap).Make -/
def V_f113 (hV : Nat) (thread : Int) (kind : Int) (classV : Int) (n : Int) (w : World) (K : Int → Int → World → Prop) : Prop :=
 C169 (some ⟨hV, 0, none⟩) thread w fun n1 w2 =>
 IfB (!decide ((n1 : Int) = 0))
 (K 0 n1 w2)
 (∃ M3 : World → Prop,
 (IfB (decide ((kind : Int) = 4))
 (K 0 1204 w2)
 (C152 kind classV n w2 fun n5 w6 =>
 IfB (!decide ((n5 : Int) = 0))
 (K 0 1204 w6)
 (∃ (a7 : Option Addr) (l7 c7 : Nat), World.cell? w6 ⟨hV, 4, none⟩ = some (.slice a7 l7 c7) ∧
 PtrOK a7 fun (p8 : Addr) =>
 ((0 : Int) ≤ thread ∧ thread < (l7 : Int)) ∧
 ∃ (a9 : Option Addr) (l9 c9 : Nat), World.cell? w6 (Addr.add (Addr.add p8 (Int.toNat thread * 1)) 0) = some (.slice a9 l9 c9) ∧
 IfB (decide ((64 : Int) ≤ (l9 : Int)))
 (K 0 1203 w6)
 (∀ w10 : World, Drew w6 w10 →
 ∃ (n11 : Int), World.cell? w10 ⟨hV, 2, none⟩ = some (.int .i64 n11) ∧
 Fit .i64 (n11 + n) ∧
 Fit .i64 ((n11 + n) + 16) ∧
 Fit .i64 (4 * ((n11 + n) + 16)) ∧
 ∃ (n12 : Int), World.cell? w10 ⟨hV, 1, none⟩ = some (.int .i64 n12) ∧
 IfB (decide ((n12 : Int) < (4 * ((n11 + n) + 16))))
 (K 0 1201 w10)
 (M3 w10))))) ∧
 ∀ (_ : Env) (w4 : World), M3 w4 →
 ∃ (q13 : Option Addr), World.cell? w4 ⟨hV, 0, none⟩ = some (.pointer q13) ∧
 C81 q13 thread kind classV n w4 fun n14 n15 w16 =>
 ∃ (n17 : Int), World.cell? w16 ⟨hV, 2, none⟩ = some (.int .i64 n17) ∧
 Fit .i64 (n + 16) ∧
 Fit .i64 (n17 + (n + 16)) ∧
 May w16 ⟨hV, 2, none⟩ ∧ ∀ w18 : World, SetC w16 w18 ⟨hV, 2, none⟩ (.int .i64 (n17 + (n + 16))) →
 ∃ M19 : World → Prop,
 (∀ w21 : World, Drew w18 w21 →
 (∃ (a22 : Option Addr) (l22 c22 : Nat), World.cell? w21 ⟨hV, 4, none⟩ = some (.slice a22 l22 c22) ∧
 (∃ (a23 : Option Addr) (l23 c23 : Nat), World.cell? w21 ⟨hV, 4, none⟩ = some (.slice a23 l23 c23) ∧
 PtrOK a23 fun (p24 : Addr) =>
 ((0 : Int) ≤ thread ∧ thread < (l23 : Int)) ∧
 (∃ (a25 : Option Addr) (l25 c25 : Nat), World.cell? w21 (Addr.add (Addr.add p24 (Int.toNat thread * 1)) 0) = some (.slice a25 l25 c25) ∧
 ∀ (b26 : Nat) (w27 : World), NewAt w21 w27 b26 #[.int .i64 n14] 3 →
 RunF Try.prog (Builtin.append_ #[42, 42] 42 #[.slice a25 l25 c25, .slice (some ⟨b26, 0, none⟩) 1 1]) w27 [.leaf .slice] fun (a28 : Option Addr) (l28 c28 : Nat) (w29 : World) =>
 PtrOK a22 fun (p30 : Addr) =>
 ((0 : Int) ≤ thread ∧ thread < (l22 : Int)) ∧
 May w29 (Addr.add (Addr.add p30 (Int.toNat thread * 1)) 0) ∧ ∀ w31 : World, SetC w29 w31 (Addr.add (Addr.add p30 (Int.toNat thread * 1)) 0) (.slice a28 l28 c28) →
 M19 w31) ∧
 (∀ (b32 : Nat) (w33 : World), NewAt w21 w33 b32 #[.int .i64 n14] 3 →
 ∃ (a34 : Option Addr) (l34 c34 : Nat), World.cell? w33 (Addr.add (Addr.add p24 (Int.toNat thread * 1)) 0) = some (.slice a34 l34 c34) ∧
 RunF Try.prog (Builtin.append_ #[42, 42] 42 #[.slice a34 l34 c34, .slice (some ⟨b32, 0, none⟩) 1 1]) w33 [.leaf .slice] fun (a35 : Option Addr) (l35 c35 : Nat) (w36 : World) =>
 PtrOK a22 fun (p37 : Addr) =>
 ((0 : Int) ≤ thread ∧ thread < (l22 : Int)) ∧
 May w36 (Addr.add (Addr.add p37 (Int.toNat thread * 1)) 0) ∧ ∀ w38 : World, SetC w36 w38 (Addr.add (Addr.add p37 (Int.toNat thread * 1)) 0) (.slice a35 l35 c35) →
 M19 w38)) ∧
 (∀ (b39 : Nat) (w40 : World), NewAt w21 w40 b39 #[.int .i64 n14] 3 →
 ∃ (a41 : Option Addr) (l41 c41 : Nat), World.cell? w40 ⟨hV, 4, none⟩ = some (.slice a41 l41 c41) ∧
 PtrOK a41 fun (p42 : Addr) =>
 ((0 : Int) ≤ thread ∧ thread < (l41 : Int)) ∧
 ∃ (a43 : Option Addr) (l43 c43 : Nat), World.cell? w40 (Addr.add (Addr.add p42 (Int.toNat thread * 1)) 0) = some (.slice a43 l43 c43) ∧
 RunF Try.prog (Builtin.append_ #[42, 42] 42 #[.slice a43 l43 c43, .slice (some ⟨b39, 0, none⟩) 1 1]) w40 [.leaf .slice] fun (a44 : Option Addr) (l44 c44 : Nat) (w45 : World) =>
 PtrOK a22 fun (p46 : Addr) =>
 ((0 : Int) ≤ thread ∧ thread < (l22 : Int)) ∧
 May w45 (Addr.add (Addr.add p46 (Int.toNat thread * 1)) 0) ∧ ∀ w47 : World, SetC w45 w47 (Addr.add (Addr.add p46 (Int.toNat thread * 1)) 0) (.slice a44 l44 c44) →
 M19 w47)) ∧
 (∃ (a48 : Option Addr) (l48 c48 : Nat), World.cell? w21 ⟨hV, 4, none⟩ = some (.slice a48 l48 c48) ∧
 PtrOK a48 fun (p49 : Addr) =>
 ((0 : Int) ≤ thread ∧ thread < (l48 : Int)) ∧
 (∃ (a50 : Option Addr) (l50 c50 : Nat), World.cell? w21 ⟨hV, 4, none⟩ = some (.slice a50 l50 c50) ∧
 (∃ (a51 : Option Addr) (l51 c51 : Nat), World.cell? w21 (Addr.add (Addr.add p49 (Int.toNat thread * 1)) 0) = some (.slice a51 l51 c51) ∧
 ∀ (b52 : Nat) (w53 : World), NewAt w21 w53 b52 #[.int .i64 n14] 3 →
 RunF Try.prog (Builtin.append_ #[42, 42] 42 #[.slice a51 l51 c51, .slice (some ⟨b52, 0, none⟩) 1 1]) w53 [.leaf .slice] fun (a54 : Option Addr) (l54 c54 : Nat) (w55 : World) =>
 PtrOK a50 fun (p56 : Addr) =>
 ((0 : Int) ≤ thread ∧ thread < (l50 : Int)) ∧
 May w55 (Addr.add (Addr.add p56 (Int.toNat thread * 1)) 0) ∧ ∀ w57 : World, SetC w55 w57 (Addr.add (Addr.add p56 (Int.toNat thread * 1)) 0) (.slice a54 l54 c54) →
 M19 w57) ∧
 (∀ (b58 : Nat) (w59 : World), NewAt w21 w59 b58 #[.int .i64 n14] 3 →
 ∃ (a60 : Option Addr) (l60 c60 : Nat), World.cell? w59 (Addr.add (Addr.add p49 (Int.toNat thread * 1)) 0) = some (.slice a60 l60 c60) ∧
 RunF Try.prog (Builtin.append_ #[42, 42] 42 #[.slice a60 l60 c60, .slice (some ⟨b58, 0, none⟩) 1 1]) w59 [.leaf .slice] fun (a61 : Option Addr) (l61 c61 : Nat) (w62 : World) =>
 PtrOK a50 fun (p63 : Addr) =>
 ((0 : Int) ≤ thread ∧ thread < (l50 : Int)) ∧
 May w62 (Addr.add (Addr.add p63 (Int.toNat thread * 1)) 0) ∧ ∀ w64 : World, SetC w62 w64 (Addr.add (Addr.add p63 (Int.toNat thread * 1)) 0) (.slice a61 l61 c61) →
 M19 w64)) ∧
 (∃ (a65 : Option Addr) (l65 c65 : Nat), World.cell? w21 (Addr.add (Addr.add p49 (Int.toNat thread * 1)) 0) = some (.slice a65 l65 c65) ∧
 (∃ (a66 : Option Addr) (l66 c66 : Nat), World.cell? w21 ⟨hV, 4, none⟩ = some (.slice a66 l66 c66) ∧
 ∀ (b67 : Nat) (w68 : World), NewAt w21 w68 b67 #[.int .i64 n14] 3 →
 RunF Try.prog (Builtin.append_ #[42, 42] 42 #[.slice a65 l65 c65, .slice (some ⟨b67, 0, none⟩) 1 1]) w68 [.leaf .slice] fun (a69 : Option Addr) (l69 c69 : Nat) (w70 : World) =>
 PtrOK a66 fun (p71 : Addr) =>
 ((0 : Int) ≤ thread ∧ thread < (l66 : Int)) ∧
 May w70 (Addr.add (Addr.add p71 (Int.toNat thread * 1)) 0) ∧ ∀ w72 : World, SetC w70 w72 (Addr.add (Addr.add p71 (Int.toNat thread * 1)) 0) (.slice a69 l69 c69) →
 M19 w72) ∧
 (∀ (b73 : Nat) (w74 : World), NewAt w21 w74 b73 #[.int .i64 n14] 3 →
 (∃ (a75 : Option Addr) (l75 c75 : Nat), World.cell? w74 ⟨hV, 4, none⟩ = some (.slice a75 l75 c75) ∧
 RunF Try.prog (Builtin.append_ #[42, 42] 42 #[.slice a65 l65 c65, .slice (some ⟨b73, 0, none⟩) 1 1]) w74 [.leaf .slice] fun (a76 : Option Addr) (l76 c76 : Nat) (w77 : World) =>
 PtrOK a75 fun (p78 : Addr) =>
 ((0 : Int) ≤ thread ∧ thread < (l75 : Int)) ∧
 May w77 (Addr.add (Addr.add p78 (Int.toNat thread * 1)) 0) ∧ ∀ w79 : World, SetC w77 w79 (Addr.add (Addr.add p78 (Int.toNat thread * 1)) 0) (.slice a76 l76 c76) →
 M19 w79) ∧
 (RunF Try.prog (Builtin.append_ #[42, 42] 42 #[.slice a65 l65 c65, .slice (some ⟨b73, 0, none⟩) 1 1]) w74 [.leaf .slice] fun (a80 : Option Addr) (l80 c80 : Nat) (w81 : World) =>
 ∃ (a82 : Option Addr) (l82 c82 : Nat), World.cell? w81 ⟨hV, 4, none⟩ = some (.slice a82 l82 c82) ∧
 PtrOK a82 fun (p83 : Addr) =>
 ((0 : Int) ≤ thread ∧ thread < (l82 : Int)) ∧
 May w81 (Addr.add (Addr.add p83 (Int.toNat thread * 1)) 0) ∧ ∀ w84 : World, SetC w81 w84 (Addr.add (Addr.add p83 (Int.toNat thread * 1)) 0) (.slice a80 l80 c80) →
 M19 w84))) ∧
 (∀ (b85 : Nat) (w86 : World), NewAt w21 w86 b85 #[.int .i64 n14] 3 →
 ∃ (a87 : Option Addr) (l87 c87 : Nat), World.cell? w86 (Addr.add (Addr.add p49 (Int.toNat thread * 1)) 0) = some (.slice a87 l87 c87) ∧
 (∃ (a88 : Option Addr) (l88 c88 : Nat), World.cell? w86 ⟨hV, 4, none⟩ = some (.slice a88 l88 c88) ∧
 RunF Try.prog (Builtin.append_ #[42, 42] 42 #[.slice a87 l87 c87, .slice (some ⟨b85, 0, none⟩) 1 1]) w86 [.leaf .slice] fun (a89 : Option Addr) (l89 c89 : Nat) (w90 : World) =>
 PtrOK a88 fun (p91 : Addr) =>
 ((0 : Int) ≤ thread ∧ thread < (l88 : Int)) ∧
 May w90 (Addr.add (Addr.add p91 (Int.toNat thread * 1)) 0) ∧ ∀ w92 : World, SetC w90 w92 (Addr.add (Addr.add p91 (Int.toNat thread * 1)) 0) (.slice a89 l89 c89) →
 M19 w92) ∧
 (RunF Try.prog (Builtin.append_ #[42, 42] 42 #[.slice a87 l87 c87, .slice (some ⟨b85, 0, none⟩) 1 1]) w86 [.leaf .slice] fun (a93 : Option Addr) (l93 c93 : Nat) (w94 : World) =>
 ∃ (a95 : Option Addr) (l95 c95 : Nat), World.cell? w94 ⟨hV, 4, none⟩ = some (.slice a95 l95 c95) ∧
 PtrOK a95 fun (p96 : Addr) =>
 ((0 : Int) ≤ thread ∧ thread < (l95 : Int)) ∧
 May w94 (Addr.add (Addr.add p96 (Int.toNat thread * 1)) 0) ∧ ∀ w97 : World, SetC w94 w97 (Addr.add (Addr.add p96 (Int.toNat thread * 1)) 0) (.slice a93 l93 c93) →
 M19 w97))) ∧
 (∀ (b98 : Nat) (w99 : World), NewAt w21 w99 b98 #[.int .i64 n14] 3 →
 ∃ (a100 : Option Addr) (l100 c100 : Nat), World.cell? w99 ⟨hV, 4, none⟩ = some (.slice a100 l100 c100) ∧
 PtrOK a100 fun (p101 : Addr) =>
 ((0 : Int) ≤ thread ∧ thread < (l100 : Int)) ∧
 ∃ (a102 : Option Addr) (l102 c102 : Nat), World.cell? w99 (Addr.add (Addr.add p101 (Int.toNat thread * 1)) 0) = some (.slice a102 l102 c102) ∧
 (∃ (a103 : Option Addr) (l103 c103 : Nat), World.cell? w99 ⟨hV, 4, none⟩ = some (.slice a103 l103 c103) ∧
 RunF Try.prog (Builtin.append_ #[42, 42] 42 #[.slice a102 l102 c102, .slice (some ⟨b98, 0, none⟩) 1 1]) w99 [.leaf .slice] fun (a104 : Option Addr) (l104 c104 : Nat) (w105 : World) =>
 PtrOK a103 fun (p106 : Addr) =>
 ((0 : Int) ≤ thread ∧ thread < (l103 : Int)) ∧
 May w105 (Addr.add (Addr.add p106 (Int.toNat thread * 1)) 0) ∧ ∀ w107 : World, SetC w105 w107 (Addr.add (Addr.add p106 (Int.toNat thread * 1)) 0) (.slice a104 l104 c104) →
 M19 w107) ∧
 (RunF Try.prog (Builtin.append_ #[42, 42] 42 #[.slice a102 l102 c102, .slice (some ⟨b98, 0, none⟩) 1 1]) w99 [.leaf .slice] fun (a108 : Option Addr) (l108 c108 : Nat) (w109 : World) =>
 ∃ (a110 : Option Addr) (l110 c110 : Nat), World.cell? w109 ⟨hV, 4, none⟩ = some (.slice a110 l110 c110) ∧
 PtrOK a110 fun (p111 : Addr) =>
 ((0 : Int) ≤ thread ∧ thread < (l110 : Int)) ∧
 May w109 (Addr.add (Addr.add p111 (Int.toNat thread * 1)) 0) ∧ ∀ w112 : World, SetC w109 w112 (Addr.add (Addr.add p111 (Int.toNat thread * 1)) 0) (.slice a108 l108 c108) →
 M19 w112))) ∧
 ∀ (_ : Env) (w20 : World), M19 w20 →
 ∃ (n113 : Int), World.cell? w20 ⟨hV, 6, none⟩ = some (.int .i64 n113) ∧
 IfB (!decide ((n113 : Int) = 0))
 (∃ (m114 : Option Nat), World.cell? w20 ⟨hV, 7, none⟩ = some (.map m114) ∧
 ∃ w115 : World, Sem.run Try.prog (Instr.mapUpdate 162 (.map m114) (.int .i64 n14) (.bool true)) w20 = .ok () w115 ∧
 K n14 0 w115)
 (K n14 0 w20))
theorem r_f113 (hV : Nat) (thread : Int) (kind : Int) (classV : Int) (n : Int) (w : World) (K : Int → Int → World → Prop) (h : V_f113 hV thread kind classV n w K) : C113 (some ⟨hV, 0, none⟩) thread kind classV n w K :=
  @calls_of_eq Try.prog 113 Try.f113 [.pointer (some ⟨hV, 0, none⟩), .int .i64 thread, .int .i64 kind, .int .i64 classV, .int .i64 n] w [.leaf (.int .i64), .leaf (.int .i64)] K _ (cfg true (fun _ => [])) (fun _ => none) (fun n => bif Nat.beq n 10 then some ⟨[], []⟩ else bif Nat.beq n 13 then some ⟨[], []⟩ else none) (fun n => bif Nat.beq n 8 then some 14 else none) Try.func113 (by kernel_rfl) (by kernel_rfl) h

/-- (*gneiss/collect.Heap).Push -/
def V_f114 (hV : Nat) (thread : Int) (ref : Int) (w : World) (K : Int → World → Prop) : Prop :=
 C169 (some ⟨hV, 0, none⟩) thread w fun n1 w2 =>
 IfB (!decide ((n1 : Int) = 0))
 (K n1 w2)
 (∃ (a3 : Option Addr) (l3 c3 : Nat), World.cell? w2 ⟨hV, 4, none⟩ = some (.slice a3 l3 c3) ∧
 PtrOK a3 fun (p4 : Addr) =>
 ((0 : Int) ≤ thread ∧ thread < (l3 : Int)) ∧
 ∃ (a5 : Option Addr) (l5 c5 : Nat), World.cell? w2 (Addr.add (Addr.add p4 (Int.toNat thread * 1)) 0) = some (.slice a5 l5 c5) ∧
 IfB (decide ((64 : Int) ≤ (l5 : Int)))
 (K 1203 w2)
 (C170 (some ⟨hV, 0, none⟩) ref w2 fun w6 =>
 ∀ w7 : World, Drew w6 w7 →
 (∃ (a8 : Option Addr) (l8 c8 : Nat), World.cell? w7 ⟨hV, 4, none⟩ = some (.slice a8 l8 c8) ∧
 (∃ (a9 : Option Addr) (l9 c9 : Nat), World.cell? w7 ⟨hV, 4, none⟩ = some (.slice a9 l9 c9) ∧
 PtrOK a9 fun (p10 : Addr) =>
 ((0 : Int) ≤ thread ∧ thread < (l9 : Int)) ∧
 (∃ (a11 : Option Addr) (l11 c11 : Nat), World.cell? w7 (Addr.add (Addr.add p10 (Int.toNat thread * 1)) 0) = some (.slice a11 l11 c11) ∧
 ∀ (b12 : Nat) (w13 : World), NewAt w7 w13 b12 #[.int .i64 ref] 3 →
 RunF Try.prog (Builtin.append_ #[42, 42] 42 #[.slice a11 l11 c11, .slice (some ⟨b12, 0, none⟩) 1 1]) w13 [.leaf .slice] fun (a14 : Option Addr) (l14 c14 : Nat) (w15 : World) =>
 PtrOK a8 fun (p16 : Addr) =>
 ((0 : Int) ≤ thread ∧ thread < (l8 : Int)) ∧
 May w15 (Addr.add (Addr.add p16 (Int.toNat thread * 1)) 0) ∧ ∀ w17 : World, SetC w15 w17 (Addr.add (Addr.add p16 (Int.toNat thread * 1)) 0) (.slice a14 l14 c14) →
 K 0 w17) ∧
 (∀ (b18 : Nat) (w19 : World), NewAt w7 w19 b18 #[.int .i64 ref] 3 →
 ∃ (a20 : Option Addr) (l20 c20 : Nat), World.cell? w19 (Addr.add (Addr.add p10 (Int.toNat thread * 1)) 0) = some (.slice a20 l20 c20) ∧
 RunF Try.prog (Builtin.append_ #[42, 42] 42 #[.slice a20 l20 c20, .slice (some ⟨b18, 0, none⟩) 1 1]) w19 [.leaf .slice] fun (a21 : Option Addr) (l21 c21 : Nat) (w22 : World) =>
 PtrOK a8 fun (p23 : Addr) =>
 ((0 : Int) ≤ thread ∧ thread < (l8 : Int)) ∧
 May w22 (Addr.add (Addr.add p23 (Int.toNat thread * 1)) 0) ∧ ∀ w24 : World, SetC w22 w24 (Addr.add (Addr.add p23 (Int.toNat thread * 1)) 0) (.slice a21 l21 c21) →
 K 0 w24)) ∧
 (∀ (b25 : Nat) (w26 : World), NewAt w7 w26 b25 #[.int .i64 ref] 3 →
 ∃ (a27 : Option Addr) (l27 c27 : Nat), World.cell? w26 ⟨hV, 4, none⟩ = some (.slice a27 l27 c27) ∧
 PtrOK a27 fun (p28 : Addr) =>
 ((0 : Int) ≤ thread ∧ thread < (l27 : Int)) ∧
 ∃ (a29 : Option Addr) (l29 c29 : Nat), World.cell? w26 (Addr.add (Addr.add p28 (Int.toNat thread * 1)) 0) = some (.slice a29 l29 c29) ∧
 RunF Try.prog (Builtin.append_ #[42, 42] 42 #[.slice a29 l29 c29, .slice (some ⟨b25, 0, none⟩) 1 1]) w26 [.leaf .slice] fun (a30 : Option Addr) (l30 c30 : Nat) (w31 : World) =>
 PtrOK a8 fun (p32 : Addr) =>
 ((0 : Int) ≤ thread ∧ thread < (l8 : Int)) ∧
 May w31 (Addr.add (Addr.add p32 (Int.toNat thread * 1)) 0) ∧ ∀ w33 : World, SetC w31 w33 (Addr.add (Addr.add p32 (Int.toNat thread * 1)) 0) (.slice a30 l30 c30) →
 K 0 w33)) ∧
 (∃ (a34 : Option Addr) (l34 c34 : Nat), World.cell? w7 ⟨hV, 4, none⟩ = some (.slice a34 l34 c34) ∧
 PtrOK a34 fun (p35 : Addr) =>
 ((0 : Int) ≤ thread ∧ thread < (l34 : Int)) ∧
 (∃ (a36 : Option Addr) (l36 c36 : Nat), World.cell? w7 ⟨hV, 4, none⟩ = some (.slice a36 l36 c36) ∧
 (∃ (a37 : Option Addr) (l37 c37 : Nat), World.cell? w7 (Addr.add (Addr.add p35 (Int.toNat thread * 1)) 0) = some (.slice a37 l37 c37) ∧
 ∀ (b38 : Nat) (w39 : World), NewAt w7 w39 b38 #[.int .i64 ref] 3 →
 RunF Try.prog (Builtin.append_ #[42, 42] 42 #[.slice a37 l37 c37, .slice (some ⟨b38, 0, none⟩) 1 1]) w39 [.leaf .slice] fun (a40 : Option Addr) (l40 c40 : Nat) (w41 : World) =>
 PtrOK a36 fun (p42 : Addr) =>
 ((0 : Int) ≤ thread ∧ thread < (l36 : Int)) ∧
 May w41 (Addr.add (Addr.add p42 (Int.toNat thread * 1)) 0) ∧ ∀ w43 : World, SetC w41 w43 (Addr.add (Addr.add p42 (Int.toNat thread * 1)) 0) (.slice a40 l40 c40) →
 K 0 w43) ∧
 (∀ (b44 : Nat) (w45 : World), NewAt w7 w45 b44 #[.int .i64 ref] 3 →
 ∃ (a46 : Option Addr) (l46 c46 : Nat), World.cell? w45 (Addr.add (Addr.add p35 (Int.toNat thread * 1)) 0) = some (.slice a46 l46 c46) ∧
 RunF Try.prog (Builtin.append_ #[42, 42] 42 #[.slice a46 l46 c46, .slice (some ⟨b44, 0, none⟩) 1 1]) w45 [.leaf .slice] fun (a47 : Option Addr) (l47 c47 : Nat) (w48 : World) =>
 PtrOK a36 fun (p49 : Addr) =>
 ((0 : Int) ≤ thread ∧ thread < (l36 : Int)) ∧
 May w48 (Addr.add (Addr.add p49 (Int.toNat thread * 1)) 0) ∧ ∀ w50 : World, SetC w48 w50 (Addr.add (Addr.add p49 (Int.toNat thread * 1)) 0) (.slice a47 l47 c47) →
 K 0 w50)) ∧
 (∃ (a51 : Option Addr) (l51 c51 : Nat), World.cell? w7 (Addr.add (Addr.add p35 (Int.toNat thread * 1)) 0) = some (.slice a51 l51 c51) ∧
 (∃ (a52 : Option Addr) (l52 c52 : Nat), World.cell? w7 ⟨hV, 4, none⟩ = some (.slice a52 l52 c52) ∧
 ∀ (b53 : Nat) (w54 : World), NewAt w7 w54 b53 #[.int .i64 ref] 3 →
 RunF Try.prog (Builtin.append_ #[42, 42] 42 #[.slice a51 l51 c51, .slice (some ⟨b53, 0, none⟩) 1 1]) w54 [.leaf .slice] fun (a55 : Option Addr) (l55 c55 : Nat) (w56 : World) =>
 PtrOK a52 fun (p57 : Addr) =>
 ((0 : Int) ≤ thread ∧ thread < (l52 : Int)) ∧
 May w56 (Addr.add (Addr.add p57 (Int.toNat thread * 1)) 0) ∧ ∀ w58 : World, SetC w56 w58 (Addr.add (Addr.add p57 (Int.toNat thread * 1)) 0) (.slice a55 l55 c55) →
 K 0 w58) ∧
 (∀ (b59 : Nat) (w60 : World), NewAt w7 w60 b59 #[.int .i64 ref] 3 →
 (∃ (a61 : Option Addr) (l61 c61 : Nat), World.cell? w60 ⟨hV, 4, none⟩ = some (.slice a61 l61 c61) ∧
 RunF Try.prog (Builtin.append_ #[42, 42] 42 #[.slice a51 l51 c51, .slice (some ⟨b59, 0, none⟩) 1 1]) w60 [.leaf .slice] fun (a62 : Option Addr) (l62 c62 : Nat) (w63 : World) =>
 PtrOK a61 fun (p64 : Addr) =>
 ((0 : Int) ≤ thread ∧ thread < (l61 : Int)) ∧
 May w63 (Addr.add (Addr.add p64 (Int.toNat thread * 1)) 0) ∧ ∀ w65 : World, SetC w63 w65 (Addr.add (Addr.add p64 (Int.toNat thread * 1)) 0) (.slice a62 l62 c62) →
 K 0 w65) ∧
 (RunF Try.prog (Builtin.append_ #[42, 42] 42 #[.slice a51 l51 c51, .slice (some ⟨b59, 0, none⟩) 1 1]) w60 [.leaf .slice] fun (a66 : Option Addr) (l66 c66 : Nat) (w67 : World) =>
 ∃ (a68 : Option Addr) (l68 c68 : Nat), World.cell? w67 ⟨hV, 4, none⟩ = some (.slice a68 l68 c68) ∧
 PtrOK a68 fun (p69 : Addr) =>
 ((0 : Int) ≤ thread ∧ thread < (l68 : Int)) ∧
 May w67 (Addr.add (Addr.add p69 (Int.toNat thread * 1)) 0) ∧ ∀ w70 : World, SetC w67 w70 (Addr.add (Addr.add p69 (Int.toNat thread * 1)) 0) (.slice a66 l66 c66) →
 K 0 w70))) ∧
 (∀ (b71 : Nat) (w72 : World), NewAt w7 w72 b71 #[.int .i64 ref] 3 →
 ∃ (a73 : Option Addr) (l73 c73 : Nat), World.cell? w72 (Addr.add (Addr.add p35 (Int.toNat thread * 1)) 0) = some (.slice a73 l73 c73) ∧
 (∃ (a74 : Option Addr) (l74 c74 : Nat), World.cell? w72 ⟨hV, 4, none⟩ = some (.slice a74 l74 c74) ∧
 RunF Try.prog (Builtin.append_ #[42, 42] 42 #[.slice a73 l73 c73, .slice (some ⟨b71, 0, none⟩) 1 1]) w72 [.leaf .slice] fun (a75 : Option Addr) (l75 c75 : Nat) (w76 : World) =>
 PtrOK a74 fun (p77 : Addr) =>
 ((0 : Int) ≤ thread ∧ thread < (l74 : Int)) ∧
 May w76 (Addr.add (Addr.add p77 (Int.toNat thread * 1)) 0) ∧ ∀ w78 : World, SetC w76 w78 (Addr.add (Addr.add p77 (Int.toNat thread * 1)) 0) (.slice a75 l75 c75) →
 K 0 w78) ∧
 (RunF Try.prog (Builtin.append_ #[42, 42] 42 #[.slice a73 l73 c73, .slice (some ⟨b71, 0, none⟩) 1 1]) w72 [.leaf .slice] fun (a79 : Option Addr) (l79 c79 : Nat) (w80 : World) =>
 ∃ (a81 : Option Addr) (l81 c81 : Nat), World.cell? w80 ⟨hV, 4, none⟩ = some (.slice a81 l81 c81) ∧
 PtrOK a81 fun (p82 : Addr) =>
 ((0 : Int) ≤ thread ∧ thread < (l81 : Int)) ∧
 May w80 (Addr.add (Addr.add p82 (Int.toNat thread * 1)) 0) ∧ ∀ w83 : World, SetC w80 w83 (Addr.add (Addr.add p82 (Int.toNat thread * 1)) 0) (.slice a79 l79 c79) →
 K 0 w83))) ∧
 (∀ (b84 : Nat) (w85 : World), NewAt w7 w85 b84 #[.int .i64 ref] 3 →
 ∃ (a86 : Option Addr) (l86 c86 : Nat), World.cell? w85 ⟨hV, 4, none⟩ = some (.slice a86 l86 c86) ∧
 PtrOK a86 fun (p87 : Addr) =>
 ((0 : Int) ≤ thread ∧ thread < (l86 : Int)) ∧
 ∃ (a88 : Option Addr) (l88 c88 : Nat), World.cell? w85 (Addr.add (Addr.add p87 (Int.toNat thread * 1)) 0) = some (.slice a88 l88 c88) ∧
 (∃ (a89 : Option Addr) (l89 c89 : Nat), World.cell? w85 ⟨hV, 4, none⟩ = some (.slice a89 l89 c89) ∧
 RunF Try.prog (Builtin.append_ #[42, 42] 42 #[.slice a88 l88 c88, .slice (some ⟨b84, 0, none⟩) 1 1]) w85 [.leaf .slice] fun (a90 : Option Addr) (l90 c90 : Nat) (w91 : World) =>
 PtrOK a89 fun (p92 : Addr) =>
 ((0 : Int) ≤ thread ∧ thread < (l89 : Int)) ∧
 May w91 (Addr.add (Addr.add p92 (Int.toNat thread * 1)) 0) ∧ ∀ w93 : World, SetC w91 w93 (Addr.add (Addr.add p92 (Int.toNat thread * 1)) 0) (.slice a90 l90 c90) →
 K 0 w93) ∧
 (RunF Try.prog (Builtin.append_ #[42, 42] 42 #[.slice a88 l88 c88, .slice (some ⟨b84, 0, none⟩) 1 1]) w85 [.leaf .slice] fun (a94 : Option Addr) (l94 c94 : Nat) (w95 : World) =>
 ∃ (a96 : Option Addr) (l96 c96 : Nat), World.cell? w95 ⟨hV, 4, none⟩ = some (.slice a96 l96 c96) ∧
 PtrOK a96 fun (p97 : Addr) =>
 ((0 : Int) ≤ thread ∧ thread < (l96 : Int)) ∧
 May w95 (Addr.add (Addr.add p97 (Int.toNat thread * 1)) 0) ∧ ∀ w98 : World, SetC w95 w98 (Addr.add (Addr.add p97 (Int.toNat thread * 1)) 0) (.slice a94 l94 c94) →
 K 0 w98))))
theorem r_f114 (hV : Nat) (thread : Int) (ref : Int) (w : World) (K : Int → World → Prop) (h : V_f114 hV thread ref w K) : C114 (some ⟨hV, 0, none⟩) thread ref w K :=
  @calls_of_eq Try.prog 114 Try.f114 [.pointer (some ⟨hV, 0, none⟩), .int .i64 thread, .int .i64 ref] w [.leaf (.int .i64)] K _ (cfg true (fun _ => [])) (fun _ => none) (fun _ => none) (fun _ => none) Try.func114 (by kernel_rfl) (by kernel_rfl) h

/-- (*gneiss/collect.Heap).Pop -/
def V_f115 (hV : Nat) (thread : Int) (w : World) (K : Int → Int → World → Prop) : Prop :=
 C169 (some ⟨hV, 0, none⟩) thread w fun n1 w2 =>
 IfB (!decide ((n1 : Int) = 0))
 (K 0 n1 w2)
 (∃ (a3 : Option Addr) (l3 c3 : Nat), World.cell? w2 ⟨hV, 4, none⟩ = some (.slice a3 l3 c3) ∧
 PtrOK a3 fun (p4 : Addr) =>
 ((0 : Int) ≤ thread ∧ thread < (l3 : Int)) ∧
 ∃ (a5 : Option Addr) (l5 c5 : Nat), World.cell? w2 (Addr.add (Addr.add p4 (Int.toNat thread * 1)) 0) = some (.slice a5 l5 c5) ∧
 IfB (decide (((l5 : Int) : Int) = 0))
 (K 0 1203 w2)
 (∀ w6 : World, Drew w2 w6 →
 ∃ (a7 : Option Addr) (l7 c7 : Nat), World.cell? w6 (Addr.add (Addr.add p4 (Int.toNat thread * 1)) 0) = some (.slice a7 l7 c7) ∧
 ∃ (a8 : Option Addr) (l8 c8 : Nat), World.cell? w6 (Addr.add (Addr.add p4 (Int.toNat thread * 1)) 0) = some (.slice a8 l8 c8) ∧
 Fit .i64 ((l8 : Int) - 1) ∧
 PtrOK a7 fun (p9 : Addr) =>
 ((0 : Int) ≤ ((l8 : Int) - 1) ∧ ((l8 : Int) - 1) < (l7 : Int)) ∧
 ∃ (n10 : Int), World.cell? w6 (Addr.add p9 (Int.toNat ((l8 : Int) - 1) * 1)) = some (.int .i64 n10) ∧
 ∀ w11 : World, Drew w6 w11 →
 ∃ (a12 : Option Addr) (l12 c12 : Nat), World.cell? w11 (Addr.add (Addr.add p4 (Int.toNat thread * 1)) 0) = some (.slice a12 l12 c12) ∧
 ∃ (a13 : Option Addr) (l13 c13 : Nat), World.cell? w11 (Addr.add (Addr.add p4 (Int.toNat thread * 1)) 0) = some (.slice a13 l13 c13) ∧
 Fit .i64 ((l13 : Int) - 1) ∧
 ((0 : Int) ≤ ((l13 : Int) - 1) ∧ ((l13 : Int) - 1) ≤ (c12 : Int)) ∧
 May w11 (Addr.add (Addr.add p4 (Int.toNat thread * 1)) 0) ∧ ∀ w14 : World, SetC w11 w14 (Addr.add (Addr.add p4 (Int.toNat thread * 1)) 0) (.slice a12 (Int.toNat ((l13 : Int) - 1)) c12) →
 K n10 0 w14))
theorem r_f115 (hV : Nat) (thread : Int) (w : World) (K : Int → Int → World → Prop) (h : V_f115 hV thread w K) : C115 (some ⟨hV, 0, none⟩) thread w K :=
  @calls_of_eq Try.prog 115 Try.f115 [.pointer (some ⟨hV, 0, none⟩), .int .i64 thread] w [.leaf (.int .i64), .leaf (.int .i64)] K _ (cfg true (fun _ => [])) (fun _ => none) (fun _ => none) (fun n => bif Nat.beq n 7 then some 13 else bif Nat.beq n 8 then some 14 else none) Try.func115 (by kernel_rfl) (by kernel_rfl) h

/-- (*gneiss/collect.Heap).Phase -/
def V_f127 (hV : Nat) (w : World) (K : Int → World → Prop) : Prop :=
 ∃ (n1 : Int), World.cell? w ⟨hV, 6, none⟩ = some (.int .i64 n1) ∧
 K n1 w
theorem r_f127 (hV : Nat) (w : World) (K : Int → World → Prop) (h : V_f127 hV w K) : C127 (some ⟨hV, 0, none⟩) w K :=
  @calls_of_eq Try.prog 127 Try.f127 [.pointer (some ⟨hV, 0, none⟩)] w [.leaf (.int .i64)] K _ (cfg true (fun _ => [])) (fun _ => none) (fun _ => none) (fun _ => none) Try.func127 (by kernel_rfl) (by kernel_rfl) h

/-- (*gneiss/collect.Heap).Begin -/
def V_f118 (hV : Nat) (w : World) (K : Int → World → Prop) : Prop :=
 ∃ (n1 : Int), World.cell? w ⟨hV, 6, none⟩ = some (.int .i64 n1) ∧
 IfB (decide ((n1 : Int) = 0))
 (∀ (b2 : Nat) (w3 : World), NewMap w w3 b2 →
 May w3 ⟨hV, 6, none⟩ ∧ ∀ w4 : World, SetC w3 w4 ⟨hV, 6, none⟩ (.int .i64 1) →
 May w4 ⟨hV, 7, none⟩ ∧ ∀ w5 : World, SetC w4 w5 ⟨hV, 7, none⟩ (.map (some b2)) →
 May w5 ⟨hV, 8, none⟩ ∧ ∀ w6 : World, SetC w5 w6 ⟨hV, 8, none⟩ (.slice none 0 0) →
 ∃ (q7 : Option Addr), World.cell? w6 ⟨hV, 5, none⟩ = some (.pointer q7) ∧
 C35 q7 1 w6 fun n8 w9 =>
 K 0 w9)
 (K 0 w)
theorem r_f118 (hV : Nat) (w : World) (K : Int → World → Prop) (h : V_f118 hV w K) : C118 (some ⟨hV, 0, none⟩) w K :=
  @calls_of_eq Try.prog 118 Try.f118 [.pointer (some ⟨hV, 0, none⟩)] w [.leaf (.int .i64)] K _ (cfg true (fun _ => [])) (fun _ => none) (fun _ => none) (fun _ => none) Try.func118 (by kernel_rfl) (by kernel_rfl) h

/-- gneiss/gneisslaw12.turn -/
def V_f119 (hV : Nat) (threads : Int) (w : World) (K : Bool → World → Prop) : Prop :=
 C124 (some ⟨hV, 0, none⟩) w fun b1 n2 w3 =>
 ∃ (I4 : Int → World → Prop) (m5 : Int → World → Nat),
 I4 0 w3 ∧
 ∀ (_ : Env) (n6 : Int) (w7 : World), I4 n6 w7 →
 IfB (decide ((n6 : Int) < threads))
 (C125 (some ⟨hV, 0, none⟩) n6 w7 fun n8 w9 =>
 Fit .i64 (n6 + 1) ∧
 (I4 (n6 + 1) w9 ∧
 m5 (n6 + 1) w9 < m5 n6 w7))
 (K b1 w7)
theorem r_f119 (hV : Nat) (threads : Int) (w : World) (K : Bool → World → Prop) (h : V_f119 hV threads w K) : C119 (some ⟨hV, 0, none⟩) threads w K :=
  @calls_of_eq Try.prog 119 Try.f119 [.pointer (some ⟨hV, 0, none⟩), .int .i64 threads] w [.leaf .bool] K _ (cfg true (fun _ => [])) (fun n => bif Nat.beq n 0 then some ⟨[7], [.int .i64]⟩ else none) (fun _ => none) (fun _ => none) Try.func119 (by kernel_rfl) (by kernel_rfl) h

/-- (*gneiss/collect.Heap).Refs -/
def V_f120 (hV : Nat) (w : World) (K : Option Addr → Nat → Nat → World → Prop) : Prop :=
 ∃ (q1 : Option Addr), World.cell? w ⟨hV, 0, none⟩ = some (.pointer q1) ∧
 C95 q1 w fun a2 l2 c2 w3 =>
 K a2 l2 c2 w3
theorem r_f120 (hV : Nat) (w : World) (K : Option Addr → Nat → Nat → World → Prop) (h : V_f120 hV w K) : C120 (some ⟨hV, 0, none⟩) w K :=
  @calls_of_eq Try.prog 120 Try.f120 [.pointer (some ⟨hV, 0, none⟩)] w [.leaf .slice] K _ (cfg true (fun _ => [])) (fun _ => none) (fun _ => none) (fun _ => none) Try.func120 (by kernel_rfl) (by kernel_rfl) h

/-- (*gneiss/collect.Heap).Put -/
def V_f121 (hV : Nat) (thread : Int) (ref : Int) (i : Int) (v : Int) (w : World) (K : Int → World → Prop) : Prop :=
 C169 (some ⟨hV, 0, none⟩) thread w fun n1 w2 =>
 IfB (!decide ((n1 : Int) = 0))
 (K n1 w2)
 (∃ (q3 : Option Addr), World.cell? w2 ⟨hV, 0, none⟩ = some (.pointer q3) ∧
 C83 q3 thread ref i v w2 fun n4 w5 =>
 C172 n4 w5 fun n6 w7 =>
 ∃ (q8 : Option Addr), World.cell? w7 ⟨hV, 0, none⟩ = some (.pointer q8) ∧
 C94 q8 ref w7 fun n9 n10 n11 n12 w13 =>
 ∀ (b14 : Nat) (w15 : World), NewAt w13 w15 b14 #[.int .i64 0, .int .i64 0, .int .i64 0] 133 →
 MayL w15 ⟨b14, 0, none⟩ 3 ∧ ∀ w16 : World, SetL w15 w16 ⟨b14, 0, none⟩ [.int .i64 n9, .int .i64 n10, .int .i64 n11] →
 IfB (decide ((n6 : Int) = 0))
 (∃ (n17 : Int), World.cell? w16 ⟨b14, 0, none⟩ = some (.int .i64 n17) ∧
 IfB (!decide ((n17 : Int) = 2))
 (C170 (some ⟨hV, 0, none⟩) v w16 fun w18 =>
 K n6 w18)
 (K n6 w16))
 (K n6 w16))
theorem r_f121 (hV : Nat) (thread : Int) (ref : Int) (i : Int) (v : Int) (w : World) (K : Int → World → Prop) (h : V_f121 hV thread ref i v w K) : C121 (some ⟨hV, 0, none⟩) thread ref i v w K :=
  @calls_of_eq Try.prog 121 Try.f121 [.pointer (some ⟨hV, 0, none⟩), .int .i64 thread, .int .i64 ref, .int .i64 i, .int .i64 v] w [.leaf (.int .i64)] K _ (cfg true (fun _ => [])) (fun _ => none) (fun _ => none) (fun _ => none) Try.func121 (by kernel_rfl) (by kernel_rfl) h

/-- (*gneiss/collect.Heap).Cycles -/
def V_f122 (hV : Nat) (w : World) (K : Int → World → Prop) : Prop :=
 ∃ (n1 : Int), World.cell? w ⟨hV, 10, none⟩ = some (.int .i64 n1) ∧
 K n1 w
theorem r_f122 (hV : Nat) (w : World) (K : Int → World → Prop) (h : V_f122 hV w K) : C122 (some ⟨hV, 0, none⟩) w K :=
  @calls_of_eq Try.prog 122 Try.f122 [.pointer (some ⟨hV, 0, none⟩)] w [.leaf (.int .i64)] K _ (cfg true (fun _ => [])) (fun _ => none) (fun _ => none) (fun _ => none) Try.func122 (by kernel_rfl) (by kernel_rfl) h

/-- (*gneiss/collect.Heap).Load -/
def V_f126 (hV : Nat) (thread : Int) (ref : Int) (i : Int) (w : World) (K : Int → Int → World → Prop) : Prop :=
 C169 (some ⟨hV, 0, none⟩) thread w fun n1 w2 =>
 IfB (!decide ((n1 : Int) = 0))
 (K 0 n1 w2)
 (∃ (q3 : Option Addr), World.cell? w2 ⟨hV, 0, none⟩ = some (.pointer q3) ∧
 C84 q3 thread ref i w2 fun n4 n5 w6 =>
 C172 n5 w6 fun n7 w8 =>
 K n4 n7 w8)
theorem r_f126 (hV : Nat) (thread : Int) (ref : Int) (i : Int) (w : World) (K : Int → Int → World → Prop) (h : V_f126 hV thread ref i w K) : C126 (some ⟨hV, 0, none⟩) thread ref i w K :=
  @calls_of_eq Try.prog 126 Try.f126 [.pointer (some ⟨hV, 0, none⟩), .int .i64 thread, .int .i64 ref, .int .i64 i] w [.leaf (.int .i64), .leaf (.int .i64)] K _ (cfg true (fun _ => [])) (fun _ => none) (fun _ => none) (fun _ => none) Try.func126 (by kernel_rfl) (by kernel_rfl) h

/-- (*gneiss/collect.Heap).Answer -/
def V_f125 (hV : Nat) (thread : Int) (w : World) (K : Int → World → Prop) : Prop :=
 C169 (some ⟨hV, 0, none⟩) thread w fun n1 w2 =>
 IfB (!decide ((n1 : Int) = 0))
 (K n1 w2)
 (∃ (q3 : Option Addr), World.cell? w2 ⟨hV, 5, none⟩ = some (.pointer q3) ∧
 C36 q3 thread w2 fun n4 b5 n6 w7 =>
 IfB b5
 (∃ (a8 : Option Addr) (l8 c8 : Nat), World.cell? w7 ⟨hV, 4, none⟩ = some (.slice a8 l8 c8) ∧
 PtrOK a8 fun (p9 : Addr) =>
 ((0 : Int) ≤ thread ∧ thread < (l8 : Int)) ∧
 ∃ (a10 : Option Addr) (l10 c10 : Nat), World.cell? w7 (Addr.add (Addr.add p9 (Int.toNat thread * 1)) 0) = some (.slice a10 l10 c10) ∧
 ∃ (I11 : Int → World → Prop) (m12 : Int → World → Nat),
 I11 0 w7 ∧
 ∀ (_ : Env) (n13 : Int) (w14 : World), I11 n13 w14 →
 IfB (decide ((n13 : Int) < (l10 : Int)))
 (PtrOK a10 fun (p15 : Addr) =>
 ((0 : Int) ≤ n13 ∧ n13 < (l10 : Int)) ∧
 ∃ (n16 : Int), World.cell? w14 (Addr.add p15 (Int.toNat n13 * 1)) = some (.int .i64 n16) ∧
 C170 (some ⟨hV, 0, none⟩) n16 w14 fun w17 =>
 Fit .i64 (n13 + 1) ∧
 (I11 (n13 + 1) w17 ∧
 m12 (n13 + 1) w17 < m12 n13 w14))
 (∃ (q18 : Option Addr), World.cell? w14 ⟨hV, 5, none⟩ = some (.pointer q18) ∧
 C37 q18 thread w14 fun n19 w20 =>
 K 0 w20))
 (K 0 w7))
theorem r_f125 (hV : Nat) (thread : Int) (w : World) (K : Int → World → Prop) (h : V_f125 hV thread w K) : C125 (some ⟨hV, 0, none⟩) thread w K :=
  @calls_of_eq Try.prog 125 Try.f125 [.pointer (some ⟨hV, 0, none⟩), .int .i64 thread] w [.leaf (.int .i64)] K _ (cfg true (fun _ => [])) (fun n => bif Nat.beq n 0 then some ⟨[37], [.int .i64]⟩ else none) (fun _ => none) (fun _ => none) Try.func125 (by kernel_rfl) (by kernel_rfl) h

/-- (*gneiss/collect.Heap).mark -/
def V_f170 (hV : Nat) (ref : Int) (w : World) (K : World → Prop) : Prop :=
 ∃ (n1 : Int), World.cell? w ⟨hV, 6, none⟩ = some (.int .i64 n1) ∧
 IfB (!decide ((n1 : Int) = 1))
 (K w)
 (∃ (m2 : Option Nat), World.cell? w ⟨hV, 7, none⟩ = some (.map m2) ∧
 RunF Try.prog (Instr.lookup 162 (.map m2) (.int .i64 ref) false) w [.leaf .bool] fun (b3 : Bool) (w4 : World) =>
 IfB b3
 (K w4)
 (∃ (q5 : Option Addr), World.cell? w4 ⟨hV, 0, none⟩ = some (.pointer q5) ∧
 C94 q5 ref w4 fun n6 n7 n8 n9 w10 =>
 ∀ (b11 : Nat) (w12 : World), NewAt w10 w12 b11 #[.int .i64 0, .int .i64 0, .int .i64 0] 133 →
 MayL w12 ⟨b11, 0, none⟩ 3 ∧ ∀ w13 : World, SetL w12 w13 ⟨b11, 0, none⟩ [.int .i64 n6, .int .i64 n7, .int .i64 n8] →
 IfB (!decide ((n9 : Int) = 0))
 (K w13)
 (∃ (m14 : Option Nat), World.cell? w13 ⟨hV, 7, none⟩ = some (.map m14) ∧
 ∃ w15 : World, Sem.run Try.prog (Instr.mapUpdate 162 (.map m14) (.int .i64 ref) (.bool true)) w13 = .ok () w15 ∧
 ∃ (a16 : Option Addr) (l16 c16 : Nat), World.cell? w15 ⟨hV, 8, none⟩ = some (.slice a16 l16 c16) ∧
 ∀ (b17 : Nat) (w18 : World), NewAt w15 w18 b17 #[.int .i64 ref] 3 →
 RunF Try.prog (Builtin.append_ #[42, 42] 42 #[.slice a16 l16 c16, .slice (some ⟨b17, 0, none⟩) 1 1]) w18 [.leaf .slice] fun (a19 : Option Addr) (l19 c19 : Nat) (w20 : World) =>
 May w20 ⟨hV, 8, none⟩ ∧ ∀ w21 : World, SetC w20 w21 ⟨hV, 8, none⟩ (.slice a19 l19 c19) →
 K w21)))
theorem r_f170 (hV : Nat) (ref : Int) (w : World) (K : World → Prop) (h : V_f170 hV ref w K) : C170 (some ⟨hV, 0, none⟩) ref w K :=
  @calls_of_eq Try.prog 170 Try.f170 [.pointer (some ⟨hV, 0, none⟩), .int .i64 ref] w [] K _ (cfg true (fun _ => [])) (fun _ => none) (fun _ => none) (fun _ => none) Try.func170 (by kernel_rfl) (by kernel_rfl) h

/-- (*gneiss/collect.Heap).marking -/
def V_f173 (hV : Nat) (w : World) (K : World → Prop) : Prop :=
 ∃ (q1 : Option Addr), World.cell? w ⟨hV, 5, none⟩ = some (.pointer q1) ∧
 C38 q1 w fun b2 w3 =>
 IfB (!b2)
 (K w3)
 (∃ (a4 : Option Addr) (l4 c4 : Nat), World.cell? w3 ⟨hV, 8, none⟩ = some (.slice a4 l4 c4) ∧
 IfB (decide ((0 : Int) < (l4 : Int)))
 (∃ (a5 : Option Addr) (l5 c5 : Nat), World.cell? w3 ⟨hV, 8, none⟩ = some (.slice a5 l5 c5) ∧
 PtrOK a5 fun (p6 : Addr) =>
 ((0 : Int) ≤ 0 ∧ 0 < (l5 : Int)) ∧
 ∃ (n7 : Int), World.cell? w3 (Addr.add p6 (Int.toNat 0 * 1)) = some (.int .i64 n7) ∧
 ∃ (a8 : Option Addr) (l8 c8 : Nat), World.cell? w3 ⟨hV, 8, none⟩ = some (.slice a8 l8 c8) ∧
 ((0 : Int) ≤ 1 ∧ 1 ≤ (l8 : Int)) ∧
 May w3 ⟨hV, 8, none⟩ ∧ ∀ w9 : World, SetC w3 w9 ⟨hV, 8, none⟩ (.slice (Adv a8 c8 (Int.toNat 1) 1) (l8 - Int.toNat 1) (c8 - Int.toNat 1)) →
 ∃ (q10 : Option Addr), World.cell? w9 ⟨hV, 0, none⟩ = some (.pointer q10) ∧
 C94 q10 n7 w9 fun n11 n12 n13 n14 w15 =>
 ∀ (b16 : Nat) (w17 : World), NewAt w15 w17 b16 #[.int .i64 0, .int .i64 0, .int .i64 0] 133 →
 MayL w17 ⟨b16, 0, none⟩ 3 ∧ ∀ w18 : World, SetL w17 w18 ⟨b16, 0, none⟩ [.int .i64 n11, .int .i64 n12, .int .i64 n13] →
 ∃ (I19 : Int → World → Prop) (m20 : Int → World → Nat),
 I19 0 w18 ∧
 ∀ (_ : Env) (n21 : Int) (w22 : World), I19 n21 w22 →
 ∃ (n23 : Int), World.cell? w22 ⟨b16, 0, none⟩ = some (.int .i64 n23) ∧
 IfB (!decide ((n23 : Int) = 2))
 (∃ (n24 : Int), World.cell? w22 ⟨b16, 2, none⟩ = some (.int .i64 n24) ∧
 IfB (decide ((n21 : Int) < n24))
 (∀ w25 : World, Drew w22 w25 →
 ∃ (q26 : Option Addr), World.cell? w25 ⟨hV, 0, none⟩ = some (.pointer q26) ∧
 ∃ (n27 : Int), World.cell? w25 ⟨hV, 3, none⟩ = some (.int .i64 n27) ∧
 C84 q26 n27 n7 n21 w25 fun n28 n29 w30 =>
 C170 (some ⟨hV, 0, none⟩) n28 w30 fun w31 =>
 Fit .i64 (n21 + 1) ∧
 (I19 (n21 + 1) w31 ∧
 m20 (n21 + 1) w31 < m20 n21 w22))
 (K w22))
 (K w22))
 (May w3 ⟨hV, 6, none⟩ ∧ ∀ w32 : World, SetC w3 w32 ⟨hV, 6, none⟩ (.int .i64 3) →
 May w32 ⟨hV, 9, none⟩ ∧ ∀ w33 : World, SetC w32 w33 ⟨hV, 9, none⟩ (.slice none 0 0) →
 ∃ (q34 : Option Addr), World.cell? w33 ⟨hV, 0, none⟩ = some (.pointer q34) ∧
 C95 q34 w33 fun a35 l35 c35 w36 =>
 ∃ (I37 : Int → World → Prop) (m38 : Int → World → Nat),
 I37 0 w36 ∧
 ∀ (_ : Env) (n39 : Int) (w40 : World), I37 n39 w40 →
 IfB (decide ((n39 : Int) < (l35 : Int)))
 (PtrOK a35 fun (p41 : Addr) =>
 ((0 : Int) ≤ n39 ∧ n39 < (l35 : Int)) ∧
 ∃ (n42 : Int), World.cell? w40 (Addr.add p41 (Int.toNat n39 * 1)) = some (.int .i64 n42) ∧
 ∃ (m43 : Option Nat), World.cell? w40 ⟨hV, 7, none⟩ = some (.map m43) ∧
 RunF Try.prog (Instr.lookup 162 (.map m43) (.int .i64 n42) false) w40 [.leaf .bool] fun (b44 : Bool) (w45 : World) =>
 IfB (!b44)
 (∃ (a46 : Option Addr) (l46 c46 : Nat), World.cell? w45 ⟨hV, 9, none⟩ = some (.slice a46 l46 c46) ∧
 ∀ (b47 : Nat) (w48 : World), NewAt w45 w48 b47 #[.int .i64 n42] 3 →
 RunF Try.prog (Builtin.append_ #[42, 42] 42 #[.slice a46 l46 c46, .slice (some ⟨b47, 0, none⟩) 1 1]) w48 [.leaf .slice] fun (a49 : Option Addr) (l49 c49 : Nat) (w50 : World) =>
 May w50 ⟨hV, 9, none⟩ ∧ ∀ w51 : World, SetC w50 w51 ⟨hV, 9, none⟩ (.slice a49 l49 c49) →
 Fit .i64 (n39 + 1) ∧
 (I37 (n39 + 1) w51 ∧
 m38 (n39 + 1) w51 < m38 n39 w40))
 (Fit .i64 (n39 + 1) ∧
 (I37 (n39 + 1) w45 ∧
 m38 (n39 + 1) w45 < m38 n39 w40)))
 (K w40)))
theorem r_f173 (hV : Nat) (w : World) (K : World → Prop) (h : V_f173 hV w K) : C173 (some ⟨hV, 0, none⟩) w K :=
  @calls_of_eq Try.prog 173 Try.f173 [.pointer (some ⟨hV, 0, none⟩)] w [] K _ (cfg true (fun _ => [])) (fun n => bif Nat.beq n 1 then some ⟨[22], [.int .i64]⟩ else bif Nat.beq n 3 then some ⟨[5], [.int .i64]⟩ else none) (fun _ => none) (fun _ => none) Try.func173 (by kernel_rfl) (by kernel_rfl) h

/-- (*gneiss/collect.Heap).Step -/
def V_f124 (hV : Nat) (w : World) (K : Bool → Int → World → Prop) : Prop :=
 ∃ (n1 : Int), World.cell? w ⟨hV, 6, none⟩ = some (.int .i64 n1) ∧
 IfB (decide ((n1 : Int) = 0))
 (K false 0 w)
 (∃ (n2 : Int), World.cell? w ⟨hV, 6, none⟩ = some (.int .i64 n2) ∧
 IfB (decide ((n2 : Int) = 1))
 (C173 (some ⟨hV, 0, none⟩) w fun w3 =>
 K true 0 w3)
 (∃ (a4 : Option Addr) (l4 c4 : Nat), World.cell? w ⟨hV, 9, none⟩ = some (.slice a4 l4 c4) ∧
 IfB (decide ((0 : Int) < (l4 : Int)))
 (∃ (a5 : Option Addr) (l5 c5 : Nat), World.cell? w ⟨hV, 9, none⟩ = some (.slice a5 l5 c5) ∧
 PtrOK a5 fun (p6 : Addr) =>
 ((0 : Int) ≤ 0 ∧ 0 < (l5 : Int)) ∧
 ∃ (n7 : Int), World.cell? w (Addr.add p6 (Int.toNat 0 * 1)) = some (.int .i64 n7) ∧
 ∃ (a8 : Option Addr) (l8 c8 : Nat), World.cell? w ⟨hV, 9, none⟩ = some (.slice a8 l8 c8) ∧
 ((0 : Int) ≤ 1 ∧ 1 ≤ (l8 : Int)) ∧
 May w ⟨hV, 9, none⟩ ∧ ∀ w9 : World, SetC w w9 ⟨hV, 9, none⟩ (.slice (Adv a8 c8 (Int.toNat 1) 1) (l8 - Int.toNat 1) (c8 - Int.toNat 1)) →
 ∃ (q10 : Option Addr), World.cell? w9 ⟨hV, 0, none⟩ = some (.pointer q10) ∧
 C94 q10 n7 w9 fun n11 n12 n13 n14 w15 =>
 ∀ (b16 : Nat) (w17 : World), NewAt w15 w17 b16 #[.int .i64 0, .int .i64 0, .int .i64 0] 133 →
 MayL w17 ⟨b16, 0, none⟩ 3 ∧ ∀ w18 : World, SetL w17 w18 ⟨b16, 0, none⟩ [.int .i64 n11, .int .i64 n12, .int .i64 n13] →
 ∀ w19 : World, Drew w18 w19 →
 ∃ (n20 : Int), World.cell? w19 ⟨hV, 2, none⟩ = some (.int .i64 n20) ∧
 ∃ (n21 : Int), World.cell? w19 ⟨b16, 2, none⟩ = some (.int .i64 n21) ∧
 Fit .i64 (n21 + 16) ∧
 Fit .i64 (n20 - (n21 + 16)) ∧
 May w19 ⟨hV, 2, none⟩ ∧ ∀ w22 : World, SetC w19 w22 ⟨hV, 2, none⟩ (.int .i64 (n20 - (n21 + 16))) →
 ∀ w23 : World, Drew w22 w23 →
 ∃ (q24 : Option Addr), World.cell? w23 ⟨hV, 0, none⟩ = some (.pointer q24) ∧
 ∃ (n25 : Int), World.cell? w23 ⟨hV, 3, none⟩ = some (.int .i64 n25) ∧
 C96 q24 n25 n7 w23 fun n26 w27 =>
 K true 0 w27)
 (May w ⟨hV, 6, none⟩ ∧ ∀ w28 : World, SetC w w28 ⟨hV, 6, none⟩ (.int .i64 0) →
 ∃ (n29 : Int), World.cell? w28 ⟨hV, 10, none⟩ = some (.int .i64 n29) ∧
 Fit .i64 (n29 + 1) ∧
 May w28 ⟨hV, 10, none⟩ ∧ ∀ w30 : World, SetC w28 w30 ⟨hV, 10, none⟩ (.int .i64 (n29 + 1)) →
 K false 0 w30)))
theorem r_f124 (hV : Nat) (w : World) (K : Bool → Int → World → Prop) (h : V_f124 hV w K) : C124 (some ⟨hV, 0, none⟩) w K :=
  @calls_of_eq Try.prog 124 Try.f124 [.pointer (some ⟨hV, 0, none⟩)] w [.leaf .bool, .leaf (.int .i64)] K _ (cfg true (fun _ => [])) (fun _ => none) (fun _ => none) (fun n => bif Nat.beq n 12 then some 10 else bif Nat.beq n 13 then some 9 else none) Try.func124 (by kernel_rfl) (by kernel_rfl) h

/-- gneiss/gneisslaw12.alive -/
def V_f123 (refsa : Option Addr) (refsl refsc : Nat) (toa : Option Addr) (tol toc : Nat) (keep : Int) (w : World) (K : Option Addr → Nat → Nat → Int → World → Prop) : Prop :=
 RunF Try.prog (Instr.makeSlice 29 (.int .i64 (refsl : Int)) (.int .i64 (refsl : Int))) w [.leaf .slice] fun (a1 : Option Addr) (l1 c1 : Nat) (w2 : World) =>
 ∃ (I3 : Int → Int → World → Prop) (m4 : Int → Int → World → Nat),
 I3 0 0 w2 ∧
 ∀ (_ : Env) (n5 : Int) (n6 : Int) (w7 : World), I3 n5 n6 w7 →
 IfB (decide ((n6 : Int) < keep))
 (PtrOK refsa fun (p8 : Addr) =>
 ((0 : Int) ≤ n6 ∧ n6 < (refsl : Int)) ∧
 ∃ (n9 : Int), World.cell? w7 (Addr.add p8 (Int.toNat n6 * 1)) = some (.int .i64 n9) ∧
 ∃ (I10 : Int → Int → World → Prop) (m11 : Int → Int → World → Nat),
 I10 n5 n9 w7 ∧
 ∀ (_ : Env) (n12 : Int) (n13 : Int) (w14 : World), I10 n12 n13 w14 →
 IfB (!decide ((n13 : Int) = 0))
 (∃ (I15 : Int → Int → Int → World → Prop) (m16 : Int → Int → Int → World → Nat),
 I15 n12 0 0 w14 ∧
 ∀ (_ : Env) (n17 : Int) (n18 : Int) (n19 : Int) (w20 : World), I15 n17 n18 n19 w20 →
 IfB (decide ((n19 : Int) < (refsl : Int)))
 (PtrOK refsa fun (p21 : Addr) =>
 ((0 : Int) ≤ n19 ∧ n19 < (refsl : Int)) ∧
 ∃ (n22 : Int), World.cell? w20 (Addr.add p21 (Int.toNat n19 * 1)) = some (.int .i64 n22) ∧
 IfB (decide ((n22 : Int) = n13))
 (PtrOK a1 fun (p23 : Addr) =>
 ((0 : Int) ≤ n19 ∧ n19 < (l1 : Int)) ∧
 ∃ (b24 : Bool), World.cell? w20 (Addr.add p23 (Int.toNat n19 * 1)) = some (.bool b24) ∧
 IfB (!b24)
 (PtrOK a1 fun (p25 : Addr) =>
 ((0 : Int) ≤ n19 ∧ n19 < (l1 : Int)) ∧
 May w20 (Addr.add p25 (Int.toNat n19 * 1)) ∧ ∀ w26 : World, SetC w20 w26 (Addr.add p25 (Int.toNat n19 * 1)) (.bool true) →
 Fit .i64 (n17 + 1) ∧
 PtrOK toa fun (p27 : Addr) =>
 ((0 : Int) ≤ n19 ∧ n19 < (tol : Int)) ∧
 ∃ (n28 : Int), World.cell? w26 (Addr.add p27 (Int.toNat n19 * 1)) = some (.int .i64 n28) ∧
 Fit .i64 (n19 + 1) ∧
 (I15 (n17 + 1) n28 (n19 + 1) w26 ∧
 m16 (n17 + 1) n28 (n19 + 1) w26 < m16 n17 n18 n19 w20))
 (Fit .i64 (n19 + 1) ∧
 (I15 n17 n18 (n19 + 1) w20 ∧
 m16 n17 n18 (n19 + 1) w20 < m16 n17 n18 n19 w20)))
 (Fit .i64 (n19 + 1) ∧
 (I15 n17 n18 (n19 + 1) w20 ∧
 m16 n17 n18 (n19 + 1) w20 < m16 n17 n18 n19 w20)))
 ((I10 n17 n18 w20 ∧
 m11 n17 n18 w20 < m11 n12 n13 w14)))
 (Fit .i64 (n6 + 1) ∧
 (I3 n12 (n6 + 1) w14 ∧
 m4 n12 (n6 + 1) w14 < m4 n5 n6 w7)))
 (K a1 l1 c1 n5 w7)
theorem r_f123 (refsa : Option Addr) (refsl refsc : Nat) (toa : Option Addr) (tol toc : Nat) (keep : Int) (w : World) (K : Option Addr → Nat → Nat → Int → World → Prop) (h : V_f123 refsa refsl refsc toa tol toc keep w K) : C123 refsa refsl refsc toa tol toc keep w K :=
  @calls_of_eq Try.prog 123 Try.f123 [.slice refsa refsl refsc, .slice toa tol toc, .int .i64 keep] w [.leaf .slice, .leaf (.int .i64)] K _ (cfg true (fun _ => [])) (fun n => bif Nat.beq n 0 then some ⟨[9, 10], [.int .i64, .int .i64]⟩ else bif Nat.beq n 2 then some ⟨[9, 11], [.int .i64, .int .i64]⟩ else bif Nat.beq n 4 then some ⟨[9, 12, 13], [.int .i64, .int .i64, .int .i64]⟩ else none) (fun _ => none) (fun _ => none) Try.func123 (by kernel_rfl) (by kernel_rfl) h

/-- gneiss/gneisslaw12.awake -/
def V_f111 (w : World) (K : Bool → World → Prop) : Prop :=
 C112 4000 2 w fun q1 n2 w3 =>
 C113 q1 0 1 3 2 w3 fun n4 n5 w6 =>
 C121 q1 0 n4 1 n4 w6 fun n7 w8 =>
 C126 q1 1 n4 1 w8 fun n9 n10 w11 =>
 C115 q1 0 w11 fun n12 n13 w14 =>
 C115 q1 0 w14 fun n15 n16 w17 =>
 C118 q1 w17 fun n18 w19 =>
 C124 q1 w19 fun b20 n21 w22 =>
 C112 1023 1 w22 fun q23 n24 w25 =>
 IfB (decide ((n2 : Int) = 0))
 (IfB (decide ((n5 : Int) = 0))
 (IfB (decide ((n7 : Int) = 0))
 (IfB (decide ((n9 : Int) = n4))
 (IfB (decide ((n10 : Int) = 0))
 (IfB (decide ((n12 : Int) = n4))
 (IfB (decide ((n13 : Int) = 0))
 (IfB (decide ((n16 : Int) = 1203))
 (IfB (decide ((n18 : Int) = 0))
 (IfB (decide ((n21 : Int) = 0))
 (K (decide ((n24 : Int) = 1200)) w25)
 (K false w25))
 (K false w25))
 (K false w25))
 (K false w25))
 (K false w25))
 (K false w25))
 (K false w25))
 (K false w25))
 (K false w25))
 (K false w25)
theorem r_f111 (w : World) (K : Bool → World → Prop) (h : V_f111 w K) : C111  w K :=
  @calls_of_eq Try.prog 111 Try.f111 [] w [.leaf .bool] K _ (cfg true (fun _ => [])) (fun _ => none) (fun _ => none) (fun _ => none) Try.func111 (by kernel_rfl) (by kernel_rfl) h

end Go.Proofs.Ytfpghcdjfiggiaa.V

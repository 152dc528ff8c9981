/- ObjectActs: a row of words is put on the player's list, and rows are taken off, in whatever order the places are read. No condition. -/
import Derived.Test.YtfpghcdjfiggiaaActsO
namespace Go.Proofs.Ytfpghcdjfiggiaa.V
open Go Go.RowKit

def AddWords (y b1 : Nat) (w00 : World) (F : World → Prop) : Prop :=
 ∀ w66 : World, Drew w00 w66 →
 ∃ (n67 : Int), World.cell? w66 ⟨b1, 4, none⟩ = some (.int .i64 n67) ∧
 (∃ (a68 : Option Addr) (l68 c68 : Nat), World.cell? w66 ⟨y, 5, none⟩ = some (.slice a68 l68 c68) ∧
 RunF Try.prog (Instr.makeSlice 42 (.int .i64 n67) (.int .i64 n67)) w66 [.leaf .slice] fun (a69 : Option Addr) (l69 c69 : Nat) (w70 : World) =>
 ∀ (b71 : Nat) (w72 : World), NewAt w70 w72 b71 #[.slice a69 l69 c69] 42 →
 RunF Try.prog (Builtin.append_ #[126, 126] 126 #[.slice a68 l68 c68, .slice (some ⟨b71, 0, none⟩) 1 1]) w72 [.leaf .slice] fun (a73 : Option Addr) (l73 c73 : Nat) (w74 : World) =>
 May w74 ⟨y, 5, none⟩ ∧ ∀ w75 : World, SetC w74 w75 ⟨y, 5, none⟩ (.slice a73 l73 c73) →
 F w75) ∧
 (RunF Try.prog (Instr.makeSlice 42 (.int .i64 n67) (.int .i64 n67)) w66 [.leaf .slice] fun (a76 : Option Addr) (l76 c76 : Nat) (w77 : World) =>
 (∃ (a78 : Option Addr) (l78 c78 : Nat), World.cell? w77 ⟨y, 5, none⟩ = some (.slice a78 l78 c78) ∧
 ∀ (b79 : Nat) (w80 : World), NewAt w77 w80 b79 #[.slice a76 l76 c76] 42 →
 RunF Try.prog (Builtin.append_ #[126, 126] 126 #[.slice a78 l78 c78, .slice (some ⟨b79, 0, none⟩) 1 1]) w80 [.leaf .slice] fun (a81 : Option Addr) (l81 c81 : Nat) (w82 : World) =>
 May w82 ⟨y, 5, none⟩ ∧ ∀ w83 : World, SetC w82 w83 ⟨y, 5, none⟩ (.slice a81 l81 c81) →
 F w83) ∧
 (∀ (b84 : Nat) (w85 : World), NewAt w77 w85 b84 #[.slice a76 l76 c76] 42 →
 ∃ (a86 : Option Addr) (l86 c86 : Nat), World.cell? w85 ⟨y, 5, none⟩ = some (.slice a86 l86 c86) ∧
 RunF Try.prog (Builtin.append_ #[126, 126] 126 #[.slice a86 l86 c86, .slice (some ⟨b84, 0, none⟩) 1 1]) w85 [.leaf .slice] fun (a87 : Option Addr) (l87 c87 : Nat) (w88 : World) =>
 May w88 ⟨y, 5, none⟩ ∧ ∀ w89 : World, SetC w88 w89 ⟨y, 5, none⟩ (.slice a87 l87 c87) →
 F w89))

def RemRefs (y : Nat) (at_ : Int) (w00 : World) (F : World → Prop) : Prop :=
∀ w16 : World, Drew w00 w16 →
 Fit .i64 (at_ + 1) ∧
 (∀ (b17 : Nat) (w18 : World), NewAt w16 w18 b17 #[] 3 →
 ∃ (a19 : Option Addr) (l19 c19 : Nat), World.cell? w18 ⟨y, 4, none⟩ = some (.slice a19 l19 c19) ∧
 ((0 : Int) ≤ at_ ∧ at_ ≤ (c19 : Int)) ∧
 (RunF Try.prog (Builtin.append_ #[42, 42] 42 #[.slice (some ⟨b17, 0, none⟩) 0 0, .slice a19 (Int.toNat at_) c19]) w18 [.leaf .slice] fun (a20 : Option Addr) (l20 c20 : Nat) (w21 : World) =>
 ∃ (a22 : Option Addr) (l22 c22 : Nat), World.cell? w21 ⟨y, 4, none⟩ = some (.slice a22 l22 c22) ∧
 ((0 : Int) ≤ (at_ + 1) ∧ (at_ + 1) ≤ (l22 : Int)) ∧
 RunF Try.prog (Builtin.append_ #[42, 42] 42 #[.slice a20 l20 c20, .slice (Adv a22 c22 (Int.toNat (at_ + 1)) 1) (l22 - Int.toNat (at_ + 1)) (c22 - Int.toNat (at_ + 1))]) w21 [.leaf .slice] fun (a23 : Option Addr) (l23 c23 : Nat) (w24 : World) =>
 May w24 ⟨y, 4, none⟩ ∧ ∀ w25 : World, SetC w24 w25 ⟨y, 4, none⟩ (.slice a23 l23 c23) →
 F w25) ∧
 (∃ (a26 : Option Addr) (l26 c26 : Nat), World.cell? w18 ⟨y, 4, none⟩ = some (.slice a26 l26 c26) ∧
 ((0 : Int) ≤ (at_ + 1) ∧ (at_ + 1) ≤ (l26 : Int)) ∧
 RunF Try.prog (Builtin.append_ #[42, 42] 42 #[.slice (some ⟨b17, 0, none⟩) 0 0, .slice a19 (Int.toNat at_) c19]) w18 [.leaf .slice] fun (a27 : Option Addr) (l27 c27 : Nat) (w28 : World) =>
 RunF Try.prog (Builtin.append_ #[42, 42] 42 #[.slice a27 l27 c27, .slice (Adv a26 c26 (Int.toNat (at_ + 1)) 1) (l26 - Int.toNat (at_ + 1)) (c26 - Int.toNat (at_ + 1))]) w28 [.leaf .slice] fun (a29 : Option Addr) (l29 c29 : Nat) (w30 : World) =>
 May w30 ⟨y, 4, none⟩ ∧ ∀ w31 : World, SetC w30 w31 ⟨y, 4, none⟩ (.slice a29 l29 c29) →
 F w31)) ∧
 (∃ (a32 : Option Addr) (l32 c32 : Nat), World.cell? w16 ⟨y, 4, none⟩ = some (.slice a32 l32 c32) ∧
 ((0 : Int) ≤ at_ ∧ at_ ≤ (c32 : Int)) ∧
 (∀ (b33 : Nat) (w34 : World), NewAt w16 w34 b33 #[] 3 →
 (RunF Try.prog (Builtin.append_ #[42, 42] 42 #[.slice (some ⟨b33, 0, none⟩) 0 0, .slice a32 (Int.toNat at_) c32]) w34 [.leaf .slice] fun (a35 : Option Addr) (l35 c35 : Nat) (w36 : World) =>
 ∃ (a37 : Option Addr) (l37 c37 : Nat), World.cell? w36 ⟨y, 4, none⟩ = some (.slice a37 l37 c37) ∧
 ((0 : Int) ≤ (at_ + 1) ∧ (at_ + 1) ≤ (l37 : Int)) ∧
 RunF Try.prog (Builtin.append_ #[42, 42] 42 #[.slice a35 l35 c35, .slice (Adv a37 c37 (Int.toNat (at_ + 1)) 1) (l37 - Int.toNat (at_ + 1)) (c37 - Int.toNat (at_ + 1))]) w36 [.leaf .slice] fun (a38 : Option Addr) (l38 c38 : Nat) (w39 : World) =>
 May w39 ⟨y, 4, none⟩ ∧ ∀ w40 : World, SetC w39 w40 ⟨y, 4, none⟩ (.slice a38 l38 c38) →
 F w40) ∧
 (∃ (a41 : Option Addr) (l41 c41 : Nat), World.cell? w34 ⟨y, 4, none⟩ = some (.slice a41 l41 c41) ∧
 ((0 : Int) ≤ (at_ + 1) ∧ (at_ + 1) ≤ (l41 : Int)) ∧
 RunF Try.prog (Builtin.append_ #[42, 42] 42 #[.slice (some ⟨b33, 0, none⟩) 0 0, .slice a32 (Int.toNat at_) c32]) w34 [.leaf .slice] fun (a42 : Option Addr) (l42 c42 : Nat) (w43 : World) =>
 RunF Try.prog (Builtin.append_ #[42, 42] 42 #[.slice a42 l42 c42, .slice (Adv a41 c41 (Int.toNat (at_ + 1)) 1) (l41 - Int.toNat (at_ + 1)) (c41 - Int.toNat (at_ + 1))]) w43 [.leaf .slice] fun (a44 : Option Addr) (l44 c44 : Nat) (w45 : World) =>
 May w45 ⟨y, 4, none⟩ ∧ ∀ w46 : World, SetC w45 w46 ⟨y, 4, none⟩ (.slice a44 l44 c44) →
 F w46)) ∧
 (∃ (a47 : Option Addr) (l47 c47 : Nat), World.cell? w16 ⟨y, 4, none⟩ = some (.slice a47 l47 c47) ∧
 ((0 : Int) ≤ (at_ + 1) ∧ (at_ + 1) ≤ (l47 : Int)) ∧
 ∀ (b48 : Nat) (w49 : World), NewAt w16 w49 b48 #[] 3 →
 RunF Try.prog (Builtin.append_ #[42, 42] 42 #[.slice (some ⟨b48, 0, none⟩) 0 0, .slice a32 (Int.toNat at_) c32]) w49 [.leaf .slice] fun (a50 : Option Addr) (l50 c50 : Nat) (w51 : World) =>
 RunF Try.prog (Builtin.append_ #[42, 42] 42 #[.slice a50 l50 c50, .slice (Adv a47 c47 (Int.toNat (at_ + 1)) 1) (l47 - Int.toNat (at_ + 1)) (c47 - Int.toNat (at_ + 1))]) w51 [.leaf .slice] fun (a52 : Option Addr) (l52 c52 : Nat) (w53 : World) =>
 May w53 ⟨y, 4, none⟩ ∧ ∀ w54 : World, SetC w53 w54 ⟨y, 4, none⟩ (.slice a52 l52 c52) →
 F w54)) ∧
 (∃ (a55 : Option Addr) (l55 c55 : Nat), World.cell? w16 ⟨y, 4, none⟩ = some (.slice a55 l55 c55) ∧
 ((0 : Int) ≤ (at_ + 1) ∧ (at_ + 1) ≤ (l55 : Int)) ∧
 (∀ (b56 : Nat) (w57 : World), NewAt w16 w57 b56 #[] 3 →
 ∃ (a58 : Option Addr) (l58 c58 : Nat), World.cell? w57 ⟨y, 4, none⟩ = some (.slice a58 l58 c58) ∧
 ((0 : Int) ≤ at_ ∧ at_ ≤ (c58 : Int)) ∧
 RunF Try.prog (Builtin.append_ #[42, 42] 42 #[.slice (some ⟨b56, 0, none⟩) 0 0, .slice a58 (Int.toNat at_) c58]) w57 [.leaf .slice] fun (a59 : Option Addr) (l59 c59 : Nat) (w60 : World) =>
 RunF Try.prog (Builtin.append_ #[42, 42] 42 #[.slice a59 l59 c59, .slice (Adv a55 c55 (Int.toNat (at_ + 1)) 1) (l55 - Int.toNat (at_ + 1)) (c55 - Int.toNat (at_ + 1))]) w60 [.leaf .slice] fun (a61 : Option Addr) (l61 c61 : Nat) (w62 : World) =>
 May w62 ⟨y, 4, none⟩ ∧ ∀ w63 : World, SetC w62 w63 ⟨y, 4, none⟩ (.slice a61 l61 c61) →
 F w63) ∧
 (∃ (a64 : Option Addr) (l64 c64 : Nat), World.cell? w16 ⟨y, 4, none⟩ = some (.slice a64 l64 c64) ∧
 ((0 : Int) ≤ at_ ∧ at_ ≤ (c64 : Int)) ∧
 ∀ (b65 : Nat) (w66 : World), NewAt w16 w66 b65 #[] 3 →
 RunF Try.prog (Builtin.append_ #[42, 42] 42 #[.slice (some ⟨b65, 0, none⟩) 0 0, .slice a64 (Int.toNat at_) c64]) w66 [.leaf .slice] fun (a67 : Option Addr) (l67 c67 : Nat) (w68 : World) =>
 RunF Try.prog (Builtin.append_ #[42, 42] 42 #[.slice a67 l67 c67, .slice (Adv a55 c55 (Int.toNat (at_ + 1)) 1) (l55 - Int.toNat (at_ + 1)) (c55 - Int.toNat (at_ + 1))]) w68 [.leaf .slice] fun (a69 : Option Addr) (l69 c69 : Nat) (w70 : World) =>
 May w70 ⟨y, 4, none⟩ ∧ ∀ w71 : World, SetC w70 w71 ⟨y, 4, none⟩ (.slice a69 l69 c69) →
 F w71))

def RemWords (y : Nat) (at_ : Int) (w00 : World) (F : World → Prop) : Prop :=
 ∀ w72 : World, Drew w00 w72 →
 Fit .i64 (at_ + 1) ∧
 (∀ (b73 : Nat) (w74 : World), NewAt w72 w74 b73 #[] 42 →
 ∃ (a75 : Option Addr) (l75 c75 : Nat), World.cell? w74 ⟨y, 5, none⟩ = some (.slice a75 l75 c75) ∧
 ((0 : Int) ≤ at_ ∧ at_ ≤ (c75 : Int)) ∧
 (RunF Try.prog (Builtin.append_ #[126, 126] 126 #[.slice (some ⟨b73, 0, none⟩) 0 0, .slice a75 (Int.toNat at_) c75]) w74 [.leaf .slice] fun (a76 : Option Addr) (l76 c76 : Nat) (w77 : World) =>
 ∃ (a78 : Option Addr) (l78 c78 : Nat), World.cell? w77 ⟨y, 5, none⟩ = some (.slice a78 l78 c78) ∧
 ((0 : Int) ≤ (at_ + 1) ∧ (at_ + 1) ≤ (l78 : Int)) ∧
 RunF Try.prog (Builtin.append_ #[126, 126] 126 #[.slice a76 l76 c76, .slice (Adv a78 c78 (Int.toNat (at_ + 1)) 1) (l78 - Int.toNat (at_ + 1)) (c78 - Int.toNat (at_ + 1))]) w77 [.leaf .slice] fun (a79 : Option Addr) (l79 c79 : Nat) (w80 : World) =>
 May w80 ⟨y, 5, none⟩ ∧ ∀ w81 : World, SetC w80 w81 ⟨y, 5, none⟩ (.slice a79 l79 c79) →
 F w81) ∧
 (∃ (a82 : Option Addr) (l82 c82 : Nat), World.cell? w74 ⟨y, 5, none⟩ = some (.slice a82 l82 c82) ∧
 ((0 : Int) ≤ (at_ + 1) ∧ (at_ + 1) ≤ (l82 : Int)) ∧
 RunF Try.prog (Builtin.append_ #[126, 126] 126 #[.slice (some ⟨b73, 0, none⟩) 0 0, .slice a75 (Int.toNat at_) c75]) w74 [.leaf .slice] fun (a83 : Option Addr) (l83 c83 : Nat) (w84 : World) =>
 RunF Try.prog (Builtin.append_ #[126, 126] 126 #[.slice a83 l83 c83, .slice (Adv a82 c82 (Int.toNat (at_ + 1)) 1) (l82 - Int.toNat (at_ + 1)) (c82 - Int.toNat (at_ + 1))]) w84 [.leaf .slice] fun (a85 : Option Addr) (l85 c85 : Nat) (w86 : World) =>
 May w86 ⟨y, 5, none⟩ ∧ ∀ w87 : World, SetC w86 w87 ⟨y, 5, none⟩ (.slice a85 l85 c85) →
 F w87)) ∧
 (∃ (a88 : Option Addr) (l88 c88 : Nat), World.cell? w72 ⟨y, 5, none⟩ = some (.slice a88 l88 c88) ∧
 ((0 : Int) ≤ at_ ∧ at_ ≤ (c88 : Int)) ∧
 (∀ (b89 : Nat) (w90 : World), NewAt w72 w90 b89 #[] 42 →
 (RunF Try.prog (Builtin.append_ #[126, 126] 126 #[.slice (some ⟨b89, 0, none⟩) 0 0, .slice a88 (Int.toNat at_) c88]) w90 [.leaf .slice] fun (a91 : Option Addr) (l91 c91 : Nat) (w92 : World) =>
 ∃ (a93 : Option Addr) (l93 c93 : Nat), World.cell? w92 ⟨y, 5, none⟩ = some (.slice a93 l93 c93) ∧
 ((0 : Int) ≤ (at_ + 1) ∧ (at_ + 1) ≤ (l93 : Int)) ∧
 RunF Try.prog (Builtin.append_ #[126, 126] 126 #[.slice a91 l91 c91, .slice (Adv a93 c93 (Int.toNat (at_ + 1)) 1) (l93 - Int.toNat (at_ + 1)) (c93 - Int.toNat (at_ + 1))]) w92 [.leaf .slice] fun (a94 : Option Addr) (l94 c94 : Nat) (w95 : World) =>
 May w95 ⟨y, 5, none⟩ ∧ ∀ w96 : World, SetC w95 w96 ⟨y, 5, none⟩ (.slice a94 l94 c94) →
 F w96) ∧
 (∃ (a97 : Option Addr) (l97 c97 : Nat), World.cell? w90 ⟨y, 5, none⟩ = some (.slice a97 l97 c97) ∧
 ((0 : Int) ≤ (at_ + 1) ∧ (at_ + 1) ≤ (l97 : Int)) ∧
 RunF Try.prog (Builtin.append_ #[126, 126] 126 #[.slice (some ⟨b89, 0, none⟩) 0 0, .slice a88 (Int.toNat at_) c88]) w90 [.leaf .slice] fun (a98 : Option Addr) (l98 c98 : Nat) (w99 : World) =>
 RunF Try.prog (Builtin.append_ #[126, 126] 126 #[.slice a98 l98 c98, .slice (Adv a97 c97 (Int.toNat (at_ + 1)) 1) (l97 - Int.toNat (at_ + 1)) (c97 - Int.toNat (at_ + 1))]) w99 [.leaf .slice] fun (a100 : Option Addr) (l100 c100 : Nat) (w101 : World) =>
 May w101 ⟨y, 5, none⟩ ∧ ∀ w102 : World, SetC w101 w102 ⟨y, 5, none⟩ (.slice a100 l100 c100) →
 F w102)) ∧
 (∃ (a103 : Option Addr) (l103 c103 : Nat), World.cell? w72 ⟨y, 5, none⟩ = some (.slice a103 l103 c103) ∧
 ((0 : Int) ≤ (at_ + 1) ∧ (at_ + 1) ≤ (l103 : Int)) ∧
 ∀ (b104 : Nat) (w105 : World), NewAt w72 w105 b104 #[] 42 →
 RunF Try.prog (Builtin.append_ #[126, 126] 126 #[.slice (some ⟨b104, 0, none⟩) 0 0, .slice a88 (Int.toNat at_) c88]) w105 [.leaf .slice] fun (a106 : Option Addr) (l106 c106 : Nat) (w107 : World) =>
 RunF Try.prog (Builtin.append_ #[126, 126] 126 #[.slice a106 l106 c106, .slice (Adv a103 c103 (Int.toNat (at_ + 1)) 1) (l103 - Int.toNat (at_ + 1)) (c103 - Int.toNat (at_ + 1))]) w107 [.leaf .slice] fun (a108 : Option Addr) (l108 c108 : Nat) (w109 : World) =>
 May w109 ⟨y, 5, none⟩ ∧ ∀ w110 : World, SetC w109 w110 ⟨y, 5, none⟩ (.slice a108 l108 c108) →
 F w110)) ∧
 (∃ (a111 : Option Addr) (l111 c111 : Nat), World.cell? w72 ⟨y, 5, none⟩ = some (.slice a111 l111 c111) ∧
 ((0 : Int) ≤ (at_ + 1) ∧ (at_ + 1) ≤ (l111 : Int)) ∧
 (∀ (b112 : Nat) (w113 : World), NewAt w72 w113 b112 #[] 42 →
 ∃ (a114 : Option Addr) (l114 c114 : Nat), World.cell? w113 ⟨y, 5, none⟩ = some (.slice a114 l114 c114) ∧
 ((0 : Int) ≤ at_ ∧ at_ ≤ (c114 : Int)) ∧
 RunF Try.prog (Builtin.append_ #[126, 126] 126 #[.slice (some ⟨b112, 0, none⟩) 0 0, .slice a114 (Int.toNat at_) c114]) w113 [.leaf .slice] fun (a115 : Option Addr) (l115 c115 : Nat) (w116 : World) =>
 RunF Try.prog (Builtin.append_ #[126, 126] 126 #[.slice a115 l115 c115, .slice (Adv a111 c111 (Int.toNat (at_ + 1)) 1) (l111 - Int.toNat (at_ + 1)) (c111 - Int.toNat (at_ + 1))]) w116 [.leaf .slice] fun (a117 : Option Addr) (l117 c117 : Nat) (w118 : World) =>
 May w118 ⟨y, 5, none⟩ ∧ ∀ w119 : World, SetC w118 w119 ⟨y, 5, none⟩ (.slice a117 l117 c117) →
 F w119) ∧
 (∃ (a120 : Option Addr) (l120 c120 : Nat), World.cell? w72 ⟨y, 5, none⟩ = some (.slice a120 l120 c120) ∧
 ((0 : Int) ≤ at_ ∧ at_ ≤ (c120 : Int)) ∧
 ∀ (b121 : Nat) (w122 : World), NewAt w72 w122 b121 #[] 42 →
 RunF Try.prog (Builtin.append_ #[126, 126] 126 #[.slice (some ⟨b121, 0, none⟩) 0 0, .slice a120 (Int.toNat at_) c120]) w122 [.leaf .slice] fun (a123 : Option Addr) (l123 c123 : Nat) (w124 : World) =>
 RunF Try.prog (Builtin.append_ #[126, 126] 126 #[.slice a123 l123 c123, .slice (Adv a111 c111 (Int.toNat (at_ + 1)) 1) (l111 - Int.toNat (at_ + 1)) (c111 - Int.toNat (at_ + 1))]) w124 [.leaf .slice] fun (a125 : Option Addr) (l125 c125 : Nat) (w126 : World) =>
 May w126 ⟨y, 5, none⟩ ∧ ∀ w127 : World, SetC w126 w127 ⟨y, 5, none⟩ (.slice a125 l125 c125) →
 F w127))

section
variable {W w w' w0 : World} {own own' : Nat → Nat} {y s pb ab b1 : Nat} {count : Int} {G G' S : List Nat} {fr fr' : Nat} {ss ss' : List Int} {last last' : Int} {os os' : List Ob} {a qa : Option Addr} {c qc : Nat} {refs : List Int} {rs : List YO}

theorem addwords_c (h : Yo W w own y s pb ab count G fr ss last os a c refs qa qc rs) {xa xb xc xd xe : Int} (B : Blk w b1 [.int .i64 xa, .int .i64 xb, .int .i64 xc, .int .i64 xd, .int .i64 xe]) (hn : 0 ≤ xe ∧ xe ≤ 1000) (hl : rs.length ≤ 1000) {ref : Int} (hp : 1 ≤ ref ∧ ref ≤ last) (hgt : ∀ r ∈ rs, r.ref < ref) {F : World → Prop}
    (hF : ∀ w' own' qa' qc' wa wc, Yo W w' own' y s pb ab count G fr ss last os a c refs qa' qc' (rs ++ [⟨ref, wa, wc, List.replicate xe.toNat 0⟩]) → Stp w w' own own' → F w') : AddWords y b1 w F := by
  unfold AddWords
  intro w0 d0
  have h0 := h.still d0.fr
  have B0 := B.fr (d0.fr []) (by simp)
  have st0 : Stp w w0 own own := Stp.still d0.fr
  replace hF : ∀ w' own' qa' qc' wa wc, Yo W w' own' y s pb ab count G fr ss last os a c refs qa' qc' (rs ++ [⟨ref, wa, wc, List.replicate xe.toNat 0⟩]) → Stp w0 w' own own' → F w' := fun w' own' qa' qc' wa wc Y st => hF w' own' qa' qc' wa wc Y (st0.trans st)
  clear h d0 st0 B
  have LY : ∀ {w}, (∀ S, Fr S w0 w) → World.cell? w ⟨y, 5, none⟩ = some (.slice qa rs.length qc) := fun f => (h0.hd.fr (f []) (by simp)).cell rfl
  have AP : ∀ {bk b2 wk w2}, SI wk (some ⟨bk, 0, none⟩) xe.toNat (List.replicate xe.toNat 0) → (∀ S, Fr S w0 wk) → w0.heap.size ≤ bk → NewAt wk w2 b2 #[.slice (some ⟨bk, 0, none⟩) xe.toNat xe.toNat] 42 →
      RunF Try.prog (Builtin.append_ #[126, 126] 126 #[.slice qa rs.length qc, .slice (some ⟨b2, 0, none⟩) 1 1]) w2 [.leaf .slice] fun (a4 : Option Addr) (l4 c4 : Nat) (w4 : World) => May w4 ⟨y, 5, none⟩ ∧ ∀ w5 : World, SetC w4 w5 ⟨y, 5, none⟩ (.slice a4 l4 c4) → F w5 := by
    intro bk b2 wk w2 Sk fk gk n2
    obtain ⟨l1, l2, l3, l5, l4⟩ := h0.lows
    have hk := Sk.low bk (by simp [ablk])
    have Tk := h0.T.fr0 (fk [])
    refine SR.append (E := encYO) (r := ⟨ref, some ⟨bk, 0, none⟩, xe.toNat, List.replicate xe.toNat 0⟩) (P := Try.prog) (t := 126) (e := 42) (i := Try.t42) (z := .slice none 0 0) (by kernel_rfl) (by kernel_rfl) rfl rfl rfl Tk n2 (by simp [encYO]) (by simp [encYO, isCell]) (by omega) (by decide) 126 fun a3 c3 w3 T3 f3 g3 => ?_
    have f03 : Fr (ablk qa) w0 w3 := (fk _).more f3
    have hd3 := h0.hd.fr f03 (h0.o2.apart h0.o5 (by decide) y (by simp))
    refine ⟨hd3.may (by simp), fun w5 s5 => ?_⟩
    have B5 := s5.blk hd3
    have z := (fk []).size
    refine (fun (q : _ ∧ _) => hF w5 _ _ _ _ _ q.1 q.2) (h0.row (own1 := ext (ext own w0.heap.size (10 + ref.toNat)) wk.heap.size 5) (w2 := w5) (rs' := rs ++ [⟨ref, some ⟨bk, 0, none⟩, xe.toNat, List.replicate xe.toNat 0⟩]) f03 T3 (fun r hr => ?_) (by simpa using B5) (s5.fr (by simp)) (fun b hb => ?_) (fun b hb => ?_) (fun r hr => ?_) (fun r hr => ?_) ?_)
    · rcases List.mem_append.1 hr with q | q
      · exact (h0.V r q).fr f03 ((h0.o4 r q).apart h0.o5 (by unfold ytag; omega))
      · simp at q; subst q
        exact Sk.fr f3 fun b hb hb2 => by simp [ablk] at hb; have := l5 b hb2; omega
    · unfold ext; rw [if_pos (by omega), if_pos hb]
    · unfold ext
      rcases g3 b hb with q | q
      · have := l5 b q
        rw [if_pos (by omega), if_pos this]; exact h0.o5 b q
      · rw [if_neg (by omega)]
    · rcases List.mem_append.1 hr with q | q
      · intro b hb
        have := l4 r q b hb
        unfold ext; rw [if_pos (by omega), if_pos this]; exact h0.o4 r q b hb
      · simp at q; subst q
        intro b hb
        simp [ablk] at hb; subst hb
        unfold ext; rw [if_pos hk, if_neg (by omega)]; rfl
    · rcases List.mem_append.1 hr with q | q
      · exact h0.pos r q
      · simp at q; subst q; exact hp
    · rw [List.map_append, List.pairwise_append]
      refine ⟨h0.pw, by simp, fun x hx z hz => ?_⟩
      simp at hz; subst hz
      obtain ⟨r, hr, rfl⟩ := List.mem_map.1 hx
      exact hgt r hr
  clear hF
  refine ⟨xe, B0.cell rfl, ?_⟩
  repeat' first
    | with_reducible exact AP Sk fk gk n2
    | with_reducible refine And.intro ?_ ?_
    | with_reducible refine mk_int hn.1 (by omega) fun bk wk Sk fk gk => ?_
    | intro b2 w2 n2
    | refine ⟨_, _, _, LY (fun S => Fr.refl S _), ?_⟩
    | refine ⟨_, _, _, LY fk, ?_⟩
    | refine ⟨_, _, _, LY (fun S => (fk S).more (n2.fr S)), ?_⟩

theorem SI.first (h : SI w a c refs) {i : Nat} (hi : i ≤ refs.length) : SI w a c (refs.take i) := by
  have := SV.pre h hi
  unfold SI
  rw [List.map_take, List.length_take, show min i refs.length = i by omega]
  rwa [Nat.mul_one] at this
theorem SI.rest (h : SI w a c refs) {i : Nat} (hi : i ≤ refs.length) : SI w (Adv a c i 1) (c - i) (refs.drop i) := by
  have := (SI.cut h (lo := i) (hi := refs.length) hi (Nat.le_refl _)).1
  rwa [List.take_of_length_le (by rw [List.length_drop]; exact Nat.le_refl _)] at this

theorem remrefs_c (h : Yo W w own y s pb ab count G fr ss last os a c refs qa qc rs) (hl : refs.length ≤ 1000) {i : Nat} (hi : i < refs.length) {F : World → Prop}
    (hF : ∀ w' own' a' c', Yo W w' own' y s pb ab count G fr ss last os a' c' (refs.take i ++ refs.drop (i + 1)) qa qc rs → Stp w w' own own' → F w') : RemRefs y i w F := by
  unfold RemRefs
  intro w0 d0
  have h0 := h.still d0.fr
  have st0 : Stp w w0 own own := Stp.still d0.fr
  replace hF : ∀ w' own' a' c', Yo W w' own' y s pb ab count G fr ss last os a' c' (refs.take i ++ refs.drop (i + 1)) qa qc rs → Stp w0 w' own own' → F w' := fun w' own' a' c' Y st => hF w' own' a' c' Y (st0.trans st)
  clear h d0 st0
  have hle := h0.R.le
  obtain ⟨l1, l2, l3, l5, l4⟩ := h0.lows
  have LY : ∀ {w}, Fr [] w0 w → World.cell? w ⟨y, 4, none⟩ = some (.slice a refs.length c) := fun f => (h0.hd.fr f (by simp)).cell rfl
  have ei : Int.toNat (i : Int) = i := by omega
  have ei1 : Int.toNat ((i : Int) + 1) = i + 1 := by omega
  have lt1 : (refs.take i).length = i := by rw [List.length_take]; omega
  have ld1 : (refs.drop (i + 1)).length = refs.length - (i + 1) := List.length_drop
  have AP1 : ∀ {b1 w1} {K : Option Addr → Nat → Nat → World → Prop}, NewAt w0 w1 b1 #[] 3 → (∀ a2 c2 w2, SI w2 a2 c2 (refs.take i) → Fr [] w0 w2 → (∀ b ∈ ablk a2, w0.heap.size ≤ b) → K a2 i c2 w2) →
      RunF Try.prog (Builtin.append_ #[42, 42] 42 #[.slice (some ⟨b1, 0, none⟩) 0 0, .slice a (Int.toNat (i : Int)) c]) w1 [.leaf .slice] K := by
    intro b1 w1 K n1 hK
    have T1 : SI w1 (some ⟨b1, 0, none⟩) 0 [] := ⟨rfl, Nat.le_refl _, Nat.zero_le _, .inr ⟨b1, 0, [], rfl, n1.blk, by decide, rfl⟩⟩
    have P1 := (h0.R.fr (n1.fr []) (by intro b _; simp)).first (i := i) (by omega)
    have key := SI.appends (P := Try.prog) (t := 42) (e := 3) (i := Try.t3) (by kernel_rfl) (by kernel_rfl) rfl rfl T1 P1 (by rw [lt1]; simp; omega) (by decide) 42 (K := K) fun a2 c2 w2 T2 f2 g2 => by
      have e : ([] : List Int).length + (refs.take i).length = i := by rw [lt1]; simp
      rw [e]
      have g1 := n1.ge
      have z := (n1.fr []).size
      refine hK a2 c2 w2 (by simpa using T2) ((n1.fr []).trans f2 fun k hk => ?_) fun b hb => ?_
      · simp [ablk] at hk; subst hk; exact .inr g1
      · rcases g2 b hb with q | q
        · simp [ablk] at q; subst q; exact g1
        · omega
    rw [lt1] at key
    rw [ei]; exact key
  have AP2 : ∀ {a2 c2 w2}, SI w2 a2 c2 (refs.take i) → Fr [] w0 w2 → (∀ b ∈ ablk a2, w0.heap.size ≤ b) →
      RunF Try.prog (Builtin.append_ #[42, 42] 42 #[.slice a2 i c2, .slice (Adv a c (Int.toNat ((i : Int) + 1)) 1) (refs.length - Int.toNat ((i : Int) + 1)) (c - Int.toNat ((i : Int) + 1))]) w2 [.leaf .slice] fun (a4 : Option Addr) (l4 c4 : Nat) (w4 : World) => May w4 ⟨y, 4, none⟩ ∧ ∀ w5 : World, SetC w4 w5 ⟨y, 4, none⟩ (.slice a4 l4 c4) → F w5 := by
    intro a2 c2 w2 T2 f2 g2
    have Q2 := (h0.R.fr f2 (by intro b _; simp)).rest (i := i + 1) (by omega)
    have key := SI.appends (P := Try.prog) (t := 42) (e := 3) (i := Try.t3) (by kernel_rfl) (by kernel_rfl) rfl rfl T2 Q2 (by rw [lt1, ld1]; omega) (by decide) 42 (K := fun (a4 : Option Addr) (l4 c4 : Nat) (w4 : World) => May w4 ⟨y, 4, none⟩ ∧ ∀ w5 : World, SetC w4 w5 ⟨y, 4, none⟩ (.slice a4 l4 c4) → F w5) fun a3 c3 w3 T3 f3 g3 => by
      have z := f2.size
      have f03 : Fr [] w0 w3 := f2.trans f3 fun k hk => .inr (g2 k hk)
      have g03 : ∀ b ∈ ablk a3, w0.heap.size ≤ b := fun b hb => by
        rcases g3 b hb with q | q
        · exact g2 b q
        · omega
      have hd3 := h0.hd.fr f03 (by simp)
      refine ⟨hd3.may (by simp), fun w5 s5 => ?_⟩
      have B5 := s5.blk hd3
      exact (fun (q : _ ∧ _) => hF w5 _ _ _ q.1 q.2) (h0.turn (w2 := w5) (refs' := refs.take i ++ refs.drop (i + 1)) (f03.mono (by simp)) T3 (fun b hb => .inr (g03 b hb)) (by rw [List.length_append]; simpa using B5) (s5.fr (by simp)))
    rw [lt1, ld1] at key
    rw [ei1]; exact key
  clear hF
  refine ⟨fit64 (by omega) (by omega), ?_⟩
  repeat' first
    | with_reducible exact AP2 T2 f2 g2
    | omega
    | with_reducible refine And.intro ?_ ?_
    | with_reducible refine AP1 n1 fun a2 c2 w2 T2 f2 g2 => ?_
    | intro b1 w1 n1
    | refine ⟨_, _, _, LY (Fr.refl _ _), ?_⟩
    | refine ⟨_, _, _, LY (n1.fr []), ?_⟩
    | refine ⟨_, _, _, LY f2, ?_⟩

theorem remwords_c (h : Yo W w own y s pb ab count G fr ss last os a c refs qa qc rs) (hl : rs.length ≤ 1000) {i : Nat} (hi : i < rs.length) {F : World → Prop}
    (hF : ∀ w' own' qa' qc', Yo W w' own' y s pb ab count G fr ss last os a c refs qa' qc' (rs.take i ++ rs.drop (i + 1)) → Stp w w' own own' → F w') : RemWords y i w F := by
  unfold RemWords
  intro w0 d0
  have h0 := h.still d0.fr
  have st0 : Stp w w0 own own := Stp.still d0.fr
  replace hF : ∀ w' own' qa' qc', Yo W w' own' y s pb ab count G fr ss last os a c refs qa' qc' (rs.take i ++ rs.drop (i + 1)) → Stp w0 w' own own' → F w' := fun w' own' a' c' Y st => hF w' own' a' c' Y (st0.trans st)
  clear h d0 st0
  have hle := h0.T.le
  obtain ⟨l1, l2, l3, l5, l4⟩ := h0.lows
  have LY : ∀ {w}, Fr [] w0 w → World.cell? w ⟨y, 5, none⟩ = some (.slice qa rs.length qc) := fun f => (h0.hd.fr f (by simp)).cell rfl
  have ei : Int.toNat (i : Int) = i := by omega
  have ei1 : Int.toNat ((i : Int) + 1) = i + 1 := by omega
  have AP1 : ∀ {b1 w1} {K : Option Addr → Nat → Nat → World → Prop}, NewAt w0 w1 b1 #[] 42 → (∀ a2 c2 w2, SR encYO w2 a2 c2 (rs.take i) → Fr [] w0 w2 → (∀ b ∈ ablk a2, w0.heap.size ≤ b) → K a2 i c2 w2) →
      RunF Try.prog (Builtin.append_ #[126, 126] 126 #[.slice (some ⟨b1, 0, none⟩) 0 0, .slice qa (Int.toNat (i : Int)) qc]) w1 [.leaf .slice] K := by
    intro b1 w1 K n1 hK
    have T1 : SR encYO w1 (some ⟨b1, 0, none⟩) 0 [] := ⟨rfl, Nat.le_refl _, Nat.zero_le _, .inr ⟨b1, 0, [], rfl, n1.blk, by decide, rfl⟩⟩
    have P1 := (h0.T.fr0 (n1.fr [])).pre (i := i) (by omega)
    refine SR.appends (P := Try.prog) (t := 126) (e := 42) (i := Try.t42) (z := .slice none 0 0) (by kernel_rfl) (by kernel_rfl) rfl rfl rfl T1 P1 (by intro r u hu; simp [encYO] at hu; rw [hu]; rfl) (by rw [List.length_take]; simp; omega) (by decide) 126 rfl (by rw [List.length_take, ei]; omega) fun a2 c2 w2 T2 f2 g2 => ?_
    have e : ([] : List YO).length + (rs.take i).length = i := by rw [List.length_take]; simp; omega
    rw [e]
    have g1 := n1.ge
    have z := (n1.fr []).size
    refine hK a2 c2 w2 (by simpa using T2) ((n1.fr []).trans f2 fun k hk => ?_) fun b hb => ?_
    · simp [ablk] at hk; subst hk; exact .inr g1
    · rcases g2 b hb with q | q
      · simp [ablk] at q; subst q; exact g1
      · omega
  have AP2 : ∀ {a2 c2 w2}, SR encYO w2 a2 c2 (rs.take i) → Fr [] w0 w2 → (∀ b ∈ ablk a2, w0.heap.size ≤ b) →
      RunF Try.prog (Builtin.append_ #[126, 126] 126 #[.slice a2 i c2, .slice (Adv qa qc (Int.toNat ((i : Int) + 1)) 1) (rs.length - Int.toNat ((i : Int) + 1)) (qc - Int.toNat ((i : Int) + 1))]) w2 [.leaf .slice] fun (a4 : Option Addr) (l4 c4 : Nat) (w4 : World) => May w4 ⟨y, 5, none⟩ ∧ ∀ w5 : World, SetC w4 w5 ⟨y, 5, none⟩ (.slice a4 l4 c4) → F w5 := by
    intro a2 c2 w2 T2 f2 g2
    have Q2 := (h0.T.fr0 f2).suf (i := i + 1) (by omega)
    rw [ei1]
    refine SR.appends (P := Try.prog) (t := 126) (e := 42) (i := Try.t42) (z := .slice none 0 0) (by kernel_rfl) (by kernel_rfl) rfl rfl rfl T2 Q2 (by intro r u hu; simp [encYO] at hu; rw [hu]; rfl) (by rw [List.length_take, List.length_drop]; omega) (by decide) 126 (by rw [List.length_take]; omega) (by rw [List.length_drop]) fun a3 c3 w3 T3 f3 g3 => ?_
    have z := f2.size
    have f03 : Fr [] w0 w3 := f2.trans f3 fun k hk => .inr (g2 k hk)
    have g03 : ∀ b ∈ ablk a3, w0.heap.size ≤ b := fun b hb => by
      rcases g3 b hb with q | q
      · exact g2 b q
      · omega
    have hd3 := h0.hd.fr f03 (by simp)
    refine ⟨hd3.may (by simp), fun w5 s5 => ?_⟩
    have B5 := s5.blk hd3
    have sub : ∀ r ∈ rs.take i ++ rs.drop (i + 1), r ∈ rs := fun r hr => by
      rcases List.mem_append.1 hr with q | q
      · exact List.mem_of_mem_take q
      · exact List.mem_of_mem_drop q
    refine (fun (q : _ ∧ _) => hF w5 _ _ _ q.1 q.2) (h0.row (own1 := ext own w0.heap.size 5) (w2 := w5) (rs' := rs.take i ++ rs.drop (i + 1)) (f03.mono (by simp)) T3 (fun r hr => (h0.V r (sub r hr)).fr f03 (by intro b _; simp)) (by rw [List.length_append]; simpa using B5) (s5.fr (by simp)) (fun b hb => by unfold ext; rw [if_pos hb]) (Tag.fresh _ g03) (fun r hr => (h0.o4 r (sub r hr)).keep (l4 r (sub r hr)) 5) (fun r hr => h0.pos r (sub r hr)) ?_)
    refine h0.pw.sublist (List.Sublist.map _ ?_)
    have : List.Sublist (rs.take i ++ rs.drop (i + 1)) (rs.take i ++ rs.drop i) := List.Sublist.append_left (by rw [← List.drop_drop]; exact List.drop_sublist _ _) _
    rwa [List.take_append_drop] at this
  clear hF
  refine ⟨fit64 (by omega) (by omega), ?_⟩
  repeat' first
    | with_reducible exact AP2 T2 f2 g2
    | omega
    | with_reducible refine And.intro ?_ ?_
    | with_reducible refine AP1 n1 fun a2 c2 w2 T2 f2 g2 => ?_
    | intro b1 w1 n1
    | refine ⟨_, _, _, LY (Fr.refl _ _), ?_⟩
    | refine ⟨_, _, _, LY (n1.fr []), ?_⟩
    | refine ⟨_, _, _, LY f2, ?_⟩
end
end Go.Proofs.Ytfpghcdjfiggiaa.V

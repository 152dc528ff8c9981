/- HeapActs: a cell is put on the player's list, and taken off, in whatever order the places are read. No condition. -/
import Derived.Test.YtfpghcdjfiggiaaActsH
namespace Go.Proofs.Ytfpghcdjfiggiaa.V
open Go Go.RowKit

def AddRec (y b1 : Nat) (ref : Int) (w0 : World) (F : World → Prop) : Prop :=
 ∃ (n38 : Int), World.cell? w0 ⟨b1, 5, none⟩ = some (.int .i64 n38) ∧
 (∃ (a39 : Option Addr) (l39 c39 : Nat), World.cell? w0 ⟨y, 3, none⟩ = some (.slice a39 l39 c39) ∧
 (∃ (n40 : Int), World.cell? w0 ⟨b1, 3, none⟩ = some (.int .i64 n40) ∧
 (∃ (n41 : Int), World.cell? w0 ⟨b1, 4, none⟩ = some (.int .i64 n41) ∧
 RunF Try.prog (Instr.makeSlice 42 (.int .i64 n38) (.int .i64 n38)) w0 [.leaf .slice] fun (a42 : Option Addr) (l42 c42 : Nat) (w43 : World) =>
 ∀ (b44 : Nat) (w45 : World), NewAt w43 w45 b44 #[.int .i64 ref, .int .i64 n40, .int .i64 n41, .slice a42 l42 c42] 217 →
 RunF Try.prog (Builtin.append_ #[138, 138] 138 #[.slice a39 l39 c39, .slice (some ⟨b44, 0, none⟩) 1 1]) w45 [.leaf .slice] fun (a46 : Option Addr) (l46 c46 : Nat) (w47 : World) =>
 May w47 ⟨y, 3, none⟩ ∧ ∀ w48 : World, SetC w47 w48 ⟨y, 3, none⟩ (.slice a46 l46 c46) →
 F w48) ∧
 (RunF Try.prog (Instr.makeSlice 42 (.int .i64 n38) (.int .i64 n38)) w0 [.leaf .slice] fun (a49 : Option Addr) (l49 c49 : Nat) (w50 : World) =>
 ∃ (n51 : Int), World.cell? w50 ⟨b1, 4, none⟩ = some (.int .i64 n51) ∧
 ∀ (b52 : Nat) (w53 : World), NewAt w50 w53 b52 #[.int .i64 ref, .int .i64 n40, .int .i64 n51, .slice a49 l49 c49] 217 →
 RunF Try.prog (Builtin.append_ #[138, 138] 138 #[.slice a39 l39 c39, .slice (some ⟨b52, 0, none⟩) 1 1]) w53 [.leaf .slice] fun (a54 : Option Addr) (l54 c54 : Nat) (w55 : World) =>
 May w55 ⟨y, 3, none⟩ ∧ ∀ w56 : World, SetC w55 w56 ⟨y, 3, none⟩ (.slice a54 l54 c54) →
 F w56)) ∧
 (∃ (n57 : Int), World.cell? w0 ⟨b1, 4, none⟩ = some (.int .i64 n57) ∧
 (∃ (n58 : Int), World.cell? w0 ⟨b1, 3, none⟩ = some (.int .i64 n58) ∧
 RunF Try.prog (Instr.makeSlice 42 (.int .i64 n38) (.int .i64 n38)) w0 [.leaf .slice] fun (a59 : Option Addr) (l59 c59 : Nat) (w60 : World) =>
 ∀ (b61 : Nat) (w62 : World), NewAt w60 w62 b61 #[.int .i64 ref, .int .i64 n58, .int .i64 n57, .slice a59 l59 c59] 217 →
 RunF Try.prog (Builtin.append_ #[138, 138] 138 #[.slice a39 l39 c39, .slice (some ⟨b61, 0, none⟩) 1 1]) w62 [.leaf .slice] fun (a63 : Option Addr) (l63 c63 : Nat) (w64 : World) =>
 May w64 ⟨y, 3, none⟩ ∧ ∀ w65 : World, SetC w64 w65 ⟨y, 3, none⟩ (.slice a63 l63 c63) →
 F w65) ∧
 (RunF Try.prog (Instr.makeSlice 42 (.int .i64 n38) (.int .i64 n38)) w0 [.leaf .slice] fun (a66 : Option Addr) (l66 c66 : Nat) (w67 : World) =>
 ∃ (n68 : Int), World.cell? w67 ⟨b1, 3, none⟩ = some (.int .i64 n68) ∧
 ∀ (b69 : Nat) (w70 : World), NewAt w67 w70 b69 #[.int .i64 ref, .int .i64 n68, .int .i64 n57, .slice a66 l66 c66] 217 →
 RunF Try.prog (Builtin.append_ #[138, 138] 138 #[.slice a39 l39 c39, .slice (some ⟨b69, 0, none⟩) 1 1]) w70 [.leaf .slice] fun (a71 : Option Addr) (l71 c71 : Nat) (w72 : World) =>
 May w72 ⟨y, 3, none⟩ ∧ ∀ w73 : World, SetC w72 w73 ⟨y, 3, none⟩ (.slice a71 l71 c71) →
 F w73)) ∧
 (RunF Try.prog (Instr.makeSlice 42 (.int .i64 n38) (.int .i64 n38)) w0 [.leaf .slice] fun (a74 : Option Addr) (l74 c74 : Nat) (w75 : World) =>
 ∃ (n76 : Int), World.cell? w75 ⟨b1, 3, none⟩ = some (.int .i64 n76) ∧
 ∃ (n77 : Int), World.cell? w75 ⟨b1, 4, none⟩ = some (.int .i64 n77) ∧
 ∀ (b78 : Nat) (w79 : World), NewAt w75 w79 b78 #[.int .i64 ref, .int .i64 n76, .int .i64 n77, .slice a74 l74 c74] 217 →
 RunF Try.prog (Builtin.append_ #[138, 138] 138 #[.slice a39 l39 c39, .slice (some ⟨b78, 0, none⟩) 1 1]) w79 [.leaf .slice] fun (a80 : Option Addr) (l80 c80 : Nat) (w81 : World) =>
 May w81 ⟨y, 3, none⟩ ∧ ∀ w82 : World, SetC w81 w82 ⟨y, 3, none⟩ (.slice a80 l80 c80) →
 F w82)) ∧
 (∃ (n83 : Int), World.cell? w0 ⟨b1, 3, none⟩ = some (.int .i64 n83) ∧
 (∃ (a84 : Option Addr) (l84 c84 : Nat), World.cell? w0 ⟨y, 3, none⟩ = some (.slice a84 l84 c84) ∧
 (∃ (n85 : Int), World.cell? w0 ⟨b1, 4, none⟩ = some (.int .i64 n85) ∧
 RunF Try.prog (Instr.makeSlice 42 (.int .i64 n38) (.int .i64 n38)) w0 [.leaf .slice] fun (a86 : Option Addr) (l86 c86 : Nat) (w87 : World) =>
 ∀ (b88 : Nat) (w89 : World), NewAt w87 w89 b88 #[.int .i64 ref, .int .i64 n83, .int .i64 n85, .slice a86 l86 c86] 217 →
 RunF Try.prog (Builtin.append_ #[138, 138] 138 #[.slice a84 l84 c84, .slice (some ⟨b88, 0, none⟩) 1 1]) w89 [.leaf .slice] fun (a90 : Option Addr) (l90 c90 : Nat) (w91 : World) =>
 May w91 ⟨y, 3, none⟩ ∧ ∀ w92 : World, SetC w91 w92 ⟨y, 3, none⟩ (.slice a90 l90 c90) →
 F w92) ∧
 (RunF Try.prog (Instr.makeSlice 42 (.int .i64 n38) (.int .i64 n38)) w0 [.leaf .slice] fun (a93 : Option Addr) (l93 c93 : Nat) (w94 : World) =>
 ∃ (n95 : Int), World.cell? w94 ⟨b1, 4, none⟩ = some (.int .i64 n95) ∧
 ∀ (b96 : Nat) (w97 : World), NewAt w94 w97 b96 #[.int .i64 ref, .int .i64 n83, .int .i64 n95, .slice a93 l93 c93] 217 →
 RunF Try.prog (Builtin.append_ #[138, 138] 138 #[.slice a84 l84 c84, .slice (some ⟨b96, 0, none⟩) 1 1]) w97 [.leaf .slice] fun (a98 : Option Addr) (l98 c98 : Nat) (w99 : World) =>
 May w99 ⟨y, 3, none⟩ ∧ ∀ w100 : World, SetC w99 w100 ⟨y, 3, none⟩ (.slice a98 l98 c98) →
 F w100)) ∧
 (∃ (n101 : Int), World.cell? w0 ⟨b1, 4, none⟩ = some (.int .i64 n101) ∧
 (∃ (a102 : Option Addr) (l102 c102 : Nat), World.cell? w0 ⟨y, 3, none⟩ = some (.slice a102 l102 c102) ∧
 RunF Try.prog (Instr.makeSlice 42 (.int .i64 n38) (.int .i64 n38)) w0 [.leaf .slice] fun (a103 : Option Addr) (l103 c103 : Nat) (w104 : World) =>
 ∀ (b105 : Nat) (w106 : World), NewAt w104 w106 b105 #[.int .i64 ref, .int .i64 n83, .int .i64 n101, .slice a103 l103 c103] 217 →
 RunF Try.prog (Builtin.append_ #[138, 138] 138 #[.slice a102 l102 c102, .slice (some ⟨b105, 0, none⟩) 1 1]) w106 [.leaf .slice] fun (a107 : Option Addr) (l107 c107 : Nat) (w108 : World) =>
 May w108 ⟨y, 3, none⟩ ∧ ∀ w109 : World, SetC w108 w109 ⟨y, 3, none⟩ (.slice a107 l107 c107) →
 F w109) ∧
 (RunF Try.prog (Instr.makeSlice 42 (.int .i64 n38) (.int .i64 n38)) w0 [.leaf .slice] fun (a110 : Option Addr) (l110 c110 : Nat) (w111 : World) =>
 (∃ (a112 : Option Addr) (l112 c112 : Nat), World.cell? w111 ⟨y, 3, none⟩ = some (.slice a112 l112 c112) ∧
 ∀ (b113 : Nat) (w114 : World), NewAt w111 w114 b113 #[.int .i64 ref, .int .i64 n83, .int .i64 n101, .slice a110 l110 c110] 217 →
 RunF Try.prog (Builtin.append_ #[138, 138] 138 #[.slice a112 l112 c112, .slice (some ⟨b113, 0, none⟩) 1 1]) w114 [.leaf .slice] fun (a115 : Option Addr) (l115 c115 : Nat) (w116 : World) =>
 May w116 ⟨y, 3, none⟩ ∧ ∀ w117 : World, SetC w116 w117 ⟨y, 3, none⟩ (.slice a115 l115 c115) →
 F w117) ∧
 (∀ (b118 : Nat) (w119 : World), NewAt w111 w119 b118 #[.int .i64 ref, .int .i64 n83, .int .i64 n101, .slice a110 l110 c110] 217 →
 ∃ (a120 : Option Addr) (l120 c120 : Nat), World.cell? w119 ⟨y, 3, none⟩ = some (.slice a120 l120 c120) ∧
 RunF Try.prog (Builtin.append_ #[138, 138] 138 #[.slice a120 l120 c120, .slice (some ⟨b118, 0, none⟩) 1 1]) w119 [.leaf .slice] fun (a121 : Option Addr) (l121 c121 : Nat) (w122 : World) =>
 May w122 ⟨y, 3, none⟩ ∧ ∀ w123 : World, SetC w122 w123 ⟨y, 3, none⟩ (.slice a121 l121 c121) →
 F w123))) ∧
 (RunF Try.prog (Instr.makeSlice 42 (.int .i64 n38) (.int .i64 n38)) w0 [.leaf .slice] fun (a124 : Option Addr) (l124 c124 : Nat) (w125 : World) =>
 ∃ (n126 : Int), World.cell? w125 ⟨b1, 4, none⟩ = some (.int .i64 n126) ∧
 (∃ (a127 : Option Addr) (l127 c127 : Nat), World.cell? w125 ⟨y, 3, none⟩ = some (.slice a127 l127 c127) ∧
 ∀ (b128 : Nat) (w129 : World), NewAt w125 w129 b128 #[.int .i64 ref, .int .i64 n83, .int .i64 n126, .slice a124 l124 c124] 217 →
 RunF Try.prog (Builtin.append_ #[138, 138] 138 #[.slice a127 l127 c127, .slice (some ⟨b128, 0, none⟩) 1 1]) w129 [.leaf .slice] fun (a130 : Option Addr) (l130 c130 : Nat) (w131 : World) =>
 May w131 ⟨y, 3, none⟩ ∧ ∀ w132 : World, SetC w131 w132 ⟨y, 3, none⟩ (.slice a130 l130 c130) →
 F w132) ∧
 (∀ (b133 : Nat) (w134 : World), NewAt w125 w134 b133 #[.int .i64 ref, .int .i64 n83, .int .i64 n126, .slice a124 l124 c124] 217 →
 ∃ (a135 : Option Addr) (l135 c135 : Nat), World.cell? w134 ⟨y, 3, none⟩ = some (.slice a135 l135 c135) ∧
 RunF Try.prog (Builtin.append_ #[138, 138] 138 #[.slice a135 l135 c135, .slice (some ⟨b133, 0, none⟩) 1 1]) w134 [.leaf .slice] fun (a136 : Option Addr) (l136 c136 : Nat) (w137 : World) =>
 May w137 ⟨y, 3, none⟩ ∧ ∀ w138 : World, SetC w137 w138 ⟨y, 3, none⟩ (.slice a136 l136 c136) →
 F w138))) ∧
 (∃ (n139 : Int), World.cell? w0 ⟨b1, 4, none⟩ = some (.int .i64 n139) ∧
 (∃ (a140 : Option Addr) (l140 c140 : Nat), World.cell? w0 ⟨y, 3, none⟩ = some (.slice a140 l140 c140) ∧
 (∃ (n141 : Int), World.cell? w0 ⟨b1, 3, none⟩ = some (.int .i64 n141) ∧
 RunF Try.prog (Instr.makeSlice 42 (.int .i64 n38) (.int .i64 n38)) w0 [.leaf .slice] fun (a142 : Option Addr) (l142 c142 : Nat) (w143 : World) =>
 ∀ (b144 : Nat) (w145 : World), NewAt w143 w145 b144 #[.int .i64 ref, .int .i64 n141, .int .i64 n139, .slice a142 l142 c142] 217 →
 RunF Try.prog (Builtin.append_ #[138, 138] 138 #[.slice a140 l140 c140, .slice (some ⟨b144, 0, none⟩) 1 1]) w145 [.leaf .slice] fun (a146 : Option Addr) (l146 c146 : Nat) (w147 : World) =>
 May w147 ⟨y, 3, none⟩ ∧ ∀ w148 : World, SetC w147 w148 ⟨y, 3, none⟩ (.slice a146 l146 c146) →
 F w148) ∧
 (RunF Try.prog (Instr.makeSlice 42 (.int .i64 n38) (.int .i64 n38)) w0 [.leaf .slice] fun (a149 : Option Addr) (l149 c149 : Nat) (w150 : World) =>
 ∃ (n151 : Int), World.cell? w150 ⟨b1, 3, none⟩ = some (.int .i64 n151) ∧
 ∀ (b152 : Nat) (w153 : World), NewAt w150 w153 b152 #[.int .i64 ref, .int .i64 n151, .int .i64 n139, .slice a149 l149 c149] 217 →
 RunF Try.prog (Builtin.append_ #[138, 138] 138 #[.slice a140 l140 c140, .slice (some ⟨b152, 0, none⟩) 1 1]) w153 [.leaf .slice] fun (a154 : Option Addr) (l154 c154 : Nat) (w155 : World) =>
 May w155 ⟨y, 3, none⟩ ∧ ∀ w156 : World, SetC w155 w156 ⟨y, 3, none⟩ (.slice a154 l154 c154) →
 F w156)) ∧
 (∃ (n157 : Int), World.cell? w0 ⟨b1, 3, none⟩ = some (.int .i64 n157) ∧
 (∃ (a158 : Option Addr) (l158 c158 : Nat), World.cell? w0 ⟨y, 3, none⟩ = some (.slice a158 l158 c158) ∧
 RunF Try.prog (Instr.makeSlice 42 (.int .i64 n38) (.int .i64 n38)) w0 [.leaf .slice] fun (a159 : Option Addr) (l159 c159 : Nat) (w160 : World) =>
 ∀ (b161 : Nat) (w162 : World), NewAt w160 w162 b161 #[.int .i64 ref, .int .i64 n157, .int .i64 n139, .slice a159 l159 c159] 217 →
 RunF Try.prog (Builtin.append_ #[138, 138] 138 #[.slice a158 l158 c158, .slice (some ⟨b161, 0, none⟩) 1 1]) w162 [.leaf .slice] fun (a163 : Option Addr) (l163 c163 : Nat) (w164 : World) =>
 May w164 ⟨y, 3, none⟩ ∧ ∀ w165 : World, SetC w164 w165 ⟨y, 3, none⟩ (.slice a163 l163 c163) →
 F w165) ∧
 (RunF Try.prog (Instr.makeSlice 42 (.int .i64 n38) (.int .i64 n38)) w0 [.leaf .slice] fun (a166 : Option Addr) (l166 c166 : Nat) (w167 : World) =>
 (∃ (a168 : Option Addr) (l168 c168 : Nat), World.cell? w167 ⟨y, 3, none⟩ = some (.slice a168 l168 c168) ∧
 ∀ (b169 : Nat) (w170 : World), NewAt w167 w170 b169 #[.int .i64 ref, .int .i64 n157, .int .i64 n139, .slice a166 l166 c166] 217 →
 RunF Try.prog (Builtin.append_ #[138, 138] 138 #[.slice a168 l168 c168, .slice (some ⟨b169, 0, none⟩) 1 1]) w170 [.leaf .slice] fun (a171 : Option Addr) (l171 c171 : Nat) (w172 : World) =>
 May w172 ⟨y, 3, none⟩ ∧ ∀ w173 : World, SetC w172 w173 ⟨y, 3, none⟩ (.slice a171 l171 c171) →
 F w173) ∧
 (∀ (b174 : Nat) (w175 : World), NewAt w167 w175 b174 #[.int .i64 ref, .int .i64 n157, .int .i64 n139, .slice a166 l166 c166] 217 →
 ∃ (a176 : Option Addr) (l176 c176 : Nat), World.cell? w175 ⟨y, 3, none⟩ = some (.slice a176 l176 c176) ∧
 RunF Try.prog (Builtin.append_ #[138, 138] 138 #[.slice a176 l176 c176, .slice (some ⟨b174, 0, none⟩) 1 1]) w175 [.leaf .slice] fun (a177 : Option Addr) (l177 c177 : Nat) (w178 : World) =>
 May w178 ⟨y, 3, none⟩ ∧ ∀ w179 : World, SetC w178 w179 ⟨y, 3, none⟩ (.slice a177 l177 c177) →
 F w179))) ∧
 (RunF Try.prog (Instr.makeSlice 42 (.int .i64 n38) (.int .i64 n38)) w0 [.leaf .slice] fun (a180 : Option Addr) (l180 c180 : Nat) (w181 : World) =>
 ∃ (n182 : Int), World.cell? w181 ⟨b1, 3, none⟩ = some (.int .i64 n182) ∧
 (∃ (a183 : Option Addr) (l183 c183 : Nat), World.cell? w181 ⟨y, 3, none⟩ = some (.slice a183 l183 c183) ∧
 ∀ (b184 : Nat) (w185 : World), NewAt w181 w185 b184 #[.int .i64 ref, .int .i64 n182, .int .i64 n139, .slice a180 l180 c180] 217 →
 RunF Try.prog (Builtin.append_ #[138, 138] 138 #[.slice a183 l183 c183, .slice (some ⟨b184, 0, none⟩) 1 1]) w185 [.leaf .slice] fun (a186 : Option Addr) (l186 c186 : Nat) (w187 : World) =>
 May w187 ⟨y, 3, none⟩ ∧ ∀ w188 : World, SetC w187 w188 ⟨y, 3, none⟩ (.slice a186 l186 c186) →
 F w188) ∧
 (∀ (b189 : Nat) (w190 : World), NewAt w181 w190 b189 #[.int .i64 ref, .int .i64 n182, .int .i64 n139, .slice a180 l180 c180] 217 →
 ∃ (a191 : Option Addr) (l191 c191 : Nat), World.cell? w190 ⟨y, 3, none⟩ = some (.slice a191 l191 c191) ∧
 RunF Try.prog (Builtin.append_ #[138, 138] 138 #[.slice a191 l191 c191, .slice (some ⟨b189, 0, none⟩) 1 1]) w190 [.leaf .slice] fun (a192 : Option Addr) (l192 c192 : Nat) (w193 : World) =>
 May w193 ⟨y, 3, none⟩ ∧ ∀ w194 : World, SetC w193 w194 ⟨y, 3, none⟩ (.slice a192 l192 c192) →
 F w194))) ∧
 (RunF Try.prog (Instr.makeSlice 42 (.int .i64 n38) (.int .i64 n38)) w0 [.leaf .slice] fun (a195 : Option Addr) (l195 c195 : Nat) (w196 : World) =>
 ∃ (n197 : Int), World.cell? w196 ⟨b1, 3, none⟩ = some (.int .i64 n197) ∧
 ∃ (n198 : Int), World.cell? w196 ⟨b1, 4, none⟩ = some (.int .i64 n198) ∧
 (∃ (a199 : Option Addr) (l199 c199 : Nat), World.cell? w196 ⟨y, 3, none⟩ = some (.slice a199 l199 c199) ∧
 ∀ (b200 : Nat) (w201 : World), NewAt w196 w201 b200 #[.int .i64 ref, .int .i64 n197, .int .i64 n198, .slice a195 l195 c195] 217 →
 RunF Try.prog (Builtin.append_ #[138, 138] 138 #[.slice a199 l199 c199, .slice (some ⟨b200, 0, none⟩) 1 1]) w201 [.leaf .slice] fun (a202 : Option Addr) (l202 c202 : Nat) (w203 : World) =>
 May w203 ⟨y, 3, none⟩ ∧ ∀ w204 : World, SetC w203 w204 ⟨y, 3, none⟩ (.slice a202 l202 c202) →
 F w204) ∧
 (∀ (b205 : Nat) (w206 : World), NewAt w196 w206 b205 #[.int .i64 ref, .int .i64 n197, .int .i64 n198, .slice a195 l195 c195] 217 →
 ∃ (a207 : Option Addr) (l207 c207 : Nat), World.cell? w206 ⟨y, 3, none⟩ = some (.slice a207 l207 c207) ∧
 RunF Try.prog (Builtin.append_ #[138, 138] 138 #[.slice a207 l207 c207, .slice (some ⟨b205, 0, none⟩) 1 1]) w206 [.leaf .slice] fun (a208 : Option Addr) (l208 c208 : Nat) (w209 : World) =>
 May w209 ⟨y, 3, none⟩ ∧ ∀ w210 : World, SetC w209 w210 ⟨y, 3, none⟩ (.slice a208 l208 c208) →
 F w210))

def RemRec (y : Nat) (at_ : Int) (w00 : World) (F : World → Prop) : Prop :=
 ∀ w47 : World, Drew w00 w47 →
 Fit .i64 (at_ + 1) ∧
 (∀ (b48 : Nat) (w49 : World), NewAt w47 w49 b48 #[] 217 →
 ∃ (a50 : Option Addr) (l50 c50 : Nat), World.cell? w49 ⟨y, 3, none⟩ = some (.slice a50 l50 c50) ∧
 ((0 : Int) ≤ at_ ∧ at_ ≤ (c50 : Int)) ∧
 (RunF Try.prog (Builtin.append_ #[138, 138] 138 #[.slice (some ⟨b48, 0, none⟩) 0 0, .slice a50 (Int.toNat at_) c50]) w49 [.leaf .slice] fun (a51 : Option Addr) (l51 c51 : Nat) (w52 : World) =>
 ∃ (a53 : Option Addr) (l53 c53 : Nat), World.cell? w52 ⟨y, 3, none⟩ = some (.slice a53 l53 c53) ∧
 ((0 : Int) ≤ (at_ + 1) ∧ (at_ + 1) ≤ (l53 : Int)) ∧
 RunF Try.prog (Builtin.append_ #[138, 138] 138 #[.slice a51 l51 c51, .slice (Adv a53 c53 (Int.toNat (at_ + 1)) 4) (l53 - Int.toNat (at_ + 1)) (c53 - Int.toNat (at_ + 1))]) w52 [.leaf .slice] fun (a54 : Option Addr) (l54 c54 : Nat) (w55 : World) =>
 May w55 ⟨y, 3, none⟩ ∧ ∀ w56 : World, SetC w55 w56 ⟨y, 3, none⟩ (.slice a54 l54 c54) →
 F w56) ∧
 (∃ (a57 : Option Addr) (l57 c57 : Nat), World.cell? w49 ⟨y, 3, none⟩ = some (.slice a57 l57 c57) ∧
 ((0 : Int) ≤ (at_ + 1) ∧ (at_ + 1) ≤ (l57 : Int)) ∧
 RunF Try.prog (Builtin.append_ #[138, 138] 138 #[.slice (some ⟨b48, 0, none⟩) 0 0, .slice a50 (Int.toNat at_) c50]) w49 [.leaf .slice] fun (a58 : Option Addr) (l58 c58 : Nat) (w59 : World) =>
 RunF Try.prog (Builtin.append_ #[138, 138] 138 #[.slice a58 l58 c58, .slice (Adv a57 c57 (Int.toNat (at_ + 1)) 4) (l57 - Int.toNat (at_ + 1)) (c57 - Int.toNat (at_ + 1))]) w59 [.leaf .slice] fun (a60 : Option Addr) (l60 c60 : Nat) (w61 : World) =>
 May w61 ⟨y, 3, none⟩ ∧ ∀ w62 : World, SetC w61 w62 ⟨y, 3, none⟩ (.slice a60 l60 c60) →
 F w62)) ∧
 (∃ (a63 : Option Addr) (l63 c63 : Nat), World.cell? w47 ⟨y, 3, none⟩ = some (.slice a63 l63 c63) ∧
 ((0 : Int) ≤ at_ ∧ at_ ≤ (c63 : Int)) ∧
 (∀ (b64 : Nat) (w65 : World), NewAt w47 w65 b64 #[] 217 →
 (RunF Try.prog (Builtin.append_ #[138, 138] 138 #[.slice (some ⟨b64, 0, none⟩) 0 0, .slice a63 (Int.toNat at_) c63]) w65 [.leaf .slice] fun (a66 : Option Addr) (l66 c66 : Nat) (w67 : World) =>
 ∃ (a68 : Option Addr) (l68 c68 : Nat), World.cell? w67 ⟨y, 3, none⟩ = some (.slice a68 l68 c68) ∧
 ((0 : Int) ≤ (at_ + 1) ∧ (at_ + 1) ≤ (l68 : Int)) ∧
 RunF Try.prog (Builtin.append_ #[138, 138] 138 #[.slice a66 l66 c66, .slice (Adv a68 c68 (Int.toNat (at_ + 1)) 4) (l68 - Int.toNat (at_ + 1)) (c68 - Int.toNat (at_ + 1))]) w67 [.leaf .slice] fun (a69 : Option Addr) (l69 c69 : Nat) (w70 : World) =>
 May w70 ⟨y, 3, none⟩ ∧ ∀ w71 : World, SetC w70 w71 ⟨y, 3, none⟩ (.slice a69 l69 c69) →
 F w71) ∧
 (∃ (a72 : Option Addr) (l72 c72 : Nat), World.cell? w65 ⟨y, 3, none⟩ = some (.slice a72 l72 c72) ∧
 ((0 : Int) ≤ (at_ + 1) ∧ (at_ + 1) ≤ (l72 : Int)) ∧
 RunF Try.prog (Builtin.append_ #[138, 138] 138 #[.slice (some ⟨b64, 0, none⟩) 0 0, .slice a63 (Int.toNat at_) c63]) w65 [.leaf .slice] fun (a73 : Option Addr) (l73 c73 : Nat) (w74 : World) =>
 RunF Try.prog (Builtin.append_ #[138, 138] 138 #[.slice a73 l73 c73, .slice (Adv a72 c72 (Int.toNat (at_ + 1)) 4) (l72 - Int.toNat (at_ + 1)) (c72 - Int.toNat (at_ + 1))]) w74 [.leaf .slice] fun (a75 : Option Addr) (l75 c75 : Nat) (w76 : World) =>
 May w76 ⟨y, 3, none⟩ ∧ ∀ w77 : World, SetC w76 w77 ⟨y, 3, none⟩ (.slice a75 l75 c75) →
 F w77)) ∧
 (∃ (a78 : Option Addr) (l78 c78 : Nat), World.cell? w47 ⟨y, 3, none⟩ = some (.slice a78 l78 c78) ∧
 ((0 : Int) ≤ (at_ + 1) ∧ (at_ + 1) ≤ (l78 : Int)) ∧
 ∀ (b79 : Nat) (w80 : World), NewAt w47 w80 b79 #[] 217 →
 RunF Try.prog (Builtin.append_ #[138, 138] 138 #[.slice (some ⟨b79, 0, none⟩) 0 0, .slice a63 (Int.toNat at_) c63]) w80 [.leaf .slice] fun (a81 : Option Addr) (l81 c81 : Nat) (w82 : World) =>
 RunF Try.prog (Builtin.append_ #[138, 138] 138 #[.slice a81 l81 c81, .slice (Adv a78 c78 (Int.toNat (at_ + 1)) 4) (l78 - Int.toNat (at_ + 1)) (c78 - Int.toNat (at_ + 1))]) w82 [.leaf .slice] fun (a83 : Option Addr) (l83 c83 : Nat) (w84 : World) =>
 May w84 ⟨y, 3, none⟩ ∧ ∀ w85 : World, SetC w84 w85 ⟨y, 3, none⟩ (.slice a83 l83 c83) →
 F w85)) ∧
 (∃ (a86 : Option Addr) (l86 c86 : Nat), World.cell? w47 ⟨y, 3, none⟩ = some (.slice a86 l86 c86) ∧
 ((0 : Int) ≤ (at_ + 1) ∧ (at_ + 1) ≤ (l86 : Int)) ∧
 (∀ (b87 : Nat) (w88 : World), NewAt w47 w88 b87 #[] 217 →
 ∃ (a89 : Option Addr) (l89 c89 : Nat), World.cell? w88 ⟨y, 3, none⟩ = some (.slice a89 l89 c89) ∧
 ((0 : Int) ≤ at_ ∧ at_ ≤ (c89 : Int)) ∧
 RunF Try.prog (Builtin.append_ #[138, 138] 138 #[.slice (some ⟨b87, 0, none⟩) 0 0, .slice a89 (Int.toNat at_) c89]) w88 [.leaf .slice] fun (a90 : Option Addr) (l90 c90 : Nat) (w91 : World) =>
 RunF Try.prog (Builtin.append_ #[138, 138] 138 #[.slice a90 l90 c90, .slice (Adv a86 c86 (Int.toNat (at_ + 1)) 4) (l86 - Int.toNat (at_ + 1)) (c86 - Int.toNat (at_ + 1))]) w91 [.leaf .slice] fun (a92 : Option Addr) (l92 c92 : Nat) (w93 : World) =>
 May w93 ⟨y, 3, none⟩ ∧ ∀ w94 : World, SetC w93 w94 ⟨y, 3, none⟩ (.slice a92 l92 c92) →
 F w94) ∧
 (∃ (a95 : Option Addr) (l95 c95 : Nat), World.cell? w47 ⟨y, 3, none⟩ = some (.slice a95 l95 c95) ∧
 ((0 : Int) ≤ at_ ∧ at_ ≤ (c95 : Int)) ∧
 ∀ (b96 : Nat) (w97 : World), NewAt w47 w97 b96 #[] 217 →
 RunF Try.prog (Builtin.append_ #[138, 138] 138 #[.slice (some ⟨b96, 0, none⟩) 0 0, .slice a95 (Int.toNat at_) c95]) w97 [.leaf .slice] fun (a98 : Option Addr) (l98 c98 : Nat) (w99 : World) =>
 RunF Try.prog (Builtin.append_ #[138, 138] 138 #[.slice a98 l98 c98, .slice (Adv a86 c86 (Int.toNat (at_ + 1)) 4) (l86 - Int.toNat (at_ + 1)) (c86 - Int.toNat (at_ + 1))]) w99 [.leaf .slice] fun (a100 : Option Addr) (l100 c100 : Nat) (w101 : World) =>
 May w101 ⟨y, 3, none⟩ ∧ ∀ w102 : World, SetC w101 w102 ⟨y, 3, none⟩ (.slice a100 l100 c100) →
 F w102))

section
variable {W w w' w0 : World} {own own' : Nat → Nat} {y hb b1 : Nat} {words : Int} {G G' S : List Nat} {ss ss' : List Int} {last last' : Int} {xs xs' : List XC} {a : Option Addr} {c : Nat} {rs : List YR}

theorem addrec_c (h : Yh W w0 own y hb words G ss last xs a c rs) {xa xb xc xd xe xf : Int} (B : Blk w0 b1 [.int .i64 xa, .int .i64 xb, .int .i64 xc, .int .i64 xd, .int .i64 xe, .int .i64 xf]) (hn : 0 ≤ xf ∧ xf ≤ 1000) (hl : rs.length ≤ 1000) {ref : Int} (hp : 1 ≤ ref ∧ ref ≤ last) (hgt : ∀ r ∈ rs, r.ref < ref) {F : World → Prop}
    (hF : ∀ w' own' a' c' wa wc, Yh W w' own' y hb words G ss last xs a' c' (rs ++ [⟨ref, xd, xe, wa, wc, List.replicate xf.toNat 0⟩]) → Stp w0 w' own own' → F w') : AddRec y b1 ref w0 F := by
  have LY : ∀ {w}, (∀ S, Fr S w0 w) → World.cell? w ⟨y, 3, none⟩ = some (.slice a rs.length c) := fun f => (h.hd.fr (f []) (by simp)).cell rfl
  have L3 : ∀ {w}, (∀ S, Fr S w0 w) → World.cell? w ⟨b1, 3, none⟩ = some (.int .i64 xd) := fun f => (B.fr (f []) (by simp)).cell rfl
  have L4 : ∀ {w}, (∀ S, Fr S w0 w) → World.cell? w ⟨b1, 4, none⟩ = some (.int .i64 xe) := fun f => (B.fr (f []) (by simp)).cell rfl
  have AP : ∀ {bk b2 wk w2}, SI wk (some ⟨bk, 0, none⟩) xf.toNat (List.replicate xf.toNat 0) → (∀ S, Fr S w0 wk) → w0.heap.size ≤ bk → NewAt wk w2 b2 #[.int .i64 ref, .int .i64 xd, .int .i64 xe, .slice (some ⟨bk, 0, none⟩) xf.toNat xf.toNat] 217 →
      RunF Try.prog (Builtin.append_ #[138, 138] 138 #[.slice a rs.length c, .slice (some ⟨b2, 0, none⟩) 1 1]) w2 [.leaf .slice] fun (a4 : Option Addr) (l4 c4 : Nat) (w4 : World) => May w4 ⟨y, 3, none⟩ ∧ ∀ w5 : World, SetC w4 w5 ⟨y, 3, none⟩ (.slice a4 l4 c4) → F w5 := by
    intro bk b2 wk w2 Sk fk gk n2
    obtain ⟨l1, l2, l3, l4⟩ := h.lows
    have hk := Sk.low bk (by simp [ablk])
    have Tk := h.T.fr0 (fk [])
    refine SR.append (E := encYR) (r := ⟨ref, xd, xe, some ⟨bk, 0, none⟩, xf.toNat, List.replicate xf.toNat 0⟩) (P := Try.prog) (t := 138) (e := 217) (i := Try.t217) (z := .agg #[.int .i64 0, .int .i64 0, .int .i64 0, .slice none 0 0]) (by kernel_rfl) (by kernel_rfl) rfl rfl rfl Tk n2 (by simp [encYR]) (by simp [encYR, isCell]) (by omega) (by decide) 138 fun a3 c3 w3 T3 f3 g3 => ?_
    have f03 : Fr (ablk a) w0 w3 := (fk _).more f3
    have hd3 := h.hd.fr f03 (h.o2.apart h.o3 (by decide) y (by simp))
    refine ⟨hd3.may (by simp), fun w5 s5 => ?_⟩
    have B5 := s5.blk hd3
    have z := (fk []).size
    refine (fun (q : _ ∧ _) => hF w5 _ _ _ _ _ q.1 q.2) (h.row (own1 := ext (ext own w0.heap.size (10 + ref.toNat)) wk.heap.size 3) (w2 := w5) (rs' := rs ++ [⟨ref, xd, xe, some ⟨bk, 0, none⟩, xf.toNat, List.replicate xf.toNat 0⟩]) f03 T3 (fun b hb => (g3 b hb).imp id (fun q => by omega)) (fun r hr => ?_) (by simpa using B5) (s5.fr (by simp)) (fun b hb => ?_) (fun b hb => ?_) (fun r hr => ?_) (fun r hr => ?_) ?_)
    · rcases List.mem_append.1 hr with q | q
      · exact (h.V r q).fr f03 ((h.o4 r q).apart h.o3 (by unfold ytag; omega))
      · simp at q; subst q
        exact Sk.fr f3 fun b hb hb2 => by simp [ablk] at hb; have := l3 b hb2; omega
    · unfold ext; rw [if_pos (by omega), if_pos hb]
    · unfold ext
      rcases g3 b hb with q | q
      · have := l3 b q
        rw [if_pos (by omega), if_pos this]; exact h.o3 b q
      · rw [if_neg (by omega)]
    · rcases List.mem_append.1 hr with q | q
      · intro b hb
        have := l4 r q b hb
        unfold ext; rw [if_pos (by omega), if_pos this]; exact h.o4 r q b hb
      · simp at q; subst q
        intro b hb
        simp [ablk] at hb; subst hb
        unfold ext; rw [if_pos hk, if_neg (by omega)]; rfl
    · rcases List.mem_append.1 hr with q | q
      · exact h.pos r q
      · simp at q; subst q; exact hp
    · rw [List.map_append, List.pairwise_append]
      refine ⟨h.pw, by simp, fun x hx z hz => ?_⟩
      simp at hz; subst hz
      obtain ⟨r, hr, rfl⟩ := List.mem_map.1 hx
      exact hgt r hr
  clear hF
  unfold AddRec
  refine ⟨xf, B.cell rfl, ?_⟩
  repeat' first
    | with_reducible exact AP Sk fk gk n2
    | with_reducible refine And.intro ?_ ?_
    | with_reducible refine mk_int hn.1 (by omega) fun bk wk Sk fk gk => ?_
    | intro b2 w2 n2
    | refine ⟨_, L3 (fun S => Fr.refl S _), ?_⟩
    | refine ⟨_, L4 (fun S => Fr.refl S _), ?_⟩
    | refine ⟨_, L3 fk, ?_⟩
    | refine ⟨_, L4 fk, ?_⟩
    | refine ⟨_, _, _, LY (fun S => Fr.refl S _), ?_⟩
    | refine ⟨_, _, _, LY fk, ?_⟩
    | refine ⟨_, _, _, LY (fun S => (fk S).more (n2.fr S)), ?_⟩

theorem remrec_c (h : Yh W w own y hb words G ss last xs a c rs) (hl : rs.length ≤ 1000) {i : Nat} (hi : i < rs.length) {F : World → Prop}
    (hF : ∀ w' own' a' c', Yh W w' own' y hb words G ss last xs a' c' (rs.take i ++ rs.drop (i + 1)) → Stp w w' own own' → F w') : RemRec y i w F := by
  unfold RemRec
  intro w0 d0
  have h0 := h.still d0.fr
  have st0 : Stp w w0 own own := Stp.still d0.fr
  replace hF : ∀ w' own' a' c', Yh W w' own' y hb words G ss last xs a' c' (rs.take i ++ rs.drop (i + 1)) → Stp w0 w' own own' → F w' := fun w' own' a' c' Y st => hF w' own' a' c' Y (st0.trans st)
  clear h d0 st0
  have hle := h0.T.le
  obtain ⟨l1, l2, l3, l4⟩ := h0.lows
  have LY : ∀ {w}, Fr [] w0 w → World.cell? w ⟨y, 3, none⟩ = some (.slice a rs.length c) := fun f => (h0.hd.fr f (by simp)).cell rfl
  have ei : Int.toNat (i : Int) = i := by omega
  have ei1 : Int.toNat ((i : Int) + 1) = i + 1 := by omega
  have AP1 : ∀ {b1 w1} {K : Option Addr → Nat → Nat → World → Prop}, NewAt w0 w1 b1 #[] 217 → (∀ a2 c2 w2, SR encYR w2 a2 c2 (rs.take i) → Fr [] w0 w2 → (∀ b ∈ ablk a2, w0.heap.size ≤ b) → K a2 i c2 w2) →
      RunF Try.prog (Builtin.append_ #[138, 138] 138 #[.slice (some ⟨b1, 0, none⟩) 0 0, .slice a (Int.toNat (i : Int)) c]) w1 [.leaf .slice] K := by
    intro b1 w1 K n1 hK
    have T1 : SR encYR w1 (some ⟨b1, 0, none⟩) 0 [] := ⟨rfl, Nat.le_refl _, Nat.zero_le _, .inr ⟨b1, 0, [], rfl, n1.blk, by decide, rfl⟩⟩
    have P1 := (h0.T.fr0 (n1.fr [])).pre (i := i) (by omega)
    refine SR.appends (P := Try.prog) (t := 138) (e := 217) (i := Try.t217) (z := .agg #[.int .i64 0, .int .i64 0, .int .i64 0, .slice none 0 0]) (by kernel_rfl) (by kernel_rfl) rfl rfl rfl T1 P1 (by intro r u hu; simp [encYR] at hu; rcases hu with rfl | rfl | rfl | rfl <;> rfl) (by rw [List.length_take]; simp; omega) (by decide) 138 rfl (by rw [List.length_take, ei]; omega) fun a2 c2 w2 T2 f2 g2 => ?_
    have e : ([] : List YR).length + (rs.take i).length = i := by rw [List.length_take]; simp; omega
    rw [e]
    have g1 := n1.ge
    have z := (n1.fr []).size
    refine hK a2 c2 w2 (by simpa using T2) ((n1.fr []).trans f2 fun k hk => ?_) fun b hb => ?_
    · simp [ablk] at hk; subst hk; exact .inr g1
    · rcases g2 b hb with q | q
      · simp [ablk] at q; subst q; exact g1
      · omega
  have AP2 : ∀ {a2 c2 w2}, SR encYR w2 a2 c2 (rs.take i) → Fr [] w0 w2 → (∀ b ∈ ablk a2, w0.heap.size ≤ b) →
      RunF Try.prog (Builtin.append_ #[138, 138] 138 #[.slice a2 i c2, .slice (Adv a c (Int.toNat ((i : Int) + 1)) 4) (rs.length - Int.toNat ((i : Int) + 1)) (c - Int.toNat ((i : Int) + 1))]) w2 [.leaf .slice] fun (a4 : Option Addr) (l4 c4 : Nat) (w4 : World) => May w4 ⟨y, 3, none⟩ ∧ ∀ w5 : World, SetC w4 w5 ⟨y, 3, none⟩ (.slice a4 l4 c4) → F w5 := by
    intro a2 c2 w2 T2 f2 g2
    have Q2 := (h0.T.fr0 f2).suf (i := i + 1) (by omega)
    rw [ei1]
    refine SR.appends (P := Try.prog) (t := 138) (e := 217) (i := Try.t217) (z := .agg #[.int .i64 0, .int .i64 0, .int .i64 0, .slice none 0 0]) (by kernel_rfl) (by kernel_rfl) rfl rfl rfl T2 Q2 (by intro r u hu; simp [encYR] at hu; rcases hu with rfl | rfl | rfl | rfl <;> rfl) (by rw [List.length_take, List.length_drop]; omega) (by decide) 138 (by rw [List.length_take]; omega) (by rw [List.length_drop]) fun a3 c3 w3 T3 f3 g3 => ?_
    have z := f2.size
    have f03 : Fr [] w0 w3 := f2.trans f3 fun k hk => .inr (g2 k hk)
    have g03 : ∀ b ∈ ablk a3, w0.heap.size ≤ b := fun b hb => by
      rcases g3 b hb with q | q
      · exact g2 b q
      · omega
    have hd3 := h0.hd.fr f03 (by simp)
    refine ⟨hd3.may (by simp), fun w5 s5 => ?_⟩
    have B5 := s5.blk hd3
    have sub : ∀ r ∈ rs.take i ++ rs.drop (i + 1), r ∈ rs := fun r hr => by
      rcases List.mem_append.1 hr with q | q
      · exact List.mem_of_mem_take q
      · exact List.mem_of_mem_drop q
    refine (fun (q : _ ∧ _) => hF w5 _ _ _ q.1 q.2) (h0.row (own1 := ext own w0.heap.size 3) (w2 := w5) (rs' := rs.take i ++ rs.drop (i + 1)) (f03.mono (by simp)) T3 (fun b hb => .inr (g03 b hb)) (fun r hr => (h0.V r (sub r hr)).fr f03 (by intro b _; simp)) (by rw [List.length_append]; simpa using B5) (s5.fr (by simp)) (fun b hb => by unfold ext; rw [if_pos hb]) (Tag.fresh _ g03) (fun r hr => (h0.o4 r (sub r hr)).keep (l4 r (sub r hr)) 3) (fun r hr => h0.pos r (sub r hr)) ?_)
    · refine h0.pw.sublist (List.Sublist.map _ ?_)
      have : List.Sublist (rs.take i ++ rs.drop (i + 1)) (rs.take i ++ rs.drop i) := List.Sublist.append_left (by rw [← List.drop_drop]; exact List.drop_sublist _ _) _
      rwa [List.take_append_drop] at this
  clear hF
  refine ⟨fit64 (by omega) (by omega), ?_⟩
  repeat' first
    | with_reducible exact AP2 T2 f2 g2
    | omega
    | with_reducible refine And.intro ?_ ?_
    | with_reducible refine AP1 n1 fun a2 c2 w2 T2 f2 g2 => ?_
    | intro b1 w1 n1
    | refine ⟨_, _, _, LY (Fr.refl _ _), ?_⟩
    | refine ⟨_, _, _, LY (n1.fr []), ?_⟩
    | refine ⟨_, _, _, LY f2, ?_⟩
end
end Go.Proofs.Ytfpghcdjfiggiaa.V

/- Readings of the program's functions. No condition. -/
import Derived.Test.YtmlhdmnnijapjaaGCfg
namespace Go.Proofs.Ytmlhdmnnijapjaa.V
open Go
set_option maxRecDepth 100000
set_option linter.unusedVariables false
/-- gneiss/gneisslaw0.SameInts -/
def V_f55 (aa : Option Addr) (al ac : Nat) (ba : Option Addr) (bl bc : Nat) (w : World) (K : Bool → World → Prop) : Prop :=
 IfB (!decide (((al : Int) : Int) = (bl : Int)))
 (K false w)
 (∃ (I1 : Int → World → Prop) (m2 : Int → World → Nat),
 I1 0 w∧
 ∀ (_ : Env) (n3 : Int) (w4 : World), I1 n3 w4→
 IfB (decide ((n3 : Int) < (al : Int)))
 (∀ w5 : World, Drew w4 w5→
 PtrOK aa fun (p6 : Addr)=>
 ((0 : Int) ≤ n3 ∧ n3 < (al : Int))∧
 ∃ (n7 : Int), w5.cell? (Addr.add p6 (Int.toNat n3 * 1))=some (.int .i64 n7)∧
 PtrOK ba fun (p8 : Addr)=>
 ((0 : Int) ≤ n3 ∧ n3 < (bl : Int))∧
 ∃ (n9 : Int), w5.cell? (Addr.add p8 (Int.toNat n3 * 1))=some (.int .i64 n9)∧
 IfB (!decide ((n7 : Int) = n9))
 (K false w5)
 (Fit .i64 (n3 + 1)∧
 (I1 (n3 + 1) w5∧
 m2 (n3 + 1) w5 < m2 n3 w4)))
 (K true w4))
theorem r_f55 (aa : Option Addr) (al ac : Nat) (ba : Option Addr) (bl bc : Nat) (w : World) (K : Bool → World → Prop) (h : V_f55 aa al ac ba bl bc w K) : C55 aa al ac ba bl bc w K :=
  @calls_of_eq Try.prog 55 Try.f55 [.slice aa al ac,.slice ba bl bc] w [.leaf .bool] K _ (cfg true (fun _ => [])) (fun n => bif Nat.beq n 0 then some ⟨[5], [.int .i64]⟩ else none) (fun _ => none) (fun n => bif Nat.beq n 6 then some 9 else none) Try.func55 (by kernel_rfl) (by kernel_rfl) h

/-- gneiss/gneisslaw0.SameFields -/
def V_f56 (aa : Option Addr) (al ac : Nat) (ba : Option Addr) (bl bc : Nat) (w : World) (K : Bool → World → Prop) : Prop :=
 IfB (!decide (((al : Int) : Int) = (bl : Int)))
 (K false w)
 (∃ (I1 : Int → World → Prop) (m2 : Int → World → Nat),
 I1 0 w∧
 ∀ (_ : Env) (n3 : Int) (w4 : World), I1 n3 w4→
 IfB (decide ((n3 : Int) < (al : Int)))
 (∀ w5 : World, Drew w4 w5→
 PtrOK aa fun (p6 : Addr)=>
 ((0 : Int) ≤ n3 ∧ n3 < (al : Int))∧
 ∃ (s7 : ByteArray), ∃ (n8 : Int), CellsAt w5 (Addr.add p6 (Int.toNat n3 * 2)) [.string s7,.int .i64 n8]∧
 PtrOK ba fun (p9 : Addr)=>
 ((0 : Int) ≤ n3 ∧ n3 < (bl : Int))∧
 ∃ (s10 : ByteArray), ∃ (n11 : Int), CellsAt w5 (Addr.add p9 (Int.toNat n3 * 2)) [.string s10,.int .i64 n11]∧
 Sem.run Try.prog (eqGuard .neq 77 (.tmp 20) (.tmp 24) (.agg #[.string s7,.int .i64 n8]) (.agg #[.string s10,.int .i64 n11])) w5 = .ok () w5∧
 ∃ b12 : Bool, Sem.run Try.prog (Op.equal 77 (.agg #[.string s7,.int .i64 n8]) (.agg #[.string s10,.int .i64 n11])) w5 = .ok b12 w5∧
 IfB (!b12)
 (K false w5)
 (Fit .i64 (n3 + 1)∧
 (I1 (n3 + 1) w5∧
 m2 (n3 + 1) w5 < m2 n3 w4)))
 (K true w4))
theorem r_f56 (aa : Option Addr) (al ac : Nat) (ba : Option Addr) (bl bc : Nat) (w : World) (K : Bool → World → Prop) (h : V_f56 aa al ac ba bl bc w K) : C56 aa al ac ba bl bc w K :=
  @calls_of_eq Try.prog 56 Try.f56 [.slice aa al ac,.slice ba bl bc] w [.leaf .bool] K _ (cfg true (fun _ => [])) (fun n => bif Nat.beq n 0 then some ⟨[5], [.int .i64]⟩ else none) (fun _ => none) (fun n => bif Nat.beq n 6 then some 9 else none) Try.func56 (by kernel_rfl) (by kernel_rfl) h

/-- gneiss/gneisslaw0.SameMethod -/
def V_f57 (aa : ByteArray) (ab : Bool) (aca : Option Addr) (acl acc : Nat) (ad : Int) (ae : Int) (af : Int) (aga : Option Addr) (agl agc : Nat) (aha : Option Addr) (ahl ahc : Nat) (aia : Option Addr) (ail aic : Nat) (ba : ByteArray) (bb : Bool) (bca : Option Addr) (bcl bcc : Nat) (bd : Int) (be : Int) (bf : Int) (bga : Option Addr) (bgl bgc : Nat) (bha : Option Addr) (bhl bhc : Nat) (bia : Option Addr) (bil bic : Nat) (w : World) (K : Bool → World → Prop) : Prop :=
 ∀ (b1 : Nat) (w2 : World), NewAt w w2 b1 #[.string aa,.bool ab,.slice aca acl acc,.int .i64 ad,.int .i64 ae,.int .i64 af,.slice aga agl agc,.slice aha ahl ahc,.slice aia ail aic] 82→
 ∀ (b3 : Nat) (w4 : World), NewAt w2 w4 b3 #[.string ba,.bool bb,.slice bca bcl bcc,.int .i64 bd,.int .i64 be,.int .i64 bf,.slice bga bgl bgc,.slice bha bhl bhc,.slice bia bil bic] 82→
 ∃ M5 : World → Prop,
 (∃ (s7 : ByteArray), w4.cell? ⟨b1,0,none⟩=some (.string s7)∧
 ∃ (s8 : ByteArray), w4.cell? ⟨b3,0,none⟩=some (.string s8)∧
 IfB (!(ByteArray.toList s7 == ByteArray.toList s8))
 (K false w4)
 (∃ (b9 : Bool), w4.cell? ⟨b1,1,none⟩=some (.bool b9)∧
 ∃ (b10 : Bool), w4.cell? ⟨b3,1,none⟩=some (.bool b10)∧
 IfB (!(b9 == b10))
 (K false w4)
 (∃ (a11 : Option Addr) (l11 c11 : Nat), w4.cell? ⟨b1,2,none⟩=some (.slice a11 l11 c11)∧
 ∃ (a12 : Option Addr) (l12 c12 : Nat), w4.cell? ⟨b3,2,none⟩=some (.slice a12 l12 c12)∧
 C55 a11 l11 c11 a12 l12 c12 w4 fun b13 w14=>
 IfB (!b13)
 (K false w14)
 (∃ (n15 : Int), w14.cell? ⟨b1,3,none⟩=some (.int .i64 n15)∧
 ∃ (n16 : Int), w14.cell? ⟨b3,3,none⟩=some (.int .i64 n16)∧
 IfB (!decide ((n15 : Int) = n16))
 (K false w14)
 (∃ (n17 : Int), w14.cell? ⟨b1,4,none⟩=some (.int .i64 n17)∧
 ∃ (n18 : Int), w14.cell? ⟨b3,4,none⟩=some (.int .i64 n18)∧
 IfB (!decide ((n17 : Int) = n18))
 (K false w14)
 (∃ (n19 : Int), w14.cell? ⟨b1,5,none⟩=some (.int .i64 n19)∧
 ∃ (n20 : Int), w14.cell? ⟨b3,5,none⟩=some (.int .i64 n20)∧
 IfB (!decide ((n19 : Int) = n20))
 (K false w14)
 (∃ (a21 : Option Addr) (l21 c21 : Nat), w14.cell? ⟨b1,6,none⟩=some (.slice a21 l21 c21)∧
 ∃ (a22 : Option Addr) (l22 c22 : Nat), w14.cell? ⟨b3,6,none⟩=some (.slice a22 l22 c22)∧
 IfB (!decide (((l21 : Int) : Int) = (l22 : Int)))
 (K false w14)
 (∃ (a23 : Option Addr) (l23 c23 : Nat), w14.cell? ⟨b1,7,none⟩=some (.slice a23 l23 c23)∧
 ∃ (a24 : Option Addr) (l24 c24 : Nat), w14.cell? ⟨b3,7,none⟩=some (.slice a24 l24 c24)∧
 IfB (!decide (((l23 : Int) : Int) = (l24 : Int)))
 (K false w14)
 (∃ (a25 : Option Addr) (l25 c25 : Nat), w14.cell? ⟨b1,8,none⟩=some (.slice a25 l25 c25)∧
 ∃ (a26 : Option Addr) (l26 c26 : Nat), w14.cell? ⟨b3,8,none⟩=some (.slice a26 l26 c26)∧
 IfB (!decide (((l25 : Int) : Int) = (l26 : Int)))
 (K false w14)
 (M5 w14))))))))))∧
 ∀ (_ : Env) (w6 : World), M5 w6→
 ∃ (I27 : Int → World → Prop) (m28 : Int → World → Nat),
 I27 0 w6∧
 ∀ (_ : Env) (n29 : Int) (w30 : World), I27 n29 w30→
 ∃ (a31 : Option Addr) (l31 c31 : Nat), w30.cell? ⟨b1,6,none⟩=some (.slice a31 l31 c31)∧
 IfB (decide ((n29 : Int) < (l31 : Int)))
 (∀ w32 : World, Drew w30 w32→
 ∃ (a33 : Option Addr) (l33 c33 : Nat), w32.cell? ⟨b1,6,none⟩=some (.slice a33 l33 c33)∧
 PtrOK a33 fun (p34 : Addr)=>
 ((0 : Int) ≤ n29 ∧ n29 < (l33 : Int))∧
 ∃ (n35 : Int), ∃ (n36 : Int), ∃ (n37 : Int), CellsAt w32 (Addr.add p34 (Int.toNat n29 * 3)) [.int .i64 n35,.int .i64 n36,.int .i64 n37]∧
 ∃ (a38 : Option Addr) (l38 c38 : Nat), w32.cell? ⟨b3,6,none⟩=some (.slice a38 l38 c38)∧
 PtrOK a38 fun (p39 : Addr)=>
 ((0 : Int) ≤ n29 ∧ n29 < (l38 : Int))∧
 ∃ (n40 : Int), ∃ (n41 : Int), ∃ (n42 : Int), CellsAt w32 (Addr.add p39 (Int.toNat n29 * 3)) [.int .i64 n40,.int .i64 n41,.int .i64 n42]∧
 Sem.run Try.prog (eqGuard .neq 87 (.tmp 87) (.tmp 92) (.agg #[.int .i64 n35,.int .i64 n36,.int .i64 n37]) (.agg #[.int .i64 n40,.int .i64 n41,.int .i64 n42])) w32 = .ok () w32∧
 ∃ b43 : Bool, Sem.run Try.prog (Op.equal 87 (.agg #[.int .i64 n35,.int .i64 n36,.int .i64 n37]) (.agg #[.int .i64 n40,.int .i64 n41,.int .i64 n42])) w32 = .ok b43 w32∧
 IfB (!b43)
 (K false w32)
 (Fit .i64 (n29 + 1)∧
 (I27 (n29 + 1) w32∧
 m28 (n29 + 1) w32 < m28 n29 w30)))
 (∃ (I44 : Int → World → Prop) (m45 : Int → World → Nat),
 I44 0 w30∧
 ∀ (_ : Env) (n46 : Int) (w47 : World), I44 n46 w47→
 ∃ (a48 : Option Addr) (l48 c48 : Nat), w47.cell? ⟨b1,7,none⟩=some (.slice a48 l48 c48)∧
 IfB (decide ((n46 : Int) < (l48 : Int)))
 (∀ w49 : World, Drew w47 w49→
 ∃ (a50 : Option Addr) (l50 c50 : Nat), w49.cell? ⟨b1,7,none⟩=some (.slice a50 l50 c50)∧
 PtrOK a50 fun (p51 : Addr)=>
 ((0 : Int) ≤ n46 ∧ n46 < (l50 : Int))∧
 ∃ (n52 : Int), ∃ (n53 : Int), ∃ (n54 : Int), ∃ (n55 : Int), CellsAt w49 (Addr.add p51 (Int.toNat n46 * 4)) [.int .i64 n52,.int .i64 n53,.int .i64 n54,.int .i64 n55]∧
 ∃ (a56 : Option Addr) (l56 c56 : Nat), w49.cell? ⟨b3,7,none⟩=some (.slice a56 l56 c56)∧
 PtrOK a56 fun (p57 : Addr)=>
 ((0 : Int) ≤ n46 ∧ n46 < (l56 : Int))∧
 ∃ (n58 : Int), ∃ (n59 : Int), ∃ (n60 : Int), ∃ (n61 : Int), CellsAt w49 (Addr.add p57 (Int.toNat n46 * 4)) [.int .i64 n58,.int .i64 n59,.int .i64 n60,.int .i64 n61]∧
 Sem.run Try.prog (eqGuard .neq 91 (.tmp 105) (.tmp 110) (.agg #[.int .i64 n52,.int .i64 n53,.int .i64 n54,.int .i64 n55]) (.agg #[.int .i64 n58,.int .i64 n59,.int .i64 n60,.int .i64 n61])) w49 = .ok () w49∧
 ∃ b62 : Bool, Sem.run Try.prog (Op.equal 91 (.agg #[.int .i64 n52,.int .i64 n53,.int .i64 n54,.int .i64 n55]) (.agg #[.int .i64 n58,.int .i64 n59,.int .i64 n60,.int .i64 n61])) w49 = .ok b62 w49∧
 IfB (!b62)
 (K false w49)
 (Fit .i64 (n46 + 1)∧
 (I44 (n46 + 1) w49∧
 m45 (n46 + 1) w49 < m45 n46 w47)))
 (∃ (I63 : Int → World → Prop) (m64 : Int → World → Nat),
 I63 0 w47∧
 ∀ (_ : Env) (n65 : Int) (w66 : World), I63 n65 w66→
 ∃ (a67 : Option Addr) (l67 c67 : Nat), w66.cell? ⟨b1,8,none⟩=some (.slice a67 l67 c67)∧
 IfB (decide ((n65 : Int) < (l67 : Int)))
 (∀ w68 : World, Drew w66 w68→
 ∃ (a69 : Option Addr) (l69 c69 : Nat), w68.cell? ⟨b1,8,none⟩=some (.slice a69 l69 c69)∧
 PtrOK a69 fun (p70 : Addr)=>
 ((0 : Int) ≤ n65 ∧ n65 < (l69 : Int))∧
 ∃ (n71 : Int), w68.cell? (Addr.add (Addr.add p70 (Int.toNat n65 * 3)) 0)=some (.int .i64 n71)∧
 ∃ (a72 : Option Addr) (l72 c72 : Nat), w68.cell? ⟨b3,8,none⟩=some (.slice a72 l72 c72)∧
 PtrOK a72 fun (p73 : Addr)=>
 ((0 : Int) ≤ n65 ∧ n65 < (l72 : Int))∧
 ∃ (n74 : Int), w68.cell? (Addr.add (Addr.add p73 (Int.toNat n65 * 3)) 0)=some (.int .i64 n74)∧
 IfB (!decide ((n71 : Int) = n74))
 (K false w68)
 (∃ (a75 : Option Addr) (l75 c75 : Nat), w68.cell? ⟨b1,8,none⟩=some (.slice a75 l75 c75)∧
 PtrOK a75 fun (p76 : Addr)=>
 ((0 : Int) ≤ n65 ∧ n65 < (l75 : Int))∧
 ∃ (a77 : Option Addr) (l77 c77 : Nat), w68.cell? (Addr.add (Addr.add p76 (Int.toNat n65 * 3)) 1)=some (.slice a77 l77 c77)∧
 ∃ (a78 : Option Addr) (l78 c78 : Nat), w68.cell? ⟨b3,8,none⟩=some (.slice a78 l78 c78)∧
 PtrOK a78 fun (p79 : Addr)=>
 ((0 : Int) ≤ n65 ∧ n65 < (l78 : Int))∧
 ∃ (a80 : Option Addr) (l80 c80 : Nat), w68.cell? (Addr.add (Addr.add p79 (Int.toNat n65 * 3)) 1)=some (.slice a80 l80 c80)∧
 C55 a77 l77 c77 a80 l80 c80 w68 fun b81 w82=>
 IfB (!b81)
 (K false w82)
 (∃ (a83 : Option Addr) (l83 c83 : Nat), w82.cell? ⟨b1,8,none⟩=some (.slice a83 l83 c83)∧
 PtrOK a83 fun (p84 : Addr)=>
 ((0 : Int) ≤ n65 ∧ n65 < (l83 : Int))∧
 ∃ (a85 : Option Addr) (l85 c85 : Nat), w82.cell? (Addr.add (Addr.add p84 (Int.toNat n65 * 3)) 2)=some (.slice a85 l85 c85)∧
 ∃ (a86 : Option Addr) (l86 c86 : Nat), w82.cell? ⟨b3,8,none⟩=some (.slice a86 l86 c86)∧
 PtrOK a86 fun (p87 : Addr)=>
 ((0 : Int) ≤ n65 ∧ n65 < (l86 : Int))∧
 ∃ (a88 : Option Addr) (l88 c88 : Nat), w82.cell? (Addr.add (Addr.add p87 (Int.toNat n65 * 3)) 2)=some (.slice a88 l88 c88)∧
 C55 a85 l85 c85 a88 l88 c88 w82 fun b89 w90=>
 IfB (!b89)
 (K false w90)
 (Fit .i64 (n65 + 1)∧
 (I63 (n65 + 1) w90∧
 m64 (n65 + 1) w90 < m64 n65 w66)))))
 (K true w66)))
theorem r_f57 (aa : ByteArray) (ab : Bool) (aca : Option Addr) (acl acc : Nat) (ad : Int) (ae : Int) (af : Int) (aga : Option Addr) (agl agc : Nat) (aha : Option Addr) (ahl ahc : Nat) (aia : Option Addr) (ail aic : Nat) (ba : ByteArray) (bb : Bool) (bca : Option Addr) (bcl bcc : Nat) (bd : Int) (be : Int) (bf : Int) (bga : Option Addr) (bgl bgc : Nat) (bha : Option Addr) (bhl bhc : Nat) (bia : Option Addr) (bil bic : Nat) (w : World) (K : Bool → World → Prop) (h : V_f57 aa ab aca acl acc ad ae af aga agl agc aha ahl ahc aia ail aic ba bb bca bcl bcc bd be bf bga bgl bgc bha bhl bhc bia bil bic w K) : C57 aa ab aca acl acc ad ae af aga agl agc aha ahl ahc aia ail aic ba bb bca bcl bcc bd be bf bga bgl bgc bha bhl bhc bia bil bic w K :=
  @calls_of_eq Try.prog 57 Try.f57 [.agg #[.string aa,.bool ab,.slice aca acl acc,.int .i64 ad,.int .i64 ae,.int .i64 af,.slice aga agl agc,.slice aha ahl ahc,.slice aia ail aic], .agg #[.string ba,.bool bb,.slice bca bcl bcc,.int .i64 bd,.int .i64 be,.int .i64 bf,.slice bga bgl bgc,.slice bha bhl bhc,.slice bia bil bic]] w [.leaf .bool] K _ (cfg true (fun _ => [])) (fun n => bif Nat.beq n 0 then some ⟨[5], [.int .i64]⟩ else bif Nat.beq n 2 then some ⟨[6], [.int .i64]⟩ else bif Nat.beq n 4 then some ⟨[7], [.int .i64]⟩ else none) (fun n => bif Nat.beq n 3 then some ⟨[], []⟩ else none) (fun n => bif Nat.beq n 6 then some 11 else bif Nat.beq n 11 then some 11 else none) Try.func57 (by kernel_rfl) (by kernel_rfl) h

/-- gneiss/gneisslaw0.SpoilFields -/
def V_f58 (aa : Option Addr) (al ac : Nat) (w : World) (K : World → Prop) : Prop :=
 ∃ (I1 : Int → World → Prop) (m2 : Int → World → Nat),
 I1 0 w∧
 ∀ (_ : Env) (n3 : Int) (w4 : World), I1 n3 w4→
 IfB (decide ((n3 : Int) < (al : Int)))
 (PtrOK aa fun (p5 : Addr)=>
 ((0 : Int) ≤ n3 ∧ n3 < (al : Int))∧
 ∃ (s6 : ByteArray), w4.cell? (Addr.add (Addr.add p5 (Int.toNat n3 * 2)) 0)=some (.string s6)∧
 (ByteArray.size (ByteArray.mk #[126]) + ByteArray.size s6 ≤ 9223372036854775807)∧
 PtrOK aa fun (p7 : Addr)=>
 ((0 : Int) ≤ n3 ∧ n3 < (al : Int))∧
 May w4 (Addr.add (Addr.add p7 (Int.toNat n3 * 2)) 0) ∧ ∀ w8 : World, SetC w4 w8 (Addr.add (Addr.add p7 (Int.toNat n3 * 2)) 0) (.string ((ByteArray.mk #[126]) ++ s6))→
 Fit .i64 (n3 + 1)∧
 (I1 (n3 + 1) w8∧
 m2 (n3 + 1) w8 < m2 n3 w4))
 (K w4)
theorem r_f58 (aa : Option Addr) (al ac : Nat) (w : World) (K : World → Prop) (h : V_f58 aa al ac w K) : C58 aa al ac w K :=
  @calls_of_eq Try.prog 58 Try.f58 [.slice aa al ac] w [] K _ (cfg true (fun _ => [])) (fun n => bif Nat.beq n 0 then some ⟨[2], [.int .i64]⟩ else none) (fun _ => none) (fun _ => none) Try.func58 (by kernel_rfl) (by kernel_rfl) h

/-- gneiss/gneisslaw0.SpoilInts -/
def V_f44 (aa : Option Addr) (al ac : Nat) (w : World) (K : World → Prop) : Prop :=
 ∃ (I1 : Int → World → Prop) (m2 : Int → World → Nat),
 I1 0 w∧
 ∀ (_ : Env) (n3 : Int) (w4 : World), I1 n3 w4→
 IfB (decide ((n3 : Int) < (al : Int)))
 (PtrOK aa fun (p5 : Addr)=>
 ((0 : Int) ≤ n3 ∧ n3 < (al : Int))∧
 ∃ (n6 : Int), w4.cell? (Addr.add p5 (Int.toNat n3 * 1))=some (.int .i64 n6)∧
 PtrOK aa fun (p7 : Addr)=>
 ((0 : Int) ≤ n3 ∧ n3 < (al : Int))∧
 May w4 (Addr.add p7 (Int.toNat n3 * 1)) ∧ ∀ w8 : World, SetC w4 w8 (Addr.add p7 (Int.toNat n3 * 1)) (.int .i64 (IntKind.wrap .i64 ((-9) - n6)))→
 (I1 (IntKind.wrap .i64 (n3 + 1)) w8∧
 m2 (IntKind.wrap .i64 (n3 + 1)) w8 < m2 n3 w4))
 (K w4)
theorem r_f44 (aa : Option Addr) (al ac : Nat) (w : World) (K : World → Prop) (h : V_f44 aa al ac w K) : C44 aa al ac w K :=
  @calls_of_eq Try.prog 44 Try.f44 [.slice aa al ac] w [] K _ (cfg false (fun _ => [])) (fun n => bif Nat.beq n 0 then some ⟨[2], [.int .i64]⟩ else none) (fun _ => none) (fun _ => none) Try.func44 (by kernel_rfl) (by kernel_rfl) h

/-- gneiss/gneisslaw0.SpoilProgram -/
def V_f32 (pa : Int) (pba : Option Addr) (pbl pbc : Nat) (w : World) (K : World → Prop) : Prop :=
 ∀ (b1 : Nat) (w2 : World), NewAt w w2 b1 #[.int .i64 pa,.slice pba pbl pbc] 54→
 ∃ (I3 : Int → World → Prop) (m4 : Int → World → Nat),
 I3 0 w2∧
 ∀ (_ : Env) (n5 : Int) (w6 : World), I3 n5 w6→
 ∃ (a7 : Option Addr) (l7 c7 : Nat), w6.cell? ⟨b1,1,none⟩=some (.slice a7 l7 c7)∧
 IfB (decide ((n5 : Int) < (l7 : Int)))
 (∃ (a8 : Option Addr) (l8 c8 : Nat), w6.cell? ⟨b1,1,none⟩=some (.slice a8 l8 c8)∧
 PtrOK a8 fun (p9 : Addr)=>
 ((0 : Int) ≤ n5 ∧ n5 < (l8 : Int))∧
 ∃ (a10 : Option Addr) (l10 c10 : Nat), w6.cell? (Addr.add (Addr.add p9 (Int.toNat n5 * 8)) 4)=some (.slice a10 l10 c10)∧
 C44 a10 l10 c10 w6 fun w11=>
 ∃ (a12 : Option Addr) (l12 c12 : Nat), w11.cell? ⟨b1,1,none⟩=some (.slice a12 l12 c12)∧
 PtrOK a12 fun (p13 : Addr)=>
 ((0 : Int) ≤ n5 ∧ n5 < (l12 : Int))∧
 ∃ (a14 : Option Addr) (l14 c14 : Nat), w11.cell? (Addr.add (Addr.add p13 (Int.toNat n5 * 8)) 5)=some (.slice a14 l14 c14)∧
 C58 a14 l14 c14 w11 fun w15=>
 ∃ (I16 : Int → World → Prop) (m17 : Int → World → Nat),
 I16 0 w15∧
 ∀ (_ : Env) (n18 : Int) (w19 : World), I16 n18 w19→
 ∃ (a20 : Option Addr) (l20 c20 : Nat), w19.cell? ⟨b1,1,none⟩=some (.slice a20 l20 c20)∧
 PtrOK a20 fun (p21 : Addr)=>
 ((0 : Int) ≤ n5 ∧ n5 < (l20 : Int))∧
 ∃ (a22 : Option Addr) (l22 c22 : Nat), w19.cell? (Addr.add (Addr.add p21 (Int.toNat n5 * 8)) 7)=some (.slice a22 l22 c22)∧
 IfB (decide ((n18 : Int) < (l22 : Int)))
 (∃ (a23 : Option Addr) (l23 c23 : Nat), w19.cell? ⟨b1,1,none⟩=some (.slice a23 l23 c23)∧
 PtrOK a23 fun (p24 : Addr)=>
 ((0 : Int) ≤ n5 ∧ n5 < (l23 : Int))∧
 ∃ (a25 : Option Addr) (l25 c25 : Nat), w19.cell? (Addr.add (Addr.add p24 (Int.toNat n5 * 8)) 7)=some (.slice a25 l25 c25)∧
 PtrOK a25 fun (p26 : Addr)=>
 ((0 : Int) ≤ n18 ∧ n18 < (l25 : Int))∧
 ∃ (s27 : ByteArray), ∃ (b28 : Bool), ∃ (a29 : Option Addr) (l29 c29 : Nat), ∃ (n30 : Int), ∃ (n31 : Int), ∃ (n32 : Int), ∃ (a33 : Option Addr) (l33 c33 : Nat), ∃ (a34 : Option Addr) (l34 c34 : Nat), ∃ (a35 : Option Addr) (l35 c35 : Nat), CellsAt w19 (Addr.add p26 (Int.toNat n18 * 9)) [.string s27,.bool b28,.slice a29 l29 c29,.int .i64 n30,.int .i64 n31,.int .i64 n32,.slice a33 l33 c33,.slice a34 l34 c34,.slice a35 l35 c35]∧
 ∀ (b36 : Nat) (w37 : World), NewAt w19 w37 b36 #[.string (ByteArray.mk #[]),.bool false,.slice none 0 0,.int .i64 0,.int .i64 0,.int .i64 0,.slice none 0 0,.slice none 0 0,.slice none 0 0] 82→
 MayL w37 ⟨b36,0,none⟩ 9 ∧ ∀ w38 : World, SetL w37 w38 ⟨b36,0,none⟩ [.string s27,.bool b28,.slice a29 l29 c29,.int .i64 n30,.int .i64 n31,.int .i64 n32,.slice a33 l33 c33,.slice a34 l34 c34,.slice a35 l35 c35]→
 ∃ (a39 : Option Addr) (l39 c39 : Nat), w38.cell? ⟨b36,2,none⟩=some (.slice a39 l39 c39)∧
 C44 a39 l39 c39 w38 fun w40=>
 ∃ (I41 : Int → World → Prop) (m42 : Int → World → Nat),
 I41 0 w40∧
 ∀ (_ : Env) (n43 : Int) (w44 : World), I41 n43 w44→
 ∃ (a45 : Option Addr) (l45 c45 : Nat), w44.cell? ⟨b36,6,none⟩=some (.slice a45 l45 c45)∧
 IfB (decide ((n43 : Int) < (l45 : Int)))
 (∀ w46 : World, Drew w44 w46→
 ∃ (a47 : Option Addr) (l47 c47 : Nat), w46.cell? ⟨b36,6,none⟩=some (.slice a47 l47 c47)∧
 ∃ (a48 : Option Addr) (l48 c48 : Nat), w46.cell? ⟨b36,6,none⟩=some (.slice a48 l48 c48)∧
 PtrOK a48 fun (p49 : Addr)=>
 ((0 : Int) ≤ n43 ∧ n43 < (l48 : Int))∧
 ∃ (n50 : Int), w46.cell? (Addr.add (Addr.add p49 (Int.toNat n43 * 3)) 1)=some (.int .i64 n50)∧
 PtrOK a47 fun (p51 : Addr)=>
 ((0 : Int) ≤ n43 ∧ n43 < (l47 : Int))∧
 May w46 (Addr.add (Addr.add p51 (Int.toNat n43 * 3)) 1) ∧ ∀ w52 : World, SetC w46 w52 (Addr.add (Addr.add p51 (Int.toNat n43 * 3)) 1) (.int .i64 (bits .xor .i64 n50 90))→
 Fit .i64 (n43 + 1)∧
 (I41 (n43 + 1) w52∧
 m42 (n43 + 1) w52 < m42 n43 w44))
 (∃ (I53 : Int → World → Prop) (m54 : Int → World → Nat),
 I53 0 w44∧
 ∀ (_ : Env) (n55 : Int) (w56 : World), I53 n55 w56→
 ∃ (a57 : Option Addr) (l57 c57 : Nat), w56.cell? ⟨b36,8,none⟩=some (.slice a57 l57 c57)∧
 IfB (decide ((n55 : Int) < (l57 : Int)))
 (∃ (a58 : Option Addr) (l58 c58 : Nat), w56.cell? ⟨b36,8,none⟩=some (.slice a58 l58 c58)∧
 PtrOK a58 fun (p59 : Addr)=>
 ((0 : Int) ≤ n55 ∧ n55 < (l58 : Int))∧
 ∃ (a60 : Option Addr) (l60 c60 : Nat), w56.cell? (Addr.add (Addr.add p59 (Int.toNat n55 * 3)) 1)=some (.slice a60 l60 c60)∧
 C44 a60 l60 c60 w56 fun w61=>
 Fit .i64 (n55 + 1)∧
 (I53 (n55 + 1) w61∧
 m54 (n55 + 1) w61 < m54 n55 w56))
 (Fit .i64 (n18 + 1)∧
 (I16 (n18 + 1) w56∧
 m17 (n18 + 1) w56 < m17 n18 w19))))
 (∀ w62 : World, Drew w19 w62→
 ∃ (a63 : Option Addr) (l63 c63 : Nat), w62.cell? ⟨b1,1,none⟩=some (.slice a63 l63 c63)∧
 ∃ (a64 : Option Addr) (l64 c64 : Nat), w62.cell? ⟨b1,1,none⟩=some (.slice a64 l64 c64)∧
 PtrOK a64 fun (p65 : Addr)=>
 ((0 : Int) ≤ n5 ∧ n5 < (l64 : Int))∧
 ∃ (s66 : ByteArray), w62.cell? (Addr.add (Addr.add p65 (Int.toNat n5 * 8)) 0)=some (.string s66)∧
 (ByteArray.size (ByteArray.mk #[126]) + ByteArray.size s66 ≤ 9223372036854775807)∧
 PtrOK a63 fun (p67 : Addr)=>
 ((0 : Int) ≤ n5 ∧ n5 < (l63 : Int))∧
 May w62 (Addr.add (Addr.add p67 (Int.toNat n5 * 8)) 0) ∧ ∀ w68 : World, SetC w62 w68 (Addr.add (Addr.add p67 (Int.toNat n5 * 8)) 0) (.string ((ByteArray.mk #[126]) ++ s66))→
 Fit .i64 (n5 + 1)∧
 (I3 (n5 + 1) w68∧
 m4 (n5 + 1) w68 < m4 n5 w6)))
 (K w6)
theorem r_f32 (pa : Int) (pba : Option Addr) (pbl pbc : Nat) (w : World) (K : World → Prop) (h : V_f32 pa pba pbl pbc w K) : C32 pa pba pbl pbc w K :=
  @calls_of_eq Try.prog 32 Try.f32 [.agg #[.int .i64 pa,.slice pba pbl pbc]] w [] K _ (cfg true (fun _ => [])) (fun n => bif Nat.beq n 0 then some ⟨[2], [.int .i64]⟩ else bif Nat.beq n 2 then some ⟨[3], [.int .i64]⟩ else bif Nat.beq n 4 then some ⟨[5], [.int .i64]⟩ else bif Nat.beq n 6 then some ⟨[6], [.int .i64]⟩ else none) (fun _ => none) (fun n => bif Nat.beq n 14 then some 12 else bif Nat.beq n 19 then some 12 else none) Try.func32 (by kernel_rfl) (by kernel_rfl) h

/-- gneiss/gneisslaw0.CopyInts -/
def V_f59 (aa : Option Addr) (al ac : Nat) (w : World) (K : Option Addr → Nat → Nat → World → Prop) : Prop :=
 ∀ (b1 : Nat) (w2 : World), NewAt w w2 b1 #[] 3→
 RunF Try.prog (Builtin.append_ #[38, 38] 38 #[.slice (some ⟨b1,0,none⟩) 0 0,.slice aa al ac]) w2 [.leaf .slice] fun (a3 : Option Addr) (l3 c3 : Nat) (w4 : World)=>
 K a3 l3 c3 w4
theorem r_f59 (aa : Option Addr) (al ac : Nat) (w : World) (K : Option Addr → Nat → Nat → World → Prop) (h : V_f59 aa al ac w K) : C59 aa al ac w K :=
  @calls_of_eq Try.prog 59 Try.f59 [.slice aa al ac] w [.leaf .slice] K _ (cfg true (fun _ => [])) (fun _ => none) (fun _ => none) (fun _ => none) Try.func59 (by kernel_rfl) (by kernel_rfl) h

/-- gneiss/gneisslaw0.CopyFields -/
def V_f60 (aa : Option Addr) (al ac : Nat) (w : World) (K : Option Addr → Nat → Nat → World → Prop) : Prop :=
 ∀ (b1 : Nat) (w2 : World), NewAt w w2 b1 #[] 77→
 RunF Try.prog (Builtin.append_ #[72, 72] 72 #[.slice (some ⟨b1,0,none⟩) 0 0,.slice aa al ac]) w2 [.leaf .slice] fun (a3 : Option Addr) (l3 c3 : Nat) (w4 : World)=>
 K a3 l3 c3 w4
theorem r_f60 (aa : Option Addr) (al ac : Nat) (w : World) (K : Option Addr → Nat → Nat → World → Prop) (h : V_f60 aa al ac w K) : C60 aa al ac w K :=
  @calls_of_eq Try.prog 60 Try.f60 [.slice aa al ac] w [.leaf .slice] K _ (cfg true (fun _ => [])) (fun _ => none) (fun _ => none) (fun _ => none) Try.func60 (by kernel_rfl) (by kernel_rfl) h

/-- gneiss/gneisslaw0.CopyProgram -/
def V_f34 (pa : Int) (pba : Option Addr) (pbl pbc : Nat) (w : World) (K : Int → Option Addr → Nat → Nat → World → Prop) : Prop :=
 ∀ (b1 : Nat) (w2 : World), NewAt w w2 b1 #[.int .i64 pa,.slice pba pbl pbc] 54→
 ∀ (b3 : Nat) (w4 : World), NewAt w2 w4 b3 #[.int .i64 0,.slice none 0 0] 54→
 ∃ (n5 : Int), w4.cell? ⟨b1,0,none⟩=some (.int .i64 n5)∧
 ∀ (b6 : Nat) (w7 : World), NewAt w4 w7 b6 #[.int .i64 0,.slice none 0 0] 54→
 MayL w7 ⟨b6,0,none⟩ 2 ∧ ∀ w8 : World, SetL w7 w8 ⟨b6,0,none⟩ [.int .i64 n5,.slice none 0 0]→
 ∃ (I9 : Int → World → Prop) (m10 : Int → World → Nat),
 I9 0 w8∧
 ∀ (_ : Env) (n11 : Int) (w12 : World), I9 n11 w12→
 ∃ (a13 : Option Addr) (l13 c13 : Nat), w12.cell? ⟨b1,1,none⟩=some (.slice a13 l13 c13)∧
 IfB (decide ((n11 : Int) < (l13 : Int)))
 (∃ (a14 : Option Addr) (l14 c14 : Nat), w12.cell? ⟨b1,1,none⟩=some (.slice a14 l14 c14)∧
 PtrOK a14 fun (p15 : Addr)=>
 ((0 : Int) ≤ n11 ∧ n11 < (l14 : Int))∧
 ∃ (s16 : ByteArray), ∃ (b17 : Bool), ∃ (b18 : Bool), ∃ (n19 : Int), ∃ (a20 : Option Addr) (l20 c20 : Nat), ∃ (a21 : Option Addr) (l21 c21 : Nat), ∃ (a22 : Option Addr) (l22 c22 : Nat), ∃ (a23 : Option Addr) (l23 c23 : Nat), CellsAt w12 (Addr.add p15 (Int.toNat n11 * 8)) [.string s16,.bool b17,.bool b18,.int .i64 n19,.slice a20 l20 c20,.slice a21 l21 c21,.slice a22 l22 c22,.slice a23 l23 c23]∧
 ∀ (b24 : Nat) (w25 : World), NewAt w12 w25 b24 #[.string (ByteArray.mk #[]),.bool false,.bool false,.int .i64 0,.slice none 0 0,.slice none 0 0,.slice none 0 0,.slice none 0 0] 75→
 MayL w25 ⟨b24,0,none⟩ 8 ∧ ∀ w26 : World, SetL w25 w26 ⟨b24,0,none⟩ [.string s16,.bool b17,.bool b18,.int .i64 n19,.slice a20 l20 c20,.slice a21 l21 c21,.slice a22 l22 c22,.slice a23 l23 c23]→
 ∃ (a27 : Option Addr) (l27 c27 : Nat), w26.cell? ⟨b24,4,none⟩=some (.slice a27 l27 c27)∧
 C59 a27 l27 c27 w26 fun a28 l28 c28 w29=>
 May w29 ⟨b24,4,none⟩ ∧ ∀ w30 : World, SetC w29 w30 ⟨b24,4,none⟩ (.slice a28 l28 c28)→
 ∃ (a31 : Option Addr) (l31 c31 : Nat), w30.cell? ⟨b24,5,none⟩=some (.slice a31 l31 c31)∧
 C60 a31 l31 c31 w30 fun a32 l32 c32 w33=>
 May w33 ⟨b24,5,none⟩ ∧ ∀ w34 : World, SetC w33 w34 ⟨b24,5,none⟩ (.slice a32 l32 c32)→
 ∃ (a35 : Option Addr) (l35 c35 : Nat), w34.cell? ⟨b24,6,none⟩=some (.slice a35 l35 c35)∧
 C60 a35 l35 c35 w34 fun a36 l36 c36 w37=>
 May w37 ⟨b24,6,none⟩ ∧ ∀ w38 : World, SetC w37 w38 ⟨b24,6,none⟩ (.slice a36 l36 c36)→
 ∃ (a39 : Option Addr) (l39 c39 : Nat), w38.cell? ⟨b24,7,none⟩=some (.slice a39 l39 c39)∧
 May w38 ⟨b24,7,none⟩ ∧ ∀ w40 : World, SetC w38 w40 ⟨b24,7,none⟩ (.slice none 0 0)→
 ∃ (I41 : Int → World → Prop) (m42 : Int → World → Nat),
 I41 0 w40∧
 ∀ (_ : Env) (n43 : Int) (w44 : World), I41 n43 w44→
 IfB (decide ((n43 : Int) < (l39 : Int)))
 (PtrOK a39 fun (p45 : Addr)=>
 ((0 : Int) ≤ n43 ∧ n43 < (l39 : Int))∧
 ∃ (s46 : ByteArray), ∃ (b47 : Bool), ∃ (a48 : Option Addr) (l48 c48 : Nat), ∃ (n49 : Int), ∃ (n50 : Int), ∃ (n51 : Int), ∃ (a52 : Option Addr) (l52 c52 : Nat), ∃ (a53 : Option Addr) (l53 c53 : Nat), ∃ (a54 : Option Addr) (l54 c54 : Nat), CellsAt w44 (Addr.add p45 (Int.toNat n43 * 9)) [.string s46,.bool b47,.slice a48 l48 c48,.int .i64 n49,.int .i64 n50,.int .i64 n51,.slice a52 l52 c52,.slice a53 l53 c53,.slice a54 l54 c54]∧
 ∀ (b55 : Nat) (w56 : World), NewAt w44 w56 b55 #[.string (ByteArray.mk #[]),.bool false,.slice none 0 0,.int .i64 0,.int .i64 0,.int .i64 0,.slice none 0 0,.slice none 0 0,.slice none 0 0] 82→
 MayL w56 ⟨b55,0,none⟩ 9 ∧ ∀ w57 : World, SetL w56 w57 ⟨b55,0,none⟩ [.string s46,.bool b47,.slice a48 l48 c48,.int .i64 n49,.int .i64 n50,.int .i64 n51,.slice a52 l52 c52,.slice a53 l53 c53,.slice a54 l54 c54]→
 ∃ (a58 : Option Addr) (l58 c58 : Nat), w57.cell? ⟨b55,2,none⟩=some (.slice a58 l58 c58)∧
 C59 a58 l58 c58 w57 fun a59 l59 c59 w60=>
 May w60 ⟨b55,2,none⟩ ∧ ∀ w61 : World, SetC w60 w61 ⟨b55,2,none⟩ (.slice a59 l59 c59)→
 ∀ (b62 : Nat) (w63 : World), NewAt w61 w63 b62 #[] 87→
 ∃ (a64 : Option Addr) (l64 c64 : Nat), w63.cell? ⟨b55,6,none⟩=some (.slice a64 l64 c64)∧
 RunF Try.prog (Builtin.append_ #[78, 78] 78 #[.slice (some ⟨b62,0,none⟩) 0 0,.slice a64 l64 c64]) w63 [.leaf .slice] fun (a65 : Option Addr) (l65 c65 : Nat) (w66 : World)=>
 May w66 ⟨b55,6,none⟩ ∧ ∀ w67 : World, SetC w66 w67 ⟨b55,6,none⟩ (.slice a65 l65 c65)→
 ∀ (b68 : Nat) (w69 : World), NewAt w67 w69 b68 #[] 91→
 ∃ (a70 : Option Addr) (l70 c70 : Nat), w69.cell? ⟨b55,7,none⟩=some (.slice a70 l70 c70)∧
 RunF Try.prog (Builtin.append_ #[79, 79] 79 #[.slice (some ⟨b68,0,none⟩) 0 0,.slice a70 l70 c70]) w69 [.leaf .slice] fun (a71 : Option Addr) (l71 c71 : Nat) (w72 : World)=>
 May w72 ⟨b55,7,none⟩ ∧ ∀ w73 : World, SetC w72 w73 ⟨b55,7,none⟩ (.slice a71 l71 c71)→
 ∃ (a74 : Option Addr) (l74 c74 : Nat), w73.cell? ⟨b55,8,none⟩=some (.slice a74 l74 c74)∧
 May w73 ⟨b55,8,none⟩ ∧ ∀ w75 : World, SetC w73 w75 ⟨b55,8,none⟩ (.slice none 0 0)→
 ∃ (I76 : Int → World → Prop) (m77 : Int → World → Nat),
 I76 0 w75∧
 ∀ (_ : Env) (n78 : Int) (w79 : World), I76 n78 w79→
 IfB (decide ((n78 : Int) < (l74 : Int)))
 (∀ w80 : World, Drew w79 w80→
 PtrOK a74 fun (p81 : Addr)=>
 ((0 : Int) ≤ n78 ∧ n78 < (l74 : Int))∧
 PtrOK a74 fun (p82 : Addr)=>
 ((0 : Int) ≤ n78 ∧ n78 < (l74 : Int))∧
 ∃ (a83 : Option Addr) (l83 c83 : Nat), w80.cell? (Addr.add (Addr.add p82 (Int.toNat n78 * 3)) 1)=some (.slice a83 l83 c83)∧
 PtrOK a74 fun (p84 : Addr)=>
 ((0 : Int) ≤ n78 ∧ n78 < (l74 : Int))∧
 (∃ (a85 : Option Addr) (l85 c85 : Nat), w80.cell? ⟨b55,8,none⟩=some (.slice a85 l85 c85)∧
 (∃ (n86 : Int), w80.cell? (Addr.add (Addr.add p81 (Int.toNat n78 * 3)) 0)=some (.int .i64 n86)∧
 (C59 a83 l83 c83 w80 fun a87 l87 c87 w88=>
 ∃ (a89 : Option Addr) (l89 c89 : Nat), w88.cell? (Addr.add (Addr.add p84 (Int.toNat n78 * 3)) 2)=some (.slice a89 l89 c89)∧
 C59 a89 l89 c89 w88 fun a90 l90 c90 w91=>
 ∀ (b92 : Nat) (w93 : World), NewAt w91 w93 b92 #[.int .i64 n86,.slice a87 l87 c87,.slice a90 l90 c90] 89→
 RunF Try.prog (Builtin.append_ #[80, 80] 80 #[.slice a85 l85 c85,.slice (some ⟨b92,0,none⟩) 1 1]) w93 [.leaf .slice] fun (a94 : Option Addr) (l94 c94 : Nat) (w95 : World)=>
 May w95 ⟨b55,8,none⟩ ∧ ∀ w96 : World, SetC w95 w96 ⟨b55,8,none⟩ (.slice a94 l94 c94)→
 Fit .i64 (n78 + 1)∧
 (I76 (n78 + 1) w96∧
 m77 (n78 + 1) w96 < m77 n78 w79))∧
 (∃ (a97 : Option Addr) (l97 c97 : Nat), w80.cell? (Addr.add (Addr.add p84 (Int.toNat n78 * 3)) 2)=some (.slice a97 l97 c97)∧
 C59 a83 l83 c83 w80 fun a98 l98 c98 w99=>
 C59 a97 l97 c97 w99 fun a100 l100 c100 w101=>
 ∀ (b102 : Nat) (w103 : World), NewAt w101 w103 b102 #[.int .i64 n86,.slice a98 l98 c98,.slice a100 l100 c100] 89→
 RunF Try.prog (Builtin.append_ #[80, 80] 80 #[.slice a85 l85 c85,.slice (some ⟨b102,0,none⟩) 1 1]) w103 [.leaf .slice] fun (a104 : Option Addr) (l104 c104 : Nat) (w105 : World)=>
 May w105 ⟨b55,8,none⟩ ∧ ∀ w106 : World, SetC w105 w106 ⟨b55,8,none⟩ (.slice a104 l104 c104)→
 Fit .i64 (n78 + 1)∧
 (I76 (n78 + 1) w106∧
 m77 (n78 + 1) w106 < m77 n78 w79)))∧
 (C59 a83 l83 c83 w80 fun a107 l107 c107 w108=>
 ∃ (a109 : Option Addr) (l109 c109 : Nat), w108.cell? (Addr.add (Addr.add p84 (Int.toNat n78 * 3)) 2)=some (.slice a109 l109 c109)∧
 (∃ (n110 : Int), w108.cell? (Addr.add (Addr.add p81 (Int.toNat n78 * 3)) 0)=some (.int .i64 n110)∧
 C59 a109 l109 c109 w108 fun a111 l111 c111 w112=>
 ∀ (b113 : Nat) (w114 : World), NewAt w112 w114 b113 #[.int .i64 n110,.slice a107 l107 c107,.slice a111 l111 c111] 89→
 RunF Try.prog (Builtin.append_ #[80, 80] 80 #[.slice a85 l85 c85,.slice (some ⟨b113,0,none⟩) 1 1]) w114 [.leaf .slice] fun (a115 : Option Addr) (l115 c115 : Nat) (w116 : World)=>
 May w116 ⟨b55,8,none⟩ ∧ ∀ w117 : World, SetC w116 w117 ⟨b55,8,none⟩ (.slice a115 l115 c115)→
 Fit .i64 (n78 + 1)∧
 (I76 (n78 + 1) w117∧
 m77 (n78 + 1) w117 < m77 n78 w79))∧
 (C59 a109 l109 c109 w108 fun a118 l118 c118 w119=>
 ∃ (n120 : Int), w119.cell? (Addr.add (Addr.add p81 (Int.toNat n78 * 3)) 0)=some (.int .i64 n120)∧
 ∀ (b121 : Nat) (w122 : World), NewAt w119 w122 b121 #[.int .i64 n120,.slice a107 l107 c107,.slice a118 l118 c118] 89→
 RunF Try.prog (Builtin.append_ #[80, 80] 80 #[.slice a85 l85 c85,.slice (some ⟨b121,0,none⟩) 1 1]) w122 [.leaf .slice] fun (a123 : Option Addr) (l123 c123 : Nat) (w124 : World)=>
 May w124 ⟨b55,8,none⟩ ∧ ∀ w125 : World, SetC w124 w125 ⟨b55,8,none⟩ (.slice a123 l123 c123)→
 Fit .i64 (n78 + 1)∧
 (I76 (n78 + 1) w125∧
 m77 (n78 + 1) w125 < m77 n78 w79)))∧
 (∃ (a126 : Option Addr) (l126 c126 : Nat), w80.cell? (Addr.add (Addr.add p84 (Int.toNat n78 * 3)) 2)=some (.slice a126 l126 c126)∧
 (∃ (n127 : Int), w80.cell? (Addr.add (Addr.add p81 (Int.toNat n78 * 3)) 0)=some (.int .i64 n127)∧
 C59 a83 l83 c83 w80 fun a128 l128 c128 w129=>
 C59 a126 l126 c126 w129 fun a130 l130 c130 w131=>
 ∀ (b132 : Nat) (w133 : World), NewAt w131 w133 b132 #[.int .i64 n127,.slice a128 l128 c128,.slice a130 l130 c130] 89→
 RunF Try.prog (Builtin.append_ #[80, 80] 80 #[.slice a85 l85 c85,.slice (some ⟨b132,0,none⟩) 1 1]) w133 [.leaf .slice] fun (a134 : Option Addr) (l134 c134 : Nat) (w135 : World)=>
 May w135 ⟨b55,8,none⟩ ∧ ∀ w136 : World, SetC w135 w136 ⟨b55,8,none⟩ (.slice a134 l134 c134)→
 Fit .i64 (n78 + 1)∧
 (I76 (n78 + 1) w136∧
 m77 (n78 + 1) w136 < m77 n78 w79))∧
 (C59 a83 l83 c83 w80 fun a137 l137 c137 w138=>
 (∃ (n139 : Int), w138.cell? (Addr.add (Addr.add p81 (Int.toNat n78 * 3)) 0)=some (.int .i64 n139)∧
 C59 a126 l126 c126 w138 fun a140 l140 c140 w141=>
 ∀ (b142 : Nat) (w143 : World), NewAt w141 w143 b142 #[.int .i64 n139,.slice a137 l137 c137,.slice a140 l140 c140] 89→
 RunF Try.prog (Builtin.append_ #[80, 80] 80 #[.slice a85 l85 c85,.slice (some ⟨b142,0,none⟩) 1 1]) w143 [.leaf .slice] fun (a144 : Option Addr) (l144 c144 : Nat) (w145 : World)=>
 May w145 ⟨b55,8,none⟩ ∧ ∀ w146 : World, SetC w145 w146 ⟨b55,8,none⟩ (.slice a144 l144 c144)→
 Fit .i64 (n78 + 1)∧
 (I76 (n78 + 1) w146∧
 m77 (n78 + 1) w146 < m77 n78 w79))∧
 (C59 a126 l126 c126 w138 fun a147 l147 c147 w148=>
 ∃ (n149 : Int), w148.cell? (Addr.add (Addr.add p81 (Int.toNat n78 * 3)) 0)=some (.int .i64 n149)∧
 ∀ (b150 : Nat) (w151 : World), NewAt w148 w151 b150 #[.int .i64 n149,.slice a137 l137 c137,.slice a147 l147 c147] 89→
 RunF Try.prog (Builtin.append_ #[80, 80] 80 #[.slice a85 l85 c85,.slice (some ⟨b150,0,none⟩) 1 1]) w151 [.leaf .slice] fun (a152 : Option Addr) (l152 c152 : Nat) (w153 : World)=>
 May w153 ⟨b55,8,none⟩ ∧ ∀ w154 : World, SetC w153 w154 ⟨b55,8,none⟩ (.slice a152 l152 c152)→
 Fit .i64 (n78 + 1)∧
 (I76 (n78 + 1) w154∧
 m77 (n78 + 1) w154 < m77 n78 w79)))))∧
 (∃ (n155 : Int), w80.cell? (Addr.add (Addr.add p81 (Int.toNat n78 * 3)) 0)=some (.int .i64 n155)∧
 (∃ (a156 : Option Addr) (l156 c156 : Nat), w80.cell? ⟨b55,8,none⟩=some (.slice a156 l156 c156)∧
 (C59 a83 l83 c83 w80 fun a157 l157 c157 w158=>
 ∃ (a159 : Option Addr) (l159 c159 : Nat), w158.cell? (Addr.add (Addr.add p84 (Int.toNat n78 * 3)) 2)=some (.slice a159 l159 c159)∧
 C59 a159 l159 c159 w158 fun a160 l160 c160 w161=>
 ∀ (b162 : Nat) (w163 : World), NewAt w161 w163 b162 #[.int .i64 n155,.slice a157 l157 c157,.slice a160 l160 c160] 89→
 RunF Try.prog (Builtin.append_ #[80, 80] 80 #[.slice a156 l156 c156,.slice (some ⟨b162,0,none⟩) 1 1]) w163 [.leaf .slice] fun (a164 : Option Addr) (l164 c164 : Nat) (w165 : World)=>
 May w165 ⟨b55,8,none⟩ ∧ ∀ w166 : World, SetC w165 w166 ⟨b55,8,none⟩ (.slice a164 l164 c164)→
 Fit .i64 (n78 + 1)∧
 (I76 (n78 + 1) w166∧
 m77 (n78 + 1) w166 < m77 n78 w79))∧
 (∃ (a167 : Option Addr) (l167 c167 : Nat), w80.cell? (Addr.add (Addr.add p84 (Int.toNat n78 * 3)) 2)=some (.slice a167 l167 c167)∧
 C59 a83 l83 c83 w80 fun a168 l168 c168 w169=>
 C59 a167 l167 c167 w169 fun a170 l170 c170 w171=>
 ∀ (b172 : Nat) (w173 : World), NewAt w171 w173 b172 #[.int .i64 n155,.slice a168 l168 c168,.slice a170 l170 c170] 89→
 RunF Try.prog (Builtin.append_ #[80, 80] 80 #[.slice a156 l156 c156,.slice (some ⟨b172,0,none⟩) 1 1]) w173 [.leaf .slice] fun (a174 : Option Addr) (l174 c174 : Nat) (w175 : World)=>
 May w175 ⟨b55,8,none⟩ ∧ ∀ w176 : World, SetC w175 w176 ⟨b55,8,none⟩ (.slice a174 l174 c174)→
 Fit .i64 (n78 + 1)∧
 (I76 (n78 + 1) w176∧
 m77 (n78 + 1) w176 < m77 n78 w79)))∧
 (C59 a83 l83 c83 w80 fun a177 l177 c177 w178=>
 ∃ (a179 : Option Addr) (l179 c179 : Nat), w178.cell? (Addr.add (Addr.add p84 (Int.toNat n78 * 3)) 2)=some (.slice a179 l179 c179)∧
 (∃ (a180 : Option Addr) (l180 c180 : Nat), w178.cell? ⟨b55,8,none⟩=some (.slice a180 l180 c180)∧
 C59 a179 l179 c179 w178 fun a181 l181 c181 w182=>
 ∀ (b183 : Nat) (w184 : World), NewAt w182 w184 b183 #[.int .i64 n155,.slice a177 l177 c177,.slice a181 l181 c181] 89→
 RunF Try.prog (Builtin.append_ #[80, 80] 80 #[.slice a180 l180 c180,.slice (some ⟨b183,0,none⟩) 1 1]) w184 [.leaf .slice] fun (a185 : Option Addr) (l185 c185 : Nat) (w186 : World)=>
 May w186 ⟨b55,8,none⟩ ∧ ∀ w187 : World, SetC w186 w187 ⟨b55,8,none⟩ (.slice a185 l185 c185)→
 Fit .i64 (n78 + 1)∧
 (I76 (n78 + 1) w187∧
 m77 (n78 + 1) w187 < m77 n78 w79))∧
 (C59 a179 l179 c179 w178 fun a188 l188 c188 w189=>
 (∃ (a190 : Option Addr) (l190 c190 : Nat), w189.cell? ⟨b55,8,none⟩=some (.slice a190 l190 c190)∧
 ∀ (b191 : Nat) (w192 : World), NewAt w189 w192 b191 #[.int .i64 n155,.slice a177 l177 c177,.slice a188 l188 c188] 89→
 RunF Try.prog (Builtin.append_ #[80, 80] 80 #[.slice a190 l190 c190,.slice (some ⟨b191,0,none⟩) 1 1]) w192 [.leaf .slice] fun (a193 : Option Addr) (l193 c193 : Nat) (w194 : World)=>
 May w194 ⟨b55,8,none⟩ ∧ ∀ w195 : World, SetC w194 w195 ⟨b55,8,none⟩ (.slice a193 l193 c193)→
 Fit .i64 (n78 + 1)∧
 (I76 (n78 + 1) w195∧
 m77 (n78 + 1) w195 < m77 n78 w79))∧
 (∀ (b196 : Nat) (w197 : World), NewAt w189 w197 b196 #[.int .i64 n155,.slice a177 l177 c177,.slice a188 l188 c188] 89→
 ∃ (a198 : Option Addr) (l198 c198 : Nat), w197.cell? ⟨b55,8,none⟩=some (.slice a198 l198 c198)∧
 RunF Try.prog (Builtin.append_ #[80, 80] 80 #[.slice a198 l198 c198,.slice (some ⟨b196,0,none⟩) 1 1]) w197 [.leaf .slice] fun (a199 : Option Addr) (l199 c199 : Nat) (w200 : World)=>
 May w200 ⟨b55,8,none⟩ ∧ ∀ w201 : World, SetC w200 w201 ⟨b55,8,none⟩ (.slice a199 l199 c199)→
 Fit .i64 (n78 + 1)∧
 (I76 (n78 + 1) w201∧
 m77 (n78 + 1) w201 < m77 n78 w79))))∧
 (∃ (a202 : Option Addr) (l202 c202 : Nat), w80.cell? (Addr.add (Addr.add p84 (Int.toNat n78 * 3)) 2)=some (.slice a202 l202 c202)∧
 (∃ (a203 : Option Addr) (l203 c203 : Nat), w80.cell? ⟨b55,8,none⟩=some (.slice a203 l203 c203)∧
 C59 a83 l83 c83 w80 fun a204 l204 c204 w205=>
 C59 a202 l202 c202 w205 fun a206 l206 c206 w207=>
 ∀ (b208 : Nat) (w209 : World), NewAt w207 w209 b208 #[.int .i64 n155,.slice a204 l204 c204,.slice a206 l206 c206] 89→
 RunF Try.prog (Builtin.append_ #[80, 80] 80 #[.slice a203 l203 c203,.slice (some ⟨b208,0,none⟩) 1 1]) w209 [.leaf .slice] fun (a210 : Option Addr) (l210 c210 : Nat) (w211 : World)=>
 May w211 ⟨b55,8,none⟩ ∧ ∀ w212 : World, SetC w211 w212 ⟨b55,8,none⟩ (.slice a210 l210 c210)→
 Fit .i64 (n78 + 1)∧
 (I76 (n78 + 1) w212∧
 m77 (n78 + 1) w212 < m77 n78 w79))∧
 (C59 a83 l83 c83 w80 fun a213 l213 c213 w214=>
 (∃ (a215 : Option Addr) (l215 c215 : Nat), w214.cell? ⟨b55,8,none⟩=some (.slice a215 l215 c215)∧
 C59 a202 l202 c202 w214 fun a216 l216 c216 w217=>
 ∀ (b218 : Nat) (w219 : World), NewAt w217 w219 b218 #[.int .i64 n155,.slice a213 l213 c213,.slice a216 l216 c216] 89→
 RunF Try.prog (Builtin.append_ #[80, 80] 80 #[.slice a215 l215 c215,.slice (some ⟨b218,0,none⟩) 1 1]) w219 [.leaf .slice] fun (a220 : Option Addr) (l220 c220 : Nat) (w221 : World)=>
 May w221 ⟨b55,8,none⟩ ∧ ∀ w222 : World, SetC w221 w222 ⟨b55,8,none⟩ (.slice a220 l220 c220)→
 Fit .i64 (n78 + 1)∧
 (I76 (n78 + 1) w222∧
 m77 (n78 + 1) w222 < m77 n78 w79))∧
 (C59 a202 l202 c202 w214 fun a223 l223 c223 w224=>
 (∃ (a225 : Option Addr) (l225 c225 : Nat), w224.cell? ⟨b55,8,none⟩=some (.slice a225 l225 c225)∧
 ∀ (b226 : Nat) (w227 : World), NewAt w224 w227 b226 #[.int .i64 n155,.slice a213 l213 c213,.slice a223 l223 c223] 89→
 RunF Try.prog (Builtin.append_ #[80, 80] 80 #[.slice a225 l225 c225,.slice (some ⟨b226,0,none⟩) 1 1]) w227 [.leaf .slice] fun (a228 : Option Addr) (l228 c228 : Nat) (w229 : World)=>
 May w229 ⟨b55,8,none⟩ ∧ ∀ w230 : World, SetC w229 w230 ⟨b55,8,none⟩ (.slice a228 l228 c228)→
 Fit .i64 (n78 + 1)∧
 (I76 (n78 + 1) w230∧
 m77 (n78 + 1) w230 < m77 n78 w79))∧
 (∀ (b231 : Nat) (w232 : World), NewAt w224 w232 b231 #[.int .i64 n155,.slice a213 l213 c213,.slice a223 l223 c223] 89→
 ∃ (a233 : Option Addr) (l233 c233 : Nat), w232.cell? ⟨b55,8,none⟩=some (.slice a233 l233 c233)∧
 RunF Try.prog (Builtin.append_ #[80, 80] 80 #[.slice a233 l233 c233,.slice (some ⟨b231,0,none⟩) 1 1]) w232 [.leaf .slice] fun (a234 : Option Addr) (l234 c234 : Nat) (w235 : World)=>
 May w235 ⟨b55,8,none⟩ ∧ ∀ w236 : World, SetC w235 w236 ⟨b55,8,none⟩ (.slice a234 l234 c234)→
 Fit .i64 (n78 + 1)∧
 (I76 (n78 + 1) w236∧
 m77 (n78 + 1) w236 < m77 n78 w79))))))∧
 (C59 a83 l83 c83 w80 fun a237 l237 c237 w238=>
 ∃ (a239 : Option Addr) (l239 c239 : Nat), w238.cell? (Addr.add (Addr.add p84 (Int.toNat n78 * 3)) 2)=some (.slice a239 l239 c239)∧
 (∃ (a240 : Option Addr) (l240 c240 : Nat), w238.cell? ⟨b55,8,none⟩=some (.slice a240 l240 c240)∧
 (∃ (n241 : Int), w238.cell? (Addr.add (Addr.add p81 (Int.toNat n78 * 3)) 0)=some (.int .i64 n241)∧
 C59 a239 l239 c239 w238 fun a242 l242 c242 w243=>
 ∀ (b244 : Nat) (w245 : World), NewAt w243 w245 b244 #[.int .i64 n241,.slice a237 l237 c237,.slice a242 l242 c242] 89→
 RunF Try.prog (Builtin.append_ #[80, 80] 80 #[.slice a240 l240 c240,.slice (some ⟨b244,0,none⟩) 1 1]) w245 [.leaf .slice] fun (a246 : Option Addr) (l246 c246 : Nat) (w247 : World)=>
 May w247 ⟨b55,8,none⟩ ∧ ∀ w248 : World, SetC w247 w248 ⟨b55,8,none⟩ (.slice a246 l246 c246)→
 Fit .i64 (n78 + 1)∧
 (I76 (n78 + 1) w248∧
 m77 (n78 + 1) w248 < m77 n78 w79))∧
 (C59 a239 l239 c239 w238 fun a249 l249 c249 w250=>
 ∃ (n251 : Int), w250.cell? (Addr.add (Addr.add p81 (Int.toNat n78 * 3)) 0)=some (.int .i64 n251)∧
 ∀ (b252 : Nat) (w253 : World), NewAt w250 w253 b252 #[.int .i64 n251,.slice a237 l237 c237,.slice a249 l249 c249] 89→
 RunF Try.prog (Builtin.append_ #[80, 80] 80 #[.slice a240 l240 c240,.slice (some ⟨b252,0,none⟩) 1 1]) w253 [.leaf .slice] fun (a254 : Option Addr) (l254 c254 : Nat) (w255 : World)=>
 May w255 ⟨b55,8,none⟩ ∧ ∀ w256 : World, SetC w255 w256 ⟨b55,8,none⟩ (.slice a254 l254 c254)→
 Fit .i64 (n78 + 1)∧
 (I76 (n78 + 1) w256∧
 m77 (n78 + 1) w256 < m77 n78 w79)))∧
 (∃ (n257 : Int), w238.cell? (Addr.add (Addr.add p81 (Int.toNat n78 * 3)) 0)=some (.int .i64 n257)∧
 (∃ (a258 : Option Addr) (l258 c258 : Nat), w238.cell? ⟨b55,8,none⟩=some (.slice a258 l258 c258)∧
 C59 a239 l239 c239 w238 fun a259 l259 c259 w260=>
 ∀ (b261 : Nat) (w262 : World), NewAt w260 w262 b261 #[.int .i64 n257,.slice a237 l237 c237,.slice a259 l259 c259] 89→
 RunF Try.prog (Builtin.append_ #[80, 80] 80 #[.slice a258 l258 c258,.slice (some ⟨b261,0,none⟩) 1 1]) w262 [.leaf .slice] fun (a263 : Option Addr) (l263 c263 : Nat) (w264 : World)=>
 May w264 ⟨b55,8,none⟩ ∧ ∀ w265 : World, SetC w264 w265 ⟨b55,8,none⟩ (.slice a263 l263 c263)→
 Fit .i64 (n78 + 1)∧
 (I76 (n78 + 1) w265∧
 m77 (n78 + 1) w265 < m77 n78 w79))∧
 (C59 a239 l239 c239 w238 fun a266 l266 c266 w267=>
 (∃ (a268 : Option Addr) (l268 c268 : Nat), w267.cell? ⟨b55,8,none⟩=some (.slice a268 l268 c268)∧
 ∀ (b269 : Nat) (w270 : World), NewAt w267 w270 b269 #[.int .i64 n257,.slice a237 l237 c237,.slice a266 l266 c266] 89→
 RunF Try.prog (Builtin.append_ #[80, 80] 80 #[.slice a268 l268 c268,.slice (some ⟨b269,0,none⟩) 1 1]) w270 [.leaf .slice] fun (a271 : Option Addr) (l271 c271 : Nat) (w272 : World)=>
 May w272 ⟨b55,8,none⟩ ∧ ∀ w273 : World, SetC w272 w273 ⟨b55,8,none⟩ (.slice a271 l271 c271)→
 Fit .i64 (n78 + 1)∧
 (I76 (n78 + 1) w273∧
 m77 (n78 + 1) w273 < m77 n78 w79))∧
 (∀ (b274 : Nat) (w275 : World), NewAt w267 w275 b274 #[.int .i64 n257,.slice a237 l237 c237,.slice a266 l266 c266] 89→
 ∃ (a276 : Option Addr) (l276 c276 : Nat), w275.cell? ⟨b55,8,none⟩=some (.slice a276 l276 c276)∧
 RunF Try.prog (Builtin.append_ #[80, 80] 80 #[.slice a276 l276 c276,.slice (some ⟨b274,0,none⟩) 1 1]) w275 [.leaf .slice] fun (a277 : Option Addr) (l277 c277 : Nat) (w278 : World)=>
 May w278 ⟨b55,8,none⟩ ∧ ∀ w279 : World, SetC w278 w279 ⟨b55,8,none⟩ (.slice a277 l277 c277)→
 Fit .i64 (n78 + 1)∧
 (I76 (n78 + 1) w279∧
 m77 (n78 + 1) w279 < m77 n78 w79))))∧
 (C59 a239 l239 c239 w238 fun a280 l280 c280 w281=>
 ∃ (n282 : Int), w281.cell? (Addr.add (Addr.add p81 (Int.toNat n78 * 3)) 0)=some (.int .i64 n282)∧
 (∃ (a283 : Option Addr) (l283 c283 : Nat), w281.cell? ⟨b55,8,none⟩=some (.slice a283 l283 c283)∧
 ∀ (b284 : Nat) (w285 : World), NewAt w281 w285 b284 #[.int .i64 n282,.slice a237 l237 c237,.slice a280 l280 c280] 89→
 RunF Try.prog (Builtin.append_ #[80, 80] 80 #[.slice a283 l283 c283,.slice (some ⟨b284,0,none⟩) 1 1]) w285 [.leaf .slice] fun (a286 : Option Addr) (l286 c286 : Nat) (w287 : World)=>
 May w287 ⟨b55,8,none⟩ ∧ ∀ w288 : World, SetC w287 w288 ⟨b55,8,none⟩ (.slice a286 l286 c286)→
 Fit .i64 (n78 + 1)∧
 (I76 (n78 + 1) w288∧
 m77 (n78 + 1) w288 < m77 n78 w79))∧
 (∀ (b289 : Nat) (w290 : World), NewAt w281 w290 b289 #[.int .i64 n282,.slice a237 l237 c237,.slice a280 l280 c280] 89→
 ∃ (a291 : Option Addr) (l291 c291 : Nat), w290.cell? ⟨b55,8,none⟩=some (.slice a291 l291 c291)∧
 RunF Try.prog (Builtin.append_ #[80, 80] 80 #[.slice a291 l291 c291,.slice (some ⟨b289,0,none⟩) 1 1]) w290 [.leaf .slice] fun (a292 : Option Addr) (l292 c292 : Nat) (w293 : World)=>
 May w293 ⟨b55,8,none⟩ ∧ ∀ w294 : World, SetC w293 w294 ⟨b55,8,none⟩ (.slice a292 l292 c292)→
 Fit .i64 (n78 + 1)∧
 (I76 (n78 + 1) w294∧
 m77 (n78 + 1) w294 < m77 n78 w79))))∧
 (∃ (a295 : Option Addr) (l295 c295 : Nat), w80.cell? (Addr.add (Addr.add p84 (Int.toNat n78 * 3)) 2)=some (.slice a295 l295 c295)∧
 (∃ (a296 : Option Addr) (l296 c296 : Nat), w80.cell? ⟨b55,8,none⟩=some (.slice a296 l296 c296)∧
 (∃ (n297 : Int), w80.cell? (Addr.add (Addr.add p81 (Int.toNat n78 * 3)) 0)=some (.int .i64 n297)∧
 C59 a83 l83 c83 w80 fun a298 l298 c298 w299=>
 C59 a295 l295 c295 w299 fun a300 l300 c300 w301=>
 ∀ (b302 : Nat) (w303 : World), NewAt w301 w303 b302 #[.int .i64 n297,.slice a298 l298 c298,.slice a300 l300 c300] 89→
 RunF Try.prog (Builtin.append_ #[80, 80] 80 #[.slice a296 l296 c296,.slice (some ⟨b302,0,none⟩) 1 1]) w303 [.leaf .slice] fun (a304 : Option Addr) (l304 c304 : Nat) (w305 : World)=>
 May w305 ⟨b55,8,none⟩ ∧ ∀ w306 : World, SetC w305 w306 ⟨b55,8,none⟩ (.slice a304 l304 c304)→
 Fit .i64 (n78 + 1)∧
 (I76 (n78 + 1) w306∧
 m77 (n78 + 1) w306 < m77 n78 w79))∧
 (C59 a83 l83 c83 w80 fun a307 l307 c307 w308=>
 (∃ (n309 : Int), w308.cell? (Addr.add (Addr.add p81 (Int.toNat n78 * 3)) 0)=some (.int .i64 n309)∧
 C59 a295 l295 c295 w308 fun a310 l310 c310 w311=>
 ∀ (b312 : Nat) (w313 : World), NewAt w311 w313 b312 #[.int .i64 n309,.slice a307 l307 c307,.slice a310 l310 c310] 89→
 RunF Try.prog (Builtin.append_ #[80, 80] 80 #[.slice a296 l296 c296,.slice (some ⟨b312,0,none⟩) 1 1]) w313 [.leaf .slice] fun (a314 : Option Addr) (l314 c314 : Nat) (w315 : World)=>
 May w315 ⟨b55,8,none⟩ ∧ ∀ w316 : World, SetC w315 w316 ⟨b55,8,none⟩ (.slice a314 l314 c314)→
 Fit .i64 (n78 + 1)∧
 (I76 (n78 + 1) w316∧
 m77 (n78 + 1) w316 < m77 n78 w79))∧
 (C59 a295 l295 c295 w308 fun a317 l317 c317 w318=>
 ∃ (n319 : Int), w318.cell? (Addr.add (Addr.add p81 (Int.toNat n78 * 3)) 0)=some (.int .i64 n319)∧
 ∀ (b320 : Nat) (w321 : World), NewAt w318 w321 b320 #[.int .i64 n319,.slice a307 l307 c307,.slice a317 l317 c317] 89→
 RunF Try.prog (Builtin.append_ #[80, 80] 80 #[.slice a296 l296 c296,.slice (some ⟨b320,0,none⟩) 1 1]) w321 [.leaf .slice] fun (a322 : Option Addr) (l322 c322 : Nat) (w323 : World)=>
 May w323 ⟨b55,8,none⟩ ∧ ∀ w324 : World, SetC w323 w324 ⟨b55,8,none⟩ (.slice a322 l322 c322)→
 Fit .i64 (n78 + 1)∧
 (I76 (n78 + 1) w324∧
 m77 (n78 + 1) w324 < m77 n78 w79))))∧
 (∃ (n325 : Int), w80.cell? (Addr.add (Addr.add p81 (Int.toNat n78 * 3)) 0)=some (.int .i64 n325)∧
 (∃ (a326 : Option Addr) (l326 c326 : Nat), w80.cell? ⟨b55,8,none⟩=some (.slice a326 l326 c326)∧
 C59 a83 l83 c83 w80 fun a327 l327 c327 w328=>
 C59 a295 l295 c295 w328 fun a329 l329 c329 w330=>
 ∀ (b331 : Nat) (w332 : World), NewAt w330 w332 b331 #[.int .i64 n325,.slice a327 l327 c327,.slice a329 l329 c329] 89→
 RunF Try.prog (Builtin.append_ #[80, 80] 80 #[.slice a326 l326 c326,.slice (some ⟨b331,0,none⟩) 1 1]) w332 [.leaf .slice] fun (a333 : Option Addr) (l333 c333 : Nat) (w334 : World)=>
 May w334 ⟨b55,8,none⟩ ∧ ∀ w335 : World, SetC w334 w335 ⟨b55,8,none⟩ (.slice a333 l333 c333)→
 Fit .i64 (n78 + 1)∧
 (I76 (n78 + 1) w335∧
 m77 (n78 + 1) w335 < m77 n78 w79))∧
 (C59 a83 l83 c83 w80 fun a336 l336 c336 w337=>
 (∃ (a338 : Option Addr) (l338 c338 : Nat), w337.cell? ⟨b55,8,none⟩=some (.slice a338 l338 c338)∧
 C59 a295 l295 c295 w337 fun a339 l339 c339 w340=>
 ∀ (b341 : Nat) (w342 : World), NewAt w340 w342 b341 #[.int .i64 n325,.slice a336 l336 c336,.slice a339 l339 c339] 89→
 RunF Try.prog (Builtin.append_ #[80, 80] 80 #[.slice a338 l338 c338,.slice (some ⟨b341,0,none⟩) 1 1]) w342 [.leaf .slice] fun (a343 : Option Addr) (l343 c343 : Nat) (w344 : World)=>
 May w344 ⟨b55,8,none⟩ ∧ ∀ w345 : World, SetC w344 w345 ⟨b55,8,none⟩ (.slice a343 l343 c343)→
 Fit .i64 (n78 + 1)∧
 (I76 (n78 + 1) w345∧
 m77 (n78 + 1) w345 < m77 n78 w79))∧
 (C59 a295 l295 c295 w337 fun a346 l346 c346 w347=>
 (∃ (a348 : Option Addr) (l348 c348 : Nat), w347.cell? ⟨b55,8,none⟩=some (.slice a348 l348 c348)∧
 ∀ (b349 : Nat) (w350 : World), NewAt w347 w350 b349 #[.int .i64 n325,.slice a336 l336 c336,.slice a346 l346 c346] 89→
 RunF Try.prog (Builtin.append_ #[80, 80] 80 #[.slice a348 l348 c348,.slice (some ⟨b349,0,none⟩) 1 1]) w350 [.leaf .slice] fun (a351 : Option Addr) (l351 c351 : Nat) (w352 : World)=>
 May w352 ⟨b55,8,none⟩ ∧ ∀ w353 : World, SetC w352 w353 ⟨b55,8,none⟩ (.slice a351 l351 c351)→
 Fit .i64 (n78 + 1)∧
 (I76 (n78 + 1) w353∧
 m77 (n78 + 1) w353 < m77 n78 w79))∧
 (∀ (b354 : Nat) (w355 : World), NewAt w347 w355 b354 #[.int .i64 n325,.slice a336 l336 c336,.slice a346 l346 c346] 89→
 ∃ (a356 : Option Addr) (l356 c356 : Nat), w355.cell? ⟨b55,8,none⟩=some (.slice a356 l356 c356)∧
 RunF Try.prog (Builtin.append_ #[80, 80] 80 #[.slice a356 l356 c356,.slice (some ⟨b354,0,none⟩) 1 1]) w355 [.leaf .slice] fun (a357 : Option Addr) (l357 c357 : Nat) (w358 : World)=>
 May w358 ⟨b55,8,none⟩ ∧ ∀ w359 : World, SetC w358 w359 ⟨b55,8,none⟩ (.slice a357 l357 c357)→
 Fit .i64 (n78 + 1)∧
 (I76 (n78 + 1) w359∧
 m77 (n78 + 1) w359 < m77 n78 w79)))))∧
 (C59 a83 l83 c83 w80 fun a360 l360 c360 w361=>
 (∃ (a362 : Option Addr) (l362 c362 : Nat), w361.cell? ⟨b55,8,none⟩=some (.slice a362 l362 c362)∧
 (∃ (n363 : Int), w361.cell? (Addr.add (Addr.add p81 (Int.toNat n78 * 3)) 0)=some (.int .i64 n363)∧
 C59 a295 l295 c295 w361 fun a364 l364 c364 w365=>
 ∀ (b366 : Nat) (w367 : World), NewAt w365 w367 b366 #[.int .i64 n363,.slice a360 l360 c360,.slice a364 l364 c364] 89→
 RunF Try.prog (Builtin.append_ #[80, 80] 80 #[.slice a362 l362 c362,.slice (some ⟨b366,0,none⟩) 1 1]) w367 [.leaf .slice] fun (a368 : Option Addr) (l368 c368 : Nat) (w369 : World)=>
 May w369 ⟨b55,8,none⟩ ∧ ∀ w370 : World, SetC w369 w370 ⟨b55,8,none⟩ (.slice a368 l368 c368)→
 Fit .i64 (n78 + 1)∧
 (I76 (n78 + 1) w370∧
 m77 (n78 + 1) w370 < m77 n78 w79))∧
 (C59 a295 l295 c295 w361 fun a371 l371 c371 w372=>
 ∃ (n373 : Int), w372.cell? (Addr.add (Addr.add p81 (Int.toNat n78 * 3)) 0)=some (.int .i64 n373)∧
 ∀ (b374 : Nat) (w375 : World), NewAt w372 w375 b374 #[.int .i64 n373,.slice a360 l360 c360,.slice a371 l371 c371] 89→
 RunF Try.prog (Builtin.append_ #[80, 80] 80 #[.slice a362 l362 c362,.slice (some ⟨b374,0,none⟩) 1 1]) w375 [.leaf .slice] fun (a376 : Option Addr) (l376 c376 : Nat) (w377 : World)=>
 May w377 ⟨b55,8,none⟩ ∧ ∀ w378 : World, SetC w377 w378 ⟨b55,8,none⟩ (.slice a376 l376 c376)→
 Fit .i64 (n78 + 1)∧
 (I76 (n78 + 1) w378∧
 m77 (n78 + 1) w378 < m77 n78 w79)))∧
 (∃ (n379 : Int), w361.cell? (Addr.add (Addr.add p81 (Int.toNat n78 * 3)) 0)=some (.int .i64 n379)∧
 (∃ (a380 : Option Addr) (l380 c380 : Nat), w361.cell? ⟨b55,8,none⟩=some (.slice a380 l380 c380)∧
 C59 a295 l295 c295 w361 fun a381 l381 c381 w382=>
 ∀ (b383 : Nat) (w384 : World), NewAt w382 w384 b383 #[.int .i64 n379,.slice a360 l360 c360,.slice a381 l381 c381] 89→
 RunF Try.prog (Builtin.append_ #[80, 80] 80 #[.slice a380 l380 c380,.slice (some ⟨b383,0,none⟩) 1 1]) w384 [.leaf .slice] fun (a385 : Option Addr) (l385 c385 : Nat) (w386 : World)=>
 May w386 ⟨b55,8,none⟩ ∧ ∀ w387 : World, SetC w386 w387 ⟨b55,8,none⟩ (.slice a385 l385 c385)→
 Fit .i64 (n78 + 1)∧
 (I76 (n78 + 1) w387∧
 m77 (n78 + 1) w387 < m77 n78 w79))∧
 (C59 a295 l295 c295 w361 fun a388 l388 c388 w389=>
 (∃ (a390 : Option Addr) (l390 c390 : Nat), w389.cell? ⟨b55,8,none⟩=some (.slice a390 l390 c390)∧
 ∀ (b391 : Nat) (w392 : World), NewAt w389 w392 b391 #[.int .i64 n379,.slice a360 l360 c360,.slice a388 l388 c388] 89→
 RunF Try.prog (Builtin.append_ #[80, 80] 80 #[.slice a390 l390 c390,.slice (some ⟨b391,0,none⟩) 1 1]) w392 [.leaf .slice] fun (a393 : Option Addr) (l393 c393 : Nat) (w394 : World)=>
 May w394 ⟨b55,8,none⟩ ∧ ∀ w395 : World, SetC w394 w395 ⟨b55,8,none⟩ (.slice a393 l393 c393)→
 Fit .i64 (n78 + 1)∧
 (I76 (n78 + 1) w395∧
 m77 (n78 + 1) w395 < m77 n78 w79))∧
 (∀ (b396 : Nat) (w397 : World), NewAt w389 w397 b396 #[.int .i64 n379,.slice a360 l360 c360,.slice a388 l388 c388] 89→
 ∃ (a398 : Option Addr) (l398 c398 : Nat), w397.cell? ⟨b55,8,none⟩=some (.slice a398 l398 c398)∧
 RunF Try.prog (Builtin.append_ #[80, 80] 80 #[.slice a398 l398 c398,.slice (some ⟨b396,0,none⟩) 1 1]) w397 [.leaf .slice] fun (a399 : Option Addr) (l399 c399 : Nat) (w400 : World)=>
 May w400 ⟨b55,8,none⟩ ∧ ∀ w401 : World, SetC w400 w401 ⟨b55,8,none⟩ (.slice a399 l399 c399)→
 Fit .i64 (n78 + 1)∧
 (I76 (n78 + 1) w401∧
 m77 (n78 + 1) w401 < m77 n78 w79))))∧
 (C59 a295 l295 c295 w361 fun a402 l402 c402 w403=>
 ∃ (n404 : Int), w403.cell? (Addr.add (Addr.add p81 (Int.toNat n78 * 3)) 0)=some (.int .i64 n404)∧
 (∃ (a405 : Option Addr) (l405 c405 : Nat), w403.cell? ⟨b55,8,none⟩=some (.slice a405 l405 c405)∧
 ∀ (b406 : Nat) (w407 : World), NewAt w403 w407 b406 #[.int .i64 n404,.slice a360 l360 c360,.slice a402 l402 c402] 89→
 RunF Try.prog (Builtin.append_ #[80, 80] 80 #[.slice a405 l405 c405,.slice (some ⟨b406,0,none⟩) 1 1]) w407 [.leaf .slice] fun (a408 : Option Addr) (l408 c408 : Nat) (w409 : World)=>
 May w409 ⟨b55,8,none⟩ ∧ ∀ w410 : World, SetC w409 w410 ⟨b55,8,none⟩ (.slice a408 l408 c408)→
 Fit .i64 (n78 + 1)∧
 (I76 (n78 + 1) w410∧
 m77 (n78 + 1) w410 < m77 n78 w79))∧
 (∀ (b411 : Nat) (w412 : World), NewAt w403 w412 b411 #[.int .i64 n404,.slice a360 l360 c360,.slice a402 l402 c402] 89→
 ∃ (a413 : Option Addr) (l413 c413 : Nat), w412.cell? ⟨b55,8,none⟩=some (.slice a413 l413 c413)∧
 RunF Try.prog (Builtin.append_ #[80, 80] 80 #[.slice a413 l413 c413,.slice (some ⟨b411,0,none⟩) 1 1]) w412 [.leaf .slice] fun (a414 : Option Addr) (l414 c414 : Nat) (w415 : World)=>
 May w415 ⟨b55,8,none⟩ ∧ ∀ w416 : World, SetC w415 w416 ⟨b55,8,none⟩ (.slice a414 l414 c414)→
 Fit .i64 (n78 + 1)∧
 (I76 (n78 + 1) w416∧
 m77 (n78 + 1) w416 < m77 n78 w79))))))
 (∃ (a417 : Option Addr) (l417 c417 : Nat), w79.cell? ⟨b24,7,none⟩=some (.slice a417 l417 c417)∧
 ∃ (s418 : ByteArray), ∃ (b419 : Bool), ∃ (a420 : Option Addr) (l420 c420 : Nat), ∃ (n421 : Int), ∃ (n422 : Int), ∃ (n423 : Int), ∃ (a424 : Option Addr) (l424 c424 : Nat), ∃ (a425 : Option Addr) (l425 c425 : Nat), ∃ (a426 : Option Addr) (l426 c426 : Nat), CellsAt w79 ⟨b55,0,none⟩ [.string s418,.bool b419,.slice a420 l420 c420,.int .i64 n421,.int .i64 n422,.int .i64 n423,.slice a424 l424 c424,.slice a425 l425 c425,.slice a426 l426 c426]∧
 ∀ (b427 : Nat) (w428 : World), NewAt w79 w428 b427 #[.string s418,.bool b419,.slice a420 l420 c420,.int .i64 n421,.int .i64 n422,.int .i64 n423,.slice a424 l424 c424,.slice a425 l425 c425,.slice a426 l426 c426] 82→
 RunF Try.prog (Builtin.append_ #[73, 73] 73 #[.slice a417 l417 c417,.slice (some ⟨b427,0,none⟩) 1 1]) w428 [.leaf .slice] fun (a429 : Option Addr) (l429 c429 : Nat) (w430 : World)=>
 May w430 ⟨b24,7,none⟩ ∧ ∀ w431 : World, SetC w430 w431 ⟨b24,7,none⟩ (.slice a429 l429 c429)→
 Fit .i64 (n43 + 1)∧
 (I41 (n43 + 1) w431∧
 m42 (n43 + 1) w431 < m42 n43 w44)))
 (∃ (a432 : Option Addr) (l432 c432 : Nat), w44.cell? ⟨b6,1,none⟩=some (.slice a432 l432 c432)∧
 ∃ (s433 : ByteArray), ∃ (b434 : Bool), ∃ (b435 : Bool), ∃ (n436 : Int), ∃ (a437 : Option Addr) (l437 c437 : Nat), ∃ (a438 : Option Addr) (l438 c438 : Nat), ∃ (a439 : Option Addr) (l439 c439 : Nat), ∃ (a440 : Option Addr) (l440 c440 : Nat), CellsAt w44 ⟨b24,0,none⟩ [.string s433,.bool b434,.bool b435,.int .i64 n436,.slice a437 l437 c437,.slice a438 l438 c438,.slice a439 l439 c439,.slice a440 l440 c440]∧
 ∀ (b441 : Nat) (w442 : World), NewAt w44 w442 b441 #[.string s433,.bool b434,.bool b435,.int .i64 n436,.slice a437 l437 c437,.slice a438 l438 c438,.slice a439 l439 c439,.slice a440 l440 c440] 75→
 RunF Try.prog (Builtin.append_ #[52, 52] 52 #[.slice a432 l432 c432,.slice (some ⟨b441,0,none⟩) 1 1]) w442 [.leaf .slice] fun (a443 : Option Addr) (l443 c443 : Nat) (w444 : World)=>
 May w444 ⟨b6,1,none⟩ ∧ ∀ w445 : World, SetC w444 w445 ⟨b6,1,none⟩ (.slice a443 l443 c443)→
 Fit .i64 (n11 + 1)∧
 (I9 (n11 + 1) w445∧
 m10 (n11 + 1) w445 < m10 n11 w12)))
 (∃ (n446 : Int), ∃ (a447 : Option Addr) (l447 c447 : Nat), CellsAt w12 ⟨b6,0,none⟩ [.int .i64 n446,.slice a447 l447 c447]∧
 MayL w12 ⟨b3,0,none⟩ 2 ∧ ∀ w448 : World, SetL w12 w448 ⟨b3,0,none⟩ [.int .i64 n446,.slice a447 l447 c447]→
 ∃ (n449 : Int), ∃ (a450 : Option Addr) (l450 c450 : Nat), CellsAt w448 ⟨b3,0,none⟩ [.int .i64 n449,.slice a450 l450 c450]∧
 K n449 a450 l450 c450 w448)
theorem r_f34 (pa : Int) (pba : Option Addr) (pbl pbc : Nat) (w : World) (K : Int → Option Addr → Nat → Nat → World → Prop) (h : V_f34 pa pba pbl pbc w K) : C34 pa pba pbl pbc w K :=
  @calls_of_eq Try.prog 34 Try.f34 [.agg #[.int .i64 pa,.slice pba pbl pbc]] w [.agg [.int .i64,.slice]] K _ (cfg true (fun _ => [])) (fun n => bif Nat.beq n 0 then some ⟨[4], [.int .i64]⟩ else bif Nat.beq n 2 then some ⟨[7], [.int .i64]⟩ else bif Nat.beq n 4 then some ⟨[10], [.int .i64]⟩ else none) (fun _ => none) (fun _ => none) Try.func34 (by kernel_rfl) (by kernel_rfl) h

/-- gneiss/gneisslaw14.Tiny -/
def V_f37 (w : World) (K : Int → Option Addr → Nat → Nat → World → Prop) : Prop :=
 ∀ (b1 : Nat) (w2 : World), NewAt w w2 b1 #[.int .i64 0,.slice none 0 0] 54→
 ∀ (b3 : Nat) (w4 : World), NewAt w2 w4 b3 #[.int .i64 29,.int .i64 0,.int .i64 0] 87→
 ∀ (b5 : Nat) (w6 : World), NewAt w4 w6 b5 #[.string (ByteArray.mk #[]),.bool false,.slice none 0 0,.int .i64 0,.int .i64 0,.int .i64 0,.slice none 0 0,.slice none 0 0,.slice none 0 0] 82→
 MayL w6 ⟨b5,0,none⟩ 9 ∧ ∀ w7 : World, SetL w6 w7 ⟨b5,0,none⟩ [.string (ByteArray.mk #[109, 97, 105, 110]),.bool true,.slice none 0 0,.int .i64 0,.int .i64 0,.int .i64 0,.slice (some ⟨b3,0,none⟩) 1 1,.slice none 0 0,.slice none 0 0]→
 ∃ (s8 : ByteArray), ∃ (b9 : Bool), ∃ (a10 : Option Addr) (l10 c10 : Nat), ∃ (n11 : Int), ∃ (n12 : Int), ∃ (n13 : Int), ∃ (a14 : Option Addr) (l14 c14 : Nat), ∃ (a15 : Option Addr) (l15 c15 : Nat), ∃ (a16 : Option Addr) (l16 c16 : Nat), CellsAt w7 ⟨b5,0,none⟩ [.string s8,.bool b9,.slice a10 l10 c10,.int .i64 n11,.int .i64 n12,.int .i64 n13,.slice a14 l14 c14,.slice a15 l15 c15,.slice a16 l16 c16]∧
 ∀ (b17 : Nat) (w18 : World), NewAt w7 w18 b17 #[.string s8,.bool b9,.slice a10 l10 c10,.int .i64 n11,.int .i64 n12,.int .i64 n13,.slice a14 l14 c14,.slice a15 l15 c15,.slice a16 l16 c16] 82→
 ∀ (b19 : Nat) (w20 : World), NewAt w18 w20 b19 #[.string (ByteArray.mk #[77]),.bool false,.bool false,.int .i64 0,.slice none 0 0,.slice none 0 0,.slice none 0 0,.slice (some ⟨b17,0,none⟩) 1 1] 75→
 MayL w20 ⟨b1,0,none⟩ 2 ∧ ∀ w21 : World, SetL w20 w21 ⟨b1,0,none⟩ [.int .i64 11,.slice (some ⟨b19,0,none⟩) 1 1]→
 ∃ (n22 : Int), ∃ (a23 : Option Addr) (l23 c23 : Nat), CellsAt w21 ⟨b1,0,none⟩ [.int .i64 n22,.slice a23 l23 c23]∧
 K n22 a23 l23 c23 w21
theorem r_f37 (w : World) (K : Int → Option Addr → Nat → Nat → World → Prop) (h : V_f37 w K) : C37  w K :=
  @calls_of_eq Try.prog 37 Try.f37 [] w [.agg [.int .i64,.slice]] K _ (cfg true (fun _ => [])) (fun _ => none) (fun _ => none) (fun _ => none) Try.func37 (by kernel_rfl) (by kernel_rfl) h

end Go.Proofs.Ytmlhdmnnijapjaa.V

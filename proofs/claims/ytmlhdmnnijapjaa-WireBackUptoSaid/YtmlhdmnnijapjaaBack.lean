/- The law WireBack, for texts that are not too long: what it computes. No condition but the texts' lengths. -/
import Derived.Test.YtmlhdmnnijapjaaShort
namespace Go.Proofs.Ytmlhdmnnijapjaa.V
open Go Go.RowKit Go.Proofs.Ytmlhdmnnijapjaa.WirePlain

theorem bytes_same {s t : ByteArray} (h : s = t) : (ByteArray.toList s == ByteArray.toList t) = true := by subst h; simp

/-- A number's bytes read, at their place. -/
theorem getR_put (s : ByteArray) (p : Nat) (x : Int) (h : -2147483648 ≤ x ∧ x ≤ 2147483647) (rest : List Nat) (hp : p ≤ s.size) (hd : (nats s).drop p = enc 4 (zig x) ++ rest) : getR s (p : Int) = (x, (p : Int) + (enc 4 (zig x)).length, 0) := by
  have hz := zig_lt x h.1 h.2
  unfold getR
  rw [if_pos (by omega), Int.toNat_natCast, hd, dec_enc p rest 4 (zig x) 0 0 rfl (by omega) (by simp) (by simpa using hz) (by omega)]
  simp [unz_zig]

theorem dec_ok (p : Int) : ∀ (l : List Nat) (i u : Nat), (dec p l i u).2.2 ≠ 0 → True := fun _ _ _ _ => trivial

theorem back_c (x : Int) (t ahead behind : ByteArray) (h1 : t.size ≤ 1048576) (h2 : ahead.size ≤ 1048576) (h3 : behind.size ≤ 1048576) {W : World} {K : Bool → World → Prop} (hK : ∀ w', Fr [] W w' → K true w') : C4 x t ahead behind W K := by
  refine r_f4 _ _ _ _ _ _ (awake2_c fun w0 f0 => ifb_nyes rfl ⟨by omega, ?_⟩)
  have k1 : -2147483648 < Int.tmod x 2147483648 ∧ Int.tmod x 2147483648 < 2147483648 := by
    have h1 := Int.tmod_lt_of_pos x (b := 2147483648) (by omega)
    have h2 := Int.lt_tmod_of_pos x (b := 2147483648) (by omega)
    omega
  generalize Int.tmod x 2147483648 = k at *
  refine putnum_c k (by omega) (by omega) fun w1 f1 => ?_
  have sk := putNum_size k
  have nk := nats_putNum k (by omega)
  generalize putNum k = s at *
  have lk : s.size = (enc 4 (zig k)).length := by rw [← nk, nats_length]
  have z1 : (ahead ++ s).size = ahead.size + s.size := by simp
  have z2 : (ahead ++ s ++ behind).size = ahead.size + s.size + behind.size := by simp
  refine ⟨by omega, by omega, getnum_c _ (by omega) _ ?_⟩
  have g1 : getR (ahead ++ s ++ behind) (ahead.size : Int) = (k, (ahead.size : Int) + (enc 4 (zig k)).length, 0) := by
    refine getR_put _ _ _ (by omega) (nats behind) (by omega) ?_
    rw [nats_append, nats_append, nk, List.append_assoc, List.drop_append_of_le_length (by rw [nats_length]; exact Nat.le_refl _), List.drop_eq_nil_of_le (by rw [nats_length]; exact Nat.le_refl _), List.nil_append]
  rw [g1]
  -- the text
  refine r_f19 _ _ _ (putnum_c _ (by omega) (by omega) fun w2 f2 => ?_)
  have st := putNum_size (t.size : Int)
  have nt := nats_putNum (t.size : Int) (by omega)
  generalize putNum (t.size : Int) = q at *
  have lt : q.size = (enc 4 (zig (t.size : Int))).length := by rw [← nt, nats_length]
  have z3 : (q ++ t).size = q.size + t.size := by simp
  have z4 : (ahead ++ (q ++ t)).size = ahead.size + (q.size + t.size) := by simp
  have z5 : (ahead ++ (q ++ t) ++ behind).size = ahead.size + (q.size + t.size) + behind.size := by simp
  refine ⟨by omega, by omega, by omega, ?_⟩
  have nu : nats (ahead ++ (q ++ t) ++ behind) = nats ahead ++ (nats q ++ (nats t ++ nats behind)) := by
    rw [nats_append, nats_append, nats_append]; simp
  have g2 : getR (ahead ++ (q ++ t) ++ behind) (ahead.size : Int) = ((t.size : Int), (ahead.size : Int) + (enc 4 (zig (t.size : Int))).length, 0) := by
    refine getR_put _ _ _ (by omega) (nats t ++ nats behind) (by omega) ?_
    rw [nu, nt, List.drop_append_of_le_length (by rw [nats_length]; exact Nat.le_refl _), List.drop_eq_nil_of_le (by rw [nats_length]; exact Nat.le_refl _), List.nil_append]
  refine r_f20 _ _ _ _ _ (getnum_c _ (by omega) _ ?_)
  rw [g2]
  refine ifb_f (IfB.no (by omega) (IfB.no (by omega) ⟨fit64 (by dsimp only; omega) (by dsimp only; omega), IfB.no (by dsimp only; omega) ⟨fit64 (by dsimp only; omega) (by dsimp only; omega), by dsimp only; omega, fit64 (by dsimp only; omega) (by dsimp only; omega), ?_⟩⟩))
  have ex : ByteArray.extract (ahead ++ (q ++ t) ++ behind) (Int.toNat ((ahead.size : Int) + (enc 4 (zig (t.size : Int))).length)) (Int.toNat ((ahead.size : Int) + (enc 4 (zig (t.size : Int))).length + t.size)) = t := by
    apply nats_inj
    have e1 : Int.toNat ((ahead.size : Int) + (enc 4 (zig (t.size : Int))).length) = ahead.size + q.size := by omega
    have e2 : Int.toNat ((ahead.size : Int) + (enc 4 (zig (t.size : Int))).length + t.size) = ahead.size + q.size + t.size := by omega
    rw [e1, e2, nats_extract, nu]
    have e3 : nats ahead ++ (nats q ++ (nats t ++ nats behind)) = (nats ahead ++ nats q) ++ (nats t ++ nats behind) := by simp
    have e4 : (nats ahead ++ nats q).length = ahead.size + q.size := by rw [List.length_append, nats_length, nats_length]
    rw [e3, ← e4, List.take_length_add_append, List.drop_left, ← nats_length t, List.take_left]
  dsimp only
  rw [ex]
  refine ifb_f (IfB.nyes rfl ⟨fit64 (by omega) (by omega), IfB.nyes (by omega) (ifb_f (ifb_nyes (bytes_same rfl) ⟨fit64 (by omega) (by omega), IfB.nyes (by omega) (getnum_c _ (by omega) 0 fun w3 d3 => ?_)⟩))⟩)
  have fw : Fr [] W w3 := ((f0 []).more (f1 [])).more ((f2 []).more (d3.fr []))
  refine IfB.nd (fun hz => ?_) (fun hz => hK w3 fw)
  have eg : getR behind 0 = dec 0 (nats behind) 0 0 := by
    unfold getR
    rw [if_pos (by omega)]
    rfl
  rw [eg] at hz ⊢
  obtain ⟨z, m, hm, hq, hx, hb, _, _, he⟩ := enc_dec 0 4 (nats behind) 0 0 (dec 0 (nats behind) 0 0).1 (dec 0 (nats behind) 0 0).2.1 rfl (by simp) (nats_lt behind) (Prod.ext rfl (Prod.ext rfl hz))
  rw [nats_length] at hm
  simp only [Nat.zero_add, Nat.pow_zero, Nat.mul_one] at hx hb
  rw [hx, hq]
  have uz : -2147483648 ≤ unz z ∧ unz z ≤ 2147483647 := by unfold unz; split <;> omega
  refine ⟨by omega, putnum_c _ (by omega) (by omega) fun w4 f4 => ?_⟩
  have e1 : putNum (unz z) = ByteArray.extract behind 0 (Int.toNat (0 + (0 : Nat) + (m : Int))) := by
    apply nats_inj
    have e2 : Int.toNat (0 + (0 : Nat) + (m : Int)) = m := by omega
    rw [nats_putNum _ uz, zig_unz, he, e2, nats_extract]
    simp
  rw [bytes_same e1]
  exact hK w4 (fw.more (f4 []))
end Go.Proofs.Ytmlhdmnnijapjaa.V

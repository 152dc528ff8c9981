/- Programs as bytes: what is written is read, what is cut is refused. Plain: no Go, no memory. -/
import Derived.Test.YtmlhdmnnijapjaaClassE
namespace Go.Proofs.Ytmlhdmnnijapjaa.V
open Go Go.RowKit Go.Proofs.Ytmlhdmnnijapjaa.WirePlain

/-- Nothing was too much, no text was no name, no number out of bounds. -/
def Cln (a : Wr) : Prop := a.many = false ∧ a.nm = false ∧ a.fm = false
theorem cln_app {a b : Wr} : Cln (a.app b) ↔ Cln a ∧ Cln b := by
  obtain ⟨_, a1, a2, a3⟩ := a
  obtain ⟨_, b1, b2, b3⟩ := b
  simp only [Cln, Wr.app, Bool.or_eq_false_iff]
  constructor
  · rintro ⟨⟨h1, h2⟩, ⟨h3, h4⟩, h5, h6⟩; exact ⟨⟨h1, h3, h5⟩, h2, h4, h6⟩
  · rintro ⟨⟨h1, h3, h5⟩, h2, h4, h6⟩; exact ⟨⟨h1, h2⟩, ⟨h3, h4⟩, h5, h6⟩
theorem cln_nil : Cln .nil := ⟨rfl, rfl, rfl⟩

/-- These bytes are read as x; and where they are cut, reading says so. -/
structure Reads {α : Type} (f : ByteArray → Int → Rs α) (a : Wr) (x : α) : Prop where
  rd : ∀ (s : ByteArray) (p : Nat) (rest : List Nat), p ≤ s.size → (nats s).drop p = a.bs ++ rest → f s p = .ok (x, ((p + a.bs.length : Nat) : Int))
  ct : ∀ (s : ByteArray) (p : Nat) (rest : List Nat), p ≤ s.size → rest ≠ [] → (nats s).drop p ++ rest = a.bs → ∃ q, f s p = .error (q, 1401)

theorem drop_len {s : ByteArray} {p : Nat} {l rest : List Nat} (hp : p ≤ s.size) (h : (nats s).drop p = l ++ rest) : p + l.length ≤ s.size ∧ (nats s).drop (p + l.length) = rest := by
  have h1 := congrArg List.length h
  rw [List.length_drop, nats_length, List.length_append] at h1
  refine ⟨by omega, ?_⟩
  rw [← List.drop_drop, h, List.drop_left]

theorem split_cut {l rest a b : List Nat} (hr : rest ≠ []) (h : l ++ rest = a ++ b) : (∃ r, r ≠ [] ∧ l ++ r = a) ∨ ∃ l', l = a ++ l' ∧ l' ++ rest = b := by
  rcases List.append_eq_append_iff.1 h with ⟨r, h1, h2⟩ | ⟨r, h1, h2⟩
  · by_cases hn : r = []
    · subst hn
      exact .inr ⟨[], by simpa using h1.symm, by simpa using h2⟩
    · exact .inl ⟨r, hn, h1.symm⟩
  · exact .inr ⟨r, h1, h2.symm⟩

theorem Reads.bind {α β : Type} {f : ByteArray → Int → Rs α} {g : α → ByteArray → Int → Rs β} {a b : Wr} {x : α} {y : β} (hf : Reads f a x) (hg : Reads (g x) b y) : Reads (fun s p => bindD (f s p) fun x q => g x s q) (a.app b) y := by
  constructor
  · intro s p rest hp h
    have h' : (nats s).drop p = a.bs ++ (b.bs ++ rest) := by rw [h]; simp [Wr.app]
    obtain ⟨h1, h2⟩ := drop_len hp h'
    rw [hf.rd s p _ hp h']
    show g x s ((p + a.bs.length : Nat) : Int) = _
    rw [hg.rd s _ _ h1 h2, app_len, Nat.add_assoc]
  · intro s p rest hp hr h
    rcases split_cut hr (show (nats s).drop p ++ rest = a.bs ++ b.bs from h) with ⟨r, h1, h2⟩ | ⟨l', h1, h2⟩
    · obtain ⟨q, hq⟩ := hf.ct s p r hp h1 h2
      exact ⟨q, by rw [hq]; rfl⟩
    · obtain ⟨h3, h4⟩ := drop_len hp h1
      obtain ⟨q, hq⟩ := hg.ct s (p + a.bs.length) rest h3 hr (by rw [h4]; exact h2)
      exact ⟨q, by rw [hf.rd s p _ hp h1]; exact hq⟩

theorem Reads.last {α β : Type} {f : ByteArray → Int → Rs α} {k : α → β} {a : Wr} {x : α} (hf : Reads f a x) : Reads (fun s p => bindD (f s p) fun x q => .ok (k x, q)) a (k x) := by
  constructor
  · intro s p rest hp h
    rw [hf.rd s p rest hp h]; rfl
  · intro s p rest hp hr h
    obtain ⟨q, hq⟩ := hf.ct s p rest hp hr h
    exact ⟨q, by rw [hq]; rfl⟩

theorem enc_cut (p : Int) (f : Nat) : ∀ z i u l rest, rest ≠ [] → l ++ rest = enc f z → i + f = 4 → z < 128 ^ (f + 1) → u < 128 ^ i → u + z * 128 ^ i < 4294967296 → dec p l i u = (0, 0, 200) := by
  have one : ∀ (z : Nat) (l rest : List Nat), rest ≠ [] → l ++ rest = [z] → l = [] := by
    intro z l rest hr h
    cases l with
    | nil => rfl
    | cons b l =>
      simp at h
      exact absurd h.2.2 hr
  induction f with
  | zero =>
    intro z i u l rest hr h hi hz hu hb
    rw [one z l rest hr h]; rfl
  | succ f ih =>
    intro z i u l rest hr h hi hz hu hb
    unfold enc at h
    by_cases hz' : z < 128
    · rw [if_pos hz'] at h
      rw [one z l rest hr h]; rfl
    · rw [if_neg hz'] at h
      have hm : (z % 128 + 128) % 128 = z % 128 := by omega
      have hd : z / 128 < 128 ^ (f + 1) := by rw [Nat.pow_succ] at hz; exact Nat.div_lt_of_lt_mul (by rw [Nat.mul_comm]; exact hz)
      have e : u + z % 128 * 128 ^ i + z / 128 * 128 ^ (i + 1) = u + z * 128 ^ i := by
        have h1 : z = 128 * (z / 128) + z % 128 := (Nat.div_add_mod z 128).symm
        have h2 : z * 128 ^ i = (128 * (z / 128) + z % 128) * 128 ^ i := by rw [← h1]
        rw [h2, Nat.add_mul, Nat.pow_succ]
        have h3 : 128 * (z / 128) * 128 ^ i = z / 128 * (128 ^ i * 128) := by rw [Nat.mul_comm (128 ^ i) 128, ← Nat.mul_assoc, Nat.mul_comm (z / 128) 128]
        omega
      have hle : u + z % 128 * 128 ^ i ≤ u + z * 128 ^ i := Nat.add_le_add_left (Nat.mul_le_mul_right _ (Nat.mod_le _ _)) _
      have hu' : u + z % 128 * 128 ^ i < 128 ^ (i + 1) := by
        have : z % 128 * 128 ^ i ≤ 127 * 128 ^ i := Nat.mul_le_mul_right _ (by omega)
        rw [Nat.pow_succ]; omega
      cases l with
      | nil => rfl
      | cons b l =>
        simp only [List.cons_append, List.cons.injEq] at h
        obtain ⟨rfl, h⟩ := h
        simp only [dec, hm]
        rw [if_neg (by omega), if_neg (by omega), if_neg (by omega), if_neg (by omega)]
        exact ih (z / 128) (i + 1) _ l rest hr h (by omega) hd hu' (by rw [e]; exact hb)

theorem num_reads {x : Int} (h : Cln (numW x)) : Reads numD (numW x) x := by
  have hx : -2147483648 ≤ x ∧ x ≤ 2147483647 := by
    have := h.2.2
    simpa [numW, fitsI] using this
  have hz := zig_lt x hx.1 hx.2
  have hb : (numW x).bs = enc 4 (zig x) := nats_putNum x hx
  constructor
  · intro s p rest hp hd
    rw [hb] at hd ⊢
    have hg : (0 : Int) ≤ p ∧ (p : Int) ≤ s.size := ⟨by omega, by omega⟩
    unfold numD getR
    rw [if_pos hg, Int.toNat_natCast, hd, dec_enc p rest 4 (zig x) 0 0 rfl (by omega) (by simp) (by simpa using hz) (by omega)]
    simp [unz_zig]
  · intro s p rest hp hr hd
    rw [hb] at hd
    refine ⟨p, ?_⟩
    have hg : (0 : Int) ≤ p ∧ (p : Int) ≤ s.size := ⟨by omega, by omega⟩
    unfold numD getR
    rw [if_pos hg, Int.toNat_natCast, enc_cut p 4 (zig x) 0 0 _ rest hr hd rfl (by omega) (by simp) (by simpa using hz)]
    simp

theorem name_size {s : ByteArray} (h : nameOK s = true) : 1 ≤ s.size ∧ s.size ≤ 16 := by
  unfold nameOK at h
  have := of_decide_eq_true h
  omega
theorem cutN_name {s : ByteArray} (h : s.size ≤ 16) : cutN s = s := by
  unfold cutN
  have : (min (ByteArray.size s : Int) 16).toNat = s.size := by omega
  rw [this]
  apply nats_inj
  rw [nats_extract, List.drop_zero, ← nats_length, List.take_length]

theorem name_reads {t : ByteArray} (h : Cln (nameW t)) : Reads nameD (nameW t) t := by
  have hn : nameOK t = true := by simpa [nameW] using h.2.1
  obtain ⟨h1, h16⟩ := name_size hn
  have hb : (nameW t).bs = (numW (t.size : Int)).bs ++ nats t := by
    unfold nameW numW
    rw [cutN_name h16, nats_append]
  have hnum := num_reads (x := (t.size : Int)) ⟨rfl, rfl, by simp [numW, fitsI]; omega⟩
  have hL := nats_length t
  constructor
  · intro s p rest hp hd
    rw [hb, List.append_assoc] at hd
    obtain ⟨g1, g2⟩ := drop_len hp hd
    unfold nameD
    rw [hnum.rd s p _ hp hd]
    simp only [bindD]
    have g3 := congrArg List.length g2
    rw [List.length_drop, nats_length, List.length_append] at g3
    have ex : s.extract (Int.toNat ((p + (numW (t.size : Int)).bs.length : Nat) : Int)) (Int.toNat (((p + (numW (t.size : Int)).bs.length : Nat) : Int) + t.size)) = t := by
      apply nats_inj
      have e2 : Int.toNat (((p + (numW (t.size : Int)).bs.length : Nat) : Int) + t.size) = (p + (numW (t.size : Int)).bs.length) + (nats t).length := by omega
      rw [e2, Int.toNat_natCast, nats_extract, List.drop_take, g2, Nat.add_sub_cancel_left, List.take_left]
    rw [if_neg (by omega), if_neg (by omega), ex, if_pos hn, hb, List.length_append, hL]
    congr 2
    omega
  · intro s p rest hp hr hd
    rw [hb] at hd
    unfold nameD
    rcases split_cut hr hd with ⟨r, g1, g2⟩ | ⟨l', g1, g2⟩
    · obtain ⟨q, hq⟩ := hnum.ct s p r hp g1 g2
      exact ⟨q, by rw [hq]; rfl⟩
    · obtain ⟨g3, g4⟩ := drop_len hp g1
      rw [hnum.rd s p _ hp g1]
      simp only [bindD]
      have g5 := congrArg List.length g4
      rw [List.length_drop, nats_length] at g5
      have g6 := congrArg List.length g2
      rw [List.length_append] at g6
      have g7 : rest.length ≠ 0 := fun h => hr (List.eq_nil_of_length_eq_zero h)
      exact ⟨p, by rw [if_neg (by omega), if_pos (by omega)]⟩

theorem rep_reads {α : Type} {one : ByteArray → Int → Rs α} {W : α → Wr} : ∀ {xs : List α}, (∀ x ∈ xs, Reads one (W x) x) → Reads (fun s p => repD (one s) xs.length p) (seqW W xs) xs
  | [], _ => ⟨fun s p rest hp h => by simp [repD, seqW, Wr.nil], fun s p rest hp hr h => by simp [seqW, Wr.nil] at h; exact absurd h.2 hr⟩
  | x :: xs, h => by
    have h1 := h x (by simp)
    have h2 := rep_reads (xs := xs) fun y hy => h y (by simp [hy])
    exact Reads.bind (g := fun x s q => bindD (repD (one s) xs.length q) fun xs q' => .ok (x :: xs, q')) h1 (Reads.last (k := fun xs => x :: xs) h2)

theorem list_reads {α : Type} {one : ByteArray → Int → Rs α} {W : α → Wr} {xs : List α} {most : Nat} (hc : Cln (layW most W xs)) (h : ∀ x ∈ xs, Cln (W x) → Reads one (W x) x) : Reads (fun s p => listD s (most : Int) (one s) p) (layW most W xs) xs := by
  unfold layW at hc ⊢
  by_cases hm : most < xs.length
  · rw [if_pos hm] at hc; exact absurd hc.1 (by simp [manyW])
  rw [if_neg hm] at hc ⊢
  obtain ⟨c1, c2⟩ := cln_app.1 hc
  have hr : Reads (fun s p => repD (one s) xs.length p) (seqW W xs) xs := rep_reads fun x hx => h x hx (by
    clear hc c1 h hm
    induction xs with
    | nil => simp at hx
    | cons y ys ih =>
      obtain ⟨d1, d2⟩ := cln_app.1 (show Cln ((W y).app (seqW W ys)) from c2)
      rcases List.mem_cons.1 hx with rfl | hx
      · exact d1
      · exact ih d2 hx)
  have hr2 : Reads (fun s p => if (xs.length : Int) < 0 then .error (0, 1402) else if (most : Int) < (xs.length : Int) then .error (0, 1404) else repD (one s) (xs.length : Int).toNat p) (seqW W xs) xs := by
    simp only [if_neg (show ¬ (xs.length : Int) < 0 by omega), if_neg (show ¬ (most : Int) < (xs.length : Int) by omega), Int.toNat_natCast]
    exact hr
  constructor
  · intro s p rest hp hd
    have hd' : (nats s).drop p = (numW (xs.length : Int)).bs ++ ((seqW W xs).bs ++ rest) := by rw [hd]; simp [Wr.app]
    obtain ⟨g1, g2⟩ := drop_len hp hd'
    show listD s most (one s) p = _
    unfold listD
    rw [(num_reads c1).rd s p _ hp hd']
    simp only [bindD]
    rw [if_neg (by omega), if_neg (by omega), Int.toNat_natCast, hr.rd s _ _ g1 g2, app_len, Nat.add_assoc]
  · intro s p rest hp hrr hd
    show ∃ q, listD s most (one s) p = _
    unfold listD
    rcases split_cut hrr (show (nats s).drop p ++ rest = (numW (xs.length : Int)).bs ++ (seqW W xs).bs from hd) with ⟨r, h1, h2⟩ | ⟨l', h1, h2⟩
    · obtain ⟨q, hq⟩ := (num_reads c1).ct s p r hp h1 h2
      exact ⟨q, by rw [hq]; rfl⟩
    · obtain ⟨h3, h4⟩ := drop_len hp h1
      obtain ⟨q, hq⟩ := hr.ct s (p + (numW (xs.length : Int)).bs.length) rest h3 hrr (by rw [h4]; exact h2)
      rw [(num_reads c1).rd s p _ hp h1]
      simp only [bindD]
      exact ⟨q, by rw [if_neg (by omega), if_neg (by omega), Int.toNat_natCast]; exact hq⟩

theorem rang_reads {x : Int} {lo hi : Int} (h : Cln (numW x)) (h1 : lo ≤ x) (h2 : x ≤ hi) : Reads (fun s p => rangD s lo hi p) (numW x) x := by
  have hr := num_reads h
  constructor
  · intro s p rest hp hd
    show rangD s lo hi p = _
    unfold rangD
    rw [hr.rd s p rest hp hd]
    simp only [bindD]
    rw [if_neg (by omega)]
  · intro s p rest hp hrr hd
    show ∃ q, rangD s lo hi p = _
    obtain ⟨q, hq⟩ := hr.ct s p rest hp hrr hd
    exact ⟨q, by unfold rangD; rw [hq]; rfl⟩

theorem fld_reads (f : Fld) (h : Cln (fldW f)) : Reads fldD (fldW f) f := by
  obtain ⟨h1, h2⟩ := cln_app.1 h
  exact Reads.bind (f := nameD) (g := fun nm s q => bindD (numD s q) fun t q => .ok ((⟨nm, t⟩ : Fld), q)) (name_reads h1) (Reads.last (k := fun t => (⟨f.name, t⟩ : Fld)) (num_reads h2))

theorem cln3 {a b c : Int} (h : Cln (seqW numW [a, b, c])) : Cln (numW a) ∧ Cln (numW b) ∧ Cln (numW c) := by
  obtain ⟨h1, h⟩ := cln_app.1 (show Cln ((numW a).app (seqW numW [b, c])) from h)
  obtain ⟨h2, h⟩ := cln_app.1 (show Cln ((numW b).app (seqW numW [c])) from h)
  obtain ⟨h3, _⟩ := cln_app.1 (show Cln ((numW c).app (seqW numW [])) from h)
  exact ⟨h1, h2, h3⟩

theorem ins_reads (x : Ins) (h : Cln (insW x)) : Reads insD (insW x) x := by
  obtain ⟨h1, h2, h3⟩ := cln3 h
  have e : insW x = (numW x.op).app ((numW x.a).app (numW x.b)) := by simp [insW, seqW, Wr.app_nil]
  rw [e]
  exact Reads.bind (f := numD) (g := fun a s q => bindD (numD s q) fun b q => bindD (numD s q) fun c q => .ok ((⟨a, b, c⟩ : Ins), q)) (num_reads h1)
    (Reads.bind (f := numD) (g := fun b s q => bindD (numD s q) fun c q => .ok ((⟨x.op, b, c⟩ : Ins), q)) (num_reads h2) (Reads.last (k := fun c => (⟨x.op, x.a, c⟩ : Ins)) (num_reads h3)))

theorem hnd_reads (x : Hnd) (h : Cln (hndW x)) : Reads hndD (hndW x) x := by
  obtain ⟨h0, h⟩ := cln_app.1 (show Cln ((numW x.lo).app (seqW numW [x.hi, x.pl, x.cl])) from h)
  obtain ⟨h1, h2, h3⟩ := cln3 h
  have e : hndW x = (numW x.lo).app ((numW x.hi).app ((numW x.pl).app (numW x.cl))) := by simp [hndW, seqW, Wr.app_nil]
  rw [e]
  exact Reads.bind (f := numD) (g := fun a s q => bindD (numD s q) fun b q => bindD (numD s q) fun c q => bindD (numD s q) fun d q => .ok ((⟨a, b, c, d⟩ : Hnd), q)) (num_reads h0)
    (Reads.bind (f := numD) (g := fun b s q => bindD (numD s q) fun c q => bindD (numD s q) fun d q => .ok ((⟨x.lo, b, c, d⟩ : Hnd), q)) (num_reads h1)
    (Reads.bind (f := numD) (g := fun c s q => bindD (numD s q) fun d q => .ok ((⟨x.lo, x.hi, c, d⟩ : Hnd), q)) (num_reads h2) (Reads.last (k := fun d => (⟨x.lo, x.hi, x.pl, d⟩ : Hnd)) (num_reads h3))))

theorem ints_reads {most : Nat} (xs : List Int) (h : Cln (layW most numW xs)) : Reads (fun s p => listD s (most : Int) (numD s) p) (layW most numW xs) xs := list_reads h fun _ _ h => num_reads h

theorem mpe_reads (x : Mpe) (h : Cln (mpeW x)) : Reads mpeD (mpeW x) x := by
  obtain ⟨h0, h⟩ := cln_app.1 h
  obtain ⟨h1, h2⟩ := cln_app.1 h
  exact Reads.bind (f := numD) (g := fun a s q => bindD (listD s 24 (numD s) q) fun l q => bindD (listD s 24 (numD s) q) fun t q => .ok ((⟨a, l, t⟩ : Mpe), q)) (num_reads h0)
    (Reads.bind (f := fun s q => listD s 24 (numD s) q) (g := fun l s q => bindD (listD s 24 (numD s) q) fun t q => .ok ((⟨x.pl, l, t⟩ : Mpe), q)) (ints_reads (most := 24) x.ls h1) (Reads.last (k := fun t => (⟨x.pl, x.ls, t⟩ : Mpe)) (ints_reads (most := 24) x.st h2)))

theorem formW_app (b : Bool) (a : Wr) (h : b = false) : (formW b).app a = a := by subst h; simp [formW, Wr.app]

theorem mth_reads (x : Mth) (h : Cln (mthW x)) : Reads mthD (mthW x) x := by
  unfold mthW at h
  obtain ⟨h1, h⟩ := cln_app.1 h
  obtain ⟨h2, h⟩ := cln_app.1 h
  obtain ⟨h3, h⟩ := cln_app.1 h
  obtain ⟨h4, h⟩ := cln_app.1 h
  obtain ⟨hf, h⟩ := cln_app.1 h
  obtain ⟨h5, h⟩ := cln_app.1 h
  obtain ⟨h6, h⟩ := cln_app.1 h
  obtain ⟨h7, h⟩ := cln_app.1 h
  obtain ⟨h8, h9⟩ := cln_app.1 h
  have hr : roomB x.locs x.stk = false := hf.2.2
  unfold mthW
  rw [formW_app _ _ hr]
  simp only [roomB, Bool.or_eq_false_iff, decide_eq_false_iff_not] at hr
  obtain ⟨⟨⟨r1, r2⟩, r3⟩, r4⟩ := hr
  have hst : decide (flagI x.stat 1 = 1) = x.stat := by cases x.stat <;> rfl
  have hfl : 0 ≤ flagI x.stat 1 ∧ flagI x.stat 1 ≤ 1 := by cases x.stat <;> decide
  have key : Reads mthD _ (⟨x.name, decide (flagI x.stat 1 = 1), x.args, x.ret, x.locs, x.stk, x.code, x.tab, x.maps⟩ : Mth) :=
    Reads.bind (f := nameD) (g := fun nm s q => bindD (rangD s 0 1 q) fun st q => bindD (listD s 8 (numD s) q) fun ag q => bindD (numD s q) fun r q =>
      bindD (rangD s 0 24 q) fun l q => bindD (rangD s 0 24 q) fun k q => bindD (listD s 300 (insD s) q) fun cd q => bindD (listD s 16 (hndD s) q) fun tb q => bindD (listD s 64 (mpeD s) q) fun mp q =>
      .ok ((⟨nm, decide (st = 1), ag, r, l, k, cd, tb, mp⟩ : Mth), q)) (name_reads h1)
    (Reads.bind (f := fun s q => rangD s 0 1 q) (g := fun st s q => bindD (listD s 8 (numD s) q) fun ag q => bindD (numD s q) fun r q =>
      bindD (rangD s 0 24 q) fun l q => bindD (rangD s 0 24 q) fun k q => bindD (listD s 300 (insD s) q) fun cd q => bindD (listD s 16 (hndD s) q) fun tb q => bindD (listD s 64 (mpeD s) q) fun mp q =>
      .ok ((⟨x.name, decide (st = 1), ag, r, l, k, cd, tb, mp⟩ : Mth), q)) (rang_reads h2 hfl.1 hfl.2)
    (Reads.bind (f := fun s q => listD s 8 (numD s) q) (g := fun ag s q => bindD (numD s q) fun r q =>
      bindD (rangD s 0 24 q) fun l q => bindD (rangD s 0 24 q) fun k q => bindD (listD s 300 (insD s) q) fun cd q => bindD (listD s 16 (hndD s) q) fun tb q => bindD (listD s 64 (mpeD s) q) fun mp q =>
      .ok ((⟨x.name, decide (flagI x.stat 1 = 1), ag, r, l, k, cd, tb, mp⟩ : Mth), q)) (ints_reads (most := 8) _ h3)
    (Reads.bind (f := numD) (g := fun r s q => 
      bindD (rangD s 0 24 q) fun l q => bindD (rangD s 0 24 q) fun k q => bindD (listD s 300 (insD s) q) fun cd q => bindD (listD s 16 (hndD s) q) fun tb q => bindD (listD s 64 (mpeD s) q) fun mp q =>
      .ok ((⟨x.name, decide (flagI x.stat 1 = 1), x.args, r, l, k, cd, tb, mp⟩ : Mth), q)) (num_reads h4)
    (Reads.bind (f := fun s q => rangD s 0 24 q) (g := fun l s q => bindD (rangD s 0 24 q) fun k q => bindD (listD s 300 (insD s) q) fun cd q => bindD (listD s 16 (hndD s) q) fun tb q => bindD (listD s 64 (mpeD s) q) fun mp q =>
      .ok ((⟨x.name, decide (flagI x.stat 1 = 1), x.args, x.ret, l, k, cd, tb, mp⟩ : Mth), q)) (rang_reads h5 (by omega) (by omega))
    (Reads.bind (f := fun s q => rangD s 0 24 q) (g := fun k s q => bindD (listD s 300 (insD s) q) fun cd q => bindD (listD s 16 (hndD s) q) fun tb q => bindD (listD s 64 (mpeD s) q) fun mp q =>
      .ok ((⟨x.name, decide (flagI x.stat 1 = 1), x.args, x.ret, x.locs, k, cd, tb, mp⟩ : Mth), q)) (rang_reads h6 (by omega) (by omega))
    (Reads.bind (f := fun s q => listD s 300 (insD s) q) (g := fun cd s q => bindD (listD s 16 (hndD s) q) fun tb q => bindD (listD s 64 (mpeD s) q) fun mp q =>
      .ok ((⟨x.name, decide (flagI x.stat 1 = 1), x.args, x.ret, x.locs, x.stk, cd, tb, mp⟩ : Mth), q)) (list_reads (most := 300) (one := insD) h7 fun y _ h => ins_reads y h)
    (Reads.bind (f := fun s q => listD s 16 (hndD s) q) (g := fun tb s q => bindD (listD s 64 (mpeD s) q) fun mp q =>
      .ok ((⟨x.name, decide (flagI x.stat 1 = 1), x.args, x.ret, x.locs, x.stk, x.code, tb, mp⟩ : Mth), q)) (list_reads (most := 16) (one := hndD) h8 fun y _ h => hnd_reads y h)
    (Reads.last (f := fun s q => listD s 64 (mpeD s) q) (k := fun mp => (⟨x.name, decide (flagI x.stat 1 = 1), x.args, x.ret, x.locs, x.stk, x.code, x.tab, mp⟩ : Mth)) (list_reads (most := 64) (one := mpeD) h9 fun y _ h => mpe_reads y h)))))))))
  rw [hst] at key
  exact key

theorem cls_reads (x : Cls) (h : Cln (clsW x)) : Reads clsD (clsW x) x := by
  unfold clsW at h ⊢
  obtain ⟨h1, h⟩ := cln_app.1 h
  obtain ⟨h2, h⟩ := cln_app.1 h
  obtain ⟨h3, h⟩ := cln_app.1 h
  obtain ⟨h4, h⟩ := cln_app.1 h
  obtain ⟨h5, h⟩ := cln_app.1 h
  obtain ⟨h6, h7⟩ := cln_app.1 h
  have f1 : decide (bits .and .i64 (flagI x.face 1 + flagI x.fin 2) 1 = 1) = x.face := by cases x.face <;> cases x.fin <;> decide
  have f2 : decide (bits .and .i64 (flagI x.face 1 + flagI x.fin 2) 2 = 2) = x.fin := by cases x.face <;> cases x.fin <;> decide
  have hfl : 0 ≤ flagI x.face 1 + flagI x.fin 2 ∧ flagI x.face 1 + flagI x.fin 2 ≤ 3 := by cases x.face <;> cases x.fin <;> decide
  generalize flagI x.face 1 + flagI x.fin 2 = fl at *
  have key : Reads clsD _ (⟨x.name, decide (bits .and .i64 fl 1 = 1), decide (bits .and .i64 fl 2 = 2), x.sup, x.faces, x.flds, x.stats, x.mths⟩ : Cls) :=
    Reads.bind (f := nameD) (g := fun nm s q => bindD (rangD s 0 3 q) fun fl q => bindD (numD s q) fun su q => bindD (listD s 8 (numD s) q) fun fs q =>
      bindD (listD s 24 (fldD s) q) fun a q => bindD (listD s 24 (fldD s) q) fun b q => bindD (listD s 24 (mthD s) q) fun ms q =>
      .ok ((⟨nm, decide (bits .and .i64 fl 1 = 1), decide (bits .and .i64 fl 2 = 2), su, fs, a, b, ms⟩ : Cls), q)) (name_reads h1)
    (Reads.bind (f := fun s q => rangD s 0 3 q) (g := fun fl s q => bindD (numD s q) fun su q => bindD (listD s 8 (numD s) q) fun fs q =>
      bindD (listD s 24 (fldD s) q) fun a q => bindD (listD s 24 (fldD s) q) fun b q => bindD (listD s 24 (mthD s) q) fun ms q =>
      .ok ((⟨x.name, decide (bits .and .i64 fl 1 = 1), decide (bits .and .i64 fl 2 = 2), su, fs, a, b, ms⟩ : Cls), q)) (rang_reads h2 hfl.1 hfl.2)
    (Reads.bind (f := numD) (g := fun su s q => bindD (listD s 8 (numD s) q) fun fs q =>
      bindD (listD s 24 (fldD s) q) fun a q => bindD (listD s 24 (fldD s) q) fun b q => bindD (listD s 24 (mthD s) q) fun ms q =>
      .ok ((⟨x.name, decide (bits .and .i64 fl 1 = 1), decide (bits .and .i64 fl 2 = 2), su, fs, a, b, ms⟩ : Cls), q)) (num_reads h3)
    (Reads.bind (f := fun s q => listD s 8 (numD s) q) (g := fun fs s q => 
      bindD (listD s 24 (fldD s) q) fun a q => bindD (listD s 24 (fldD s) q) fun b q => bindD (listD s 24 (mthD s) q) fun ms q =>
      .ok ((⟨x.name, decide (bits .and .i64 fl 1 = 1), decide (bits .and .i64 fl 2 = 2), x.sup, fs, a, b, ms⟩ : Cls), q)) (ints_reads (most := 8) _ h4)
    (Reads.bind (f := fun s q => listD s 24 (fldD s) q) (g := fun a s q => bindD (listD s 24 (fldD s) q) fun b q => bindD (listD s 24 (mthD s) q) fun ms q =>
      .ok ((⟨x.name, decide (bits .and .i64 fl 1 = 1), decide (bits .and .i64 fl 2 = 2), x.sup, x.faces, a, b, ms⟩ : Cls), q)) (list_reads (most := 24) (one := fldD) h5 fun y _ h => fld_reads y h)
    (Reads.bind (f := fun s q => listD s 24 (fldD s) q) (g := fun b s q => bindD (listD s 24 (mthD s) q) fun ms q =>
      .ok ((⟨x.name, decide (bits .and .i64 fl 1 = 1), decide (bits .and .i64 fl 2 = 2), x.sup, x.faces, x.flds, b, ms⟩ : Cls), q)) (list_reads (most := 24) (one := fldD) h6 fun y _ h => fld_reads y h)
    (Reads.last (f := fun s q => listD s 24 (mthD s) q) (k := fun ms => (⟨x.name, decide (bits .and .i64 fl 1 = 1), decide (bits .and .i64 fl 2 = 2), x.sup, x.faces, x.flds, x.stats, ms⟩ : Cls)) (list_reads (most := 24) (one := mthD) h7 fun y _ h => mth_reads y h)))))))
  rw [f1, f2] at key
  exact key

theorem prg_reads (x : Prg) (h : Cln (encW x)) : Reads prgD (encW x) x := by
  obtain ⟨h1, h2⟩ := cln_app.1 h
  exact Reads.bind (f := numD) (g := fun m s q => bindD (listD s 40 (clsD s) q) fun cs q => .ok ((⟨m, cs⟩ : Prg), q)) (num_reads h1)
    (Reads.last (f := fun s q => listD s 40 (clsD s) q) (k := fun cs => (⟨x.main, cs⟩ : Prg)) (list_reads (most := 40) (one := clsD) h2 fun y _ h => cls_reads y h))

/-! ### Whole programs -/
theorem seqW_lt {α : Type} {one : α → Wr} (h : ∀ x, ∀ b ∈ (one x).bs, b < 256) : ∀ xs, ∀ b ∈ (seqW one xs).bs, b < 256
  | [], b, hb => by simp [seqW, Wr.nil] at hb
  | x :: xs, b, hb => by
    simp only [seqW, Wr.app, List.mem_append] at hb
    exact hb.elim (h x b) (seqW_lt h xs b)
theorem app_lt {a b : Wr} (ha : ∀ c ∈ a.bs, c < 256) (hb : ∀ c ∈ b.bs, c < 256) : ∀ c ∈ (a.app b).bs, c < 256 := fun c hc => by
  simp only [Wr.app, List.mem_append] at hc
  exact hc.elim (ha c) (hb c)
theorem layW_lt {α : Type} {most : Nat} {one : α → Wr} (h : ∀ x, ∀ b ∈ (one x).bs, b < 256) (xs : List α) : ∀ b ∈ (layW most one xs).bs, b < 256 := by
  unfold layW
  split
  · simp [manyW]
  · exact app_lt (nats_lt _) (seqW_lt h xs)
theorem numW_lt (x : Int) : ∀ b ∈ (numW x).bs, b < 256 := nats_lt _
theorem nameW_lt (x : ByteArray) : ∀ b ∈ (nameW x).bs, b < 256 := nats_lt _
theorem formW_lt (x : Bool) : ∀ b ∈ (formW x).bs, b < 256 := by simp [formW]
theorem mpeW_lt (x : Mpe) : ∀ b ∈ (mpeW x).bs, b < 256 := app_lt (numW_lt _) (app_lt (layW_lt numW_lt _) (layW_lt numW_lt _))
theorem mthW_lt (x : Mth) : ∀ b ∈ (mthW x).bs, b < 256 := app_lt (nameW_lt _) (app_lt (numW_lt _) (app_lt (layW_lt numW_lt _) (app_lt (numW_lt _) (app_lt (formW_lt _) (app_lt (numW_lt _) (app_lt (numW_lt _)
  (app_lt (layW_lt (fun _ => seqW_lt numW_lt _) _) (app_lt (layW_lt (fun _ => seqW_lt numW_lt _) _) (layW_lt mpeW_lt _)))))))))
theorem fldW_lt (x : Fld) : ∀ b ∈ (fldW x).bs, b < 256 := app_lt (nameW_lt _) (numW_lt _)
theorem clsW_lt (x : Cls) : ∀ b ∈ (clsW x).bs, b < 256 := app_lt (nameW_lt _) (app_lt (numW_lt _) (app_lt (numW_lt _) (app_lt (layW_lt numW_lt _) (app_lt (layW_lt fldW_lt _) (app_lt (layW_lt fldW_lt _) (layW_lt mthW_lt _))))))
theorem encW_lt (x : Prg) : ∀ b ∈ (encW x).bs, b < 256 := app_lt (numW_lt _) (layW_lt clsW_lt _)

/-- What Encode takes. -/
theorem encP_ok {x : Prg} (h : (encP x).2 = 0) : Cln (encW x) ∧ (magicN ++ (encW x).bs).length ≤ 32768 ∧ nats (encP x).1 = magicN ++ (encW x).bs := by
  unfold encP at h ⊢
  by_cases h1 : (encW x).many = true
  · rw [if_pos h1] at h; simp at h
  rw [if_neg h1] at h ⊢
  by_cases h2 : (encW x).nm = true
  · rw [if_pos h2] at h; simp at h
  rw [if_neg h2] at h ⊢
  by_cases h3 : (encW x).fm = true
  · rw [if_pos h3] at h; simp at h
  rw [if_neg h3] at h ⊢
  by_cases h4 : 32768 < (magicN ++ (encW x).bs).length
  · rw [if_pos h4] at h; simp at h
  rw [if_neg h4]
  refine ⟨⟨by simpa using h1, by simpa using h2, by simpa using h3⟩, by omega, nats_nums _ fun b hb => ?_⟩
  rcases List.mem_append.1 hb with hb | hb
  · have : ∀ c ∈ magicN, c < 256 := by decide
    exact this b hb
  · exact encW_lt x b hb

theorem encP_of {x : Prg} (h : Cln (encW x)) (hl : (magicN ++ (encW x).bs).length ≤ 32768) : (encP x).2 = 0 := by
  unfold encP
  rw [if_neg (by simp [h.1]), if_neg (by simp [h.2.1]), if_neg (by simp [h.2.2]), if_neg (by omega)]
theorem encP_no {x : Prg} (h : (encP x).2 ≠ 0) : (encP x).1 = ⟨#[]⟩ := by
  unfold encP at h ⊢
  by_cases h1 : (encW x).many = true
  · rw [if_pos h1]
  rw [if_neg h1] at h ⊢
  by_cases h2 : (encW x).nm = true
  · rw [if_pos h2]
  rw [if_neg h2] at h ⊢
  by_cases h3 : (encW x).fm = true
  · rw [if_pos h3]
  rw [if_neg h3] at h ⊢
  by_cases h4 : 32768 < (magicN ++ (encW x).bs).length
  · rw [if_pos h4]
  · rw [if_neg h4] at h; exact absurd rfl h

/-- What is written is read; what stands behind is told. -/
theorem dec_enc_tail {x : Prg} (h : (encP x).2 = 0) {s : ByteArray} (rest : List Nat) (hs : nats s = nats (encP x).1 ++ rest) (hz : s.size ≤ 32768) : decP s = if rest = [] then (x, 0, 0) else (prg0, ((encP x).1.size : Int), 1405) := by
  obtain ⟨h1, h2, h3⟩ := encP_ok h
  have hlen : (encP x).1.size = 4 + (encW x).bs.length := by rw [← nats_length, h3, List.length_append]; rfl
  have hsz : s.size = (encP x).1.size + rest.length := by rw [← nats_length, hs, List.length_append, nats_length]
  rw [h3] at hs
  have hd : (nats s).drop 4 = (encW x).bs ++ rest := by rw [hs]; rfl
  have hm : magicOK s := ⟨by omega, by rw [hs]; rfl⟩
  have hrd : prgD s 4 = .ok (x, ((4 + (encW x).bs.length : Nat) : Int)) := (prg_reads x h1).rd s 4 rest (by omega) hd
  unfold decP
  rw [if_neg (by omega), if_neg (by simpa using hm), hrd]
  dsimp only
  by_cases hr : rest = []
  · rw [if_pos hr]
    subst hr
    rw [if_neg (by simp at hsz; omega)]
  · have : rest.length ≠ 0 := fun h => hr (List.eq_nil_of_length_eq_zero h)
    rw [if_neg hr, if_pos (by omega), hlen]

theorem dec_enc0 {x : Prg} (h : (encP x).2 = 0) : decP (encP x).1 = (x, 0, 0) := by
  have := dec_enc_tail h [] (s := (encP x).1) (by simp) (by obtain ⟨_, h2, h3⟩ := encP_ok h; rw [← nats_length, h3]; exact h2)
  simpa using this

/-- Bytes cut. -/
theorem dec_enc_cut {x : Prg} (h : (encP x).2 = 0) {s : ByteArray} {rest : List Nat} (hr : rest ≠ []) (hs : nats s ++ rest = nats (encP x).1) : (s.size < 4 → decP s = (prg0, 0, 1400)) ∧ (4 ≤ s.size → ∃ q : Int, 0 ≤ q ∧ q ≤ s.size ∧ decP s = (prg0, q, 1401)) := by
  obtain ⟨h1, h2, h3⟩ := encP_ok h
  rw [h3] at hs
  have hl := congrArg List.length hs
  rw [List.length_append, nats_length] at hl
  constructor
  · intro h4
    have hm : ¬ magicOK s := fun h => by have := h.1; omega
    unfold decP
    rw [if_neg (by omega), if_pos hm]
  · intro h4
    have hd : (nats s).drop 4 ++ rest = (encW x).bs := by
      have := congrArg (List.drop 4) hs
      rw [List.drop_append_of_le_length (by rw [nats_length]; omega)] at this
      exact this
    have hm : magicOK s := by
      refine ⟨h4, ?_⟩
      have := congrArg (List.take 4) hs
      rw [List.take_append_of_le_length (by rw [nats_length]; omega)] at this
      exact this
    obtain ⟨q, hq⟩ := (prg_reads x h1).ct s 4 rest (by omega) hr hd
    have hmo := prgD_mono s 4 (by omega) (by omega)
    rw [show ((4 : Nat) : Int) = (4 : Int) from rfl] at hq
    rw [hq] at hmo
    refine ⟨q, by have := hmo.1; omega, hmo.2.1, ?_⟩
    unfold decP
    rw [if_neg (by omega), if_neg (by simpa using hm), hq]
end Go.Proofs.Ytmlhdmnnijapjaa.V

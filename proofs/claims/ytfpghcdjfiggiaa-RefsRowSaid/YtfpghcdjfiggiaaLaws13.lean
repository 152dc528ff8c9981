/- The laws of weak references: the calls they make; RefsOnce. No condition. -/
import Derived.Test.YtfpghcdjfiggiaaRefsY
import Derived.Test.YtfpghcdjfiggiaaGRefsL
namespace Go.Proofs.Ytfpghcdjfiggiaa.V
open Go Go.RowKit

theorem roots_at {ts : List RT} {roots : List (List Int)} (e : ts.map (·.rs) = roots) {i : Nat} {rs : List Int} (h : roots[i]? = some rs) : ∃ u, ts[i]? = some u ∧ u.rs = rs ∧ i < ts.length := by
  subst e
  rw [List.getElem?_map] at h
  cases hu : ts[i]? with
  | none => rw [hu] at h; cases h
  | some u => rw [hu] at h; exact ⟨u, rfl, by simpa using h, (List.getElem?_eq_some_iff.1 hu).1⟩
theorem roots_set {ts : List RT} {roots : List (List Int)} (e : ts.map (·.rs) = roots) (i : Nat) (u : RT) : (ts.set i u).map (·.rs) = roots.set i u.rs := by
  subst e; rw [List.map_set]

theorem stale_congr {A B : List Int} (h : ∀ r, r ∈ A ↔ r ∈ B) (x : XC) : stale A x = stale B x := by unfold stale; simp only [h]
theorem clear1_congr {A B : List Int} (h : ∀ r, r ∈ A ↔ r ∈ B) : clear1 A = clear1 B := by funext x; unfold clear1; rw [stale_congr h]
theorem clr_congr {A B : List Int} (h : ∀ r, r ∈ A ↔ r ∈ B) (xs : List XC) : clr A xs = clr B xs := by
  unfold clr; rw [show stale A = stale B from funext fun x => stale_congr h x]
theorem que_congr {A B : List Int} (h : ∀ r, r ∈ A ↔ r ∈ B) (fin : List Int) (xs : List XC) : que A fin xs = que B fin xs := by unfold que; simp only [h]
theorem gone_congr {A B : List Int} (h : ∀ r, r ∈ A ↔ r ∈ B) (xs : List XC) : gone A xs = gone B xs := by unfold gone; simp only [h]

/-- A heap of a law's own. -/
def Rq (W w : World) (own : Nat → Nat) (rb : Nat) (roots : List (List Int)) (words last : Int) (xs : List XC) (fin queue : List Int) : Prop :=
  ∃ hb fm G ra rc ts qa qc ss, Rx w own rb hb fm G ra rc ts qa qc words (xsum xs) last ss xs fin queue ∧ ss.length = ts.length ∧ ts.map (·.rs) = roots ∧ Bs W w own ∧ ∀ r ∈ fin, r ≤ last

theorem qrnew (words threads : Int) (hr : 1024 ≤ words ∧ words ≤ 65536 ∧ 1 ≤ threads ∧ threads ≤ 8) {w : World} {K : Option Addr → Int → World → Prop}
    (hK : ∀ w' own' rb, Rq w w' own' rb (List.replicate threads.toNat []) words 0 [] [] [] → K (some ⟨rb, 0, none⟩) 0 w') : C102 words threads w K :=
  rnew_c words threads hr (fun _ => 2000) fun w' own' rb hb fm G ra rc ts R e st => hK w' own' rb ⟨hb, fm, G, ra, rc, ts, none, 0, _, R, by have := congrArg List.length e; simp at this; simp [this], e, Bs.step ⟨Fr.refl _ _, fun _ _ => rfl⟩ st (by decide), by simp⟩

section
variable {W w w' : World} {own own' : Nat → Nat} {rb : Nat} {roots : List (List Int)} {words last : Int} {xs : List XC} {fin queue : List Int}

theorem Rq.bs (h : Rq W w own rb roots words last xs fin queue) : Fr [] W w := by
  obtain ⟨_, _, _, _, _, _, _, _, _, _, _, _, b, _⟩ := h; exact b.fr
theorem Rq.size (h : Rq W w own rb roots words last xs fin queue) : W.heap.size ≤ w.heap.size := h.bs.size

/-- The law's own slice turns. -/
theorem Rq.other (h : Rq W w own rb roots words last xs fin queue) {S : List Nat} {k : Nat} (f : Fr S w w') (t : Tag own S k) (hk : 1000 ≤ k ∧ k < 2000) : Rq W w' (ext own w.heap.size k) rb roots words last xs fin queue := by
  obtain ⟨hb, fm, G, ra, rc, ts, qa, qc, ss, R, e1, e2, b, q⟩ := h
  exact ⟨hb, fm, G, ra, rc, ts, qa, qc, ss, R.other f (fun c hc => by rw [t c hc]; omega) k, e1, e2, b.step (n := 2000) (St.of f t hk.2 k) (by decide), q⟩

theorem qrmake (h : Rq W w own rb roots words last xs fin queue) (hl : last ≤ 100000) {t kind cls n : Int} (final : Bool) {rs : List Int} (ht : 0 ≤ t) (hrs : roots[t.toNat]? = some rs) (h64 : rs.length < 64)
    (hkind : kind ≠ 4) (hf : formE kind cls n = 0) (hroom : 4 * (xsum xs + n + 16) ≤ words) {K : Int → Int → World → Prop}
    (hok : ∀ w' own', Rq W w' own' rb (roots.set t.toNat (rs ++ [last + 1])) words (last + 1) (xs ++ [⟨last + 1, kind, cls, n, List.replicate n.toNat 0⟩]) (if final = true then fin ++ [last + 1] else fin) queue → St w w' own own' → K (last + 1) 0 w') :
    C103 (some ⟨rb, 0, none⟩) t kind cls n final w K := by
  obtain ⟨hb, fm, G, ra, rc, ts, qa, qc, ss, R, e1, e2, b, q⟩ := h
  obtain ⟨u, hu, eu, hlt⟩ := roots_at e2 hrs
  refine rmake_c R rfl hl e1 q final ⟨ht, by omega⟩ (fun v hv => by rw [hu] at hv; cases hv; rw [eu]; exact h64) hkind hf hroom fun v hv w' own' G' ss' u' e' R' es st => hok w' own' ?_ st
  rw [hu] at hv; cases hv
  have es3 : xsum (xs ++ [⟨last + 1, kind, cls, n, List.replicate n.toNat 0⟩]) = xsum xs + (n + 16) := by rw [xsum_append]; simp [xsum]
  refine ⟨hb, fm, G', ra, rc, _, qa, qc, ss', by rw [es3]; exact R', by simpa using es.trans e1, by rw [roots_set e2, e', eu], b.step st (by decide), ?_⟩
  intro r hr
  split at hr
  · rcases List.mem_append.1 hr with p | p
    · have := q r p; omega
    · simp at p; omega
  · have := q r hr; omega

theorem qrweak (h : Rq W w own rb roots words last xs fin queue) (hl : last ≤ 100000) {t ref : Int} {rs : List Int} (ht : 0 ≤ t) (hrs : roots[t.toNat]? = some rs) (h64 : rs.length < 64)
    (hx : ∃ x ∈ xs, x.ref = ref) (hroom : 4 * (xsum xs + 17) ≤ words) {K : Int → Int → World → Prop}
    (hok : ∀ w' own', Rq W w' own' rb (roots.set t.toNat (rs ++ [last + 1])) words (last + 1) (xs ++ [⟨last + 1, 4, 0, 1, [ref]⟩]) fin queue → St w w' own own' → K (last + 1) 0 w') :
    C104 (some ⟨rb, 0, none⟩) t ref w K := by
  obtain ⟨hb, fm, G, ra, rc, ts, qa, qc, ss, R, e1, e2, b, q⟩ := h
  obtain ⟨u, hu, eu, hlt⟩ := roots_at e2 hrs
  refine rweak_c R rfl hl e1 ⟨ht, by omega⟩ (fun v hv => by rw [hu] at hv; cases hv; rw [eu]; exact h64) hx hroom fun v hv w' own' G' ss' u' e' R' es st => hok w' own' ?_ st
  rw [hu] at hv; cases hv
  have es3 : xsum (xs ++ [⟨last + 1, 4, 0, 1, [ref]⟩]) = xsum xs + 17 := by rw [xsum_append]; simp [xsum]
  exact ⟨hb, fm, G', ra, rc, _, qa, qc, ss', by rw [es3]; exact R', by simpa using es.trans e1, by rw [roots_set e2, e', eu], b.step st (by decide), fun r hr => by have := q r hr; omega⟩

theorem qrpop (h : Rq W w own rb roots words last xs fin queue) {t f : Int} {rs : List Int} (ht : 0 ≤ t) (hrs : roots[t.toNat]? = some (rs ++ [f])) {K : Int → Int → World → Prop}
    (hok : ∀ w' own', Rq W w' own' rb (roots.set t.toNat rs) words last xs fin queue → St w w' own own' → K f 0 w') : C105 (some ⟨rb, 0, none⟩) t w K := by
  obtain ⟨hb, fm, G, ra, rc, ts, qa, qc, ss, R, e1, e2, b, q⟩ := h
  obtain ⟨u, hu, eu, hlt⟩ := roots_at e2 hrs
  refine rpop_c R t ⟨ht, by omega⟩ (fun v hv e0 => ?_) fun v l f' hv el w' own' u' e' R' st => ?_
  · rw [hu] at hv; cases hv
    rw [eu] at e0; simp at e0
  · rw [hu] at hv; cases hv
    rw [eu] at el
    obtain ⟨el1, el2⟩ := List.append_inj' el rfl
    simp at el2; subst el1; subst el2
    exact hok w' own' ⟨hb, fm, G, ra, rc, _, qa, qc, ss, R', by simpa using e1, by rw [roots_set e2, e'], b.step st (by decide), q⟩ st

theorem qrpop0 (h : Rq W w own rb roots words last xs fin queue) {t : Int} (ht : 0 ≤ t) (hrs : roots[t.toNat]? = some []) {K : Int → Int → World → Prop}
    (hok : K 0 1303 w) : C105 (some ⟨rb, 0, none⟩) t w K := by
  obtain ⟨hb, fm, G, ra, rc, ts, qa, qc, ss, R, e1, e2, b, q⟩ := h
  obtain ⟨u, hu, eu, hlt⟩ := roots_at e2 hrs
  refine rpop_c R t ⟨ht, by omega⟩ (fun v hv e0 => hok) fun v l f' hv el w' own' u' e' R' st => ?_
  rw [hu] at hv; cases hv
  rw [eu] at el; simp at el

theorem qrpush (h : Rq W w own rb roots words last xs fin queue) {t ref : Int} {rs : List Int} (ht : 0 ≤ t) (hrs : roots[t.toNat]? = some rs) (h64 : rs.length < 64) {K : Int → World → Prop}
    (hok : ∀ w' own', Rq W w' own' rb (roots.set t.toNat (rs ++ [ref])) words last xs fin queue → St w w' own own' → K 0 w') : C110 (some ⟨rb, 0, none⟩) t ref w K := by
  obtain ⟨hb, fm, G, ra, rc, ts, qa, qc, ss, R, e1, e2, b, q⟩ := h
  obtain ⟨u, hu, eu, hlt⟩ := roots_at e2 hrs
  refine rpush_c R t ref ⟨ht, by omega⟩ (fun v hv => by rw [hu] at hv; cases hv; rw [eu]; exact h64) fun v hv w' own' u' e' R' st => hok w' own' ?_ st
  rw [hu] at hv; cases hv
  exact ⟨hb, fm, G, ra, rc, _, qa, qc, ss, R', by simpa using e1, by rw [roots_set e2, e', eu], b.step st (by decide), q⟩

theorem qrderef (h : Rq W w own rb roots words last xs fin queue) {t weak v : Int} (ht : 0 ≤ t ∧ t < (roots.length : Int)) {x : XC} (hx : x ∈ xs) (ex : x.ref = weak) (hk : x.kind = 4) (hn : x.n = 1) (hv : x.vs.getD 0 0 = v) {K : Int → Int → World → Prop}
    (hok : ∀ w' own', Rq W w' own' rb roots words last xs fin queue → St w w' own own' → K v 0 w') : C109 (some ⟨rb, 0, none⟩) t weak w K := by
  obtain ⟨hb, fm, G, ra, rc, ts, qa, qc, ss, R, e1, e2, b, q⟩ := h
  have el : ts.length = roots.length := by rw [← e2, List.length_map]
  subst hv
  exact rderef_c R e1 ⟨ht.1, by omega⟩ hx ex hk hn fun w' own' ss' R' es st => hok w' own' ⟨hb, fm, G, ra, rc, ts, qa, qc, ss', R', es.trans e1, e2, b.step st (by decide), q⟩ st

theorem qrload (h : Rq W w own rb roots words last xs fin queue) {t ref i v : Int} (ht : 0 ≤ t ∧ t < (roots.length : Int)) {x : XC} (hx : x ∈ xs) (ex : x.ref = ref) (hk : x.kind ≠ 4) (hi : 0 ≤ i ∧ i < x.n) (hv : x.vs.getD i.toNat 0 = v) {K : Int → Int → World → Prop}
    (hok : ∀ w' own', Rq W w' own' rb roots words last xs fin queue → St w w' own own' → K v 0 w') : C117 (some ⟨rb, 0, none⟩) t ref i w K := by
  obtain ⟨hb, fm, G, ra, rc, ts, qa, qc, ss, R, e1, e2, b, q⟩ := h
  have el : ts.length = roots.length := by rw [← e2, List.length_map]
  subst hv
  exact rload_c R e1 ⟨ht.1, by omega⟩ hx ex hk hi fun w' own' ss' R' es st => hok w' own' ⟨hb, fm, G, ra, rc, ts, qa, qc, ss', R', es.trans e1, e2, b.step st (by decide), q⟩ st

theorem xsum_map {f : XC → XC} (hf : ∀ x, (f x).n = x.n) : ∀ xs : List XC, xsum (xs.map f) = xsum xs
  | [] => rfl
  | x :: xs => by simp only [List.map_cons, xsum, hf, xsum_map hf xs]

theorem qrput (h : Rq W w own rb roots words last xs fin queue) {t ref i : Int} (v : Int) (ht : 0 ≤ t ∧ t < (roots.length : Int)) {x : XC} (hx : x ∈ xs) (ex : x.ref = ref) (hk : x.kind ≠ 4) (hi : 0 ≤ i ∧ i < x.n) {K : Int → World → Prop}
    (hok : ∀ w' own', Rq W w' own' rb roots words last (xput xs ref i v) fin queue → St w w' own own' → K 0 w') : C116 (some ⟨rb, 0, none⟩) t ref i v w K := by
  obtain ⟨hb, fm, G, ra, rc, ts, qa, qc, ss, R, e1, e2, b, q⟩ := h
  have el : ts.length = roots.length := by rw [← e2, List.length_map]
  refine rput_c R e1 v ⟨ht.1, by omega⟩ hx ex hk hi fun w' own' ss' R' es st => hok w' own' ⟨hb, fm, G, ra, rc, ts, qa, qc, ss', ?_, es.trans e1, e2, b.step st (by decide), q⟩ st
  have : xsum (xput xs ref i v) = xsum xs := xsum_map (fun x => by split <;> rfl) xs
  rw [this]; exact R'

theorem qrrefs (h : Rq W w own rb roots words last xs fin queue) (hn : xs.length ≤ 100000) {K : Option Addr → Nat → Nat → World → Prop}
    (hK : ∀ a c w', Rq W w' own rb roots words last xs fin queue → (∀ S, Fr S w w') → K a xs.length c w') : C108 (some ⟨rb, 0, none⟩) w K := by
  obtain ⟨hb, fm, G, ra, rc, ts, qa, qc, ss, R, e1, e2, b, q⟩ := h
  exact rrefs_c R hn fun a c w' _ f _ => hK a c w' ⟨hb, fm, G, ra, rc, ts, qa, qc, ss, R.still f, e1, e2, b.step (n := 2000) (St.still f) (by decide), q⟩ f

theorem qrnext0 (h : Rq W w own rb roots words last xs fin []) {K : Int → Bool → World → Prop} (hK : K 0 false w) : C107 (some ⟨rb, 0, none⟩) w K := by
  obtain ⟨hb, fm, G, ra, rc, ts, qa, qc, ss, R, e1, e2, b, q⟩ := h
  exact rnext0_c R hK

theorem qrnext {f : Int} {q' : List Int} (h : Rq W w own rb roots words last xs fin (f :: q')) {rs : List Int} (hrs : roots[0]? = some rs) (h64 : rs.length < 64) {K : Int → Bool → World → Prop}
    (hok : ∀ w' own', Rq W w' own' rb (roots.set 0 (rs ++ [f])) words last xs fin q' → St w w' own own' → K f true w') : C107 (some ⟨rb, 0, none⟩) w K := by
  obtain ⟨hb, fm, G, ra, rc, ts, qa, qc, ss, R, e1, e2, b, q⟩ := h
  obtain ⟨u, hu, eu, hlt⟩ := roots_at e2 hrs
  refine rnext_c R (by omega) (fun v hv => by rw [hu] at hv; cases hv; rw [eu]; exact h64) fun v hv w' own' u' qa' qc' e' R' st => hok w' own' ?_ st
  rw [hu] at hv; cases hv
  exact ⟨hb, fm, G, ra, rc, _, qa', qc', ss, R', by simpa using e1, by rw [roots_set e2, e', eu], b.step st (by decide), q⟩

theorem qrcycle {kc kd : Nat} (hk : 1000 ≤ kc ∧ 1000 ≤ kd ∧ kc ≠ kd) (h : Rq W w own rb roots words last xs fin queue) (h1t : 1 ≤ roots.length) (hxl : xs.length ≤ 10000) (hql : queue.length ≤ 10000)
    (A1 A2 C D : List Int) (xs' : List XC) (fin' queue' : List Int) (h1 : ∀ r, Rch kindR xs (roots.flatten ++ queue) r ↔ r ∈ A1) (hD : que A1 fin xs = D) (hC : clr A1 xs = C)
    (h2 : ∀ r, Rch kindR (xs.map (clear1 A1)) (roots.flatten ++ (queue ++ D)) r ↔ r ∈ A2) (hx' : (xs.map (clear1 A1)).filter (fun x => decide (x.ref ∈ A2)) = xs') (hf' : notIn (gone A2 xs) (notIn D fin) = fin') (hq' : queue ++ D = queue')
    {K : Option Addr → Nat → Nat → Option Addr → Nat → Nat → Int → World → Prop}
    (hK : ∀ w' own' ca cc da dc, Rq W w' own' rb roots words last xs' fin' queue' → Sd w' own' ca cc kc C → Sd w' own' da dc kd D → StN 40 w w' own own' → K ca C.length cc da D.length dc 0 w') : C106 (some ⟨rb, 0, none⟩) w K := by
  obtain ⟨hb, fm, G, ra, rc, ts, qa, qc, ss, R, e1, e2, b, q⟩ := h
  have el : ts.length = roots.length := by rw [← e2, List.length_map]
  have er : ∀ q, rootsL ts q = roots.flatten ++ q := fun q => by unfold rootsL; rw [e2]
  refine rcycle_c hk R rfl e1 (by omega) hxl hql fun w' own' G' qa' qc' ss' B1 B2 ca cc da dc hB1 hB2 R' es C' D' st => ?_
  have c1 : ∀ r, r ∈ B1 ↔ r ∈ A1 := fun r => by rw [hB1, er, h1]
  rw [que_congr c1, hD, clear1_congr c1] at hB2 R'
  rw [que_congr c1, hD] at D'
  rw [clr_congr c1, hC] at C'
  have c2 : ∀ r, r ∈ B2 ↔ r ∈ A2 := fun r => by rw [hB2, er, h2]
  simp only [c2] at R'
  rw [gone_congr c2, hx', hf', hq'] at R'
  rw [que_congr c1, hD, clr_congr c1, hC]
  refine hK w' own' ca cc da dc ⟨hb, fm, G', ra, rc, ts, qa', qc', ss', R', es.trans e1, e2, b.step st (by decide), fun r hr => ?_⟩ C' D' st
  rw [← hf'] at hr
  exact q r (List.mem_filter.1 (List.mem_filter.1 hr).1).1
end

theorem w64 {z : Int} (h0 : -9223372036854775808 ≤ z) (h1 : z < 9223372036854775808) : IntKind.wrap .i64 z = z := by
  simp only [IntKind.wrap, IntKind.signed, IntKind.bits]
  simp
  omega

/-- Where no cell leads on. -/
theorem rch_flat {p : Int → Bool} {xs : List XC} {S : List Int} (h : ∀ x ∈ xs, p x.kind = true → ∀ r ∈ x.vs, isref xs r = true → r ∈ S) (r : Int) : Rch p xs S r ↔ r ∈ S ∧ isref xs r = true := by
  constructor
  · intro hr
    induction hr with
    | root r h1 h2 => exact ⟨h1, h2⟩
    | step q x r _ hx _ hp hr hi _ => exact ⟨h x hx hp r hr hi, hi⟩
  · exact fun ⟨a, b⟩ => .root r a b

/-- 1, 2, .., n. -/
def up (n : Nat) : List Int := (List.range n).map fun (i : Nat) => (i : Int) + 1
theorem up_succ (n : Nat) : up (n + 1) = up n ++ [(n : Int) + 1] := by unfold up; rw [List.range_succ]; simp
theorem up_len (n : Nat) : (up n).length = n := by simp [up]
theorem mem_up {n : Nat} {r : Int} : r ∈ up n ↔ 1 ≤ r ∧ r ≤ n := by
  unfold up
  rw [List.mem_map]
  constructor
  · rintro ⟨i, hi, rfl⟩; rw [List.mem_range] at hi; omega
  · intro h; exact ⟨(r - 1).toNat, List.mem_range.2 (by omega), by omega⟩
theorem up_at {n i : Nat} (h : i < n) : (up n)[i]? = some ((i : Int) + 1) := by unfold up; simp [h]
theorem up_drop {n i : Nat} (h : i < n) : (up n).drop i = ((i : Int) + 1) :: (up n).drop (i + 1) := drop_cons (up_at h)
theorem up_getD {n i : Nat} (h : i < n) : (up n).getD i 0 = (i : Int) + 1 := by rw [List.getD_eq_getElem?_getD, up_at h]; rfl

theorem NewAt.si1 {w w' : World} {b : Nat} {n : Int} (h : NewAt w w' b #[.int .i64 n] 3) : SI w' (some ⟨b, 0, none⟩) 1 [n] :=
  ⟨by simp, by simp, by decide, .inr ⟨b, 0, [vi n], rfl, h.blk, by simp, rfl⟩⟩

theorem rsame_c {w : World} {a b : Option Addr} {c d : Nat} {xs ys : List Int} (A : SI w a c xs) (B : SI w b d ys) (hl : xs.length ≤ 1000000) {K : Bool → World → Prop} (hK : ∀ w', (∀ S, Fr S w w') → K (decide (xs = ys)) w') : C140 a xs.length c b ys.length d w K := by
  refine r_f140 _ _ _ _ _ _ _ _ (IfB.nd (fun he => ?_) (fun he => ?_))
  · refine ⟨fun i w' => 0 ≤ i ∧ i ≤ xs.length ∧ (∀ j : Nat, j < i → xs.getD j 0 = ys.getD j 0) ∧ (∀ S, Fr S w w'), fun i _ => (xs.length - i).toNat, ⟨by omega, by omega, fun j hj => by omega, fun S => Fr.refl S w⟩, ?_⟩
    rintro - i w1 ⟨h0, h1, heq, f1⟩
    refine IfB.dec (fun hlt => fun w2 d2 => ?_) (fun hge => ?_)
    · have f2 := fun S => (f1 S).more (d2.fr S)
      refine (A.fr (f2 []) (by intro b _; simp)).get h0 hlt fun p hp => ⟨⟨h0, hlt⟩, _, hp, (B.fr (f2 []) (by intro b _; simp)).get h0 (by omega) fun q hq => ⟨⟨h0, by omega⟩, _, hq, IfB.nd (fun h3 => ⟨fit64 (by omega) (by omega), ⟨by omega, by omega, fun j hj => ?_, f2⟩, by dsimp only; omega⟩) (fun h3 => ?_)⟩⟩
      · by_cases e : j = i.toNat
        · subst e; exact h3
        · exact heq j (by omega)
      · have := hK w2 f2
        rwa [decide_eq_false (fun e => h3 (by rw [e]))] at this
    · have e : xs = ys := by
        apply List.ext_getElem (by omega)
        intro j h1 h2
        have := heq j (by omega)
        simpa [List.getD_eq_getElem?_getD, h1, h2] using this
      have := hK w1 f1
      rwa [decide_eq_true e] at this
  · have := hK w (fun S => Fr.refl S w)
    rwa [decide_eq_false (fun e => he (by rw [e]))] at this

theorem awake13_c {w : World} {K : Bool → World → Prop} (hK : ∀ w', Fr [] w w' → K true w') : C101 w K := by
  refine r_f101 _ _ (qrnew 4000 2 (by decide) fun w1 own1 rb R1 => ?_)
  have er : List.replicate (Int.toNat 2) ([] : List Int) = [[], []] := rfl
  rw [er] at R1
  refine qrmake R1 (by decide) true (by decide) rfl (by decide) (by decide) (by decide) (by decide) fun w2 own2 R2 st2 => ?_
  have R2 : Rq w w2 own2 rb [[1], []] 4000 1 [⟨1, 1, 3, 1, [0]⟩] [1] [] := R2
  refine qrweak R2 (by decide) (by decide) rfl (by decide) ⟨_, List.mem_singleton.2 rfl, rfl⟩ (by decide) fun w3 own3 R3 st3 => ?_
  have R3 : Rq w w3 own3 rb [[1], [2]] 4000 2 [⟨1, 1, 3, 1, [0]⟩, ⟨2, 4, 0, 1, [1]⟩] [1] [] := R3
  refine qrpop R3 (rs := []) (f := 1) (by decide) rfl fun w4 own4 R4 st4 => ?_
  have R4 : Rq w w4 own4 rb [[], [2]] 4000 2 [⟨1, 1, 3, 1, [0]⟩, ⟨2, 4, 0, 1, [1]⟩] [1] [] := R4
  refine qrcycle (kc := 1000) (kd := 1001) (by decide) R4 (by decide) (by decide) (by decide) [2] [1, 2] [2] [1] [⟨1, 1, 3, 1, [0]⟩, ⟨2, 4, 0, 1, [0]⟩] [] [1] (fun r => ?_) (by decide) (by decide) (fun r => ?_) rfl (by decide) rfl fun w5 own5 ca cc da dc R5 C5 D5 st5 => ?_
  · rw [rch_flat (by decide), isref_iff]; simp; omega
  · rw [rch_flat (by decide), isref_iff]
    have e : List.map (clear1 [2]) [⟨1, 1, 3, 1, [0]⟩, ⟨2, 4, 0, 1, [1]⟩] = [⟨1, 1, 3, 1, [0]⟩, ⟨2, 4, 0, 1, [0]⟩] := rfl
    rw [e]; simp; omega
  refine qrderef R5 (v := 0) (by decide) (x := ⟨2, 4, 0, 1, [0]⟩) (by simp) rfl rfl rfl rfl fun w6 own6 R6 st6 => ?_
  refine qrnext R6 (rs := []) rfl (by decide) fun w7 own7 R7 st7 => ?_
  have R7 : Rq w w7 own7 rb [[1], [2]] 4000 2 [⟨1, 1, 3, 1, [0]⟩, ⟨2, 4, 0, 1, [0]⟩] [] [] := R7
  have C7 := (C5.step st6 (by decide)).step st7 (by decide)
  have D7 := (D5.step st6 (by decide)).step st7 (by decide)
  refine qrnext0 R7 (ifb_yes rfl (ifb_yes rfl (ifb_yes rfl fun b8 w8 n8 => ?_)))
  have C8 := C7.si.fr (n8.fr []) (by intro b _; simp)
  refine rsame_c C8 n8.si1 (by decide) fun w9 f9 => ifb_t fun b10 w10 n10 => ?_
  have D10 := ((D7.si.fr (n8.fr []) (by intro b _; simp)).fr (f9 []) (by intro b _; simp)).fr (n10.fr []) (by intro b _; simp)
  refine rsame_c D10 n10.si1 (by decide) fun w11 f11 => ifb_t (ifb_yes rfl (ifb_yes rfl (ifb_yes rfl (ifb_yes rfl (ifb_t (ifb_t ?_))))))
  have R11 := (((R7.other (n8.fr []) (k := 1005) (by simp [Tag]) (by decide)).other (f9 []) (k := 1005) (by simp [Tag]) (by decide)).other (n10.fr []) (k := 1005) (by simp [Tag]) (by decide)).other (f11 []) (k := 1005) (by simp [Tag]) (by decide)
  refine qrrefs R11 (by decide) fun a c w12 R12 f12 => ?_
  exact hK w12 R12.bs
end Go.Proofs.Ytfpghcdjfiggiaa.V

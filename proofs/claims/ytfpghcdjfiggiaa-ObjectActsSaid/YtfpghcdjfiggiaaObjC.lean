/- Objects over fragments: the cells they lie in, and what the operations do. No condition. -/
import Derived.Test.YtfpghcdjfiggiaaObjP
import Derived.Test.YtfpghcdjfiggiaaSortC
import Derived.Test.YtfpghcdjfiggiaaGObject
namespace Go.Proofs.Ytfpghcdjfiggiaa.V
open Go Go.RowKit

/-- Steps of agents: at most c more. -/
def Tk (c : Int) (ss ss' : List Int) : Prop := ss'.length = ss.length ∧ ∀ T : Int, T + c ≤ 1000000000 → (∀ a : Nat, 0 ≤ ss.getD a 0 ∧ ss.getD a 0 ≤ T) → ∀ a : Nat, ss.getD a 0 ≤ ss'.getD a 0 ∧ ss'.getD a 0 ≤ ss.getD a 0 + c
theorem Tk.refl (ss : List Int) : Tk 0 ss ss := ⟨rfl, fun T hT hs a => by omega⟩
theorem Tk.tick (ss : List Int) {ag : Int} (h0 : 0 ≤ ag) (h1 : ag < ss.length) : Tk 1 ss (tickA ss ag) := by
  refine ⟨by simp [tickA], fun T hT hs a => ?_⟩
  have hw : IntKind.wrap .i64 (ss.getD ag.toNat 0 + 1) = ss.getD ag.toNat 0 + 1 := by
    have hb1 := hs ag.toNat
    have := wrap_small (n := (ss.getD ag.toNat 0 + 1).toNat) (by omega)
    rwa [Int.toNat_of_nonneg (by omega)] at this
  unfold tickA
  rw [hw, getI_set' _ _ _ _ (by omega)]
  split
  · rename_i e; subst e; omega
  · omega
theorem Tk.trans {c d : Int} {a b e : List Int} (h : Tk c a b) (h' : Tk d b e) (hc : 0 ≤ c) (hd : 0 ≤ d) : Tk (c + d) a e := by
  refine ⟨h'.1.trans h.1, fun T hT hs j => ?_⟩
  have h1 := h.2 T (by omega) hs
  have h2 := h'.2 (T + c) (by omega) (fun j => by have := h1 j; have := hs j; omega) j
  have := h1 j
  omega
theorem Tk.up {c d : Int} {a b : List Int} (h : Tk c a b) (hcd : c ≤ d) : Tk d a b := ⟨h.1, fun T hT hs j => by have := h.2 T (by omega) hs j; omega⟩

theorem oget_some {m : List Ent} {k : Int} {v : Value} (hn : (m.map (·.1)).Nodup) {st : Nat} (h : (k, v, st) ∈ m) : mget m k = some v := by
  unfold mget mfind
  induction m with
  | nil => simp at h
  | cons e m ih =>
    rw [List.map_cons, List.nodup_cons] at hn
    rcases List.mem_cons.1 h with e1 | h
    · subst e1; simp
    · have : k ≠ e.1 := fun e2 => hn.1 (List.mem_map.2 ⟨_, h, e2⟩)
      simp [this]
      simpa using ih hn.2 h
theorem oget_no {m : List Ent} {k : Int} (h : ∀ e ∈ m, e.1 ≠ k) : mget m k = none := by
  unfold mget mfind
  rw [List.find?_eq_none.2 (fun e he => by simpa using fun e2 => h e he e2.symm)]
  rfl

def aggO (o : Ob) : Value := .agg #[.int .i64 o.n, .int .i64 (nx o.fs - 1)]
def oent (o : Ob) : Ent := (o.ref, aggO o, o.st)

/-- A store of objects: its own block, its map, its pool. -/
structure Ox (w : World) (F : List Nat) (s om pb ab wb sb : Nat) (count : Int) (free ws ss : List Int) (clk : Nat) (os : List Ob) (last : Int) : Prop where
  P : Pool w F pb ab wb sb 0 count free ws ss
  hd : Blk w s [.pointer (some ⟨pb, 0, none⟩), .map (some om), .int .i64 last]
  mi : MI w om (os.map oent) clk
  I : OInv ws 0 count free os last
  ne : s ≠ om ∧ s ∉ F ∧ om ∉ F

section
variable {w w' : World} {F S : List Nat} {s om pb ab wb sb clk : Nat} {count last : Int} {free ws ss : List Int} {os : List Ob}

theorem Ox.low (h : Ox w F s om pb ab wb sb count free ws ss clk os last) : Low (s :: om :: F) w.heap.size := by
  intro b hb
  rcases List.mem_cons.1 hb with rfl | hb
  · exact h.hd.lt
  · rcases List.mem_cons.1 hb with rfl | hb
    · exact heap_lt h.mi.heap
    · exact h.P.low b hb

theorem Ox.frame (h : Ox w F s om pb ab wb sb count free ws ss clk os last) (f : Fr S w w') (hS : Apart (s :: om :: F) S) : Ox w' F s om pb ab wb sb count free ws ss clk os last :=
  ⟨h.P.frame f (fun b hb => hS b (by simp [hb])), h.hd.fr f (hS _ (by simp)), h.mi.fr f (hS _ (by simp)), h.I, h.ne⟩
theorem Ox.fr0 (h : Ox w F s om pb ab wb sb count free ws ss clk os last) (f : ∀ S, Fr S w w') : Ox w' F s om pb ab wb sb count free ws ss clk os last := h.frame (f []) (fun _ _ => by simp)

/-- The pool has moved; the objects are as they were. -/
theorem Ox.pool (h : Ox w F s om pb ab wb sb count free ws ss clk os last) {F' : List Nat} {free' ws' ss' : List Int} (P' : Pool w' F' pb ab wb sb 0 count free' ws' ss') (I' : OInv ws' 0 count free' os last) (f : Fr F w w') (gr : Grw F F' w.heap.size) :
    Ox w' F' s om pb ab wb sb count free' ws' ss' clk os last := by
  obtain ⟨n1, n2, n3⟩ := h.ne
  have l1 := h.hd.lt
  have l2 := heap_lt h.mi.heap
  refine ⟨P', h.hd.fr f n2, h.mi.fr f n3, I', n1, fun hb => ?_, fun hb => ?_⟩
  · rcases gr _ hb with q | q
    · exact n2 q
    · omega
  · rcases gr _ hb with q | q
    · exact n3 q
    · omega

theorem Ox.nd (h : Ox w F s om pb ab wb sb count free ws ss clk os last) : (os.map (·.ref)).Nodup := by
  have := h.mi.nodup
  rw [List.map_map] at this
  exact this

theorem Ox.look (h : Ox w F s om pb ab wb sb count free ws ss clk os last) (k : Int) {K : Int → Int → Bool → World → Prop} (hyes : ∀ o ∈ os, o.ref = k → K o.n (nx o.fs - 1) true w) (hno : (∀ o ∈ os, o.ref ≠ k) → K 0 0 false w) :
    RunF Try.prog (Instr.lookup 205 (.map (some om)) (.int .i64 k) true) w [.agg [.int .i64, .int .i64], .leaf .bool] K := by
  have hr := run_lookup (P := Try.prog) h.mi (t := 205) (kt := 3) (et := 210) (by kernel_rfl) (by kernel_rfl) Try.t210 (.agg #[.int .i64 0, .int .i64 0]) (by kernel_rfl) rfl k true
  by_cases hk : ∃ o ∈ os, o.ref = k
  · obtain ⟨o, ho, rfl⟩ := hk
    have hg : mget (os.map oent) o.ref = some (aggO o) := oget_some h.mi.nodup (st := o.st) (List.mem_map.2 ⟨o, ho, rfl⟩)
    rw [hg] at hr
    exact ⟨[.int .i64 o.n, .int .i64 (nx o.fs - 1), .bool true], w, hr, hyes o ho rfl⟩
  · have hk : ∀ o ∈ os, o.ref ≠ k := fun c hc e => hk ⟨c, hc, e⟩
    have hg : mget (os.map oent) k = none := oget_no fun e he => by
      obtain ⟨c, hc, rfl⟩ := List.mem_map.1 he
      exact hk c hc
    rw [hg] at hr
    exact ⟨[.int .i64 0, .int .i64 0, .bool false], w, hr, hno hk⟩

theorem chain_last {W : Int → Int → Int} {fs : List Int} (h : Chain W fs) {k : Nat} {f g : Int} (hf : fs[k]? = some f) (hg : fs[k + 1]? = some g) : W f 7 = g + 1 := by
  rw [h.at hf]
  have hl := (List.getElem?_eq_some_iff.1 hg)
  obtain ⟨h1, h2⟩ := hl
  rw [List.drop_eq_getElem_cons h1]
  simp [nx, h2]

/-- A field is found. -/
theorem ofind_c (h : Ox w F s om pb ab wb sb count free ws ss clk os last) (agent ref i : Int) {K : Int → Int → Int → World → Prop}
    (hno : ¬ ((0 ≤ agent ∧ agent < ss.length) ∧ ∃ o ∈ os, o.ref = ref) → ∀ w', (∀ S, Fr S w w') → K 0 0 803 w')
    (hbad : ∀ o ∈ os, o.ref = ref → (0 ≤ agent ∧ agent < ss.length) → ¬ (0 ≤ i ∧ i < o.n) → ∀ w', (∀ S, Fr S w w') → K 0 0 802 w')
    (hok : ∀ o ∈ os, o.ref = ref → (0 ≤ agent ∧ agent < ss.length) → 0 ≤ i → i < o.n → ∀ w' ss' f, Ox w' F s om pb ab wb sb count free ws ss' clk os last → o.fs[(i / 7).toNat]? = some f → Tk (i / 7) ss ss' → Fr F w w' → K f (i % 7) 0 w') :
    C158 (some ⟨s, 0, none⟩) agent ref i w K := by
  have tail : ∀ (n f0 : Int) (is : Bool), (is = true → ∃ o ∈ os, o.ref = ref ∧ n = o.n ∧ f0 = nx o.fs - 1) → (is = false → ∀ o ∈ os, o.ref ≠ ref) → ∀ (b6 : Nat) (w7 : World), NewAt w w7 b6 #[.int .i64 0, .int .i64 0] 210 →
      MayL w7 ⟨b6, 0, none⟩ 2 ∧ ∀ w8 : World, SetL w7 w8 ⟨b6, 0, none⟩ [.int .i64 n, .int .i64 f0] →
      ∃ M9 : World → Prop,
      (∃ (q11 : Option Addr), World.cell? w8 ⟨s, 0, none⟩ = some (.pointer q11) ∧
      C156 q11 w8 fun q12 w13 =>
      C135 q12 agent w13 fun b14 w15 =>
      IfB (!b14)
      (K 0 0 803 w15)
      (IfB (!is)
      (K 0 0 803 w15)
      (IfB (decide ((i : Int) < 0))
      (K 0 0 802 w15)
      (∃ (n16 : Int), World.cell? w15 ⟨b6, 0, none⟩ = some (.int .i64 n16) ∧
      IfB (decide ((n16 : Int) ≤ i))
      (K 0 0 802 w15)
      (M9 w15))))) ∧
      ∀ (_ : Env) (w10 : World), M9 w10 →
      ∃ (n17 : Int), World.cell? w10 ⟨b6, 1, none⟩ = some (.int .i64 n17) ∧
      (7 : Int) ≠ 0 ∧
      Fit .i64 (Int.tdiv i 7) ∧
      ∃ (I18 : Int → Int → World → Prop) (m19 : Int → Int → World → Nat),
      I18 n17 0 w10 ∧
      ∀ (_ : Env) (n20 : Int) (n21 : Int) (w22 : World), I18 n20 n21 w22 →
      IfB (decide ((n21 : Int) < (Int.tdiv i 7)))
      (∃ (q23 : Option Addr), World.cell? w22 ⟨s, 0, none⟩ = some (.pointer q23) ∧
      C52 q23 agent n20 7 w22 fun n24 n25 w26 =>
      Fit .i64 (n24 - 1) ∧
      Fit .i64 (n21 + 1) ∧
      (I18 (n24 - 1) (n21 + 1) w26 ∧
      m19 (n24 - 1) (n21 + 1) w26 < m19 n20 n21 w22))
      ((7 : Int) ≠ 0 ∧
      K n20 (Int.tmod i 7) 0 w22) := by
    intro n f0 is hy hn b6 w7 n7
    refine ⟨n7.blk.mayL (by simp), fun w8 s8 => ?_⟩
    obtain ⟨X8, f8⟩ := newSet n7 s8 rfl
    have h8 := h.fr0 f8
    have g6 := n7.ge
    refine ⟨fun w' => w' = w8 ∧ ∃ o ∈ os, o.ref = ref ∧ n = o.n ∧ f0 = nx o.fs - 1 ∧ (0 ≤ agent ∧ agent < ss.length) ∧ 0 ≤ i ∧ i < o.n, ⟨_, h8.hd.cell rfl, farena_c h8.P (agent_c h8.P.ar agent (IfB.nd (fun ha => ?_) (fun ha => hno (fun p => ha p.1) w8 f8)))⟩, ?_⟩
    · cases is with
      | false => exact ifb_nno rfl (hno (fun p => by obtain ⟨o, ho, e⟩ := p.2; exact hn rfl o ho e) w8 f8)
      | true =>
        obtain ⟨o, ho, e, rfl, rfl⟩ := hy rfl
        refine ifb_nyes rfl (IfB.dec (fun h1 => hbad o ho e ha (by omega) w8 f8) (fun h1 => ⟨_, X8.cell rfl, IfB.dec (fun h2 => hbad o ho e ha (by omega) w8 f8) (fun h2 => ⟨rfl, o, ho, e, rfl, rfl, ha, by omega, by omega⟩)⟩))
    · rintro - w10 ⟨rfl, o, ho, e, rfl, rfl, ha, hi0, hi1⟩
      have hsz := h.I.sz o ho
      have hin := fcnt_in hi0 hi1
      have et : Int.tdiv i 7 = i / 7 := Int.tdiv_eq_ediv_of_nonneg hi0
      have em : Int.tmod i 7 = i % 7 := Int.tmod_eq_emod_of_nonneg hi0
      rw [et, em]
      have hfl : 0 < o.fs.length := by rw [hsz.2.2.2]; exact fcnt_pos _
      have first : nx o.fs - 1 = o.fs.getD 0 0 := by
        cases hfs : o.fs with
        | nil => rw [hfs] at hfl; simp at hfl
        | cons f fs => simp [nx]
      refine ⟨_, X8.cell rfl, by decide, fit64 (by omega) (by omega), ⟨fun f j w' => 0 ≤ j ∧ j ≤ i / 7 ∧ o.fs[j.toNat]? = some f ∧ ∃ ss', Ox w' F s om pb ab wb sb count free ws ss' clk os last ∧ Tk j ss ss' ∧ Fr F w w', fun _ j _ => (i / 7 - j).toNat,
        ⟨by decide, by omega, by rw [first]; simp [List.getD_eq_getElem?_getD, List.getElem?_eq_getElem hfl], ss, h8, Tk.refl ss, f8 F⟩, ?_⟩⟩
      rintro - f j w11 ⟨hj0, hj1, hf, ss11, h11, t11, f11⟩
      refine IfB.dec (fun hlt => ⟨_, h11.hd.cell rfl, ?_⟩) (fun hge => ⟨by decide, ?_⟩)
      · have hus := h11.I.us o ho f (List.mem_of_getElem? hf)
        have hag : 0 ≤ agent ∧ agent < ss11.length := by rw [t11.1]; exact ha
        have hj2 : j.toNat + 1 < o.fs.length := by rw [hsz.2.2.2]; omega
        refine fload_c h11.P agent f 7 (fun hn2 => absurd ⟨⟨hag, hus⟩, by decide, by decide⟩ hn2) (fun _ _ _ w12 P12 f12 => ?_)
        rw [chain_last (h11.I.ch o ho) hf (List.getElem?_eq_getElem hj2)]
        have hus2 := h11.I.us o ho _ (List.getElem_mem hj2)
        unfold usedF at hus2
        have rg := h11.P.rg
        have ej : (j + 1).toNat = j.toNat + 1 := by omega
        refine ⟨fit64 (by omega) (by omega), fit64 (by omega) (by omega), ⟨by omega, by omega, ?_, _, h11.pool P12 h11.I f12 (fun b hb => .inl hb), t11.trans (Tk.tick ss11 hag.1 hag.2) (by omega) (by decide), f11.more f12⟩, by dsimp only; omega⟩
        rw [ej, List.getElem?_eq_getElem hj2]
        congr 1; omega
      · have : j = i / 7 := by omega
        subst this
        exact hok o ho e ha hi0 hi1 w11 ss11 f h11 hf t11 f11
  exact r_f158 _ _ _ _ _ _ ⟨_, h.hd.cell rfl, h.look ref (fun o ho e => tail _ _ true (fun _ => ⟨o, ho, e, rfl, rfl⟩) (fun h => by cases h)) (fun hn => tail 0 0 false (fun h => by cases h) (fun _ => hn))⟩

/-- A field is read. -/
theorem oload_c (h : Ox w F s om pb ab wb sb count free ws ss clk os last) (agent ref i : Int) {K : Int → Int → World → Prop}
    (hno : ¬ ((0 ≤ agent ∧ agent < ss.length) ∧ ∃ o ∈ os, o.ref = ref) → ∀ w', (∀ S, Fr S w w') → K 0 803 w')
    (hbad : ∀ o ∈ os, o.ref = ref → (0 ≤ agent ∧ agent < ss.length) → ¬ (0 ≤ i ∧ i < o.n) → ∀ w', (∀ S, Fr S w w') → K 0 802 w')
    (hok : ∀ o ∈ os, o.ref = ref → (0 ≤ agent ∧ agent < ss.length) → 0 ≤ i → i < o.n → ∀ w' ss', Ox w' F s om pb ab wb sb count free ws ss' clk os last → Tk (i / 7 + 1) ss ss' → Fr F w w' → K (o.vs.getD i.toNat 0) 0 w') :
    C89 (some ⟨s, 0, none⟩) agent ref i w K := by
  refine r_f89 _ _ _ _ _ _ (ofind_c h agent ref i (fun hn w1 f1 => IfB.nno (by decide) (hno hn w1 f1)) (fun o ho e ha hn w1 f1 => IfB.nno (by decide) (hbad o ho e ha hn w1 f1)) (fun o ho e ha h0 h1 w1 ss1 f H1 hf t1 f1 => IfB.nyes rfl ⟨_, H1.hd.cell rfl, ?_⟩))
  have hus := H1.I.us o ho f (List.mem_of_getElem? hf)
  have hag : 0 ≤ agent ∧ agent < ss1.length := by rw [t1.1]; exact ha
  refine fload_c H1.P agent f (i % 7) (fun hn2 => absurd ⟨⟨hag, hus⟩, by omega, by omega⟩ hn2) (fun _ _ _ w2 P2 f2 => ?_)
  have hw := H1.I.wd o ho i.toNat (by omega) f (by have : i.toNat / 7 = (i / 7).toNat := by omega
                                                   rw [this]; exact hf)
  have e7 : ((i.toNat % 7 : Nat) : Int) = i % 7 := by omega
  rw [e7] at hw
  rw [hw]
  exact hok o ho e ha h0 h1 w2 _ (H1.pool P2 H1.I f2 (fun b hb => .inl hb)) (t1.trans (Tk.tick ss1 hag.1 hag.2) (by omega) (by decide)) (f1.more f2)

/-- An object's fields are others. -/
def oput (os : List Ob) (ref : Int) (i v : Int) : List Ob := os.map fun o => if o.ref = ref then { o with vs := o.vs.set i.toNat v } else o
theorem oput_map {β : Type} (f : Ob → β) (hf : ∀ x vs, f { x with vs := vs } = f x) (os : List Ob) (ref i v : Int) : (oput os ref i v).map f = os.map f := by
  unfold oput
  rw [List.map_map]
  refine List.map_congr_left fun x _ => ?_
  simp only [Function.comp]
  split
  · rw [hf]
  · rfl
theorem mem_oput {os : List Ob} {ref i v : Int} {o : Ob} (h : o ∈ oput os ref i v) : ∃ o0 ∈ os, (o0.ref = ref ∧ o = { o0 with vs := o0.vs.set i.toNat v }) ∨ (o0.ref ≠ ref ∧ o = o0) := by
  obtain ⟨o0, h0, e⟩ := List.mem_map.1 h
  refine ⟨o0, h0, ?_⟩
  split at e
  · rename_i hr; exact .inl ⟨hr, e.symm⟩
  · rename_i hr; exact .inr ⟨hr, e.symm⟩

theorem OInv.put (I : OInv ws 0 count free os last) (hl : 0 ≤ (0 : Int) ∧ 0 + (14 * count + 64) ≤ (ws.length : Int)) {o : Ob} (ho : o ∈ os) {i v f : Int} (h0 : 0 ≤ i) (h1 : i < o.n) (hf : o.fs[(i / 7).toNat]? = some f) :
    OInv (ws.set (0 + count + f * 8 + i % 7).toNat v) 0 count free (oput os o.ref i v) last := by
  have hus := I.us o ho f (List.mem_of_getElem? hf)
  have huf : 0 ≤ f ∧ f < count := ⟨hus.1, hus.2.1⟩
  have hi7 : 0 ≤ i % 7 ∧ i % 7 < 8 := by omega
  have hcol : ∀ g, 0 ≤ g → g < count → colF (ws.set (0 + count + f * 8 + i % 7).toNat v) 0 g = colF ws 0 g := fun g g0 g1 => col_set hl huf hi7 v g ⟨g0, g1⟩
  have hwrd : ∀ g j, 0 ≤ g → g < count → 0 ≤ j → j < 8 → wrdF (ws.set (0 + count + f * 8 + i % 7).toNat v) 0 count g j = if g = f ∧ j = i % 7 then v else wrdF ws 0 count g j := fun g j g0 g1 j0 j1 => wrd_set hl huf hi7 v g j ⟨g0, g1⟩ ⟨j0, j1⟩
  have hused : ∀ g, usedF (ws.set (0 + count + f * 8 + i % 7).toNat v) 0 count g ↔ usedF ws 0 count g := fun g => by
    unfold usedF
    constructor
    · rintro ⟨a, b, c⟩; exact ⟨a, b, by rw [hcol g a b] at c; exact c⟩
    · rintro ⟨a, b, c⟩; exact ⟨a, b, by rw [hcol g a b]; exact c⟩
  have same : ∀ o' ∈ os, ∀ g ∈ o'.fs, 0 ≤ g ∧ g < count := fun o' h' g hg => by have := I.us o' h' g hg; exact ⟨this.1, this.2.1⟩
  refine ⟨fun q hq => ?_, I.l0, by rw [oput_map (·.ref) (fun _ _ => rfl)]; exact I.srt, fun q hq => ?_, fun q hq g hg => ?_, ?_, fun q hq => ?_, fun q hq j hj g hg => ?_, fun g hg => ?_⟩
  · obtain ⟨o0, m0, ⟨_, rfl⟩ | ⟨_, rfl⟩⟩ := mem_oput hq
    · exact I.ids o0 m0
    · exact I.ids q m0
  · obtain ⟨o0, m0, ⟨_, rfl⟩ | ⟨_, rfl⟩⟩ := mem_oput hq
    · have := I.sz o0 m0; simpa using this
    · exact I.sz q m0
  · obtain ⟨o0, m0, ⟨_, rfl⟩ | ⟨_, rfl⟩⟩ := mem_oput hq
    · exact (hused g).2 (I.us o0 m0 g hg)
    · exact (hused g).2 (I.us q m0 g hg)
  · have : (oput os o.ref i v).flatMap (·.fs) = os.flatMap (·.fs) := by
      rw [List.flatMap_def, List.flatMap_def, oput_map (·.fs) (fun _ _ => rfl)]
    rw [this]; exact I.nd
  · obtain ⟨o0, m0, ⟨_, rfl⟩ | ⟨_, rfl⟩⟩ := mem_oput hq
    · refine (I.ch o0 m0).congr fun g hg => ?_
      have := same o0 m0 g hg
      rw [hwrd g 7 this.1 this.2 (by decide) (by decide), if_neg (by omega)]
    · refine (I.ch q m0).congr fun g hg => ?_
      have := same q m0 g hg
      rw [hwrd g 7 this.1 this.2 (by decide) (by decide), if_neg (by omega)]
  · have key : ∀ o0 ∈ os, ∀ g, o0.fs[j / 7]? = some g → (g = f ∧ ((j % 7 : Nat) : Int) = i % 7) → o0 = o ∧ j = i.toNat := by
      intro o0 m0 g hg hc
      have e1 : o0.fs = o.fs := flat_apart I.nd m0 ho (List.mem_of_getElem? hg) (by rw [hc.1]; exact List.mem_of_getElem? hf)
      have e2 : o0 = o := by
        by_cases e : o0.ref = o.ref
        · exact I.same m0 ho e
        · -- two objects of the same fragments
          exfalso
          have hm : f ∈ o0.fs := by rw [e1]; exact List.mem_of_getElem? hf
          have : ∀ l : List Ob, o0 ∈ l → o ∈ l → (l.flatMap (·.fs)).Nodup → False := fun l => by
            induction l with
            | nil => intro h; simp at h
            | cons a l ih =>
              intro a1 a2 nd
              rw [List.flatMap_cons, List.nodup_append] at nd
              rcases List.mem_cons.1 a1 with q1 | q1
              · rcases List.mem_cons.1 a2 with q2 | q2
                · exact e (by rw [q1, q2])
                · exact nd.2.2 f (by rw [← q1]; exact hm) f (List.mem_flatMap.2 ⟨o, q2, List.mem_of_getElem? hf⟩) rfl
              · rcases List.mem_cons.1 a2 with q2 | q2
                · exact nd.2.2 f (by rw [← q2]; exact List.mem_of_getElem? hf) f (List.mem_flatMap.2 ⟨o0, q1, hm⟩) rfl
                · exact ih q1 q2 nd.2.1
          exact this os m0 ho I.nd
      subst e2
      refine ⟨rfl, ?_⟩
      have hn := flat_nodup I.nd m0
      rw [hc.1] at hg
      have : j / 7 = (i / 7).toNat := by
        obtain ⟨p1, p2⟩ := List.getElem?_eq_some_iff.1 hg
        obtain ⟨p3, p4⟩ := List.getElem?_eq_some_iff.1 hf
        have pw := List.pairwise_iff_getElem.1 (List.nodup_iff_pairwise_ne.1 hn)
        rcases Nat.lt_trichotomy (j / 7) (i / 7).toNat with q | q | q
        · exact absurd (by rw [p2, p4]) (pw _ _ p1 p3 q)
        · exact q
        · exact absurd (by rw [p2, p4]) (pw _ _ p3 p1 q)
      have e3 := hc.2
      omega
    obtain ⟨o0, m0, ⟨hr, rfl⟩ | ⟨hr, rfl⟩⟩ := mem_oput hq
    · have hgm := same o0 m0 g (List.mem_of_getElem? hg)
      have e : o0 = o := I.same m0 ho hr
      rw [hwrd g _ hgm.1 hgm.2 (by omega) (by omega)]
      have hsz := I.sz o0 m0
      dsimp only
      rw [getI_set' _ _ _ _ (by rw [e] at hsz ⊢; omega)]
      by_cases hc : g = f ∧ ((j % 7 : Nat) : Int) = i % 7
      · rw [if_pos hc, if_pos (key o0 m0 g hg hc).2.symm]
      · rw [if_neg hc, if_neg]
        · exact I.wd o0 m0 j hj g hg
        · intro e4
          apply hc
          subst e4
          dsimp only at hg
          have e5 : i.toNat / 7 = (i / 7).toNat := by omega
          rw [e5, e, hf] at hg
          exact ⟨(Option.some.inj hg).symm, by omega⟩
    · have hgm := same q m0 g (List.mem_of_getElem? hg)
      rw [hwrd g _ hgm.1 hgm.2 (by omega) (by omega), if_neg]
      · exact I.wd q m0 j hj g hg
      · intro hc
        exact hr (by rw [(key q m0 g hg hc).1])
  · obtain ⟨o0, m0, hm⟩ := I.all g ((hused g).1 hg)
    by_cases e : o0.ref = o.ref
    · exact ⟨{ o0 with vs := o0.vs.set i.toNat v }, List.mem_map.2 ⟨o0, m0, if_pos e⟩, hm⟩
    · exact ⟨o0, List.mem_map.2 ⟨o0, m0, if_neg e⟩, hm⟩

/-- A field is written. -/
theorem oput_c (h : Ox w F s om pb ab wb sb count free ws ss clk os last) (agent ref i v : Int) {K : Int → World → Prop}
    (hno : ¬ ((0 ≤ agent ∧ agent < ss.length) ∧ ∃ o ∈ os, o.ref = ref) → ∀ w', (∀ S, Fr S w w') → K 803 w')
    (hbad : ∀ o ∈ os, o.ref = ref → (0 ≤ agent ∧ agent < ss.length) → ¬ (0 ≤ i ∧ i < o.n) → ∀ w', (∀ S, Fr S w w') → K 802 w')
    (hok : ∀ o ∈ os, o.ref = ref → (0 ≤ agent ∧ agent < ss.length) → 0 ≤ i → i < o.n → ∀ w' ws' ss', Ox w' F s om pb ab wb sb count free ws' ss' clk (oput os ref i v) last → Tk (i / 7 + 1) ss ss' → Fr F w w' → K 0 w') :
    C88 (some ⟨s, 0, none⟩) agent ref i v w K := by
  refine r_f88 _ _ _ _ _ _ _ (ofind_c h agent ref i (fun hn w1 f1 => IfB.nno (by decide) (hno hn w1 f1)) (fun o ho e ha hn w1 f1 => IfB.nno (by decide) (hbad o ho e ha hn w1 f1)) (fun o ho e ha h0 h1 w1 ss1 f H1 hf t1 f1 => IfB.nyes rfl ⟨_, H1.hd.cell rfl, ?_⟩))
  have hus := H1.I.us o ho f (List.mem_of_getElem? hf)
  have hag : 0 ≤ agent ∧ agent < ss1.length := by rw [t1.1]; exact ha
  have rg := H1.P.rg
  refine fstore_c H1.P agent f (i % 7) v (fun hn2 => absurd ⟨⟨hag, hus⟩, by omega, by omega⟩ hn2) (fun _ _ _ w2 P2 f2 => ?_)
  have I2 := H1.I.put ⟨by decide, rg.2.2.2.1⟩ ho h0 h1 hf (v := v)
  subst e
  obtain ⟨n1, n2, n3⟩ := H1.ne
  refine hok o ho rfl ha h0 h1 w2 _ _ ⟨P2, H1.hd.fr f2 n2, ?_, I2, n1, n2, n3⟩ (t1.trans (Tk.tick ss1 hag.1 hag.2) (by omega) (by decide)) (f1.more f2)
  rw [oput_map oent (fun _ _ => rfl)]
  exact H1.mi.fr f2 n3
end
end Go.Proofs.Ytfpghcdjfiggiaa.V

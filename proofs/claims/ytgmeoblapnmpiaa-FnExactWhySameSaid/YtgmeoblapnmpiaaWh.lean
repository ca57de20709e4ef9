/- Explanations: how they lie in memory; contracts of what measures, copies and compares them. -/
import Derived.Test.YtgmeoblapnmpiaaTs
namespace Go.Proofs.Ytgmeoblapnmpiaa
set_option maxRecDepth 100000
open Go.RowKit Go.ChangeShapes Go.WideShapes Go.ChangeAt
set_option linter.unusedSimpArgs false
set_option linter.unusedVariables false

/-- an explanation -/
inductive WhyV where
  | mk (rule n : Int) (tn : ByteArray) (tk : List TermV) (kids : List WhyV) : WhyV
def WhyV.rule : WhyV → Int
  | .mk r _ _ _ _ => r
def WhyV.num : WhyV → Int
  | .mk _ n _ _ _ => n
def WhyV.tn : WhyV → ByteArray
  | .mk _ _ s _ _ => s
def WhyV.tk : WhyV → List TermV
  | .mk _ _ _ ks _ => ks
def WhyV.kids : WhyV → List WhyV
  | .mk _ _ _ _ ws => ws
def wy0 : WhyV := .mk 0 0 ⟨#[]⟩ [] []
/-- The five cells of an explanation are there. -/
def WCells (w : World) (b o : Nat) (x : WhyV) (B : Option Addr) (m c : Nat) (A : Option Addr) (n e : Nat) : Prop :=
  w.cell? ⟨b, o, none⟩ = some (.int .i64 x.rule) ∧ w.cell? ⟨b, o + 1, none⟩ = some (.int .i64 x.num) ∧ w.cell? ⟨b, o + 2, none⟩ = some (.string x.tn) ∧ w.cell? ⟨b, o + 3, none⟩ = some (.slice B m c) ∧ w.cell? ⟨b, o + 4, none⟩ = some (.slice A n e)
/-- The slice value '.slice A n c' reads as the explanations ks, deep d at most, terms deep q at most, in blocks from lo on. -/
def Whys (w : World) (lo q : Nat) : Nat → Option Addr → Nat → List WhyV → Prop
  | 0, _, n, ks => n = 0 ∧ ks = []
  | d + 1, A, n, ks => ks.length = n ∧ n ≤ 9223372036854775807 ∧ (0 < n → ∃ b o, A = some ⟨b, o, none⟩ ∧ lo ≤ b ∧ b < w.heap.size ∧ ∀ j, j < n →
      ∃ B m c A' m' c', WCells w b (o + j * 5) (ks.getD j wy0) B m c A' m' c' ∧ Kids w lo q B m (ks.getD j wy0).tk ∧ Whys w lo q d A' m' (ks.getD j wy0).kids ∧ (ks.getD j wy0).tn.size ≤ 9223372036854775807)
theorem Whys.len {w : World} {lo q d : Nat} {A : Option Addr} {n : Nat} {ks : List WhyV} (h : Whys w lo q d A n ks) : ks.length = n := by
  cases d with
  | zero => obtain ⟨rfl, rfl⟩ := h; rfl
  | succ d => exact h.1
theorem Whys.few {w : World} {lo q d : Nat} {A : Option Addr} {n : Nat} {ks : List WhyV} (h : Whys w lo q d A n ks) : n ≤ 9223372036854775807 := by
  cases d with
  | zero => obtain ⟨rfl, rfl⟩ := h; omega
  | succ d => exact h.2.1
theorem Whys.cells {w : World} {lo q d : Nat} {A : Option Addr} {n : Nat} {ks : List WhyV} (h : Whys w lo q d A n ks) (hn : 0 < n) : ∃ d' b o, d = d' + 1 ∧ A = some ⟨b, o, none⟩ ∧ lo ≤ b ∧ b < w.heap.size ∧ ∀ j, j < n →
      ∃ B m c A' m' c', WCells w b (o + j * 5) (ks.getD j wy0) B m c A' m' c' ∧ Kids w lo q B m (ks.getD j wy0).tk ∧ Whys w lo q d' A' m' (ks.getD j wy0).kids ∧ (ks.getD j wy0).tn.size ≤ 9223372036854775807 := by
  cases d with
  | zero => obtain ⟨rfl, rfl⟩ := h; omega
  | succ d =>
    obtain ⟨b, o, h0⟩ := h.2.2 hn
    exact ⟨d, b, o, rfl, h0⟩
theorem Whys.later {w w' : World} {lo q : Nat} (hb : Below w.heap.size w w') : ∀ {d : Nat} {A : Option Addr} {n : Nat} {ks : List WhyV}, Whys w lo q d A n ks → Whys w' lo q d A n ks
  | 0, _, _, _, h => h
  | d + 1, A, n, ks, h => ⟨h.1, h.2.1, fun hn => by
    obtain ⟨b, o, e, hlo, hl, hc⟩ := h.2.2 hn
    refine ⟨b, o, e, hlo, Nat.lt_of_lt_of_le hl hb.size, fun j hj => ?_⟩
    obtain ⟨B, m, c, A', m', c', ⟨g0, g1, g2, g3, g4⟩, h1, h2, h3⟩ := hc j hj
    have hq : ∀ x, w'.cell? ⟨b, x, none⟩ = w.cell? ⟨b, x, none⟩ := fun x => hb.cell (p := ⟨b, x, none⟩) hl
    exact ⟨B, m, c, A', m', c', ⟨(hq _).trans g0, (hq _).trans g1, (hq _).trans g2, (hq _).trans g3, (hq _).trans g4⟩, Kids.later hb h1, Whys.later hb h2, h3⟩⟩
theorem Whys.far {w : World} {lo q : Nat} {p : Addr} (hp : p.block < lo) (v : Value) : ∀ {d : Nat} {A : Option Addr} {n : Nat} {ks : List WhyV}, Whys w lo q d A n ks → Whys (w.setCell p v) lo q d A n ks
  | 0, _, _, _, h => h
  | d + 1, A, n, ks, h => ⟨h.1, h.2.1, fun hn => by
    obtain ⟨b, o, e, hlo, hl, hc⟩ := h.2.2 hn
    refine ⟨b, o, e, hlo, by simpa [World.setCell] using hl, fun j hj => ?_⟩
    obtain ⟨B, m, c, A', m', c', ⟨g0, g1, g2, g3, g4⟩, h1, h2, h3⟩ := hc j hj
    have hne : ∀ o, p ≠ ⟨b, o, none⟩ := fun o e => by rw [e] at hp; dsimp only at hp; omega
    have hq : ∀ x, (w.setCell p v).cell? ⟨b, x, none⟩ = w.cell? ⟨b, x, none⟩ := fun x => World.cell?_setCell_other _ _ _ _ (hne _)
    exact ⟨B, m, c, A', m', c', ⟨(hq _).trans g0, (hq _).trans g1, (hq _).trans g2, (hq _).trans g3, (hq _).trans g4⟩, Kids.far hp v h1, Whys.far hp v h2, h3⟩⟩
theorem Whys.weak {w : World} {lo lo' q : Nat} (hl' : lo' ≤ lo) : ∀ {d : Nat} {A : Option Addr} {n : Nat} {ks : List WhyV}, Whys w lo q d A n ks → Whys w lo' q d A n ks
  | 0, _, _, _, h => h
  | d + 1, A, n, ks, h => ⟨h.1, h.2.1, fun hn => by
    obtain ⟨b, o, e, hlo, hl, hc⟩ := h.2.2 hn
    refine ⟨b, o, e, by omega, hl, fun j hj => ?_⟩
    obtain ⟨B, m, c, A', m', c', hw, h1, h2, h3⟩ := hc j hj
    exact ⟨B, m, c, A', m', c', hw, Kids.weak hl' h1, Whys.weak hl' h2, h3⟩⟩
theorem Whys.deeper {w : World} {lo q : Nat} : ∀ {d : Nat} {A : Option Addr} {n : Nat} {ks : List WhyV}, Whys w lo q d A n ks → Whys w lo q (d + 1) A n ks
  | 0, _, _, _, h => by
    obtain ⟨rfl, rfl⟩ := h
    exact ⟨rfl, by omega, fun h => absurd h (by omega)⟩
  | d + 1, A, n, ks, h => ⟨h.1, h.2.1, fun hn => by
    obtain ⟨b, o, e, hlo, hl, hc⟩ := h.2.2 hn
    refine ⟨b, o, e, hlo, hl, fun j hj => ?_⟩
    obtain ⟨B, m, c, A', m', c', hw, h1, h2, h3⟩ := hc j hj
    exact ⟨B, m, c, A', m', c', hw, h1, Whys.deeper h2, h3⟩⟩
theorem Whys.wide {w : World} {lo q q' : Nat} (hq : q ≤ q') : ∀ {d : Nat} {A : Option Addr} {n : Nat} {ks : List WhyV}, Whys w lo q d A n ks → Whys w lo q' d A n ks
  | 0, _, _, _, h => h
  | d + 1, A, n, ks, h => ⟨h.1, h.2.1, fun hn => by
    obtain ⟨b, o, e, hlo, hl, hc⟩ := h.2.2 hn
    refine ⟨b, o, e, hlo, hl, fun j hj => ?_⟩
    obtain ⟨B, m, c, A', m', c', hw, h1, h2, h3⟩ := hc j hj
    exact ⟨B, m, c, A', m', c', hw, h1.le hq, Whys.wide hq h2, h3⟩⟩
theorem Whys.le {w : World} {d1 d2 : Nat} {A : Option Addr} {n lo q : Nat} {ks : List WhyV} (h : Whys w lo q d1 A n ks) (hd : d1 ≤ d2) : Whys w lo q d2 A n ks := by
  obtain ⟨k, rfl⟩ : ∃ k, d2 = d1 + k := ⟨d2 - d1, by omega⟩
  induction k with
  | zero => exact h
  | succ k ih => exact (ih (by omega)).deeper
/-- the first k together -/
def wsum (f : WhyV → Nat) (ks : List WhyV) : Nat → Nat
  | 0 => 0
  | k + 1 => wsum f ks k + f (ks.getD k wy0)
theorem wsum_mono (f : WhyV → Nat) (ks : List WhyV) : ∀ {j k : Nat}, j ≤ k → wsum f ks j ≤ wsum f ks k
  | j, 0, h => by obtain rfl : j = 0 := by omega
                  exact Nat.le_refl _
  | j, k + 1, h => by
    by_cases e : j = k + 1
    · subst e; exact Nat.le_refl _
    · have := wsum_mono f ks (show j ≤ k by omega)
      simp only [wsum]; omega
theorem wsum_at (f : WhyV → Nat) (ks : List WhyV) {j n : Nat} (h : j < n) : f (ks.getD j wy0) ≤ wsum f ks n := by
  have := wsum_mono f ks (show j + 1 ≤ n by omega)
  simp only [wsum] at this
  omega
/-- how much an explanation takes -/
def wcost (q : Nat) : Nat → WhyV → Nat
  | 0, _ => 0
  | d + 1, t => (t.tn.size + t.tk.length + psum (tcost q) t.tk t.tk.length) + (t.kids.length + wsum (wcost q d) t.kids t.kids.length)
theorem wcost_eq {w : World} {lo lo' q d : Nat} {B A : Option Addr} {m n : Nat} {t : WhyV} (h : Kids w lo q B m t.tk) (h' : Whys w lo' q d A n t.kids) : wcost q (d + 1) t = (t.tn.size + m + psum (tcost q) t.tk m) + (n + wsum (wcost q d) t.kids n) := by
  have e1 := h.len
  have e2 := h'.len
  subst e1 e2; rfl

def SzwCall (q d : Nat) : Prop := ∀ {B A : Option Addr} {m cb n c lo : Nat} {tk : List TermV} {ks : List WhyV} (x y : Int) (s : ByteArray) (left : Int) {w : World}, Kids w lo q B m tk → Whys w lo q d A n ks → s.size ≤ 9223372036854775807 → 0 ≤ left → left ≤ 1048576 →
    Calls Try.prog 26 #[.agg #[.int .i64 x, .int .i64 y, .string s, .slice B m cb, .slice A n c], .int .i64 left] w (SzBack (((s.size + m + psum (tcost q) tk m) + (n + wsum (wcost q d) ks n) : Nat)) left w)
set_option maxHeartbeats 4000000 in
theorem szWhyS_of {q d : Nat} (IH : ∀ d', d = d' + 1 → SzwCall q d') {A : Option Addr} {n c lo : Nat} {ks : List WhyV} (left : Int) {w : World} (h : Whys w lo q d A n ks) (h0 : 0 ≤ left) (h1 : left ≤ 1048576) :
    Calls Try.prog 55 #[.slice A n c, .int .i64 left] w (SzBack ((n + wsum (wcost q d) ks n : Nat)) left w) := by
  have hfew := h.few
  by_cases hle : (n : Int) ≤ left
  · go_enter Try.func55, Try.ntmps55
    go_wp2_with fail
    go_loopw [1, 5] (fun lf i wr => ∃ (k : Nat) (l : Int), k ≤ n ∧ i = .int .i64 k ∧ lf = .int .i64 l ∧ Hid (l = left - n - wsum (wcost q d) ks k) ∧ (0 ≤ l ∧ l ≤ 1048576) ∧ Below w.heap.size w wr) (fun _ i _ => n - (intOf i).toNat)
    case atStart => exact ⟨0, _, by omega, rfl, rfl, Lib.hid (by simp [wsum]), by omega, by (repeat (first | with_reducible exact Below.refl _ _ | with_reducible assumption | (with_reducible refine below_drewN ?_ _) | (with_reducible refine Below.drew ?_) | (with_reducible refine Below.setCell ?_ (by first | omega | (simp; done) | (simp; omega)) _) | (with_reducible refine Below.alloc ?_ (by first | omega | (simp; done) | (simp; omega)) _) | refine Below.trans ?_ (Below.mono (by with_reducible assumption) (by first | omega | (simp; done) | (simp; omega)))))⟩
    case round =>
      obtain ⟨k, l, hk, rfl, rfl, HL, ⟨hl0, hl1⟩, hB⟩ := hrel
      by_cases hlt : k < n
      · obtain ⟨d', p, o, rfl, rfl, hpl, hp, hcs⟩ := (h.later hB).cells (by omega)
        obtain ⟨B, m, cb, E, u, cu, ⟨hc1, hc2, hc3, hc4, hc5⟩, hIk, hWk, hsf⟩ := hcs k hlt
        clear hcs
        have HI : Hid (SzwCall q d') := Lib.hid (IH d' rfl)
        have hls : wsum (wcost q (d' + 1)) ks (k + 1) = wsum (wcost q (d' + 1)) ks k + (((ks.getD k wy0).tn.size + m + psum (tcost q) (ks.getD k wy0).tk m) + (u + wsum (wcost q d') (ks.getD k wy0).kids u)) := by
          rw [← wcost_eq hIk hWk]; rfl
        have HS := Lib.hid hls
        clear hls
        generalize (ks.getD k wy0).rule = x at *
        generalize (ks.getD k wy0).num = y at *
        generalize (ks.getD k wy0).tn = s at *
        generalize (ks.getD k wy0).tk = qs at *
        generalize (ks.getD k wy0).kids = us at *
        go_wp2_with fail
        refine (HI.out x y s l hIk hWk hsf hl0 hl1).mono ?_
        rintro e w1 ⟨r, rfl, hr, hb1⟩
        have hB1 := hB.trans (hb1.mono hB.size)
        clear hb1
        rcases hr with rfl | ⟨hr0, hrE⟩
        · go_wp2
          go_ret
          exact ⟨-1, rfl, .inl rfl, hB1⟩
        · have HE := Lib.hid hrE
          have hr1 : r ≤ 1048576 := by omega
          clear hrE
          go_wp2
          go_roundw
          case rel => exact ⟨k + 1, r, by omega, by go_num, rfl, Lib.hid (by rw [HS.out, HE.out, HL.out]; omega), by omega, hB1⟩
          case measure => simp [intOf]; omega
      · obtain rfl : k = n := by omega
        go_wp2
        go_ret
        exact ⟨l, rfl, .inr ⟨hl0, by rw [HL.out]; omega⟩, hB⟩
  · go_enter Try.func55, Try.ntmps55
    go_wp2
    go_ret
    exact ⟨-1, rfl, .inl rfl, Below.refl _ _⟩
set_option maxHeartbeats 2000000 in
theorem szWhy_of {q d : Nat} (IH : ∀ d', d = d' + 1 → SzwCall q d') : SzwCall q d := by
  intro B A m cb n c lo tk ks x y s left w hK h hs h0 h1
  go_enter Try.func26, Try.ntmps26
  go_wp2_with fail
  refine (szTerm_any q s left (Kids.later (by (repeat (first | with_reducible exact Below.refl _ _ | with_reducible assumption | (with_reducible refine below_drewN ?_ _) | (with_reducible refine Below.drew ?_) | (with_reducible refine Below.setCell ?_ (by first | omega | (simp; done) | (simp; omega)) _) | (with_reducible refine Below.alloc ?_ (by first | omega | (simp; done) | (simp; omega)) _) | refine Below.trans ?_ (Below.mono (by with_reducible assumption) (by first | omega | (simp; done) | (simp; omega)))))) hK) hs h0 h1).mono ?_
  rintro e w1 ⟨r, rfl, hr, hb1⟩
  have hz1 := hb1.size; (try simp at hz1); have hB1 : Below w.heap.size w w1 := (by refine Below.trans ?_ (Below.mono hb1 (by first | omega | (simp; done) | (simp; omega))); (repeat (first | with_reducible exact Below.refl _ _ | with_reducible assumption | (with_reducible refine below_drewN ?_ _) | (with_reducible refine Below.drew ?_) | (with_reducible refine Below.setCell ?_ (by first | omega | (simp; done) | (simp; omega)) _) | (with_reducible refine Below.alloc ?_ (by first | omega | (simp; done) | (simp; omega)) _) | refine Below.trans ?_ (Below.mono (by with_reducible assumption) (by first | omega | (simp; done) | (simp; omega)))))); obtain ⟨kc_, fc_, lc_⟩ := keep_later (a := ⟨w.heap.size, 4, none⟩) (v := .slice A n c) hb1 (by go_simp) (by go_simp)
  clear hb1
  rcases hr with rfl | ⟨hr0, hrE⟩
  · go_wp2
    go_ret
    exact ⟨-1, rfl, .inl rfl, by (repeat (first | with_reducible exact Below.refl _ _ | with_reducible assumption | (with_reducible refine below_drewN ?_ _) | (with_reducible refine Below.drew ?_) | (with_reducible refine Below.setCell ?_ (by first | omega | (simp; done) | (simp; omega)) _) | (with_reducible refine Below.alloc ?_ (by first | omega | (simp; done) | (simp; omega)) _) | refine Below.trans ?_ (Below.mono (by with_reducible assumption) (by first | omega | (simp; done) | (simp; omega)))))⟩
  have HE := Lib.hid hrE
  have hr1 : r ≤ 1048576 := by omega
  clear hrE
  go_wp2_with fail
  refine (szWhyS_of IH r (Whys.later (by (repeat (first | with_reducible exact Below.refl _ _ | with_reducible assumption | (with_reducible refine below_drewN ?_ _) | (with_reducible refine Below.drew ?_) | (with_reducible refine Below.setCell ?_ (by first | omega | (simp; done) | (simp; omega)) _) | (with_reducible refine Below.alloc ?_ (by first | omega | (simp; done) | (simp; omega)) _) | refine Below.trans ?_ (Below.mono (by with_reducible assumption) (by first | omega | (simp; done) | (simp; omega)))))) h) hr0 hr1).mono ?_
  rintro e w2 ⟨r2, rfl, hr2, hb1⟩
  have hz1 := hb1.size; (try simp at hz1); have hB1 : Below w.heap.size w w2 := (by refine Below.trans ?_ (Below.mono hb1 (by first | omega | (simp; done) | (simp; omega))); (repeat (first | with_reducible exact Below.refl _ _ | with_reducible assumption | (with_reducible refine below_drewN ?_ _) | (with_reducible refine Below.drew ?_) | (with_reducible refine Below.setCell ?_ (by first | omega | (simp; done) | (simp; omega)) _) | (with_reducible refine Below.alloc ?_ (by first | omega | (simp; done) | (simp; omega)) _) | refine Below.trans ?_ (Below.mono (by with_reducible assumption) (by first | omega | (simp; done) | (simp; omega))))))
  clear hb1
  rcases hr2 with rfl | ⟨hr20, hrE2⟩
  · go_wp2
    go_ret
    exact ⟨-1, rfl, .inl rfl, by (repeat (first | with_reducible exact Below.refl _ _ | with_reducible assumption | (with_reducible refine below_drewN ?_ _) | (with_reducible refine Below.drew ?_) | (with_reducible refine Below.setCell ?_ (by first | omega | (simp; done) | (simp; omega)) _) | (with_reducible refine Below.alloc ?_ (by first | omega | (simp; done) | (simp; omega)) _) | refine Below.trans ?_ (Below.mono (by with_reducible assumption) (by first | omega | (simp; done) | (simp; omega)))))⟩
  have HE2 := Lib.hid hrE2
  have hr21 : r2 ≤ 1048576 := by omega
  clear hrE2
  go_wp2
  go_ret
  exact ⟨r2, rfl, .inr ⟨hr20, by rw [HE2.out, HE.out]; omega⟩, by (repeat (first | with_reducible exact Below.refl _ _ | with_reducible assumption | (with_reducible refine below_drewN ?_ _) | (with_reducible refine Below.drew ?_) | (with_reducible refine Below.setCell ?_ (by first | omega | (simp; done) | (simp; omega)) _) | (with_reducible refine Below.alloc ?_ (by first | omega | (simp; done) | (simp; omega)) _) | refine Below.trans ?_ (Below.mono (by with_reducible assumption) (by first | omega | (simp; done) | (simp; omega)))))⟩
theorem szWhy_any (q : Nat) : ∀ d, SzwCall q d
  | 0 => szWhy_of (fun d' e => by omega)
  | d + 1 => szWhy_of (fun d' e => by obtain rfl : d = d' := by omega
                                      exact szWhy_any q d)
theorem why_info : (Try.prog.info? 58).map (fun i => (i.zero, i.size, i.bytes)) = some (some (.agg #[.int .i64 0, .int .i64 0, .string ⟨#[]⟩, .slice none 0 0, .slice none 0 0]), 5, 80) := by kernel_rfl
/-- The first k fives of cells are the explanations; all else of them lies above block R. -/
def FillW (w : World) (R q d : Nat) (zs : List Value) (ks : List WhyV) (k : Nat) : Prop := ∀ j, j < k → ∃ d' B m c A n e, d = d' + 1 ∧ Kids w (R + 1) q B m (ks.getD j wy0).tk ∧ Whys w (R + 1) q d' A n (ks.getD j wy0).kids ∧ (ks.getD j wy0).tn.size ≤ 9223372036854775807 ∧
  zs[j * 5]? = some (.int .i64 (ks.getD j wy0).rule) ∧ zs[j * 5 + 1]? = some (.int .i64 (ks.getD j wy0).num) ∧ zs[j * 5 + 2]? = some (.string (ks.getD j wy0).tn) ∧ zs[j * 5 + 3]? = some (.slice B m c) ∧ zs[j * 5 + 4]? = some (.slice A n e)
theorem FillW.zero (w : World) (R q d : Nat) (zs : List Value) (ks : List WhyV) : FillW w R q d zs ks 0 := fun _ h => absurd h (by omega)
theorem FillW.later {w w' : World} {R q d : Nat} {zs : List Value} {ks : List WhyV} {k : Nat} (h : FillW w R q d zs ks k) (hb : Below w.heap.size w w') : FillW w' R q d zs ks k := fun j hj => by
  obtain ⟨d', B, m, c, A, n, e, ed, hK, hI, h0⟩ := h j hj
  exact ⟨d', B, m, c, A, n, e, ed, Kids.later hb hK, hI.later hb, h0⟩
theorem FillW.far {w : World} {R q d : Nat} {zs : List Value} {ks : List WhyV} {k : Nat} (h : FillW w R q d zs ks k) (o : Nat) (v : Value) : FillW (w.setCell ⟨R, o, none⟩ v) R q d zs ks k := fun j hj => by
  obtain ⟨d', B, m, c, A, n, e, ed, hK, hI, h0⟩ := h j hj
  exact ⟨d', B, m, c, A, n, e, ed, Kids.far (by show R < R + 1; omega) v hK, Whys.far (by show R < R + 1; omega) v hI, h0⟩
def set5 (zs : List Value) (k : Nat) (v0 v1 v2 v3 v4 : Value) : List Value := ((((zs.set (k * 5) v0).set (k * 5 + 1) v1).set (k * 5 + 2) v2).set (k * 5 + 3) v3).set (k * 5 + 4) v4
theorem set5_len (zs : List Value) (k : Nat) (v0 v1 v2 v3 v4 : Value) : (set5 zs k v0 v1 v2 v3 v4).length = zs.length := by simp [set5]
theorem set5_ne {zs : List Value} {k i : Nat} {v0 v1 v2 v3 v4 : Value} (h : i < k * 5 ∨ k * 5 + 4 < i) : (set5 zs k v0 v1 v2 v3 v4)[i]? = zs[i]? := by
  unfold set5
  rw [List.getElem?_set_ne (by omega), List.getElem?_set_ne (by omega), List.getElem?_set_ne (by omega), List.getElem?_set_ne (by omega), List.getElem?_set_ne (by omega)]
theorem set5_at {zs : List Value} {k : Nat} {v0 v1 v2 v3 v4 : Value} (h : k * 5 + 4 < zs.length) :
    (set5 zs k v0 v1 v2 v3 v4)[k * 5]? = some v0 ∧ (set5 zs k v0 v1 v2 v3 v4)[k * 5 + 1]? = some v1 ∧ (set5 zs k v0 v1 v2 v3 v4)[k * 5 + 2]? = some v2 ∧ (set5 zs k v0 v1 v2 v3 v4)[k * 5 + 3]? = some v3 ∧ (set5 zs k v0 v1 v2 v3 v4)[k * 5 + 4]? = some v4 := by
  unfold set5
  refine ⟨?_, ?_, ?_, ?_, ?_⟩
  · rw [List.getElem?_set_ne (by omega), List.getElem?_set_ne (by omega), List.getElem?_set_ne (by omega), List.getElem?_set_ne (by omega), List.getElem?_set_self (by omega)]
  · rw [List.getElem?_set_ne (by omega), List.getElem?_set_ne (by omega), List.getElem?_set_ne (by omega), List.getElem?_set_self (by simp; omega)]
  · rw [List.getElem?_set_ne (by omega), List.getElem?_set_ne (by omega), List.getElem?_set_self (by simp; omega)]
  · rw [List.getElem?_set_ne (by omega), List.getElem?_set_self (by simp; omega)]
  · rw [List.getElem?_set_self (by simp; omega)]
theorem FillW.set {w : World} {R q d : Nat} {zs : List Value} {ks : List WhyV} {k m c n e : Nat} {B A : Option Addr} (h : FillW w R q (d + 1) zs ks k) (hk : k * 5 + 4 < zs.length) (hK : Kids w (R + 1) q B m (ks.getD k wy0).tk) (hI : Whys w (R + 1) q d A n (ks.getD k wy0).kids) (hs : (ks.getD k wy0).tn.size ≤ 9223372036854775807) :
    FillW w R q (d + 1) (set5 zs k (.int .i64 (ks.getD k wy0).rule) (.int .i64 (ks.getD k wy0).num) (.string (ks.getD k wy0).tn) (.slice B m c) (.slice A n e)) ks (k + 1) := fun j hj => by
  by_cases ej : j = k
  · subst ej
    exact ⟨d, B, m, c, A, n, e, rfl, hK, hI, hs, set5_at hk⟩
  · obtain ⟨d', B', m', c', A', n', e', ed, hK', hI', hs', h0, h1, h2, h3, h4⟩ := h j (by omega)
    refine ⟨d', B', m', c', A', n', e', ed, hK', hI', hs', ?_, ?_, ?_, ?_, ?_⟩ <;> rw [set5_ne (by omega)] <;> assumption
theorem Whys.of_own {w : World} {lo0 lo q : Nat} {A : Option Addr} {base R d n c : Nat} {t : TypeId} {zs : List Value} {ks : List WhyV} {w0 : World} (h0 : Whys w0 lo0 q d A n ks) (h : w.ownsRow base t 5 (.slice (some ⟨R, 0, none⟩) n c) n zs) (hf : FillW w R q d zs ks n) (hlo : lo ≤ R) : Whys w lo q d (some ⟨R, 0, none⟩) n ks := by
  have hl := h0.len
  have hfw := h0.few
  cases d with
  | zero => exact h0
  | succ d =>
    refine ⟨hl, hfw, fun _ => ⟨R, 0, rfl, hlo, (h.lt R rfl).2, fun j hj => ?_⟩⟩
    obtain ⟨d', B, m, c, A', m', c', ed, hK, hI', hs', e0, e1, e2, e3, e4⟩ := hf j hj
    obtain rfl : d = d' := by omega
    rw [Nat.zero_add]
    exact ⟨B, m, c, A', m', c', ⟨by rw [h.cellAt _ (by omega)]; exact e0, by rw [h.cellAt _ (by omega)]; exact e1, by rw [h.cellAt _ (by omega)]; exact e2, by rw [h.cellAt _ (by omega)]; exact e3, by rw [h.cellAt _ (by omega)]; exact e4⟩, hK.weak (by omega), hI'.weak (by omega), hs'⟩

def TowCall (q d : Nat) : Prop := ∀ {B A : Option Addr} {m cb n c lo : Nat} {tk : List TermV} {ks : List WhyV} (x y : Int) (s : ByteArray) {w : World}, Kids w lo q B m tk → Whys w lo q d A n ks → (s.size + m + psum (tcost q) tk m) + (n + wsum (wcost q d) ks n) ≤ 1048576 →
    Calls Try.prog 28 #[.agg #[.int .i64 x, .int .i64 y, .string s, .slice B m cb, .slice A n c]] w fun e w' => ∃ g g', e = .returned (.agg #[.int .i64 x, .int .i64 y, .string s, .slice (some ⟨g, 0, none⟩) m m, .slice (some ⟨g', 0, none⟩) n n]) ∧ Kids w' w.heap.size q (some ⟨g, 0, none⟩) m tk ∧ Whys w' w.heap.size q d (some ⟨g', 0, none⟩) n ks ∧ Below w.heap.size w w'
set_option maxHeartbeats 8000000 in
theorem toWhyS_of {q d : Nat} (IH : ∀ d', d = d' + 1 → TowCall q d') {A : Option Addr} {n c lo : Nat} {ks : List WhyV} {w : World} (h : Whys w lo q d A n ks) (hm : n + wsum (wcost q d) ks n ≤ 1048576) :
    Calls Try.prog 56 #[.slice A n c] w fun e w' => e = .returned (.slice (some ⟨w.heap.size, 0, none⟩) n n) ∧ Whys w' w.heap.size q d (some ⟨w.heap.size, 0, none⟩) n ks ∧ Below w.heap.size w w' := by
  obtain ⟨i0, hi, hz0, hz1, hz2⟩ := info_parts why_info
  obtain ⟨w1, hrun, hown, hgrow⟩ := run_make_full (P := Try.prog) w w.heap.size 56 58 i0 (.agg #[.int .i64 0, .int .i64 0, .string ⟨#[]⟩, .slice none 0 0, .slice none 0 0]) 5 Try.underlying56 hi hz0 hz1 .i64 .i64 n (by rw [hz2]; omega) (by unfold maxLen; omega) (Nat.le_refl _)
  have hB : Below w.heap.size w w1 := (Below.refl _ _).grown hgrow (Nat.le_refl _) (fun k hk => by cases hk)
  clear hgrow
  go_enter Try.func56, Try.ntmps56
  go_wp2
  clear hrun
  go_loopw [4] (fun i wr => ∃ (k : Nat) (zs : List Value), k ≤ n ∧ i = .int .i64 k ∧ wr.ownsRow w.heap.size 58 5 (.slice (some ⟨w.heap.size, 0, none⟩) n n) n zs ∧ FillW wr w.heap.size q d zs ks k ∧ Below w.heap.size w wr) (fun i _ => n - (intOf i).toNat)
  case atStart => exact ⟨0, _, by omega, rfl, hown, FillW.zero _ _ _ _ _ ks, hB⟩
  case round =>
    clear hown hB
    obtain ⟨k, zs, hk, rfl, hown, hfill, hB⟩ := hrel
    by_cases hlt : k < n
    · have hlen0 := h.len
      obtain ⟨d', p, o, rfl, rfl, hpl, hp, hcs⟩ := (h.later hB).cells (by omega)
      obtain ⟨B, m, cb, E, u, cu, ⟨hc1, hc2, hc3, hc4, hc5⟩, hIk, hWk, hsf⟩ := hcs k hlt
      clear hcs
      have HI : Hid (TowCall q d') := Lib.hid (IH d' rfl)
      have hcost := wsum_at (wcost q (d' + 1)) ks hlt
      rw [wcost_eq hIk hWk] at hcost
      have hmm : ((ks.getD k wy0).tn.size + m + psum (tcost q) (ks.getD k wy0).tk m) + (u + wsum (wcost q d') (ks.getD k wy0).kids u) ≤ 1048576 := by omega
      have hzl : k * 5 + 4 < zs.length := by have := hown.1; omega
      have hgw := (hown.lt _ rfl).2
      clear hcost
      generalize hx1 : (ks.getD k wy0).rule = x at *
      generalize hx2 : (ks.getD k wy0).num = y at *
      generalize hx3 : (ks.getD k wy0).tn = s at *
      generalize hx4 : (ks.getD k wy0).tk = qs at *
      generalize hx5 : (ks.getD k wy0).kids = us at *
      go_wp2_with fail
      refine (HI.out x y s hIk hWk hmm).mono ?_
      rintro e w2 ⟨g, g', rfl, hK2, hI2, hb1⟩
      have hown2 : w2.ownsRow w.heap.size 58 5 (.slice (some ⟨w.heap.size, 0, none⟩) n n) n zs := hown.kept (row := none) ⟨hb1.os, hb1.tape, hb1.output, hb1.size, fun i hi _ => hb1.block i hi⟩ (.inr (by simp [Value.ownBlock]))
      have hfill2 := hfill.later hb1
      have hB2 : Below w.heap.size w w2 := hB.trans (hb1.mono hB.size)
      have hs2 := hb1.size
      clear hb1 hown hB hfill
      have hd1 := hown2.cellAt (k * 5) (by omega)
      have hd2 := hown2.cellAt (k * 5 + 1) (by omega)
      have hd3 := hown2.cellAt (k * 5 + 2) (by omega)
      have hd4 := hown2.cellAt (k * 5 + 3) (by omega)
      have hd5 := hown2.cellAt (k * 5 + 4) (by omega)
      rw [List.getElem?_eq_getElem (show k * 5 < zs.length by omega)] at hd1
      rw [List.getElem?_eq_getElem (show k * 5 + 1 < zs.length by omega)] at hd2
      rw [List.getElem?_eq_getElem (show k * 5 + 2 < zs.length by omega)] at hd3
      rw [List.getElem?_eq_getElem (show k * 5 + 3 < zs.length by omega)] at hd4
      rw [List.getElem?_eq_getElem hzl] at hd5
      have hf1 := hown2.frozenAt (k * 5)
      have hf2 := hown2.frozenAt (k * 5 + 1)
      have hf3 := hown2.frozenAt (k * 5 + 2)
      have hf4 := hown2.frozenAt (k * 5 + 3)
      have hf5 := hown2.frozenAt (k * 5 + 4)
      have hst1 := hown2.stored (k * 5) (.int .i64 x)
      have hst2 := hst1.1.stored (k * 5 + 1) (.int .i64 y)
      have hst3 := hst2.1.stored (k * 5 + 2) (.string s)
      have hst4 := hst3.1.stored (k * 5 + 3) (.slice (some ⟨g, 0, none⟩) m m)
      have hst5 := hst4.1.stored (k * 5 + 4) (.slice (some ⟨g', 0, none⟩) u u)
      have hfill' := ((((((hfill2.set (c := m) (e := u) hzl (by rw [hx4]; exact hK2.weak (by omega)) (by rw [hx5]; exact hI2.weak (by omega)) (by rw [hx3]; exact hsf)).far (k * 5) (.int .i64 x)).far (k * 5 + 1) (.int .i64 y)).far (k * 5 + 2) (.string s)).far (k * 5 + 3) (.slice (some ⟨g, 0, none⟩) m m)).far (k * 5 + 4) (.slice (some ⟨g', 0, none⟩) u u))
      rw [hx1, hx2, hx3] at hfill'
      have HB : Below w.heap.size w (((((w2.setCell ⟨w.heap.size, k * 5, none⟩ (.int .i64 x)).setCell ⟨w.heap.size, k * 5 + 1, none⟩ (.int .i64 y)).setCell ⟨w.heap.size, k * 5 + 2, none⟩ (.string s)).setCell ⟨w.heap.size, k * 5 + 3, none⟩ (.slice (some ⟨g, 0, none⟩) m m)).setCell ⟨w.heap.size, k * 5 + 4, none⟩ (.slice (some ⟨g', 0, none⟩) u u)) := by (repeat (first | with_reducible exact Below.refl _ _ | with_reducible assumption | (with_reducible refine below_drewN ?_ _) | (with_reducible refine Below.drew ?_) | (with_reducible refine Below.setCell ?_ (by first | omega | (simp; done) | (simp; omega)) _) | (with_reducible refine Below.alloc ?_ (by first | omega | (simp; done) | (simp; omega)) _) | refine Below.trans ?_ (Below.mono (by with_reducible assumption) (by first | omega | (simp; done) | (simp; omega)))))
      have HS := Lib.hid (And.intro hst5.1 (And.intro hfill' HB))
      clear hst1 hst2 hst3 hst4 hst5 hfill' hown2 hfill2 HB
      generalize zs[k * 5] = z1 at hd1
      generalize zs[k * 5 + 1] = z2 at hd2
      generalize zs[k * 5 + 2] = z3 at hd3
      generalize zs[k * 5 + 3] = z4 at hd4
      generalize zs[k * 5 + 4] = z5 at hd5
      go_wp2
      go_roundw
      case rel => exact ⟨k + 1, _, by omega, by go_num, HS.out.1, HS.out.2.1, HS.out.2.2⟩
      case measure => simp [intOf]; omega
    · obtain rfl : k = n := by omega
      go_wp2
      go_ret
      exact ⟨rfl, Whys.of_own h hown hfill (Nat.le_refl _), hB⟩
set_option maxHeartbeats 8000000 in
theorem toWhy_of {q d : Nat} (IH : ∀ d', d = d' + 1 → TowCall q d') : TowCall q d := by
  intro B A m cb n c lo tk ks x y s w hK h hm
  go_enter Try.func28, Try.ntmps28
  go_wp2_with fail
  refine (toTerm_any q s (Kids.later (by (repeat (first | with_reducible exact Below.refl _ _ | with_reducible assumption | (with_reducible refine below_drewN ?_ _) | (with_reducible refine Below.drew ?_) | (with_reducible refine Below.setCell ?_ (by first | omega | (simp; done) | (simp; omega)) _) | (with_reducible refine Below.alloc ?_ (by first | omega | (simp; done) | (simp; omega)) _) | refine Below.trans ?_ (Below.mono (by with_reducible assumption) (by first | omega | (simp; done) | (simp; omega)))))) hK) (by omega) (by omega)).mono ?_
  rintro e w1 ⟨g, rfl, hI, hb1⟩
  have HI1 : Hid (Kids w1 (w.heap.size + 1 + 1 + 1) q (some ⟨g, 0, none⟩) m tk) := Lib.hid (by simpa using hI)
  clear hI
  have hz1 := hb1.size; (try simp at hz1); have hB1 : Below w.heap.size w w1 := (by refine Below.trans ?_ (Below.mono hb1 (by first | omega | (simp; done) | (simp; omega))); (repeat (first | with_reducible exact Below.refl _ _ | with_reducible assumption | (with_reducible refine below_drewN ?_ _) | (with_reducible refine Below.drew ?_) | (with_reducible refine Below.setCell ?_ (by first | omega | (simp; done) | (simp; omega)) _) | (with_reducible refine Below.alloc ?_ (by first | omega | (simp; done) | (simp; omega)) _) | refine Below.trans ?_ (Below.mono (by with_reducible assumption) (by first | omega | (simp; done) | (simp; omega)))))); obtain ⟨kc_, fc_, lc_⟩ := keep_later (a := ⟨w.heap.size, 0, none⟩) (v := .int .i64 x) hb1 (by go_simp) (by go_simp); obtain ⟨kc_, fc_, lc_⟩ := keep_later (a := ⟨w.heap.size, 1, none⟩) (v := .int .i64 y) hb1 (by go_simp) (by go_simp); obtain ⟨kc_, fc_, lc_⟩ := keep_later (a := ⟨w.heap.size, 2, none⟩) (v := .string s) hb1 (by go_simp) (by go_simp); obtain ⟨kc_, fc_, lc_⟩ := keep_later (a := ⟨w.heap.size, 3, none⟩) (v := .slice B m cb) hb1 (by go_simp) (by go_simp); obtain ⟨kc_, fc_, lc_⟩ := keep_later (a := ⟨w.heap.size, 4, none⟩) (v := .slice A n c) hb1 (by go_simp) (by go_simp); obtain ⟨kc_, fc_, lc_⟩ := keep_later (a := ⟨w.heap.size+1, 0, none⟩) (v := .int .i64 0) hb1 (by go_simp) (by go_simp); obtain ⟨kc_, fc_, lc_⟩ := keep_later (a := ⟨w.heap.size+1, 1, none⟩) (v := .int .i64 0) hb1 (by go_simp) (by go_simp); obtain ⟨kc_, fc_, lc_⟩ := keep_later (a := ⟨w.heap.size+1, 2, none⟩) (v := .string ⟨#[]⟩) hb1 (by go_simp) (by go_simp); obtain ⟨kc_, fc_, lc_⟩ := keep_later (a := ⟨w.heap.size+1, 3, none⟩) (v := .slice none 0 0) hb1 (by go_simp) (by go_simp); obtain ⟨kc_, fc_, lc_⟩ := keep_later (a := ⟨w.heap.size+1, 4, none⟩) (v := .slice none 0 0) hb1 (by go_simp) (by go_simp); obtain ⟨kc_, fc_, lc_⟩ := keep_later (a := ⟨w.heap.size+1+1, 0, none⟩) (v := .int .i64 x) hb1 (by go_simp) (by go_simp); obtain ⟨kc_, fc_, lc_⟩ := keep_later (a := ⟨w.heap.size+1+1, 1, none⟩) (v := .int .i64 y) hb1 (by go_simp) (by go_simp); obtain ⟨kc_, fc_, lc_⟩ := keep_later (a := ⟨w.heap.size+1+1, 2, none⟩) (v := .string ⟨#[]⟩) hb1 (by go_simp) (by go_simp); obtain ⟨kc_, fc_, lc_⟩ := keep_later (a := ⟨w.heap.size+1+1, 3, none⟩) (v := .slice none 0 0) hb1 (by go_simp) (by go_simp); obtain ⟨kc_, fc_, lc_⟩ := keep_later (a := ⟨w.heap.size+1+1, 4, none⟩) (v := .slice none 0 0) hb1 (by go_simp) (by go_simp)
  clear hb1
  go_wp2_with fail
  refine (toWhyS_of IH (Whys.later (by (repeat (first | with_reducible exact Below.refl _ _ | with_reducible assumption | (with_reducible refine below_drewN ?_ _) | (with_reducible refine Below.drew ?_) | (with_reducible refine Below.setCell ?_ (by first | omega | (simp; done) | (simp; omega)) _) | (with_reducible refine Below.alloc ?_ (by first | omega | (simp; done) | (simp; omega)) _) | refine Below.trans ?_ (Below.mono (by with_reducible assumption) (by first | omega | (simp; done) | (simp; omega)))))) h) (by omega)).mono ?_
  rintro e w2 ⟨rfl, hW, hb1⟩
  have HI2 : Hid (Kids w2 (w.heap.size + 1 + 1 + 1) q (some ⟨g, 0, none⟩) m tk) := Lib.hid (Kids.later hb1 (by (repeat (first | exact HI1.out | refine Kids.far (by dsimp only; omega) _ ?_))))
  have HW : Hid (Whys w2 (w.heap.size + 1 + 1 + 1) q d (some ⟨w1.heap.size, 0, none⟩) n ks) := Lib.hid (Whys.weak (lo := w1.heap.size) (by omega) (by simpa using hW))
  clear hW HI1
  have hz1 := hb1.size; (try simp at hz1); have hB1 : Below w.heap.size w w2 := (by refine Below.trans ?_ (Below.mono hb1 (by first | omega | (simp; done) | (simp; omega))); (repeat (first | with_reducible exact Below.refl _ _ | with_reducible assumption | (with_reducible refine below_drewN ?_ _) | (with_reducible refine Below.drew ?_) | (with_reducible refine Below.setCell ?_ (by first | omega | (simp; done) | (simp; omega)) _) | (with_reducible refine Below.alloc ?_ (by first | omega | (simp; done) | (simp; omega)) _) | refine Below.trans ?_ (Below.mono (by with_reducible assumption) (by first | omega | (simp; done) | (simp; omega)))))); obtain ⟨kc_, fc_, lc_⟩ := keep_later (a := ⟨w.heap.size+1, 0, none⟩) (v := .int .i64 0) hb1 (by go_simp) (by go_simp); obtain ⟨kc_, fc_, lc_⟩ := keep_later (a := ⟨w.heap.size+1, 1, none⟩) (v := .int .i64 0) hb1 (by go_simp) (by go_simp); obtain ⟨kc_, fc_, lc_⟩ := keep_later (a := ⟨w.heap.size+1, 2, none⟩) (v := .string ⟨#[]⟩) hb1 (by go_simp) (by go_simp); obtain ⟨kc_, fc_, lc_⟩ := keep_later (a := ⟨w.heap.size+1, 3, none⟩) (v := .slice none 0 0) hb1 (by go_simp) (by go_simp); obtain ⟨kc_, fc_, lc_⟩ := keep_later (a := ⟨w.heap.size+1, 4, none⟩) (v := .slice none 0 0) hb1 (by go_simp) (by go_simp); obtain ⟨kc_, fc_, lc_⟩ := keep_later (a := ⟨w.heap.size+1+1, 0, none⟩) (v := .int .i64 x) hb1 (by go_simp) (by go_simp); obtain ⟨kc_, fc_, lc_⟩ := keep_later (a := ⟨w.heap.size+1+1, 1, none⟩) (v := .int .i64 y) hb1 (by go_simp) (by go_simp); obtain ⟨kc_, fc_, lc_⟩ := keep_later (a := ⟨w.heap.size+1+1, 2, none⟩) (v := .string s) hb1 (by go_simp) (by go_simp); obtain ⟨kc_, fc_, lc_⟩ := keep_later (a := ⟨w.heap.size+1+1, 3, none⟩) (v := .slice (some ⟨g, 0, none⟩) m m) hb1 (by go_simp) (by go_simp); obtain ⟨kc_, fc_, lc_⟩ := keep_later (a := ⟨w.heap.size+1+1, 4, none⟩) (v := .slice none 0 0) hb1 (by go_simp) (by go_simp)
  clear hb1
  go_wp2
  refine bodyPost_ret (v := .agg #[.int .i64 x, .int .i64 y, .string s, .slice (some ⟨g, 0, none⟩) m m, .slice (some ⟨w1.heap.size, 0, none⟩) n n]) (by simp only [results, Try.results28]; go_simp) rfl ⟨g, w1.heap.size, rfl, ?_, ?_, ?_⟩
  · refine Kids.weak (lo := w.heap.size + 1 + 1 + 1) (by omega) ?_
    (repeat (first | exact HI2.out | refine Kids.far (by dsimp only; omega) _ ?_))
  · refine Whys.weak (lo := w.heap.size + 1 + 1 + 1) (by omega) ?_
    (repeat (first | exact HW.out | refine Whys.far (by dsimp only; omega) _ ?_))
  · (repeat (first | with_reducible exact Below.refl _ _ | with_reducible assumption | (with_reducible refine below_drewN ?_ _) | (with_reducible refine Below.drew ?_) | (with_reducible refine Below.setCell ?_ (by first | omega | (simp; done) | (simp; omega)) _) | (with_reducible refine Below.alloc ?_ (by first | omega | (simp; done) | (simp; omega)) _) | refine Below.trans ?_ (Below.mono (by with_reducible assumption) (by first | omega | (simp; done) | (simp; omega)))))
theorem toWhy_any (q : Nat) : ∀ d, TowCall q d
  | 0 => toWhy_of (fun d' e => by omega)
  | d + 1 => toWhy_of (fun d' e => by obtain rfl : d = d' := by omega
                                      exact toWhy_any q d)
end Go.Proofs.Ytgmeoblapnmpiaa

/- Terms: how they lie in memory; contracts of what measures, copies and compares them. -/
import Derived.Test.YtgmeoblapnmpiaaD
import Derived.WalkLawsBesides
namespace Go.Proofs.Ytgmeoblapnmpiaa
set_option maxRecDepth 100000
open Go.RowKit Go.ChangeShapes Go.WideShapes Go.ChangeAt
set_option linter.unusedSimpArgs false
set_option linter.unusedVariables false

/-- a word of terms -/
inductive TermV where
  | mk (name : ByteArray) (kids : List TermV) : TermV
def TermV.name : TermV → ByteArray
  | .mk s _ => s
def TermV.kids : TermV → List TermV
  | .mk _ ks => ks
def tm0 : TermV := .mk ⟨#[]⟩ []
/-- The slice value '.slice A n c' reads as the terms ks, deep d at most, in blocks from lo on. -/
def Kids (w : World) (lo : Nat) : Nat → Option Addr → Nat → List TermV → Prop
  | 0, _, n, ks => n = 0 ∧ ks = []
  | d + 1, A, n, ks => ks.length = n ∧ n ≤ 9223372036854775807 ∧ (0 < n → ∃ b o, A = some ⟨b, o, none⟩ ∧ lo ≤ b ∧ b < w.heap.size ∧ ∀ j, j < n →
      ∃ A' m' c', w.cell? ⟨b, o + j * 2, none⟩ = some (.string (ks.getD j tm0).name) ∧ w.cell? ⟨b, o + j * 2 + 1, none⟩ = some (.slice A' m' c') ∧ Kids w lo d A' m' (ks.getD j tm0).kids ∧ (ks.getD j tm0).name.size ≤ 9223372036854775807)
theorem Kids.len {w : World} {lo d : Nat} {A : Option Addr} {n : Nat} {ks : List TermV} (h : Kids w lo d A n ks) : ks.length = n := by
  cases d with
  | zero => obtain ⟨rfl, rfl⟩ := h; rfl
  | succ d => exact h.1
theorem Kids.few {w : World} {lo d : Nat} {A : Option Addr} {n : Nat} {ks : List TermV} (h : Kids w lo d A n ks) : n ≤ 9223372036854775807 := by
  cases d with
  | zero => obtain ⟨rfl, rfl⟩ := h; omega
  | succ d => exact h.2.1
theorem Kids.cells {w : World} {lo d : Nat} {A : Option Addr} {n : Nat} {ks : List TermV} (h : Kids w lo d A n ks) (hn : 0 < n) : ∃ d' b o, d = d' + 1 ∧ A = some ⟨b, o, none⟩ ∧ lo ≤ b ∧ b < w.heap.size ∧ ∀ j, j < n →
      ∃ A' m' c', w.cell? ⟨b, o + j * 2, none⟩ = some (.string (ks.getD j tm0).name) ∧ w.cell? ⟨b, o + j * 2 + 1, none⟩ = some (.slice A' m' c') ∧ Kids w lo d' A' m' (ks.getD j tm0).kids ∧ (ks.getD j tm0).name.size ≤ 9223372036854775807 := by
  cases d with
  | zero => obtain ⟨rfl, rfl⟩ := h; omega
  | succ d =>
    obtain ⟨b, o, h0⟩ := h.2.2 hn
    exact ⟨d, b, o, rfl, h0⟩
theorem Kids.later {w w' : World} {lo : Nat} (hb : Below w.heap.size w w') : ∀ {d : Nat} {A : Option Addr} {n : Nat} {ks : List TermV}, Kids w lo d A n ks → Kids w' lo d A n ks
  | 0, _, _, _, h => h
  | d + 1, A, n, ks, h => ⟨h.1, h.2.1, fun hn => by
    obtain ⟨b, o, e, hlo, hl, hc⟩ := h.2.2 hn
    refine ⟨b, o, e, hlo, Nat.lt_of_lt_of_le hl hb.size, fun j hj => ?_⟩
    obtain ⟨A', m', c', h0, h1, h2, h3⟩ := hc j hj
    exact ⟨A', m', c', (hb.cell (p := ⟨b, o + j * 2, none⟩) hl).trans h0, (hb.cell (p := ⟨b, o + j * 2 + 1, none⟩) hl).trans h1, Kids.later hb h2, h3⟩⟩
theorem Kids.far {w : World} {lo : Nat} {p : Addr} (hp : p.block < lo) (v : Value) : ∀ {d : Nat} {A : Option Addr} {n : Nat} {ks : List TermV}, Kids w lo d A n ks → Kids (w.setCell p v) lo d A n ks
  | 0, _, _, _, h => h
  | d + 1, A, n, ks, h => ⟨h.1, h.2.1, fun hn => by
    obtain ⟨b, o, e, hlo, hl, hc⟩ := h.2.2 hn
    refine ⟨b, o, e, hlo, by simpa [World.setCell] using hl, fun j hj => ?_⟩
    obtain ⟨A', m', c', h0, h1, h2, h3⟩ := hc j hj
    have hne : ∀ o, p ≠ ⟨b, o, none⟩ := fun o e => by rw [e] at hp; dsimp only at hp; omega
    exact ⟨A', m', c', (World.cell?_setCell_other _ _ _ _ (hne _)).trans h0, (World.cell?_setCell_other _ _ _ _ (hne _)).trans h1, Kids.far hp v h2, h3⟩⟩
theorem Kids.weak {w : World} {lo lo' : Nat} (hl' : lo' ≤ lo) : ∀ {d : Nat} {A : Option Addr} {n : Nat} {ks : List TermV}, Kids w lo d A n ks → Kids w lo' d A n ks
  | 0, _, _, _, h => h
  | d + 1, A, n, ks, h => ⟨h.1, h.2.1, fun hn => by
    obtain ⟨b, o, e, hlo, hl, hc⟩ := h.2.2 hn
    refine ⟨b, o, e, by omega, hl, fun j hj => ?_⟩
    obtain ⟨A', m', c', h0, h1, h2, h3⟩ := hc j hj
    exact ⟨A', m', c', h0, h1, Kids.weak hl' h2, h3⟩⟩
/-- the first k together -/
def psum (f : TermV → Nat) (ks : List TermV) : Nat → Nat
  | 0 => 0
  | k + 1 => psum f ks k + f (ks.getD k tm0)
theorem psum_mono (f : TermV → Nat) (ks : List TermV) : ∀ {j k : Nat}, j ≤ k → psum f ks j ≤ psum f ks k
  | j, 0, h => by obtain rfl : j = 0 := by omega
                  exact Nat.le_refl _
  | j, k + 1, h => by
    by_cases e : j = k + 1
    · subst e; exact Nat.le_refl _
    · have := psum_mono f ks (show j ≤ k by omega)
      simp only [psum]; omega
theorem psum_at (f : TermV → Nat) (ks : List TermV) {j n : Nat} (h : j < n) : f (ks.getD j tm0) ≤ psum f ks n := by
  have := psum_mono f ks (show j + 1 ≤ n by omega)
  simp only [psum] at this
  omega
/-- how much a term takes -/
def tcost : Nat → TermV → Nat
  | 0, _ => 0
  | d + 1, t => t.name.size + t.kids.length + psum (tcost d) t.kids t.kids.length
/-- what is left, or -1 -/
def SzBack (tot : Int) (left : Int) (w : World) (e : Ending) (w' : World) : Prop :=
  ∃ r : Int, e = .returned (.int .i64 r) ∧ (r = -1 ∨ (0 ≤ r ∧ r = left - tot)) ∧ Below w.heap.size w w'

def SzCall (d : Nat) : Prop := ∀ {A : Option Addr} {n c lo : Nat} {ks : List TermV} (s : ByteArray) (left : Int) {w : World}, Kids w lo d A n ks → s.size ≤ 9223372036854775807 → 0 ≤ left → left ≤ 1048576 →
    Calls Try.prog 14 #[.agg #[.string s, .slice A n c], .int .i64 left] w (SzBack (s.size + n + psum (tcost d) ks n) left w)
set_option maxHeartbeats 4000000 in
theorem szTermS_of {d : Nat} (IH : ∀ d', d = d' + 1 → SzCall d') {A : Option Addr} {n c lo : Nat} {ks : List TermV} (left : Int) {w : World} (h : Kids w lo d A n ks) (h0 : 0 ≤ left) (h1 : left ≤ 1048576) :
    Calls Try.prog 41 #[.slice A n c, .int .i64 left] w (SzBack (n + psum (tcost d) ks n) left w) := by
  have hfew := h.few
  by_cases hle : (n : Int) ≤ left
  · go_enter Try.func41, Try.ntmps41
    go_wp2_with fail
    go_loopw [1, 5] (fun lf i wr => ∃ (k : Nat) (l : Int), k ≤ n ∧ i = .int .i64 k ∧ lf = .int .i64 l ∧ Hid (l = left - n - psum (tcost d) ks k) ∧ (0 ≤ l ∧ l ≤ 1048576) ∧ Below w.heap.size w wr) (fun _ i _ => n - (intOf i).toNat)
    case atStart => exact ⟨0, _, by omega, rfl, rfl, Lib.hid (by simp [psum]), by omega, by (repeat (first | with_reducible exact Below.refl _ _ | with_reducible assumption | (with_reducible refine below_drewN ?_ _) | (with_reducible refine Below.drew ?_) | (with_reducible refine Below.setCell ?_ (by first | omega | (simp; done) | (simp; omega)) _) | (with_reducible refine Below.alloc ?_ (by first | omega | (simp; done) | (simp; omega)) _) | refine Below.trans ?_ (Below.mono (by with_reducible assumption) (by first | omega | (simp; done) | (simp; omega)))))⟩
    case round =>
      obtain ⟨k, l, hk, rfl, rfl, HL, ⟨hl0, hl1⟩, hB⟩ := hrel
      by_cases hlt : k < n
      · obtain ⟨d', p, o, rfl, rfl, hpl, hp, hcs⟩ := (h.later hB).cells (by omega)
        obtain ⟨B, m, cb, hc1, hc2, hIk, hsf⟩ := hcs k hlt
        clear hcs
        have HI : Hid (SzCall d') := Lib.hid (IH d' rfl)
        have hmf := hIk.few
        have hls : psum (tcost (d' + 1)) ks (k + 1) = psum (tcost (d' + 1)) ks k + ((ks.getD k tm0).name.size + m + psum (tcost d') (ks.getD k tm0).kids m) := by
          have e1 := hIk.len
          simp only [psum, tcost]; rw [e1]
        have HS := Lib.hid hls
        clear hls
        generalize (ks.getD k tm0).name = s at *
        generalize (ks.getD k tm0).kids = qs at *
        go_wp2_with fail
        refine (HI.out s l hIk hsf hl0 hl1).mono ?_
        rintro e w1 ⟨r, rfl, hr, hb1⟩
        have hB1 := hB.trans (hb1.mono hB.size)
        clear hb1
        rcases hr with rfl | ⟨hr0, hrE⟩
        · go_wp2
          go_ret
          exact ⟨-1, rfl, .inl rfl, hB1⟩
        · have HE := Lib.hid hrE
          have hr1 : r ≤ 1048576 := by omega
          clear hrE
          go_wp2
          go_roundw
          case rel => exact ⟨k + 1, r, by omega, by go_num, rfl, Lib.hid (by rw [HS.out, HE.out, HL.out]; omega), by omega, hB1⟩
          case measure => simp [intOf]; omega
      · obtain rfl : k = n := by omega
        go_wp2
        go_ret
        exact ⟨l, rfl, .inr ⟨hl0, by rw [HL.out]; omega⟩, hB⟩
  · go_enter Try.func41, Try.ntmps41
    go_wp2
    go_ret
    exact ⟨-1, rfl, .inl rfl, Below.refl _ _⟩
set_option maxHeartbeats 2000000 in
theorem szTerm_of {d : Nat} (IH : ∀ d', d = d' + 1 → SzCall d') : SzCall d := by
  intro A n c lo ks s left w h hs h0 h1
  by_cases ha : (s.size : Int) ≤ left
  · go_enter Try.func14, Try.ntmps14
    go_wp2_with fail
    refine (szTermS_of IH (left - s.size) (h.later (by (repeat (first | with_reducible exact Below.refl _ _ | with_reducible assumption | (with_reducible refine below_drewN ?_ _) | (with_reducible refine Below.drew ?_) | (with_reducible refine Below.setCell ?_ (by first | omega | (simp; done) | (simp; omega)) _) | (with_reducible refine Below.alloc ?_ (by first | omega | (simp; done) | (simp; omega)) _) | refine Below.trans ?_ (Below.mono (by with_reducible assumption) (by first | omega | (simp; done) | (simp; omega))))))) (by omega) (by omega)).mono ?_
    rintro e w1 ⟨r, rfl, hr, hb1⟩
    have hz1 := hb1.size; (try simp at hz1); have hB1 : Below w.heap.size w w1 := (by refine Below.trans ?_ (Below.mono hb1 (by first | omega | (simp; done) | (simp; omega))); (repeat (first | with_reducible exact Below.refl _ _ | with_reducible assumption | (with_reducible refine below_drewN ?_ _) | (with_reducible refine Below.drew ?_) | (with_reducible refine Below.setCell ?_ (by first | omega | (simp; done) | (simp; omega)) _) | (with_reducible refine Below.alloc ?_ (by first | omega | (simp; done) | (simp; omega)) _) | refine Below.trans ?_ (Below.mono (by with_reducible assumption) (by first | omega | (simp; done) | (simp; omega))))))
    clear hb1
    rcases hr with rfl | ⟨hr0, hrE⟩
    · go_wp2
      go_ret
      exact ⟨-1, rfl, .inl rfl, by (repeat (first | with_reducible exact Below.refl _ _ | with_reducible assumption | (with_reducible refine below_drewN ?_ _) | (with_reducible refine Below.drew ?_) | (with_reducible refine Below.setCell ?_ (by first | omega | (simp; done) | (simp; omega)) _) | (with_reducible refine Below.alloc ?_ (by first | omega | (simp; done) | (simp; omega)) _) | refine Below.trans ?_ (Below.mono (by with_reducible assumption) (by first | omega | (simp; done) | (simp; omega)))))⟩
    · have HE := Lib.hid hrE
      have hr1 : r ≤ 1048576 := by omega
      clear hrE
      go_wp2
      go_ret
      exact ⟨r, rfl, .inr ⟨hr0, by rw [HE.out]; omega⟩, by (repeat (first | with_reducible exact Below.refl _ _ | with_reducible assumption | (with_reducible refine below_drewN ?_ _) | (with_reducible refine Below.drew ?_) | (with_reducible refine Below.setCell ?_ (by first | omega | (simp; done) | (simp; omega)) _) | (with_reducible refine Below.alloc ?_ (by first | omega | (simp; done) | (simp; omega)) _) | refine Below.trans ?_ (Below.mono (by with_reducible assumption) (by first | omega | (simp; done) | (simp; omega)))))⟩
  · go_enter Try.func14, Try.ntmps14
    go_wp2
    go_ret
    exact ⟨-1, rfl, .inl rfl, by (repeat (first | with_reducible exact Below.refl _ _ | with_reducible assumption | (with_reducible refine below_drewN ?_ _) | (with_reducible refine Below.drew ?_) | (with_reducible refine Below.setCell ?_ (by first | omega | (simp; done) | (simp; omega)) _) | (with_reducible refine Below.alloc ?_ (by first | omega | (simp; done) | (simp; omega)) _) | refine Below.trans ?_ (Below.mono (by with_reducible assumption) (by first | omega | (simp; done) | (simp; omega)))))⟩
theorem szTerm_any : ∀ d, SzCall d
  | 0 => szTerm_of (fun d' e => by omega)
  | d + 1 => szTerm_of (fun d' e => by obtain rfl : d = d' := by omega
                                       exact szTerm_any d)
theorem term_info : (Try.prog.info? 30).map (fun i => (i.zero, i.size, i.bytes)) = some (some (.agg #[.string ⟨#[]⟩, .slice none 0 0]), 2, 40) := by kernel_rfl
/-- The first k pairs of cells are the terms; all else of them lies above block R. -/
def FillT (w : World) (R d : Nat) (zs : List Value) (ks : List TermV) (k : Nat) : Prop := ∀ j, j < k → ∃ d' A m c, d = d' + 1 ∧ Kids w (R + 1) d' A m (ks.getD j tm0).kids ∧ (ks.getD j tm0).name.size ≤ 9223372036854775807 ∧ zs[j * 2]? = some (.string (ks.getD j tm0).name) ∧ zs[j * 2 + 1]? = some (.slice A m c)
theorem FillT.zero (w : World) (R d : Nat) (zs : List Value) (ks : List TermV) : FillT w R d zs ks 0 := fun _ h => absurd h (by omega)
theorem FillT.later {w w' : World} {R d : Nat} {zs : List Value} {ks : List TermV} {k : Nat} (h : FillT w R d zs ks k) (hb : Below w.heap.size w w') : FillT w' R d zs ks k := fun j hj => by
  obtain ⟨d', A, m, c, e, hI, h0⟩ := h j hj
  exact ⟨d', A, m, c, e, hI.later hb, h0⟩
theorem FillT.far {w : World} {R d : Nat} {zs : List Value} {ks : List TermV} {k : Nat} (h : FillT w R d zs ks k) (o : Nat) (v : Value) : FillT (w.setCell ⟨R, o, none⟩ v) R d zs ks k := fun j hj => by
  obtain ⟨d', A, m, c, e, hI, h0⟩ := h j hj
  exact ⟨d', A, m, c, e, hI.far (by show R < R + 1; omega) v, h0⟩
theorem FillT.set {w : World} {R d : Nat} {zs : List Value} {ks : List TermV} {k m c : Nat} {A : Option Addr} (h : FillT w R (d + 1) zs ks k) (hk : k * 2 + 1 < zs.length) (hI : Kids w (R + 1) d A m (ks.getD k tm0).kids) (hs : (ks.getD k tm0).name.size ≤ 9223372036854775807) :
    FillT w R (d + 1) ((zs.set (k * 2) (.string (ks.getD k tm0).name)).set (k * 2 + 1) (.slice A m c)) ks (k + 1) := fun j hj => by
  by_cases e : j = k
  · subst e
    refine ⟨d, A, m, c, rfl, hI, hs, ?_, ?_⟩
    · rw [List.getElem?_set_ne (by omega), List.getElem?_set_self (by omega)]
    · rw [List.getElem?_set_self (by simp; omega)]
  · obtain ⟨d', A', m', c', ed, hI', hs', h0, h1⟩ := h j (by omega)
    refine ⟨d', A', m', c', ed, hI', hs', ?_, ?_⟩
    · rw [List.getElem?_set_ne (by omega), List.getElem?_set_ne (by omega)]; exact h0
    · rw [List.getElem?_set_ne (by omega), List.getElem?_set_ne (by omega)]; exact h1
theorem Kids.of_own {w : World} {lo0 lo : Nat} {A : Option Addr} {base R d n c : Nat} {t : TypeId} {zs : List Value} {ks : List TermV} {w0 : World} (h0 : Kids w0 lo0 d A n ks) (h : w.ownsRow base t 2 (.slice (some ⟨R, 0, none⟩) n c) n zs) (hf : FillT w R d zs ks n) (hlo : lo ≤ R) : Kids w lo d (some ⟨R, 0, none⟩) n ks := by
  have hl := h0.len
  have hfw := h0.few
  cases d with
  | zero => exact h0
  | succ d =>
    refine ⟨hl, hfw, fun _ => ⟨R, 0, rfl, hlo, (h.lt R rfl).2, fun j hj => ?_⟩⟩
    obtain ⟨d', A', m', c', ed, hI', hs', e0, e1⟩ := hf j hj
    obtain rfl : d = d' := by omega
    rw [Nat.zero_add]
    exact ⟨A', m', c', by rw [h.cellAt _ (by omega)]; exact e0, by rw [h.cellAt _ (by omega)]; exact e1, hI'.weak (by omega), hs'⟩

def ToCall (d : Nat) : Prop := ∀ {A : Option Addr} {n c lo : Nat} {ks : List TermV} (s : ByteArray) {w : World}, Kids w lo d A n ks → n ≤ 1048576 → psum (tcost d) ks n ≤ 1048576 →
    Calls Try.prog 16 #[.agg #[.string s, .slice A n c]] w fun e w' => ∃ g, e = .returned (.agg #[.string s, .slice (some ⟨g, 0, none⟩) n n]) ∧ Kids w' w.heap.size d (some ⟨g, 0, none⟩) n ks ∧ Below w.heap.size w w'
set_option maxHeartbeats 4000000 in
theorem toTermS_of {d : Nat} (IH : ∀ d', d = d' + 1 → ToCall d') {A : Option Addr} {n c lo : Nat} {ks : List TermV} {w : World} (h : Kids w lo d A n ks) (hn : n ≤ 1048576) (hm : psum (tcost d) ks n ≤ 1048576) :
    Calls Try.prog 42 #[.slice A n c] w fun e w' => e = .returned (.slice (some ⟨w.heap.size, 0, none⟩) n n) ∧ Kids w' w.heap.size d (some ⟨w.heap.size, 0, none⟩) n ks ∧ Below w.heap.size w w' := by
  obtain ⟨i0, hi, hz0, hz1, hz2⟩ := info_parts term_info
  obtain ⟨w1, hrun, hown, hgrow⟩ := run_make_full (P := Try.prog) w w.heap.size 28 30 i0 (.agg #[.string ⟨#[]⟩, .slice none 0 0]) 2 Try.underlying28 hi hz0 hz1 .i64 .i64 n (by rw [hz2]; omega) (by unfold maxLen; omega) (Nat.le_refl _)
  have hB : Below w.heap.size w w1 := (Below.refl _ _).grown hgrow (Nat.le_refl _) (fun k hk => by cases hk)
  clear hgrow
  go_enter Try.func42, Try.ntmps42
  go_wp2
  clear hrun
  go_loopw [4] (fun i wr => ∃ (k : Nat) (zs : List Value), k ≤ n ∧ i = .int .i64 k ∧ wr.ownsRow w.heap.size 30 2 (.slice (some ⟨w.heap.size, 0, none⟩) n n) n zs ∧ FillT wr w.heap.size d zs ks k ∧ Below w.heap.size w wr) (fun i _ => n - (intOf i).toNat)
  case atStart => exact ⟨0, _, by omega, rfl, hown, FillT.zero _ _ _ _ ks, hB⟩
  case round =>
    clear hown hB
    obtain ⟨k, zs, hk, rfl, hown, hfill, hB⟩ := hrel
    by_cases hlt : k < n
    · have hlen0 := h.len
      obtain ⟨d', p, o, rfl, rfl, hpl, hp, hcs⟩ := (h.later hB).cells (by omega)
      obtain ⟨B, m, cb, hc1, hc2, hIk, hsf⟩ := hcs k hlt
      clear hcs
      have HI : Hid (ToCall d') := Lib.hid (IH d' rfl)
      have hcost := psum_at (tcost (d' + 1)) ks hlt
      have htc : tcost (d' + 1) (ks.getD k tm0) = (ks.getD k tm0).name.size + (ks.getD k tm0).kids.length + psum (tcost d') (ks.getD k tm0).kids (ks.getD k tm0).kids.length := rfl
      rw [htc, hIk.len] at hcost
      clear htc
      have hmk : m ≤ 1048576 := by omega
      have hmm : psum (tcost d') (ks.getD k tm0).kids m ≤ 1048576 := by omega
      have hzl : k * 2 + 1 < zs.length := by have := hown.1; omega
      have hgw := (hown.lt _ rfl).2
      clear hcost
      generalize hx : (ks.getD k tm0).name = s at *
      generalize hy : (ks.getD k tm0).kids = qs at *
      go_wp2_with fail
      refine (HI.out s hIk hmk hmm).mono ?_
      rintro e w2 ⟨g, rfl, hI2, hb1⟩
      have hown2 : w2.ownsRow w.heap.size 30 2 (.slice (some ⟨w.heap.size, 0, none⟩) n n) n zs := hown.kept (row := none) ⟨hb1.os, hb1.tape, hb1.output, hb1.size, fun i hi _ => hb1.block i hi⟩ (.inr (by simp [Value.ownBlock]))
      have hfill2 := hfill.later hb1
      have hB2 : Below w.heap.size w w2 := hB.trans (hb1.mono hB.size)
      have hs2 := hb1.size
      clear hb1 hown hB hfill
      have hd1 := hown2.cellAt (k * 2) (by omega)
      have hd2 := hown2.cellAt (k * 2 + 1) (by omega)
      rw [List.getElem?_eq_getElem (show k * 2 < zs.length by omega)] at hd1
      rw [List.getElem?_eq_getElem hzl] at hd2
      have hf1 := hown2.frozenAt (k * 2)
      have hf2 := hown2.frozenAt (k * 2 + 1)
      have hst1 := hown2.stored (k * 2) (.string s)
      have hst2 := hst1.1.stored (k * 2 + 1) (.slice (some ⟨g, 0, none⟩) m m)
      have hfill' := (((hfill2.set (c := m) hzl (by rw [hy]; exact hI2.weak (by omega)) (by rw [hx]; exact hsf)).far (k * 2) (.string s)).far (k * 2 + 1) (.slice (some ⟨g, 0, none⟩) m m))
      rw [hx] at hfill'
      have HB : Below w.heap.size w ((w2.setCell ⟨w.heap.size, k * 2, none⟩ (.string s)).setCell ⟨w.heap.size, k * 2 + 1, none⟩ (.slice (some ⟨g, 0, none⟩) m m)) := by (repeat (first | with_reducible exact Below.refl _ _ | with_reducible assumption | (with_reducible refine below_drewN ?_ _) | (with_reducible refine Below.drew ?_) | (with_reducible refine Below.setCell ?_ (by first | omega | (simp; done) | (simp; omega)) _) | (with_reducible refine Below.alloc ?_ (by first | omega | (simp; done) | (simp; omega)) _) | refine Below.trans ?_ (Below.mono (by with_reducible assumption) (by first | omega | (simp; done) | (simp; omega)))))
      have HS := Lib.hid (And.intro hst2.1 (And.intro hfill' HB))
      clear hst1 hst2 hfill' hown2 hfill2 HB
      generalize zs[k * 2] = z1 at hd1
      generalize zs[k * 2 + 1] = z2 at hd2
      go_wp2
      go_roundw
      case rel => exact ⟨k + 1, _, by omega, by go_num, HS.out.1, HS.out.2.1, HS.out.2.2⟩
      case measure => simp [intOf]; omega
    · obtain rfl : k = n := by omega
      go_wp2
      go_ret
      exact ⟨rfl, Kids.of_own h hown hfill (Nat.le_refl _), hB⟩
set_option maxHeartbeats 2000000 in
theorem toTerm_of {d : Nat} (IH : ∀ d', d = d' + 1 → ToCall d') : ToCall d := by
  intro A n c lo ks s w h hn hm
  go_enter Try.func16, Try.ntmps16
  go_wp2_with fail
  refine (toTermS_of IH (h.later (by (repeat (first | with_reducible exact Below.refl _ _ | with_reducible assumption | (with_reducible refine below_drewN ?_ _) | (with_reducible refine Below.drew ?_) | (with_reducible refine Below.setCell ?_ (by first | omega | (simp; done) | (simp; omega)) _) | (with_reducible refine Below.alloc ?_ (by first | omega | (simp; done) | (simp; omega)) _) | refine Below.trans ?_ (Below.mono (by with_reducible assumption) (by first | omega | (simp; done) | (simp; omega))))))) hn hm).mono ?_
  rintro e w1 ⟨rfl, hI, hb1⟩
  have hI1 : Kids w1 (w.heap.size + 1 + 1 + 1) d (some ⟨w.heap.size + 1 + 1 + 1, 0, none⟩) n ks := by simpa using hI
  clear hI
  have hz1 := hb1.size; (try simp at hz1); have hB1 : Below w.heap.size w w1 := (by refine Below.trans ?_ (Below.mono hb1 (by first | omega | (simp; done) | (simp; omega))); (repeat (first | with_reducible exact Below.refl _ _ | with_reducible assumption | (with_reducible refine below_drewN ?_ _) | (with_reducible refine Below.drew ?_) | (with_reducible refine Below.setCell ?_ (by first | omega | (simp; done) | (simp; omega)) _) | (with_reducible refine Below.alloc ?_ (by first | omega | (simp; done) | (simp; omega)) _) | refine Below.trans ?_ (Below.mono (by with_reducible assumption) (by first | omega | (simp; done) | (simp; omega)))))); obtain ⟨kc_, fc_, lc_⟩ := keep_later (a := ⟨w.heap.size, 0, none⟩) (v := .string s) hb1 (by go_simp) (by go_simp); obtain ⟨kc_, fc_, lc_⟩ := keep_later (a := ⟨w.heap.size, 1, none⟩) (v := .slice A n c) hb1 (by go_simp) (by go_simp); obtain ⟨kc_, fc_, lc_⟩ := keep_later (a := ⟨w.heap.size+1, 0, none⟩) (v := .string ⟨#[]⟩) hb1 (by go_simp) (by go_simp); obtain ⟨kc_, fc_, lc_⟩ := keep_later (a := ⟨w.heap.size+1, 1, none⟩) (v := .slice none 0 0) hb1 (by go_simp) (by go_simp); obtain ⟨kc_, fc_, lc_⟩ := keep_later (a := ⟨w.heap.size+1+1, 0, none⟩) (v := .string s) hb1 (by go_simp) (by go_simp); obtain ⟨kc_, fc_, lc_⟩ := keep_later (a := ⟨w.heap.size+1+1, 1, none⟩) (v := .slice none 0 0) hb1 (by go_simp) (by go_simp)
  clear hb1
  have HI := Lib.hid hI1
  clear hI1
  go_wp2
  refine bodyPost_ret (v := .agg #[.string s, .slice (some ⟨w.heap.size + 1 + 1 + 1, 0, none⟩) n n]) (by simp only [results, Try.results16]; go_simp) rfl ⟨w.heap.size + 1 + 1 + 1, rfl, ?_, ?_⟩
  · refine Kids.weak (lo := w.heap.size + 1 + 1 + 1) (by omega) ?_
    (repeat (first | exact HI.out | refine Kids.far (by dsimp only; omega) _ ?_))
  · (repeat (first | with_reducible exact Below.refl _ _ | with_reducible assumption | (with_reducible refine below_drewN ?_ _) | (with_reducible refine Below.drew ?_) | (with_reducible refine Below.setCell ?_ (by first | omega | (simp; done) | (simp; omega)) _) | (with_reducible refine Below.alloc ?_ (by first | omega | (simp; done) | (simp; omega)) _) | refine Below.trans ?_ (Below.mono (by with_reducible assumption) (by first | omega | (simp; done) | (simp; omega)))))
theorem toTerm_any : ∀ d, ToCall d
  | 0 => toTerm_of (fun d' e => by omega)
  | d + 1 => toTerm_of (fun d' e => by obtain rfl : d = d' := by omega
                                       exact toTerm_any d)

def EqCall (d : Nat) : Prop := ∀ {A A' : Option Addr} {n c c' lo lo' : Nat} {ks : List TermV} (s : ByteArray) {w : World}, Kids w lo d A n ks → Kids w lo' d A' n ks →
    Calls Try.prog 18 #[.agg #[.string s, .slice A n c], .agg #[.string s, .slice A' n c']] w fun e w' => e = .returned (.bool true) ∧ Below w.heap.size w w'
set_option maxHeartbeats 4000000 in
theorem eqTermS_of {d : Nat} (IH : ∀ d', d = d' + 1 → EqCall d') {A A' : Option Addr} {n c c' lo lo' : Nat} {ks : List TermV} {w : World} (h : Kids w lo d A n ks) (h' : Kids w lo' d A' n ks) :
    Calls Try.prog 44 #[.slice A n c, .slice A' n c'] w fun e w' => e = .returned (.bool true) ∧ Below w.heap.size w w' := by
  have hfew := h.few
  go_enter Try.func44, Try.ntmps44
  go_wp2_with fail
  go_loopw [5] (fun i wr => ∃ k : Nat, k ≤ n ∧ i = .int .i64 k ∧ Below w.heap.size w wr) (fun i _ => n - (intOf i).toNat)
  case atStart => exact ⟨0, by omega, rfl, by (repeat (first | with_reducible exact Below.refl _ _ | with_reducible assumption | (with_reducible refine below_drewN ?_ _) | (with_reducible refine Below.drew ?_) | (with_reducible refine Below.setCell ?_ (by first | omega | (simp; done) | (simp; omega)) _) | (with_reducible refine Below.alloc ?_ (by first | omega | (simp; done) | (simp; omega)) _) | refine Below.trans ?_ (Below.mono (by with_reducible assumption) (by first | omega | (simp; done) | (simp; omega)))))⟩
  case round =>
    obtain ⟨k, hk, rfl, hB⟩ := hrel
    by_cases hlt : k < n
    · obtain ⟨d', p, o, rfl, rfl, hpl, hp, hcs⟩ := (h.later hB).cells (by omega)
      obtain ⟨B, m, cb, hc1, hc2, hIk, hsf⟩ := hcs k hlt
      clear hcs
      obtain ⟨d2, p', o', ed, rfl, hpl', hp', hcs'⟩ := (h'.later hB).cells (by omega)
      obtain rfl : d' = d2 := by omega
      obtain ⟨B', m', cb', hc3, hc4, hIk', _⟩ := hcs' k hlt
      clear hcs'
      have HI : Hid (EqCall d') := Lib.hid (IH d' rfl)
      obtain rfl : m = m' := hIk.len.symm.trans hIk'.len
      generalize (ks.getD k tm0).name = s at *
      generalize (ks.getD k tm0).kids = qs at *
      have c1 := Lib.hid (fun (W : World) (hW : Below wr.heap.size wr W) (st : Grown W) => HI.out (c := cb) (c' := cb') s (hIk.later (hW.trans (st.ok.mono hW.size))) (hIk'.later (hW.trans (st.ok.mono hW.size))))
      go_wp2_with fail
      refine wp_region_grown (by kernel_rfl) (by kernel_rfl) ?_
      refine quiet_with (a := ⟨p, o + k * 2, none⟩) (v := .string s) hc1 ?_; intro g
      refine quiet_with (a := ⟨p, o + k * 2 + 1, none⟩) (v := .slice B m cb) hc2 ?_; intro g
      refine quiet_with (a := ⟨p', o' + k * 2, none⟩) (v := .string s) hc3 ?_; intro g
      refine quiet_with (a := ⟨p', o' + k * 2 + 1, none⟩) (v := .slice B' m cb') hc4 ?_; intro g
      repeat (go_big_quiet_step ((first | (go_at_call 18; (with_reducible exact grown_of (c1.out _ (Below.refl _ _) _))))))
      refine wpQuiet_nil ?_
      rintro w2 ⟨⟨_, hb1⟩, rfl⟩
      have hB2 : Below w.heap.size w w2 := hB.trans (hb1.mono hB.size)
      clear hb1 c1
      go_wp2
      go_roundw
      case rel => exact ⟨k + 1, by omega, by go_num, hB2⟩
      case measure => simp [intOf]; omega
    · obtain rfl : k = n := by omega
      go_wp2
      go_ret
      exact ⟨rfl, hB⟩
set_option maxHeartbeats 2000000 in
theorem eqTerm_of {d : Nat} (IH : ∀ d', d = d' + 1 → EqCall d') : EqCall d := by
  intro A A' n c c' lo lo' ks s w h h'
  go_enter Try.func18, Try.ntmps18
  go_wp2_with fail
  refine (eqTermS_of IH (h.later (by (repeat (first | with_reducible exact Below.refl _ _ | with_reducible assumption | (with_reducible refine below_drewN ?_ _) | (with_reducible refine Below.drew ?_) | (with_reducible refine Below.setCell ?_ (by first | omega | (simp; done) | (simp; omega)) _) | (with_reducible refine Below.alloc ?_ (by first | omega | (simp; done) | (simp; omega)) _) | refine Below.trans ?_ (Below.mono (by with_reducible assumption) (by first | omega | (simp; done) | (simp; omega))))))) (h'.later (by (repeat (first | with_reducible exact Below.refl _ _ | with_reducible assumption | (with_reducible refine below_drewN ?_ _) | (with_reducible refine Below.drew ?_) | (with_reducible refine Below.setCell ?_ (by first | omega | (simp; done) | (simp; omega)) _) | (with_reducible refine Below.alloc ?_ (by first | omega | (simp; done) | (simp; omega)) _) | refine Below.trans ?_ (Below.mono (by with_reducible assumption) (by first | omega | (simp; done) | (simp; omega)))))))).mono ?_
  rintro e w1 ⟨rfl, hb1⟩
  have hz1 := hb1.size; (try simp at hz1); have hB1 : Below w.heap.size w w1 := (by refine Below.trans ?_ (Below.mono hb1 (by first | omega | (simp; done) | (simp; omega))); (repeat (first | with_reducible exact Below.refl _ _ | with_reducible assumption | (with_reducible refine below_drewN ?_ _) | (with_reducible refine Below.drew ?_) | (with_reducible refine Below.setCell ?_ (by first | omega | (simp; done) | (simp; omega)) _) | (with_reducible refine Below.alloc ?_ (by first | omega | (simp; done) | (simp; omega)) _) | refine Below.trans ?_ (Below.mono (by with_reducible assumption) (by first | omega | (simp; done) | (simp; omega))))))
  clear hb1
  go_wp2
  go_ret
  exact ⟨rfl, by (repeat (first | with_reducible exact Below.refl _ _ | with_reducible assumption | (with_reducible refine below_drewN ?_ _) | (with_reducible refine Below.drew ?_) | (with_reducible refine Below.setCell ?_ (by first | omega | (simp; done) | (simp; omega)) _) | (with_reducible refine Below.alloc ?_ (by first | omega | (simp; done) | (simp; omega)) _) | refine Below.trans ?_ (Below.mono (by with_reducible assumption) (by first | omega | (simp; done) | (simp; omega)))))⟩
theorem eqTerm_same : ∀ d, EqCall d
  | 0 => eqTerm_of (fun d' e => by omega)
  | d + 1 => eqTerm_of (fun d' e => by obtain rfl : d = d' := by omega
                                       exact eqTerm_same d)
end Go.Proofs.Ytgmeoblapnmpiaa

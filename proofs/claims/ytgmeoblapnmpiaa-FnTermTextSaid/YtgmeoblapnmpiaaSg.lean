/- Vocabularies: their words in memory; contracts of what measures, copies and compares them. -/
import Derived.Test.YtgmeoblapnmpiaaD
import Derived.Test.YtgmeoblapnmpiaaNm
import Derived.WalkLawsBesides
namespace Go.Proofs.Ytgmeoblapnmpiaa
set_option maxRecDepth 100000
open Go.RowKit Go.ChangeShapes Go.WideShapes Go.ChangeAt
set_option linter.unusedSimpArgs false
set_option linter.unusedVariables false

/-- a word of a vocabulary -/
abbrev SymV := ByteArray × List Int × Int
def sym0 : SymV := (⟨#[]⟩, [], 0)
/-- The three cells of a word are there. -/
structure SymCell (w : World) (b o : Nat) (x : SymV) : Prop where
  ex : ∃ A m c, Ints w A m x.2.1 ∧ w.cell? ⟨b, o, none⟩ = some (.string x.1) ∧ w.cell? ⟨b, o + 1, none⟩ = some (.slice A m c) ∧ w.cell? ⟨b, o + 2, none⟩ = some (.int .i64 x.2.2)
  few : x.1.size ≤ 9223372036854775807
structure Syms (w : World) (A : Option Addr) (n : Nat) (ls : List SymV) : Prop where
  len : ls.length = n
  cells : 0 < n → ∃ b o, A = some ⟨b, o, none⟩ ∧ b < w.heap.size ∧ ∀ j, j < n → SymCell w b (o + j * 3) (ls.getD j sym0)
  few : n ≤ 9223372036854775807
theorem SymCell.later {w w' : World} {b o : Nat} {x : SymV} (h : SymCell w b o x) (hb : Below w.heap.size w w') (hl : b < w.heap.size) : SymCell w' b o x := by
  obtain ⟨A, m, c, hI, h0, h1, h2⟩ := h.ex
  exact ⟨⟨A, m, c, hI.later hb, (hb.cell (p := ⟨b, o, none⟩) hl).trans h0, (hb.cell (p := ⟨b, o + 1, none⟩) hl).trans h1, (hb.cell (p := ⟨b, o + 2, none⟩) hl).trans h2⟩, h.few⟩
theorem Syms.later {w w' : World} {A : Option Addr} {n : Nat} {ls : List SymV} (h : Syms w A n ls) (hb : Below w.heap.size w w') : Syms w' A n ls :=
  ⟨h.len, fun hn => by
    obtain ⟨b, o, e, hl, hc⟩ := h.cells hn
    exact ⟨b, o, e, Nat.lt_of_lt_of_le hl hb.size, fun j hj => (hc j hj).later hb hl⟩, h.few⟩
theorem Syms.drew {w : World} {A : Option Addr} {n : Nat} {ls : List SymV} (h : Syms w A n ls) : Syms w.drew A n ls := h.later (Below.drew (Below.refl _ _))
theorem Syms.alloc {w : World} {A : Option Addr} {n : Nat} {ls : List SymV} (h : Syms w A n ls) (o : Obj) : Syms (w.alloc o) A n ls := h.later ((Below.refl _ _).alloc (Nat.le_refl _) o)
/-- how much a word takes -/
def symLen (x : SymV) : Nat := x.1.size + x.2.1.length

theorem szSym_any {A : Option Addr} {m c : Nat} (s : ByteArray) (k : Int) (left : Int) (hs : s.size ≤ 9223372036854775807) (hm : m ≤ 9223372036854775807) (h0 : 0 ≤ left) (h1 : left ≤ 1048576) (w : World) :
    Calls Try.prog 74 #[.agg #[.string s, .slice A m c, .int .i64 k], .int .i64 left] w fun e w' => e = .returned (.int .i64 (if (s.size : Int) + m ≤ left then left - s.size - m else -1)) ∧ Below w.heap.size w w' := by
  by_cases ha : (s.size : Int) ≤ left
  · by_cases h : (s.size : Int) + m ≤ left
    · rw [if_pos h]
      have hb : (m : Int) ≤ left - s.size := by omega
      go_enter Try.func74, Try.ntmps74
      go_wp2_with fail
      refine (szIntS_any (left - s.size) hm (by omega) (by omega) _).mono ?_
      rw [if_pos hb]
      rintro e w' ⟨rfl, rfl⟩
      go_wp2
      go_ret
      exact ⟨rfl, by (repeat (first | with_reducible exact Below.refl _ _ | with_reducible assumption | (with_reducible refine below_drewN ?_ _) | (with_reducible refine Below.drew ?_) | (with_reducible refine Below.setCell ?_ (by first | omega | (simp; done) | (simp; omega)) _) | (with_reducible refine Below.alloc ?_ (by first | omega | (simp; done) | (simp; omega)) _) | refine Below.trans ?_ (Below.mono (by with_reducible assumption) (by first | omega | (simp; done) | (simp; omega)))))⟩
    · rw [if_neg h]
      have hb : ¬ (m : Int) ≤ left - s.size := by omega
      go_enter Try.func74, Try.ntmps74
      go_wp2_with fail
      refine (szIntS_any (left - s.size) hm (by omega) (by omega) _).mono ?_
      rw [if_neg (by omega)]
      rintro e w' ⟨rfl, rfl⟩
      go_wp2
      go_ret
      exact ⟨rfl, by (repeat (first | with_reducible exact Below.refl _ _ | with_reducible assumption | (with_reducible refine below_drewN ?_ _) | (with_reducible refine Below.drew ?_) | (with_reducible refine Below.setCell ?_ (by first | omega | (simp; done) | (simp; omega)) _) | (with_reducible refine Below.alloc ?_ (by first | omega | (simp; done) | (simp; omega)) _) | refine Below.trans ?_ (Below.mono (by with_reducible assumption) (by first | omega | (simp; done) | (simp; omega)))))⟩
  · have h : ¬ ((s.size : Int) + m ≤ left) := by omega
    rw [if_neg h]
    go_enter Try.func74, Try.ntmps74
    go_wp2
    go_ret
    exact ⟨rfl, by (repeat (first | with_reducible exact Below.refl _ _ | with_reducible assumption | (with_reducible refine below_drewN ?_ _) | (with_reducible refine Below.drew ?_) | (with_reducible refine Below.setCell ?_ (by first | omega | (simp; done) | (simp; omega)) _) | (with_reducible refine Below.alloc ?_ (by first | omega | (simp; done) | (simp; omega)) _) | refine Below.trans ?_ (Below.mono (by with_reducible assumption) (by first | omega | (simp; done) | (simp; omega)))))⟩

set_option maxHeartbeats 1000000 in
theorem toSym_free {A : Option Addr} {m c : Nat} {xs : List Int} (s : ByteArray) (k : Int) {w : World} (h : Ints w A m xs) (hm : m ≤ 1048576) :
    Calls Try.prog 75 #[.agg #[.string s, .slice A m c, .int .i64 k]] w fun e w' => ∃ g, e = .returned (.agg #[.string s, .slice (some ⟨g, 0, none⟩) m m, .int .i64 k]) ∧ (Ints w' (some ⟨g, 0, none⟩) m xs ∧ Free w' g) ∧ w.heap.size ≤ g ∧ Below w.heap.size w w' := by
  go_enter Try.func75, Try.ntmps75
  go_wp2_with fail
  refine (toIntS_any (h.later (by (repeat (first | with_reducible exact Below.refl _ _ | with_reducible assumption | (with_reducible refine below_drewN ?_ _) | (with_reducible refine Below.drew ?_) | (with_reducible refine Below.setCell ?_ (by first | omega | (simp; done) | (simp; omega)) _) | (with_reducible refine Below.alloc ?_ (by first | omega | (simp; done) | (simp; omega)) _) | refine Below.trans ?_ (Below.mono (by with_reducible assumption) (by first | omega | (simp; done) | (simp; omega))))))) hm).mono ?_
  rintro e w1 ⟨rfl, ⟨hI, hF⟩, hb1⟩
  simp only [World.size_alloc] at hI hF
  have hz1 := hb1.size; (try simp at hz1); have hB1 : Below w.heap.size w w1 := (by refine Below.trans ?_ (Below.mono hb1 (by first | omega | (simp; done) | (simp; omega))); (repeat (first | with_reducible exact Below.refl _ _ | with_reducible assumption | (with_reducible refine below_drewN ?_ _) | (with_reducible refine Below.drew ?_) | (with_reducible refine Below.setCell ?_ (by first | omega | (simp; done) | (simp; omega)) _) | (with_reducible refine Below.alloc ?_ (by first | omega | (simp; done) | (simp; omega)) _) | refine Below.trans ?_ (Below.mono (by with_reducible assumption) (by first | omega | (simp; done) | (simp; omega)))))); obtain ⟨kc_, fc_, lc_⟩ := keep_later (a := ⟨w.heap.size, 0, none⟩) (v := .string s) hb1 (by go_simp) (by go_simp); obtain ⟨kc_, fc_, lc_⟩ := keep_later (a := ⟨w.heap.size, 1, none⟩) (v := .slice A m c) hb1 (by go_simp) (by go_simp); obtain ⟨kc_, fc_, lc_⟩ := keep_later (a := ⟨w.heap.size, 2, none⟩) (v := .int .i64 k) hb1 (by go_simp) (by go_simp); obtain ⟨kc_, fc_, lc_⟩ := keep_later (a := ⟨w.heap.size+1, 0, none⟩) (v := .string ⟨#[]⟩) hb1 (by go_simp) (by go_simp); obtain ⟨kc_, fc_, lc_⟩ := keep_later (a := ⟨w.heap.size+1, 1, none⟩) (v := .slice none 0 0) hb1 (by go_simp) (by go_simp); obtain ⟨kc_, fc_, lc_⟩ := keep_later (a := ⟨w.heap.size+1, 2, none⟩) (v := .int .i64 0) hb1 (by go_simp) (by go_simp); obtain ⟨kc_, fc_, lc_⟩ := keep_later (a := ⟨w.heap.size+1+1, 0, none⟩) (v := .string s) hb1 (by go_simp) (by go_simp); obtain ⟨kc_, fc_, lc_⟩ := keep_later (a := ⟨w.heap.size+1+1, 1, none⟩) (v := .slice none 0 0) hb1 (by go_simp) (by go_simp); obtain ⟨kc_, fc_, lc_⟩ := keep_later (a := ⟨w.heap.size+1+1, 2, none⟩) (v := .int .i64 0) hb1 (by go_simp) (by go_simp)
  clear hb1
  go_wp2
  refine bodyPost_ret (v := .agg #[.string s, .slice (some ⟨w.heap.size + 1 + 1 + 1, 0, none⟩) m m, .int .i64 k]) (by simp only [results, Try.results75]; go_simp) rfl ⟨w.heap.size + 1 + 1 + 1, rfl, ⟨?_, ?_⟩, by omega, ?_⟩
  · (repeat (first | with_reducible exact hI | (with_reducible refine Ints.far ?_ (by first | omega | (simp; done) | (simp; omega)) _) | (with_reducible refine Ints.alloc ?_ _) | (with_reducible refine Ints.drewN ?_ _) | (with_reducible refine Ints.drew ?_)))
  · (repeat (first | with_reducible exact hF | (with_reducible refine Free.set ?_ _ _) | (with_reducible refine Free.alloc ?_ _) | (with_reducible refine Free.drewN ?_ _) | (with_reducible refine Free.drew ?_)))
  · (repeat (first | with_reducible exact Below.refl _ _ | with_reducible assumption | (with_reducible refine below_drewN ?_ _) | (with_reducible refine Below.drew ?_) | (with_reducible refine Below.setCell ?_ (by first | omega | (simp; done) | (simp; omega)) _) | (with_reducible refine Below.alloc ?_ (by first | omega | (simp; done) | (simp; omega)) _) | refine Below.trans ?_ (Below.mono (by with_reducible assumption) (by first | omega | (simp; done) | (simp; omega)))))
/-- how much the first k take -/
def ssum (ls : List SymV) : Nat → Nat
  | 0 => 0
  | k + 1 => ssum ls k + symLen (ls.getD k sym0)
theorem ssum_mono (ls : List SymV) : ∀ {j k : Nat}, j ≤ k → ssum ls j ≤ ssum ls k
  | j, 0, h => by obtain rfl : j = 0 := by omega
                  exact Nat.le_refl _
  | j, k + 1, h => by
    by_cases e : j = k + 1
    · subst e; exact Nat.le_refl _
    · have := ssum_mono ls (show j ≤ k by omega)
      simp only [ssum]; omega
theorem ssum_at (ls : List SymV) {j n : Nat} (h : j < n) : symLen (ls.getD j sym0) ≤ ssum ls n := by
  have := ssum_mono ls (show j + 1 ≤ n by omega)
  simp only [ssum] at this
  omega

/-- what is left, or -1 -/
def SzSyms (ls : List SymV) (n : Nat) (left : Int) (w : World) (e : Ending) (w' : World) : Prop :=
  ∃ r : Int, e = .returned (.int .i64 r) ∧ (r = -1 ∨ (0 ≤ r ∧ r = left - n - ssum ls n)) ∧ Below w.heap.size w w'
set_option maxHeartbeats 4000000 in
theorem szSymS_any {A : Option Addr} {n c : Nat} {ls : List SymV} (left : Int) {w : World} (h : Syms w A n ls) (h0 : 0 ≤ left) (h1 : left ≤ 1048576) :
    Calls Try.prog 52 #[.slice A n c, .int .i64 left] w (SzSyms ls n left w) := by
  have hfew := h.few
  by_cases hle : (n : Int) ≤ left
  · go_enter Try.func52, Try.ntmps52
    go_wp2_with fail
    go_loopw [1, 5] (fun lf i wr => ∃ (k : Nat) (l : Int), k ≤ n ∧ i = .int .i64 k ∧ lf = .int .i64 l ∧ Hid (l = left - n - ssum ls k) ∧ (0 ≤ l ∧ l ≤ 1048576) ∧ Below w.heap.size w wr) (fun _ i _ => n - (intOf i).toNat)
    case atStart => exact ⟨0, _, by omega, rfl, rfl, Lib.hid (by simp [ssum]), by omega, by (repeat (first | with_reducible exact Below.refl _ _ | with_reducible assumption | (with_reducible refine below_drewN ?_ _) | (with_reducible refine Below.drew ?_) | (with_reducible refine Below.setCell ?_ (by first | omega | (simp; done) | (simp; omega)) _) | (with_reducible refine Below.alloc ?_ (by first | omega | (simp; done) | (simp; omega)) _) | refine Below.trans ?_ (Below.mono (by with_reducible assumption) (by first | omega | (simp; done) | (simp; omega)))))⟩
    case round =>
      obtain ⟨k, l, hk, rfl, rfl, HL, ⟨hl0, hl1⟩, hB⟩ := hrel
      by_cases hlt : k < n
      · obtain ⟨p, o, rfl, hp, hcs⟩ := (h.later hB).cells (by omega)
        have hsf := (hcs k hlt).few
        obtain ⟨B, m, cb, hIk, hc1, hc2, hc3⟩ := (hcs k hlt).ex
        clear hcs
        have hlen := hIk.len
        have hmf := hIk.few
        have hls : ssum ls (k + 1) = ssum ls k + ((ls.getD k sym0).1.size + m) := by simp only [ssum, symLen]; rw [hlen]
        have HS := Lib.hid hls
        clear hls hlen
        generalize (ls.getD k sym0).1 = s at *
        generalize (ls.getD k sym0).2.1 = xs at *
        generalize (ls.getD k sym0).2.2 = q at *
        by_cases hm : (s.size : Int) + m ≤ l
        · have hsz : (if (s.size : Int) + m ≤ l then l - s.size - m else -1) = l - s.size - m := if_pos hm
          go_wp2_with fail
          refine (szSym_any s q l hsf hmf hl0 hl1 _).mono ?_
          rw [hsz]
          rintro e w1 ⟨rfl, hb1⟩
          have hB1 := hB.trans (hb1.mono hB.size)
          clear hsz hb1
          go_wp2
          go_roundw
          case rel => exact ⟨k + 1, l - s.size - m, by omega, by go_num, rfl, Lib.hid (by rw [HS.out, HL.out]; omega), by omega, hB1⟩
          case measure => simp [intOf]; omega
        · have hsz : (if (s.size : Int) + m ≤ l then l - s.size - m else -1) = -1 := if_neg hm
          go_wp2_with fail
          refine (szSym_any s q l hsf hmf hl0 hl1 _).mono ?_
          rw [hsz]
          rintro e w1 ⟨rfl, hb1⟩
          have hB1 := hB.trans (hb1.mono hB.size)
          clear hsz hb1
          go_wp2
          go_ret
          exact ⟨-1, rfl, .inl rfl, hB1⟩
      · obtain rfl : k = n := by omega
        go_wp2
        go_ret
        exact ⟨l, rfl, .inr ⟨hl0, HL.out⟩, hB⟩
  · go_enter Try.func52, Try.ntmps52
    go_wp2
    go_ret
    exact ⟨-1, rfl, .inl rfl, Below.refl _ _⟩

theorem eqSym_same {A A' : Option Addr} {n n' c c' : Nat} {xs : List Int} {s : ByteArray} {q : Int} {w : World} (h : Ints w A n xs) (h' : Ints w A' n' xs) :
    Calls Try.prog 76 #[.agg #[.string s, .slice A n c, .int .i64 q], .agg #[.string s, .slice A' n' c', .int .i64 q]] w fun e w' => e = .returned (.bool true) ∧ Below w.heap.size w w' := by
  go_enter Try.func76, Try.ntmps76
  go_wp2_with fail
  refine (eqIntS_any (h.later (by (repeat (first | with_reducible exact Below.refl _ _ | with_reducible assumption | (with_reducible refine below_drewN ?_ _) | (with_reducible refine Below.drew ?_) | (with_reducible refine Below.setCell ?_ (by first | omega | (simp; done) | (simp; omega)) _) | (with_reducible refine Below.alloc ?_ (by first | omega | (simp; done) | (simp; omega)) _) | refine Below.trans ?_ (Below.mono (by with_reducible assumption) (by first | omega | (simp; done) | (simp; omega))))))) (h'.later (by (repeat (first | with_reducible exact Below.refl _ _ | with_reducible assumption | (with_reducible refine below_drewN ?_ _) | (with_reducible refine Below.drew ?_) | (with_reducible refine Below.setCell ?_ (by first | omega | (simp; done) | (simp; omega)) _) | (with_reducible refine Below.alloc ?_ (by first | omega | (simp; done) | (simp; omega)) _) | refine Below.trans ?_ (Below.mono (by with_reducible assumption) (by first | omega | (simp; done) | (simp; omega)))))))).mono ?_
  rintro e w' ⟨rfl, m, rfl⟩
  go_wp2
  go_ret
  exact ⟨by simp, by (repeat (first | with_reducible exact Below.refl _ _ | with_reducible assumption | (with_reducible refine below_drewN ?_ _) | (with_reducible refine Below.drew ?_) | (with_reducible refine Below.setCell ?_ (by first | omega | (simp; done) | (simp; omega)) _) | (with_reducible refine Below.alloc ?_ (by first | omega | (simp; done) | (simp; omega)) _) | refine Below.trans ?_ (Below.mono (by with_reducible assumption) (by first | omega | (simp; done) | (simp; omega)))))⟩
theorem sym_info : (Try.prog.info? 43).map (fun i => (i.zero, i.size, i.bytes)) = some (some (.agg #[.string ⟨#[]⟩, .slice none 0 0, .int .i64 0]), 3, 48) := by kernel_rfl
/-- The first k triples of cells are the words; their rows lie above block R. -/
def FillS (w : World) (R : Nat) (zs : List Value) (ls : List SymV) (k : Nat) : Prop := ∀ j, j < k → ∃ g m c, Ints w (some ⟨g, 0, none⟩) m (ls.getD j sym0).2.1 ∧ R < g ∧ zs[j * 3]? = some (.string (ls.getD j sym0).1) ∧ zs[j * 3 + 1]? = some (.slice (some ⟨g, 0, none⟩) m c) ∧ zs[j * 3 + 2]? = some (.int .i64 (ls.getD j sym0).2.2)
theorem FillS.zero (w : World) (R : Nat) (zs : List Value) (ls : List SymV) : FillS w R zs ls 0 := fun _ h => absurd h (by omega)
theorem FillS.later {w w' : World} {R : Nat} {zs : List Value} {ls : List SymV} {k : Nat} (h : FillS w R zs ls k) (hb : Below w.heap.size w w') : FillS w' R zs ls k := fun j hj => by
  obtain ⟨g, m, c, hI, hg, h0⟩ := h j hj
  exact ⟨g, m, c, hI.later hb, hg, h0⟩
theorem FillS.far {w : World} {R : Nat} {zs : List Value} {ls : List SymV} {k : Nat} (h : FillS w R zs ls k) (o : Nat) (v : Value) : FillS (w.setCell ⟨R, o, none⟩ v) R zs ls k := fun j hj => by
  obtain ⟨g, m, c, hI, hg, h0⟩ := h j hj
  exact ⟨g, m, c, hI.far (by show R ≠ g; omega) v, hg, h0⟩
theorem FillS.set {w : World} {R : Nat} {zs : List Value} {ls : List SymV} {k g m c : Nat} (h : FillS w R zs ls k) (hk : k * 3 + 2 < zs.length) (hI : Ints w (some ⟨g, 0, none⟩) m (ls.getD k sym0).2.1) (hg : R < g) :
    FillS w R (((zs.set (k * 3) (.string (ls.getD k sym0).1)).set (k * 3 + 1) (.slice (some ⟨g, 0, none⟩) m c)).set (k * 3 + 2) (.int .i64 (ls.getD k sym0).2.2)) ls (k + 1) := fun j hj => by
  by_cases e : j = k
  · subst e
    refine ⟨g, m, c, hI, hg, ?_, ?_, ?_⟩
    · rw [List.getElem?_set_ne (by omega), List.getElem?_set_ne (by omega), List.getElem?_set_self (by omega)]
    · rw [List.getElem?_set_ne (by omega), List.getElem?_set_self (by simp; omega)]
    · rw [List.getElem?_set_self (by simp; omega)]
  · obtain ⟨g', m', c', hI', hg', h0, h1, h2⟩ := h j (by omega)
    refine ⟨g', m', c', hI', hg', ?_, ?_, ?_⟩
    · rw [List.getElem?_set_ne (by omega), List.getElem?_set_ne (by omega), List.getElem?_set_ne (by omega)]; exact h0
    · rw [List.getElem?_set_ne (by omega), List.getElem?_set_ne (by omega), List.getElem?_set_ne (by omega)]; exact h1
    · rw [List.getElem?_set_ne (by omega), List.getElem?_set_ne (by omega), List.getElem?_set_ne (by omega)]; exact h2
theorem Syms.of_own {w : World} {base R n c : Nat} {t : TypeId} {zs : List Value} {ls : List SymV} (h : w.ownsRow base t 3 (.slice (some ⟨R, 0, none⟩) n c) n zs) (hf : FillS w R zs ls n) (hl : ls.length = n) (hs : ∀ j, j < n → (ls.getD j sym0).1.size ≤ 9223372036854775807) (hn : n ≤ 9223372036854775807) : Syms w (some ⟨R, 0, none⟩) n ls :=
  ⟨hl, fun _ => ⟨R, 0, rfl, (h.lt R rfl).2, fun j hj => by
    obtain ⟨g, m, c', hI, _, h0, h1, h2⟩ := hf j hj
    rw [Nat.zero_add]
    exact ⟨⟨_, m, c', hI, by rw [h.cellAt _ (by omega)]; exact h0, by rw [h.cellAt _ (by omega)]; exact h1, by rw [h.cellAt _ (by omega)]; exact h2⟩, hs j hj⟩⟩, hn⟩
/-- The same, block R holding the list and the rows lying above it. -/
structure SymsUp (w : World) (R n : Nat) (ls : List SymV) : Prop where
  len : ls.length = n
  cells : ∀ j, j < n → ∃ g m c, Ints w (some ⟨g, 0, none⟩) m (ls.getD j sym0).2.1 ∧ R < g ∧ w.cell? ⟨R, j * 3, none⟩ = some (.string (ls.getD j sym0).1) ∧ w.cell? ⟨R, j * 3 + 1, none⟩ = some (.slice (some ⟨g, 0, none⟩) m c) ∧ w.cell? ⟨R, j * 3 + 2, none⟩ = some (.int .i64 (ls.getD j sym0).2.2)
  lt : R < w.heap.size
  few : n ≤ 9223372036854775807
  small : ∀ j, j < n → (ls.getD j sym0).1.size ≤ 9223372036854775807
theorem SymsUp.syms {w : World} {R n : Nat} {ls : List SymV} (h : SymsUp w R n ls) : Syms w (some ⟨R, 0, none⟩) n ls :=
  ⟨h.len, fun _ => ⟨R, 0, rfl, h.lt, fun j hj => by
    obtain ⟨g, m, c, hI, _, h0, h1, h2⟩ := h.cells j hj
    rw [Nat.zero_add]
    exact ⟨⟨_, m, c, hI, h0, h1, h2⟩, h.small j hj⟩⟩, h.few⟩
theorem SymsUp.far {w : World} {R n : Nat} {ls : List SymV} (h : SymsUp w R n ls) {p : Addr} (hp : p.block < R) (v : Value) : SymsUp (w.setCell p v) R n ls :=
  ⟨h.len, fun j hj => by
    obtain ⟨g, m, c, hI, hg, h0, h1, h2⟩ := h.cells j hj
    have hne : ∀ o, p ≠ ⟨R, o, none⟩ := fun o e => by rw [e] at hp; exact absurd hp (Nat.lt_irrefl R)
    exact ⟨g, m, c, hI.far (by omega) v, hg, (World.cell?_setCell_other _ _ _ _ (hne _)).trans h0, (World.cell?_setCell_other _ _ _ _ (hne _)).trans h1, (World.cell?_setCell_other _ _ _ _ (hne _)).trans h2⟩, by simpa [World.setCell] using h.lt, h.few, h.small⟩
theorem SymsUp.of_own {w : World} {base R n c : Nat} {t : TypeId} {zs : List Value} {ls : List SymV} (h : w.ownsRow base t 3 (.slice (some ⟨R, 0, none⟩) n c) n zs) (hf : FillS w R zs ls n) (hl : ls.length = n) (hs : ∀ j, j < n → (ls.getD j sym0).1.size ≤ 9223372036854775807) (hn : n ≤ 9223372036854775807) : SymsUp w R n ls :=
  ⟨hl, fun j hj => by
    obtain ⟨g, m, c', hI, hg, h0, h1, h2⟩ := hf j hj
    exact ⟨g, m, c', hI, hg, by rw [h.cellAt _ (by omega)]; exact h0, by rw [h.cellAt _ (by omega)]; exact h1, by rw [h.cellAt _ (by omega)]; exact h2⟩, (h.lt R rfl).2, hn, hs⟩

set_option maxHeartbeats 4000000 in
theorem toSymS_any {A : Option Addr} {n c : Nat} {ls : List SymV} {w : World} (h : Syms w A n ls) (hn : n ≤ 1048576) (hm : ssum ls n ≤ 1048576) :
    Calls Try.prog 53 #[.slice A n c] w fun e w' => e = .returned (.slice (some ⟨w.heap.size, 0, none⟩) n n) ∧ SymsUp w' w.heap.size n ls ∧ Below w.heap.size w w' := by
  obtain ⟨i0, hi, hz0, hz1, hz2⟩ := info_parts sym_info
  obtain ⟨w1, hrun, hown, hgrow⟩ := run_make_full (P := Try.prog) w w.heap.size 34 43 i0 (.agg #[.string ⟨#[]⟩, .slice none 0 0, .int .i64 0]) 3 Try.underlying34 hi hz0 hz1 .i64 .i64 n (by rw [hz2]; omega) (by unfold maxLen; omega) (Nat.le_refl _)
  have hB : Below w.heap.size w w1 := (Below.refl _ _).grown hgrow (Nat.le_refl _) (fun k hk => by cases hk)
  have hfs : ∀ j, j < n → (ls.getD j sym0).1.size ≤ 9223372036854775807 := fun j hj => by
    have := ssum_at ls hj
    unfold symLen at this
    omega
  clear hgrow
  go_enter Try.func53, Try.ntmps53
  go_wp2
  clear hrun
  go_loopw [4] (fun i wr => ∃ (k : Nat) (zs : List Value), k ≤ n ∧ i = .int .i64 k ∧ wr.ownsRow w.heap.size 43 3 (.slice (some ⟨w.heap.size, 0, none⟩) n n) n zs ∧ FillS wr w.heap.size zs ls k ∧ Below w.heap.size w wr) (fun i _ => n - (intOf i).toNat)
  case atStart => exact ⟨0, _, by omega, rfl, hown, FillS.zero _ _ _ ls, hB⟩
  case round =>
    clear hown hB
    obtain ⟨k, zs, hk, rfl, hown, hfill, hB⟩ := hrel
    by_cases hlt : k < n
    · obtain ⟨p, o, rfl, hp, hcs⟩ := (h.later hB).cells (by omega)
      have hsf := (hcs k hlt).few
      obtain ⟨B, m, cb, hIk, hc1, hc2, hc3⟩ := (hcs k hlt).ex
      clear hcs
      have hmk : m ≤ 1048576 := by have := hIk.len; have := ssum_at ls hlt; unfold symLen at this; omega
      have hzl : k * 3 + 2 < zs.length := by have := hown.1; omega
      have hgw := (hown.lt _ rfl).2
      clear hfs
      generalize hx : (ls.getD k sym0).1 = s at *
      generalize hy : (ls.getD k sym0).2.1 = xs at *
      generalize hz : (ls.getD k sym0).2.2 = b at *
      go_wp2_with fail
      refine (toSym_free s b hIk hmk).mono ?_
      rintro e w2 ⟨g, rfl, ⟨hI2, hF2⟩, hg, hb1⟩
      have hown2 : w2.ownsRow w.heap.size 43 3 (.slice (some ⟨w.heap.size, 0, none⟩) n n) n zs := hown.kept (row := none) ⟨hb1.os, hb1.tape, hb1.output, hb1.size, fun i hi _ => hb1.block i hi⟩ (.inr (by simp [Value.ownBlock]))
      have hfill2 := hfill.later hb1
      have hB2 : Below w.heap.size w w2 := hB.trans (hb1.mono hB.size)
      have hs2 := hb1.size
      clear hb1 hown hB hfill
      have hd1 := hown2.cellAt (k * 3) (by omega)
      have hd2 := hown2.cellAt (k * 3 + 1) (by omega)
      have hd3 := hown2.cellAt (k * 3 + 2) (by omega)
      rw [List.getElem?_eq_getElem (show k * 3 < zs.length by omega)] at hd1
      rw [List.getElem?_eq_getElem (show k * 3 + 1 < zs.length by omega)] at hd2
      rw [List.getElem?_eq_getElem hzl] at hd3
      have hf1 := hown2.frozenAt (k * 3)
      have hf2 := hown2.frozenAt (k * 3 + 1)
      have hf3 := hown2.frozenAt (k * 3 + 2)
      have hst1 := hown2.stored (k * 3) (.string s)
      have hst2 := hst1.1.stored (k * 3 + 1) (.slice (some ⟨g, 0, none⟩) m m)
      have hst3 := hst2.1.stored (k * 3 + 2) (.int .i64 b)
      have hfill' := ((((hfill2.set (c := m) hzl (by rw [hy]; exact hI2) (by omega)).far (k * 3) (.string s)).far (k * 3 + 1) (.slice (some ⟨g, 0, none⟩) m m)).far (k * 3 + 2) (.int .i64 b))
      rw [hx, hz] at hfill'
      have HB : Below w.heap.size w (((w2.setCell ⟨w.heap.size, k * 3, none⟩ (.string s)).setCell ⟨w.heap.size, k * 3 + 1, none⟩ (.slice (some ⟨g, 0, none⟩) m m)).setCell ⟨w.heap.size, k * 3 + 2, none⟩ (.int .i64 b)) := by (repeat (first | with_reducible exact Below.refl _ _ | with_reducible assumption | (with_reducible refine below_drewN ?_ _) | (with_reducible refine Below.drew ?_) | (with_reducible refine Below.setCell ?_ (by first | omega | (simp; done) | (simp; omega)) _) | (with_reducible refine Below.alloc ?_ (by first | omega | (simp; done) | (simp; omega)) _) | refine Below.trans ?_ (Below.mono (by with_reducible assumption) (by first | omega | (simp; done) | (simp; omega)))))
      have HS := Lib.hid (And.intro hst3.1 (And.intro hfill' HB))
      clear hst1 hst2 hst3 hfill' hown2 hfill2 HB
      generalize zs[k * 3] = z1 at hd1
      generalize zs[k * 3 + 1] = z2 at hd2
      generalize zs[k * 3 + 2] = z3 at hd3
      go_wp2
      go_roundw
      case rel => exact ⟨k + 1, _, by omega, by go_num, HS.out.1, HS.out.2.1, HS.out.2.2⟩
      case measure => simp [intOf]; omega
    · obtain rfl : k = n := by omega
      go_wp2
      go_ret
      exact ⟨rfl, SymsUp.of_own hown hfill h.len hfs h.few, hB⟩

set_option maxHeartbeats 4000000 in
theorem eqSymS_same {A A' : Option Addr} {n c c' : Nat} {ls : List SymV} {w : World} (h : Syms w A n ls) (h' : Syms w A' n ls) :
    Calls Try.prog 54 #[.slice A n c, .slice A' n c'] w fun e w' => e = .returned (.bool true) ∧ Below w.heap.size w w' := by
  have hfew := h.few
  go_enter Try.func54, Try.ntmps54
  go_wp2_with fail
  go_loopw [5] (fun i wr => ∃ k : Nat, k ≤ n ∧ i = .int .i64 k ∧ Below w.heap.size w wr) (fun i _ => n - (intOf i).toNat)
  case atStart => exact ⟨0, by omega, rfl, by (repeat (first | with_reducible exact Below.refl _ _ | with_reducible assumption | (with_reducible refine below_drewN ?_ _) | (with_reducible refine Below.drew ?_) | (with_reducible refine Below.setCell ?_ (by first | omega | (simp; done) | (simp; omega)) _) | (with_reducible refine Below.alloc ?_ (by first | omega | (simp; done) | (simp; omega)) _) | refine Below.trans ?_ (Below.mono (by with_reducible assumption) (by first | omega | (simp; done) | (simp; omega)))))⟩
  case round =>
    obtain ⟨k, hk, rfl, hB⟩ := hrel
    by_cases hlt : k < n
    · obtain ⟨p, o, rfl, hp, hcs⟩ := (h.later hB).cells (by omega)
      have hsf := (hcs k hlt).few
      obtain ⟨B, m, cb, hIk, hc1, hc2, hc3⟩ := (hcs k hlt).ex
      clear hcs
      obtain ⟨p', o', rfl, hp', hcs'⟩ := (h'.later hB).cells (by omega)
      obtain ⟨B', m', cb', hIk', hc4, hc5, hc6⟩ := (hcs' k hlt).ex
      clear hcs'
      have hlm := hIk.len
      have hlm' := hIk'.len
      generalize (ls.getD k sym0).1 = s at *
      generalize (ls.getD k sym0).2.1 = xs at *
      generalize (ls.getD k sym0).2.2 = b at *
      have c1 := Lib.hid (fun (W : World) (hW : Below wr.heap.size wr W) (st : Grown W) => eqSym_same (c := cb) (c' := cb') (s := s) (q := b) (hIk.later (hW.trans (st.ok.mono hW.size))) (hIk'.later (hW.trans (st.ok.mono hW.size))))
      go_wp2_with fail
      refine wp_region_grown (by kernel_rfl) (by kernel_rfl) ?_
      refine quiet_with (a := ⟨p, o + k * 3, none⟩) (v := .string s) hc1 ?_; intro g
      refine quiet_with (a := ⟨p, o + k * 3 + 1, none⟩) (v := .slice B m cb) hc2 ?_; intro g
      refine quiet_with (a := ⟨p, o + k * 3 + 2, none⟩) (v := .int .i64 b) hc3 ?_; intro g
      refine quiet_with (a := ⟨p', o' + k * 3, none⟩) (v := .string s) hc4 ?_; intro g
      refine quiet_with (a := ⟨p', o' + k * 3 + 1, none⟩) (v := .slice B' m' cb') hc5 ?_; intro g
      refine quiet_with (a := ⟨p', o' + k * 3 + 2, none⟩) (v := .int .i64 b) hc6 ?_; intro g
      repeat (go_big_quiet_step ((first | (go_at_call 76; (with_reducible exact grown_of (c1.out _ (Below.refl _ _) _))))))
      refine wpQuiet_nil ?_
      rintro w2 ⟨⟨_, hb1⟩, rfl⟩
      have hB2 : Below w.heap.size w w2 := hB.trans (hb1.mono hB.size)
      clear hb1 c1
      go_wp2
      go_roundw
      case rel => exact ⟨k + 1, by omega, by go_num, hB2⟩
      case measure => simp [intOf]; omega
    · obtain rfl : k = n := by omega
      go_wp2
      go_ret
      exact ⟨rfl, hB⟩

theorem szSig_any {A : Option Addr} {n c : Nat} {ls : List SymV} (left : Int) {w : World} (h : Syms w A n ls) (h0 : 0 ≤ left) (h1 : left ≤ 1048576) :
    Calls Try.prog 23 #[.agg #[.slice A n c], .int .i64 left] w (SzSyms ls n left w) := by
  go_enter Try.func23, Try.ntmps23
  go_wp2_with fail
  refine (szSymS_any left (h.later (by (repeat (first | with_reducible exact Below.refl _ _ | with_reducible assumption | (with_reducible refine below_drewN ?_ _) | (with_reducible refine Below.drew ?_) | (with_reducible refine Below.setCell ?_ (by first | omega | (simp; done) | (simp; omega)) _) | (with_reducible refine Below.alloc ?_ (by first | omega | (simp; done) | (simp; omega)) _) | refine Below.trans ?_ (Below.mono (by with_reducible assumption) (by first | omega | (simp; done) | (simp; omega))))))) h0 h1).mono ?_
  rintro e w1 ⟨r, rfl, hr, hb1⟩
  have hz1 := hb1.size; (try simp at hz1); have hB1 : Below w.heap.size w w1 := (by refine Below.trans ?_ (Below.mono hb1 (by first | omega | (simp; done) | (simp; omega))); (repeat (first | with_reducible exact Below.refl _ _ | with_reducible assumption | (with_reducible refine below_drewN ?_ _) | (with_reducible refine Below.drew ?_) | (with_reducible refine Below.setCell ?_ (by first | omega | (simp; done) | (simp; omega)) _) | (with_reducible refine Below.alloc ?_ (by first | omega | (simp; done) | (simp; omega)) _) | refine Below.trans ?_ (Below.mono (by with_reducible assumption) (by first | omega | (simp; done) | (simp; omega))))))
  clear hb1
  rcases hr with rfl | ⟨hr0, hrE⟩
  · go_wp2
    go_ret
    exact ⟨-1, rfl, .inl rfl, by (repeat (first | with_reducible exact Below.refl _ _ | with_reducible assumption | (with_reducible refine below_drewN ?_ _) | (with_reducible refine Below.drew ?_) | (with_reducible refine Below.setCell ?_ (by first | omega | (simp; done) | (simp; omega)) _) | (with_reducible refine Below.alloc ?_ (by first | omega | (simp; done) | (simp; omega)) _) | refine Below.trans ?_ (Below.mono (by with_reducible assumption) (by first | omega | (simp; done) | (simp; omega)))))⟩
  · have HE := Lib.hid hrE
    have hr1 : r ≤ 1048576 := by omega
    clear hrE
    go_wp2
    go_ret
    exact ⟨r, rfl, .inr ⟨hr0, HE.out⟩, by (repeat (first | with_reducible exact Below.refl _ _ | with_reducible assumption | (with_reducible refine below_drewN ?_ _) | (with_reducible refine Below.drew ?_) | (with_reducible refine Below.setCell ?_ (by first | omega | (simp; done) | (simp; omega)) _) | (with_reducible refine Below.alloc ?_ (by first | omega | (simp; done) | (simp; omega)) _) | refine Below.trans ?_ (Below.mono (by with_reducible assumption) (by first | omega | (simp; done) | (simp; omega)))))⟩

set_option maxHeartbeats 1000000 in
theorem toSig_any {A : Option Addr} {n c : Nat} {ls : List SymV} {w : World} (h : Syms w A n ls) (hn : n ≤ 1048576) (hm : ssum ls n ≤ 1048576) :
    Calls Try.prog 24 #[.agg #[.slice A n c]] w fun e w' => ∃ g, e = .returned (.agg #[.slice (some ⟨g, 0, none⟩) n n]) ∧ Syms w' (some ⟨g, 0, none⟩) n ls ∧ w.heap.size ≤ g ∧ Below w.heap.size w w' := by
  go_enter Try.func24, Try.ntmps24
  go_wp2_with fail
  refine (toSymS_any (h.later (by (repeat (first | with_reducible exact Below.refl _ _ | with_reducible assumption | (with_reducible refine below_drewN ?_ _) | (with_reducible refine Below.drew ?_) | (with_reducible refine Below.setCell ?_ (by first | omega | (simp; done) | (simp; omega)) _) | (with_reducible refine Below.alloc ?_ (by first | omega | (simp; done) | (simp; omega)) _) | refine Below.trans ?_ (Below.mono (by with_reducible assumption) (by first | omega | (simp; done) | (simp; omega))))))) hn hm).mono ?_
  rintro e w1 ⟨rfl, hS, hb1⟩
  simp only [World.size_alloc] at hS
  have hz1 := hb1.size; (try simp at hz1); have hB1 : Below w.heap.size w w1 := (by refine Below.trans ?_ (Below.mono hb1 (by first | omega | (simp; done) | (simp; omega))); (repeat (first | with_reducible exact Below.refl _ _ | with_reducible assumption | (with_reducible refine below_drewN ?_ _) | (with_reducible refine Below.drew ?_) | (with_reducible refine Below.setCell ?_ (by first | omega | (simp; done) | (simp; omega)) _) | (with_reducible refine Below.alloc ?_ (by first | omega | (simp; done) | (simp; omega)) _) | refine Below.trans ?_ (Below.mono (by with_reducible assumption) (by first | omega | (simp; done) | (simp; omega)))))); obtain ⟨kc_, fc_, lc_⟩ := keep_later (a := ⟨w.heap.size, 0, none⟩) (v := .slice A n c) hb1 (by go_simp) (by go_simp); obtain ⟨kc_, fc_, lc_⟩ := keep_later (a := ⟨w.heap.size+1, 0, none⟩) (v := .slice none 0 0) hb1 (by go_simp) (by go_simp); obtain ⟨kc_, fc_, lc_⟩ := keep_later (a := ⟨w.heap.size+1+1, 0, none⟩) (v := .slice none 0 0) hb1 (by go_simp) (by go_simp)
  clear hb1
  have hU : SymsUp ((w1.setCell ⟨w.heap.size + 1 + 1, 0, none⟩ (.slice (some ⟨w.heap.size + 1 + 1 + 1, 0, none⟩) n n)).setCell ⟨w.heap.size + 1, 0, none⟩ (.slice (some ⟨w.heap.size + 1 + 1 + 1, 0, none⟩) n n)) (w.heap.size + 1 + 1 + 1) n ls := (hS.far (by show w.heap.size + 1 + 1 < _; omega) _).far (by show w.heap.size + 1 < _; omega) _
  clear hS
  go_wp2
  refine bodyPost_ret (v := .agg #[.slice (some ⟨w.heap.size + 1 + 1 + 1, 0, none⟩) n n]) (by simp only [results, Try.results24]; go_simp) rfl ⟨w.heap.size + 1 + 1 + 1, rfl, hU.syms, by omega, ?_⟩
  (repeat (first | with_reducible exact Below.refl _ _ | with_reducible assumption | (with_reducible refine below_drewN ?_ _) | (with_reducible refine Below.drew ?_) | (with_reducible refine Below.setCell ?_ (by first | omega | (simp; done) | (simp; omega)) _) | (with_reducible refine Below.alloc ?_ (by first | omega | (simp; done) | (simp; omega)) _) | refine Below.trans ?_ (Below.mono (by with_reducible assumption) (by first | omega | (simp; done) | (simp; omega)))))

theorem eqSig_same {A A' : Option Addr} {n c c' : Nat} {ls : List SymV} {w : World} (h : Syms w A n ls) (h' : Syms w A' n ls) :
    Calls Try.prog 25 #[.agg #[.slice A n c], .agg #[.slice A' n c']] w fun e w' => e = .returned (.bool true) ∧ Below w.heap.size w w' := by
  go_enter Try.func25, Try.ntmps25
  go_wp2_with fail
  refine (eqSymS_same (h.later (by (repeat (first | with_reducible exact Below.refl _ _ | with_reducible assumption | (with_reducible refine below_drewN ?_ _) | (with_reducible refine Below.drew ?_) | (with_reducible refine Below.setCell ?_ (by first | omega | (simp; done) | (simp; omega)) _) | (with_reducible refine Below.alloc ?_ (by first | omega | (simp; done) | (simp; omega)) _) | refine Below.trans ?_ (Below.mono (by with_reducible assumption) (by first | omega | (simp; done) | (simp; omega))))))) (h'.later (by (repeat (first | with_reducible exact Below.refl _ _ | with_reducible assumption | (with_reducible refine below_drewN ?_ _) | (with_reducible refine Below.drew ?_) | (with_reducible refine Below.setCell ?_ (by first | omega | (simp; done) | (simp; omega)) _) | (with_reducible refine Below.alloc ?_ (by first | omega | (simp; done) | (simp; omega)) _) | refine Below.trans ?_ (Below.mono (by with_reducible assumption) (by first | omega | (simp; done) | (simp; omega)))))))).mono ?_
  rintro e w1 ⟨rfl, hb1⟩
  have hz1 := hb1.size; (try simp at hz1); have hB1 : Below w.heap.size w w1 := (by refine Below.trans ?_ (Below.mono hb1 (by first | omega | (simp; done) | (simp; omega))); (repeat (first | with_reducible exact Below.refl _ _ | with_reducible assumption | (with_reducible refine below_drewN ?_ _) | (with_reducible refine Below.drew ?_) | (with_reducible refine Below.setCell ?_ (by first | omega | (simp; done) | (simp; omega)) _) | (with_reducible refine Below.alloc ?_ (by first | omega | (simp; done) | (simp; omega)) _) | refine Below.trans ?_ (Below.mono (by with_reducible assumption) (by first | omega | (simp; done) | (simp; omega))))))
  clear hb1
  go_wp2
  go_ret
  exact ⟨rfl, by (repeat (first | with_reducible exact Below.refl _ _ | with_reducible assumption | (with_reducible refine below_drewN ?_ _) | (with_reducible refine Below.drew ?_) | (with_reducible refine Below.setCell ?_ (by first | omega | (simp; done) | (simp; omega)) _) | (with_reducible refine Below.alloc ?_ (by first | omega | (simp; done) | (simp; omega)) _) | refine Below.trans ?_ (Below.mono (by with_reducible assumption) (by first | omega | (simp; done) | (simp; omega)))))⟩
/-- two words are one -/
def symSame (s : ByteArray) (xs : List Int) (k : Int) (s' : ByteArray) (ys : List Int) (k' : Int) : Bool := decide (s.toList = s'.toList) && (decide (xs = ys) && k == k')

set_option maxHeartbeats 1000000 in
theorem sigSame1_any {A A' : Option Addr} {n n' c c' : Nat} {xs ys : List Int} (s s' : ByteArray) (k k' : Int) {w : World} (h : Ints w A n xs) (h' : Ints w A' n' ys) :
    Calls Try.prog 50 #[.agg #[.string s, .slice A n c, .int .i64 k], .agg #[.string s', .slice A' n' c', .int .i64 k']] w fun e w' => e = .returned (.bool (symSame s xs k s' ys k')) ∧ Below w.heap.size w w' := by
  unfold symSame
  by_cases hs : s.toList = s'.toList
  · have hs1 : decide (s.toList = s'.toList) = true := by simpa using hs
    rw [hs1]
    cases hx : decide (xs = ys)
    · go_enter Try.func50, Try.ntmps50
      go_wp2_with fail
      refine (slicesEqual_any (h.later (by (repeat (first | with_reducible exact Below.refl _ _ | with_reducible assumption | (with_reducible refine below_drewN ?_ _) | (with_reducible refine Below.drew ?_) | (with_reducible refine Below.setCell ?_ (by first | omega | (simp; done) | (simp; omega)) _) | (with_reducible refine Below.alloc ?_ (by first | omega | (simp; done) | (simp; omega)) _) | refine Below.trans ?_ (Below.mono (by with_reducible assumption) (by first | omega | (simp; done) | (simp; omega))))))) (h'.later (by (repeat (first | with_reducible exact Below.refl _ _ | with_reducible assumption | (with_reducible refine below_drewN ?_ _) | (with_reducible refine Below.drew ?_) | (with_reducible refine Below.setCell ?_ (by first | omega | (simp; done) | (simp; omega)) _) | (with_reducible refine Below.alloc ?_ (by first | omega | (simp; done) | (simp; omega)) _) | refine Below.trans ?_ (Below.mono (by with_reducible assumption) (by first | omega | (simp; done) | (simp; omega)))))))).mono ?_
      rw [hx]
      rintro e w1 ⟨rfl, m, rfl⟩
      go_wp2
      go_ret
      exact ⟨by simp, by (repeat (first | with_reducible exact Below.refl _ _ | with_reducible assumption | (with_reducible refine below_drewN ?_ _) | (with_reducible refine Below.drew ?_) | (with_reducible refine Below.setCell ?_ (by first | omega | (simp; done) | (simp; omega)) _) | (with_reducible refine Below.alloc ?_ (by first | omega | (simp; done) | (simp; omega)) _) | refine Below.trans ?_ (Below.mono (by with_reducible assumption) (by first | omega | (simp; done) | (simp; omega)))))⟩
    · by_cases hk : k = k'
      · subst hk
        go_enter Try.func50, Try.ntmps50
        go_wp2_with fail
        refine (slicesEqual_any (h.later (by (repeat (first | with_reducible exact Below.refl _ _ | with_reducible assumption | (with_reducible refine below_drewN ?_ _) | (with_reducible refine Below.drew ?_) | (with_reducible refine Below.setCell ?_ (by first | omega | (simp; done) | (simp; omega)) _) | (with_reducible refine Below.alloc ?_ (by first | omega | (simp; done) | (simp; omega)) _) | refine Below.trans ?_ (Below.mono (by with_reducible assumption) (by first | omega | (simp; done) | (simp; omega))))))) (h'.later (by (repeat (first | with_reducible exact Below.refl _ _ | with_reducible assumption | (with_reducible refine below_drewN ?_ _) | (with_reducible refine Below.drew ?_) | (with_reducible refine Below.setCell ?_ (by first | omega | (simp; done) | (simp; omega)) _) | (with_reducible refine Below.alloc ?_ (by first | omega | (simp; done) | (simp; omega)) _) | refine Below.trans ?_ (Below.mono (by with_reducible assumption) (by first | omega | (simp; done) | (simp; omega)))))))).mono ?_
        rw [hx]
        rintro e w1 ⟨rfl, m, rfl⟩
        go_wp2
        go_ret
        exact ⟨by simp, by (repeat (first | with_reducible exact Below.refl _ _ | with_reducible assumption | (with_reducible refine below_drewN ?_ _) | (with_reducible refine Below.drew ?_) | (with_reducible refine Below.setCell ?_ (by first | omega | (simp; done) | (simp; omega)) _) | (with_reducible refine Below.alloc ?_ (by first | omega | (simp; done) | (simp; omega)) _) | refine Below.trans ?_ (Below.mono (by with_reducible assumption) (by first | omega | (simp; done) | (simp; omega)))))⟩
      · have hk2 : (k == k') = false := by simpa using hk
        go_enter Try.func50, Try.ntmps50
        go_wp2_with fail
        refine (slicesEqual_any (h.later (by (repeat (first | with_reducible exact Below.refl _ _ | with_reducible assumption | (with_reducible refine below_drewN ?_ _) | (with_reducible refine Below.drew ?_) | (with_reducible refine Below.setCell ?_ (by first | omega | (simp; done) | (simp; omega)) _) | (with_reducible refine Below.alloc ?_ (by first | omega | (simp; done) | (simp; omega)) _) | refine Below.trans ?_ (Below.mono (by with_reducible assumption) (by first | omega | (simp; done) | (simp; omega))))))) (h'.later (by (repeat (first | with_reducible exact Below.refl _ _ | with_reducible assumption | (with_reducible refine below_drewN ?_ _) | (with_reducible refine Below.drew ?_) | (with_reducible refine Below.setCell ?_ (by first | omega | (simp; done) | (simp; omega)) _) | (with_reducible refine Below.alloc ?_ (by first | omega | (simp; done) | (simp; omega)) _) | refine Below.trans ?_ (Below.mono (by with_reducible assumption) (by first | omega | (simp; done) | (simp; omega)))))))).mono ?_
        rw [hx]
        rintro e w1 ⟨rfl, m, rfl⟩
        go_wp2
        go_ret
        exact ⟨by simp [hk2], by (repeat (first | with_reducible exact Below.refl _ _ | with_reducible assumption | (with_reducible refine below_drewN ?_ _) | (with_reducible refine Below.drew ?_) | (with_reducible refine Below.setCell ?_ (by first | omega | (simp; done) | (simp; omega)) _) | (with_reducible refine Below.alloc ?_ (by first | omega | (simp; done) | (simp; omega)) _) | refine Below.trans ?_ (Below.mono (by with_reducible assumption) (by first | omega | (simp; done) | (simp; omega)))))⟩
  · have hs3 : decide (s.toList = s'.toList) = false := by simpa using hs
    go_enter Try.func50, Try.ntmps50
    go_wp2
    go_ret
    exact ⟨by simp [hs], by (repeat (first | with_reducible exact Below.refl _ _ | with_reducible assumption | (with_reducible refine below_drewN ?_ _) | (with_reducible refine Below.drew ?_) | (with_reducible refine Below.setCell ?_ (by first | omega | (simp; done) | (simp; omega)) _) | (with_reducible refine Below.alloc ?_ (by first | omega | (simp; done) | (simp; omega)) _) | refine Below.trans ?_ (Below.mono (by with_reducible assumption) (by first | omega | (simp; done) | (simp; omega)))))⟩
def symAt (ls ls' : List SymV) (j : Nat) : Bool := symSame (ls.getD j sym0).1 (ls.getD j sym0).2.1 (ls.getD j sym0).2.2 (ls'.getD j sym0).1 (ls'.getD j sym0).2.1 (ls'.getD j sym0).2.2
/-- two lists of words are one -/
def symsSame (ls ls' : List SymV) : Bool := decide (ls.length = ls'.length) && decide (∀ j, j < ls.length → symAt ls ls' j = true)
def SymTo (ls ls' : List SymV) (k : Nat) : Prop := ∀ j, j < k → symAt ls ls' j = true
theorem SymTo.zero (ls ls' : List SymV) : SymTo ls ls' 0 := fun _ h => absurd h (by omega)
theorem SymTo.succ {ls ls' : List SymV} {k : Nat} (h : SymTo ls ls' k) (h' : symAt ls ls' k = true) : SymTo ls ls' (k + 1) := fun j hj => by
  by_cases e : j = k
  · rw [e]; exact h'
  · exact h j (by omega)
theorem symsSame_no {ls ls' : List SymV} {k : Nat} (hk : k < ls.length) (h : symAt ls ls' k = false) : symsSame ls ls' = false := by
  unfold symsSame
  rw [decide_eq_false (p := ∀ j, j < ls.length → symAt ls ls' j = true) (fun hh => by have := hh k hk; rw [h] at this; cases this), Bool.and_false]
theorem symsSame_len {ls ls' : List SymV} (h : ls.length ≠ ls'.length) : symsSame ls ls' = false := by
  unfold symsSame; rw [decide_eq_false h, Bool.false_and]
theorem symsSame_yes {ls ls' : List SymV} (hl : ls.length = ls'.length) (h : SymTo ls ls' ls.length) : symsSame ls ls' = true := by
  have hh : ∀ j, j < ls.length → symAt ls ls' j = true := h
  unfold symsSame
  rw [decide_eq_true hl, decide_eq_true hh]; rfl

set_option maxHeartbeats 4000000 in
theorem equalFuncSym_any {A A' : Option Addr} {n n' c c' : Nat} {ls ls' : List SymV} {w : World} (h : Syms w A n ls) (h' : Syms w A' n' ls') :
    Calls Try.prog 49 #[.slice A n c, .slice A' n' c', .func (.func 50) #[] #[]] w fun e w' => e = .returned (.bool (symsSame ls ls')) ∧ Below w.heap.size w w' := by
  have hfew := h.few
  have hfew' := h'.few
  by_cases hn : n = n'
  · subst hn
    have hl := Lib.hid (h.len.trans h'.len.symm)
    obtain ⟨f, hf⟩ : ∃ f, symsSame ls ls' = f := ⟨_, rfl⟩
    rw [hf]
    have HF := Lib.hid hf
    clear hf
    go_enter Try.func49, Try.ntmps49
    go_wp2_with fail
    go_loopw [17] (fun i wr => ∃ k : Nat, k ≤ n ∧ i = .int .i64 k ∧ SymTo ls ls' k ∧ Below w.heap.size w wr) (fun i _ => n - (intOf i).toNat)
    case atStart => exact ⟨0, by omega, rfl, SymTo.zero ls ls', by (repeat (first | with_reducible exact Below.refl _ _ | with_reducible assumption | (with_reducible refine below_drewN ?_ _) | (with_reducible refine Below.drew ?_) | (with_reducible refine Below.setCell ?_ (by first | omega | (simp; done) | (simp; omega)) _) | (with_reducible refine Below.alloc ?_ (by first | omega | (simp; done) | (simp; omega)) _) | refine Below.trans ?_ (Below.mono (by with_reducible assumption) (by first | omega | (simp; done) | (simp; omega)))))⟩
    case round =>
      obtain ⟨k, hk, rfl, hok, hB⟩ := hrel
      have hzr := hB.size
      by_cases hlt : k < n
      · obtain ⟨p, o, rfl, hp, hcs⟩ := (h.later hB).cells (by omega)
        have hsf := (hcs k hlt).few
        obtain ⟨B, m, cb, hIk, hc1, hc2, hc3⟩ := (hcs k hlt).ex
        clear hcs
        obtain ⟨p', o', rfl, hp', hcs'⟩ := (h'.later hB).cells (by omega)
        obtain ⟨B', m', cb', hIk', hc4, hc5, hc6⟩ := (hcs' k hlt).ex
        clear hcs'
        have hno := Lib.hid (@symsSame_no ls ls' k (by rw [h.len]; exact hlt))
        have hyes := Lib.hid (@SymTo.succ ls ls' k hok)
        obtain ⟨v, hv⟩ : ∃ v, symAt ls ls' k = v := ⟨_, rfl⟩
        have hv2 := hv
        unfold symAt at hv2
        generalize (ls.getD k sym0).1 = s at *
        generalize (ls.getD k sym0).2.1 = xs at *
        generalize (ls.getD k sym0).2.2 = b at *
        generalize (ls'.getD k sym0).1 = s' at *
        generalize (ls'.getD k sym0).2.1 = ys at *
        generalize (ls'.getD k sym0).2.2 = b' at *
        go_wp2_with fail
        refine (sigSame1_any s s' b b' (hIk.later (by (repeat (first | with_reducible exact Below.refl _ _ | with_reducible assumption | (with_reducible refine below_drewN ?_ _) | (with_reducible refine Below.drew ?_) | (with_reducible refine Below.setCell ?_ (by first | omega | (simp; done) | (simp; omega)) _) | (with_reducible refine Below.alloc ?_ (by first | omega | (simp; done) | (simp; omega)) _) | refine Below.trans ?_ (Below.mono (by with_reducible assumption) (by first | omega | (simp; done) | (simp; omega))))))) (hIk'.later (by (repeat (first | with_reducible exact Below.refl _ _ | with_reducible assumption | (with_reducible refine below_drewN ?_ _) | (with_reducible refine Below.drew ?_) | (with_reducible refine Below.setCell ?_ (by first | omega | (simp; done) | (simp; omega)) _) | (with_reducible refine Below.alloc ?_ (by first | omega | (simp; done) | (simp; omega)) _) | refine Below.trans ?_ (Below.mono (by with_reducible assumption) (by first | omega | (simp; done) | (simp; omega)))))))).mono ?_
        rw [hv2]
        rintro e w1 ⟨rfl, hb1⟩
        have hz1 := hb1.size; (try simp at hz1); have hB1 : Below w.heap.size w w1 := (by refine Below.trans ?_ (Below.mono hb1 (by first | omega | (simp; done) | (simp; omega))); (repeat (first | with_reducible exact Below.refl _ _ | with_reducible assumption | (with_reducible refine below_drewN ?_ _) | (with_reducible refine Below.drew ?_) | (with_reducible refine Below.setCell ?_ (by first | omega | (simp; done) | (simp; omega)) _) | (with_reducible refine Below.alloc ?_ (by first | omega | (simp; done) | (simp; omega)) _) | refine Below.trans ?_ (Below.mono (by with_reducible assumption) (by first | omega | (simp; done) | (simp; omega))))))
        clear hb1
        cases v
        · have he := HF.out.symm.trans (hno.out hv)
          subst he
          go_wp2
          go_ret
          exact ⟨rfl, by (repeat (first | with_reducible exact Below.refl _ _ | with_reducible assumption | (with_reducible refine below_drewN ?_ _) | (with_reducible refine Below.drew ?_) | (with_reducible refine Below.setCell ?_ (by first | omega | (simp; done) | (simp; omega)) _) | (with_reducible refine Below.alloc ?_ (by first | omega | (simp; done) | (simp; omega)) _) | refine Below.trans ?_ (Below.mono (by with_reducible assumption) (by first | omega | (simp; done) | (simp; omega)))))⟩
        · have HY := Lib.hid (hyes.out hv)
          go_wp2
          go_roundw
          case rel => exact ⟨k + 1, by omega, by go_num, HY.out, by (repeat (first | with_reducible exact Below.refl _ _ | with_reducible assumption | (with_reducible refine below_drewN ?_ _) | (with_reducible refine Below.drew ?_) | (with_reducible refine Below.setCell ?_ (by first | omega | (simp; done) | (simp; omega)) _) | (with_reducible refine Below.alloc ?_ (by first | omega | (simp; done) | (simp; omega)) _) | refine Below.trans ?_ (Below.mono (by with_reducible assumption) (by first | omega | (simp; done) | (simp; omega)))))⟩
          case measure => simp [intOf]; omega
      · obtain rfl : k = n := by omega
        have he := HF.out.symm.trans (symsSame_yes hl.out (by rw [h.len]; exact hok))
        subst he
        go_wp2
        go_ret
        exact ⟨rfl, hB⟩
  · have hne : ((n : Int) != (n' : Int)) = true := by simp; omega
    have hd : symsSame ls ls' = false := symsSame_len (by rw [h.len, h'.len]; exact hn)
    rw [hd]
    go_enter Try.func49, Try.ntmps49
    go_wp2
    go_ret
    exact ⟨rfl, Below.refl _ _⟩

theorem iSigSame_any {A A' : Option Addr} {n n' c c' : Nat} {ls ls' : List SymV} {w : World} (h : Syms w A n ls) (h' : Syms w A' n' ls') :
    Calls Try.prog 21 #[.agg #[.slice A n c], .agg #[.slice A' n' c']] w fun e w' => e = .returned (.bool (symsSame ls ls')) ∧ Below w.heap.size w w' := by
  go_enter Try.func21, Try.ntmps21
  go_wp2_with fail
  refine (equalFuncSym_any (h.later (by (repeat (first | with_reducible exact Below.refl _ _ | with_reducible assumption | (with_reducible refine below_drewN ?_ _) | (with_reducible refine Below.drew ?_) | (with_reducible refine Below.setCell ?_ (by first | omega | (simp; done) | (simp; omega)) _) | (with_reducible refine Below.alloc ?_ (by first | omega | (simp; done) | (simp; omega)) _) | refine Below.trans ?_ (Below.mono (by with_reducible assumption) (by first | omega | (simp; done) | (simp; omega))))))) (h'.later (by (repeat (first | with_reducible exact Below.refl _ _ | with_reducible assumption | (with_reducible refine below_drewN ?_ _) | (with_reducible refine Below.drew ?_) | (with_reducible refine Below.setCell ?_ (by first | omega | (simp; done) | (simp; omega)) _) | (with_reducible refine Below.alloc ?_ (by first | omega | (simp; done) | (simp; omega)) _) | refine Below.trans ?_ (Below.mono (by with_reducible assumption) (by first | omega | (simp; done) | (simp; omega)))))))).mono ?_
  rintro e w1 ⟨rfl, hb1⟩
  have hz1 := hb1.size; (try simp at hz1); have hB1 : Below w.heap.size w w1 := (by refine Below.trans ?_ (Below.mono hb1 (by first | omega | (simp; done) | (simp; omega))); (repeat (first | with_reducible exact Below.refl _ _ | with_reducible assumption | (with_reducible refine below_drewN ?_ _) | (with_reducible refine Below.drew ?_) | (with_reducible refine Below.setCell ?_ (by first | omega | (simp; done) | (simp; omega)) _) | (with_reducible refine Below.alloc ?_ (by first | omega | (simp; done) | (simp; omega)) _) | refine Below.trans ?_ (Below.mono (by with_reducible assumption) (by first | omega | (simp; done) | (simp; omega))))))
  clear hb1
  go_wp2
  go_ret
  exact ⟨rfl, by (repeat (first | with_reducible exact Below.refl _ _ | with_reducible assumption | (with_reducible refine below_drewN ?_ _) | (with_reducible refine Below.drew ?_) | (with_reducible refine Below.setCell ?_ (by first | omega | (simp; done) | (simp; omega)) _) | (with_reducible refine Below.alloc ?_ (by first | omega | (simp; done) | (simp; omega)) _) | refine Below.trans ?_ (Below.mono (by with_reducible assumption) (by first | omega | (simp; done) | (simp; omega)))))⟩

theorem symAt_of {ls ls' : List SymV} {k : Nat} {s s' : ByteArray} {xs ys : List Int} {b b' : Int} (h1 : (ls.getD k sym0).1 = s) (h2 : (ls.getD k sym0).2.1 = xs) (h3 : (ls.getD k sym0).2.2 = b) (h4 : (ls'.getD k sym0).1 = s') (h5 : (ls'.getD k sym0).2.1 = ys) (h6 : (ls'.getD k sym0).2.2 = b') : symAt ls ls' k = symSame s xs b s' ys b' := by
  subst h1 h2 h3 h4 h5 h6; rfl
set_option maxHeartbeats 8000000 in
theorem sSigSame_any {A A' : Option Addr} {n n' c c' : Nat} {ls ls' : List SymV} {w : World} (h : Syms w A n ls) (h' : Syms w A' n' ls') :
    Calls Try.prog 22 #[.agg #[.slice A n c], .agg #[.slice A' n' c']] w fun e w' => e = .returned (.bool (symsSame ls ls')) ∧ Below w.heap.size w w' := by
  have hfew := h.few
  have hfew' := h'.few
  by_cases hn : n = n'
  · subst hn
    have hl := Lib.hid (h.len.trans h'.len.symm)
    obtain ⟨f, hf⟩ : ∃ f, symsSame ls ls' = f := ⟨_, rfl⟩
    rw [hf]
    have HF := Lib.hid hf
    clear hf
    go_enter Try.func22, Try.ntmps22
    go_wp2_with fail
    go_loopw [5] (fun i wr => ∃ k : Nat, k ≤ n ∧ i = .int .i64 k ∧ SymTo ls ls' k ∧ wr.cell? ⟨w.heap.size, 0, none⟩ = some (.slice A n c) ∧ wr.cell? ⟨w.heap.size + 1, 0, none⟩ = some (.slice A' n c') ∧ Below w.heap.size w wr) (fun i _ => n - (intOf i).toNat)
    case atStart => exact ⟨0, by omega, rfl, SymTo.zero ls ls', by go_simp, by go_simp, by (repeat (first | with_reducible exact Below.refl _ _ | with_reducible assumption | (with_reducible refine below_drewN ?_ _) | (with_reducible refine Below.drew ?_) | (with_reducible refine Below.setCell ?_ (by first | omega | (simp; done) | (simp; omega)) _) | (with_reducible refine Below.alloc ?_ (by first | omega | (simp; done) | (simp; omega)) _) | refine Below.trans ?_ (Below.mono (by with_reducible assumption) (by first | omega | (simp; done) | (simp; omega)))))⟩
    case round =>
      obtain ⟨k, hk, rfl, hok, hq1, hq2, hB⟩ := hrel
      have hzr := hB.size
      have hx1 := World.block_lt_of_cell? _ _ hq1
      have hx2 := World.block_lt_of_cell? _ _ hq2
      dsimp only at hx1 hx2
      by_cases hlt : k < n
      · obtain ⟨p, o, rfl, hp, hcs⟩ := (h.later hB).cells (by omega)
        have hsf := (hcs k hlt).few
        obtain ⟨B, m, cb, hIk, hc1, hc2, hc3⟩ := (hcs k hlt).ex
        clear hcs
        obtain ⟨p', o', rfl, hp', hcs'⟩ := (h'.later hB).cells (by omega)
        obtain ⟨B', m', cb', hIk', hc4, hc5, hc6⟩ := (hcs' k hlt).ex
        clear hcs'
        have hmf := hIk.few
        have hmf' := hIk'.few
        have hno := Lib.hid (@symsSame_no ls ls' k (by rw [h.len]; exact hlt))
        have hyes := Lib.hid (@SymTo.succ ls ls' k hok)
        have hat := Lib.hid (@symAt_of ls ls' k _ _ _ _ _ _ rfl rfl rfl rfl rfl rfl)
        generalize (ls.getD k sym0).1 = s at *
        generalize (ls.getD k sym0).2.1 = xs at *
        generalize (ls.getD k sym0).2.2 = b at *
        generalize (ls'.getD k sym0).1 = s' at *
        generalize (ls'.getD k sym0).2.1 = ys at *
        generalize (ls'.getD k sym0).2.2 = b' at *
        by_cases hs : s.toList = s'.toList
        · by_cases hb : b = b'
          · subst hb
            have hbb : (b != b) = false := by simp
            by_cases hm : m = m'
            · subst hm
              have hmm : ((m : Int) != (m : Int)) = false := by simp
              have hlx := Lib.hid (hIk.len.trans hIk'.len.symm)
              have hat2 : Hid (symAt ls ls' k = decide (xs = ys)) := Lib.hid (by rw [hat.out]; simp [symSame, hs])
              go_wp2_with fail
              go_loopw [8] (fun i wq => ∃ j q : Nat, j ≤ m ∧ i = .int .i64 j ∧ SameTo xs ys j ∧ wq = ((wr.alloc (.cells #[.string s, .slice B m cb, .int .i64 b] 43)).alloc (.cells #[.string s', .slice B' m cb', .int .i64 b] 43)).drewN q) (fun i _ => m - (intOf i).toNat)
              case atStart => exact ⟨0, 0, by omega, rfl, SameTo.zero xs ys, by first | rfl | (simp [World.setCell, World.alloc]; done)⟩
              case round =>
                obtain ⟨j, q, hj, rfl, hoj, rfl⟩ := hrel
                by_cases hlj : j < m
                · obtain ⟨r, u, rfl, hr, hd⟩ := hIk.cells (by omega)
                  obtain ⟨r', u', rfl, hr', hd'⟩ := hIk'.cells (by omega)
                  have hdk := hd j hlj
                  have hdk' := hd' j hlj
                  clear hd hd'
                  have hnoj := Lib.hid (@same_no xs ys j)
                  have hyesj := Lib.hid (@SameTo.succ xs ys j hoj)
                  generalize xs.getD j 0 = x at *
                  generalize ys.getD j 0 = y at *
                  cases hxy : (x != y)
                  · go_wp2
                    go_quiet (fail)
                    go_wp2
                    go_roundw
                    case rel => exact ⟨j + 1, q + nq, by omega, by go_num, hyesj.out (by simpa using hxy), by first | rfl | exact World.drewN_drewN ..⟩
                    case measure => simp [intOf]; omega
                  · have he := HF.out.symm.trans (hno.out (hat2.out.trans (hnoj.out hxy)))
                    subst he
                    go_wp2
                    go_quiet (fail)
                    go_wp2
                    go_ret
                    exact ⟨rfl, by (repeat (first | with_reducible exact Below.refl _ _ | with_reducible assumption | (with_reducible refine below_drewN ?_ _) | (with_reducible refine Below.drew ?_) | (with_reducible refine Below.setCell ?_ (by first | omega | (simp; done) | (simp; omega)) _) | (with_reducible refine Below.alloc ?_ (by first | omega | (simp; done) | (simp; omega)) _) | refine Below.trans ?_ (Below.mono (by with_reducible assumption) (by first | omega | (simp; done) | (simp; omega)))))⟩
                · obtain rfl : j = m := by omega
                  have HY := Lib.hid (hyes.out (hat2.out.trans (same_yes hlx.out (by rw [hIk.len]; exact hoj))))
                  go_wp2
                  go_roundw
                  case rel => exact ⟨k + 1, by omega, by go_num, HY.out, by go_simp, by go_simp, by (repeat (first | with_reducible exact Below.refl _ _ | with_reducible assumption | (with_reducible refine below_drewN ?_ _) | (with_reducible refine Below.drew ?_) | (with_reducible refine Below.setCell ?_ (by first | omega | (simp; done) | (simp; omega)) _) | (with_reducible refine Below.alloc ?_ (by first | omega | (simp; done) | (simp; omega)) _) | refine Below.trans ?_ (Below.mono (by with_reducible assumption) (by first | omega | (simp; done) | (simp; omega)))))⟩
                  case measure => simp [intOf]; omega
            · have hmm : ((m : Int) != (m' : Int)) = true := by simp; omega
              have he := HF.out.symm.trans (hno.out (hat.out.trans (by unfold symSame; rw [same_len (xs := xs) (ys := ys) (by rw [hIk.len, hIk'.len]; exact hm)]; simp)))
              subst he
              go_wp2
              go_ret
              exact ⟨rfl, by (repeat (first | with_reducible exact Below.refl _ _ | with_reducible assumption | (with_reducible refine below_drewN ?_ _) | (with_reducible refine Below.drew ?_) | (with_reducible refine Below.setCell ?_ (by first | omega | (simp; done) | (simp; omega)) _) | (with_reducible refine Below.alloc ?_ (by first | omega | (simp; done) | (simp; omega)) _) | refine Below.trans ?_ (Below.mono (by with_reducible assumption) (by first | omega | (simp; done) | (simp; omega)))))⟩
          · have hbb : (b != b') = true := by simpa using hb
            have he := HF.out.symm.trans (hno.out (hat.out.trans (by simp [symSame, hb])))
            subst he
            go_wp2
            go_ret
            exact ⟨rfl, by (repeat (first | with_reducible exact Below.refl _ _ | with_reducible assumption | (with_reducible refine below_drewN ?_ _) | (with_reducible refine Below.drew ?_) | (with_reducible refine Below.setCell ?_ (by first | omega | (simp; done) | (simp; omega)) _) | (with_reducible refine Below.alloc ?_ (by first | omega | (simp; done) | (simp; omega)) _) | refine Below.trans ?_ (Below.mono (by with_reducible assumption) (by first | omega | (simp; done) | (simp; omega)))))⟩
        · have he := HF.out.symm.trans (hno.out (hat.out.trans (by simp [symSame, hs])))
          subst he
          go_wp2
          go_ret
          exact ⟨rfl, by (repeat (first | with_reducible exact Below.refl _ _ | with_reducible assumption | (with_reducible refine below_drewN ?_ _) | (with_reducible refine Below.drew ?_) | (with_reducible refine Below.setCell ?_ (by first | omega | (simp; done) | (simp; omega)) _) | (with_reducible refine Below.alloc ?_ (by first | omega | (simp; done) | (simp; omega)) _) | refine Below.trans ?_ (Below.mono (by with_reducible assumption) (by first | omega | (simp; done) | (simp; omega)))))⟩
      · obtain rfl : k = n := by omega
        have he := HF.out.symm.trans (symsSame_yes hl.out (by rw [h.len]; exact hok))
        subst he
        go_wp2
        go_ret
        exact ⟨rfl, hB⟩
  · have hne : ((n : Int) != (n' : Int)) = true := by simp; omega
    have hd : symsSame ls ls' = false := symsSame_len (by rw [h.len, h'.len]; exact hn)
    rw [hd]
    go_enter Try.func22, Try.ntmps22
    go_wp2
    go_ret
    exact ⟨rfl, by (repeat (first | with_reducible exact Below.refl _ _ | with_reducible assumption | (with_reducible refine below_drewN ?_ _) | (with_reducible refine Below.drew ?_) | (with_reducible refine Below.setCell ?_ (by first | omega | (simp; done) | (simp; omega)) _) | (with_reducible refine Below.alloc ?_ (by first | omega | (simp; done) | (simp; omega)) _) | refine Below.trans ?_ (Below.mono (by with_reducible assumption) (by first | omega | (simp; done) | (simp; omega)))))⟩
end Go.Proofs.Ytgmeoblapnmpiaa

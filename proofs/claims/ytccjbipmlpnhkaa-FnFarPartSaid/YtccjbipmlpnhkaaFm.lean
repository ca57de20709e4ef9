/- Lists of constraints that are measured, copied out of plain data, and compared. -/
import Derived.Test.YtccjbipmlpnhkaaFl
import Derived.Deep.Slices
import Derived.Deep.Strs
namespace Go.Proofs.Ytccjbipmlpnhkaa
set_option maxRecDepth 100000
open Go.RowKit Go.ChangeShapes Go.WideShapes Go.ChangeAt
set_option linter.unusedSimpArgs false
set_option linter.unusedVariables false

/-- how many numbers the first k hold -/
def lsum (ls : List LinV) : Nat → Nat
  | 0 => 0
  | k + 1 => lsum ls k + (ls.getD k lin0).1.length
theorem lsum_mono (ls : List LinV) : ∀ {j k : Nat}, j ≤ k → lsum ls j ≤ lsum ls k
  | j, 0, h => by obtain rfl : j = 0 := by omega
                  exact Nat.le_refl _
  | j, k + 1, h => by
    by_cases e : j = k + 1
    · subst e; exact Nat.le_refl _
    · have := lsum_mono ls (show j ≤ k by omega)
      simp only [lsum]; omega
theorem lsum_at (ls : List LinV) {j n : Nat} (h : j < n) : (ls.getD j lin0).1.length ≤ lsum ls n := by
  have := lsum_mono ls (show j + 1 ≤ n by omega)
  simp only [lsum] at this
  omega

/-- what is left, or -1 -/
def SzBack (ls : List LinV) (n : Nat) (left : Int) (w : World) (e : Ending) (w' : World) : Prop :=
  ∃ r : Int, e = .returned (.int .i64 r) ∧ (r = -1 ∨ (0 ≤ r ∧ r = left - n - lsum ls n)) ∧ Below w.heap.size w w'
set_option maxHeartbeats 4000000 in
theorem szLinS_any {A : Option Addr} {n c : Nat} {ls : List LinV} (left : Int) {w : World} (h : Lins w A n ls) (h0 : 0 ≤ left) (h1 : left ≤ 1048576) :
    Calls Try.prog 31 #[.slice A n c, .int .i64 left] w (SzBack ls n left w) := by
  have hfew := h.few
  by_cases hle : (n : Int) ≤ left
  · go_enter Try.func31, Try.ntmps31
    go_wp2_with fail
    go_loopw [1, 5] (fun lf i wr => ∃ (k : Nat) (l : Int), k ≤ n ∧ i = .int .i64 k ∧ lf = .int .i64 l ∧ Hid (l = left - n - lsum ls k) ∧ (0 ≤ l ∧ l ≤ 1048576) ∧ Below w.heap.size w wr) (fun _ i _ => n - (intOf i).toNat)
    case atStart => exact ⟨0, _, by omega, rfl, rfl, Lib.hid (by simp [lsum]), by omega, by (repeat (first | with_reducible exact Below.refl _ _ | with_reducible assumption | (with_reducible refine below_drewN ?_ _) | (with_reducible refine Below.drew ?_) | (with_reducible refine Below.setCell ?_ (by first | omega | (simp; done) | (simp; omega)) _) | (with_reducible refine Below.alloc ?_ (by first | omega | (simp; done) | (simp; omega)) _) | refine Below.trans ?_ (Below.mono (by with_reducible assumption) (by first | omega | (simp; done) | (simp; omega)))))⟩
    case round =>
      obtain ⟨k, l, hk, rfl, rfl, HL, ⟨hl0, hl1⟩, hB⟩ := hrel
      by_cases hlt : k < n
      · obtain ⟨p, o, rfl, hp, hcs⟩ := (h.later hB).cells (by omega)
        obtain ⟨B, m, cb, hIk, hc1, hc2, hc3⟩ := (hcs k hlt).ex
        clear hcs
        have hlen := hIk.len
        have hmf := hIk.few
        have hls : lsum ls (k + 1) = lsum ls k + m := by simp only [lsum]; rw [hlen]
        have HS := Lib.hid hls
        clear hls hlen
        generalize (ls.getD k lin0).1 = xs at *
        generalize (ls.getD k lin0).2.1 = b at *
        generalize (ls.getD k lin0).2.2 = s at *
        by_cases hm : (m : Int) ≤ l
        · have hsz : (if (m : Int) ≤ l then l - m else -1) = l - m := if_pos hm
          go_wp2_with fail
          refine (szLin_any b s l hmf hl0 hl1 _).mono ?_
          rw [hsz]
          rintro e w1 ⟨rfl, hb1⟩
          have hB1 := hB.trans (hb1.mono hB.size)
          clear hsz hb1
          go_wp2
          go_roundw
          case rel => exact ⟨k + 1, l - m, by omega, by go_num, rfl, Lib.hid (by rw [HS.out, HL.out]; omega), by omega, hB1⟩
          case measure => simp [intOf]; omega
        · have hsz : (if (m : Int) ≤ l then l - m else -1) = -1 := if_neg hm
          go_wp2_with fail
          refine (szLin_any b s l hmf hl0 hl1 _).mono ?_
          rw [hsz]
          rintro e w1 ⟨rfl, hb1⟩
          have hB1 := hB.trans (hb1.mono hB.size)
          clear hsz hb1
          go_wp2
          go_ret
          exact ⟨-1, rfl, .inl rfl, hB1⟩
      · obtain rfl : k = n := by omega
        go_wp2
        go_ret
        exact ⟨l, rfl, .inr ⟨hl0, HL.out⟩, hB⟩
  · go_enter Try.func31, Try.ntmps31
    go_wp2
    go_ret
    exact ⟨-1, rfl, .inl rfl, Below.refl _ _⟩
theorem lin_info : (Try.prog.info? 34).map (fun i => (i.zero, i.size, i.bytes)) = some (some (.agg #[.slice none 0 0, .int .i64 0, .bool false]), 3, 40) := by kernel_rfl
/-- The first k triples of cells are the constraints; their rows lie above block R. -/
def Fill3 (w : World) (R : Nat) (zs : List Value) (ls : List LinV) (k : Nat) : Prop := ∀ j, j < k → ∃ g m c, Ints w (some ⟨g, 0, none⟩) m (ls.getD j lin0).1 ∧ R < g ∧ zs[j * 3]? = some (.slice (some ⟨g, 0, none⟩) m c) ∧ zs[j * 3 + 1]? = some (.int .i64 (ls.getD j lin0).2.1) ∧ zs[j * 3 + 2]? = some (.bool (ls.getD j lin0).2.2)
theorem Fill3.zero (w : World) (R : Nat) (zs : List Value) (ls : List LinV) : Fill3 w R zs ls 0 := fun _ h => absurd h (by omega)
theorem Fill3.later {w w' : World} {R : Nat} {zs : List Value} {ls : List LinV} {k : Nat} (h : Fill3 w R zs ls k) (hb : Below w.heap.size w w') : Fill3 w' R zs ls k := fun j hj => by
  obtain ⟨g, m, c, hI, hg, h0⟩ := h j hj
  exact ⟨g, m, c, hI.later hb, hg, h0⟩
theorem Fill3.far {w : World} {R : Nat} {zs : List Value} {ls : List LinV} {k : Nat} (h : Fill3 w R zs ls k) (o : Nat) (v : Value) : Fill3 (w.setCell ⟨R, o, none⟩ v) R zs ls k := fun j hj => by
  obtain ⟨g, m, c, hI, hg, h0⟩ := h j hj
  exact ⟨g, m, c, hI.far (by show R ≠ g; omega) v, hg, h0⟩
theorem Fill3.set {w : World} {R : Nat} {zs : List Value} {ls : List LinV} {k g m c : Nat} (h : Fill3 w R zs ls k) (hk : k * 3 + 2 < zs.length) (hI : Ints w (some ⟨g, 0, none⟩) m (ls.getD k lin0).1) (hg : R < g) :
    Fill3 w R (((zs.set (k * 3) (.slice (some ⟨g, 0, none⟩) m c)).set (k * 3 + 1) (.int .i64 (ls.getD k lin0).2.1)).set (k * 3 + 2) (.bool (ls.getD k lin0).2.2)) ls (k + 1) := fun j hj => by
  by_cases e : j = k
  · subst e
    refine ⟨g, m, c, hI, hg, ?_, ?_, ?_⟩
    · rw [List.getElem?_set_ne (by omega), List.getElem?_set_ne (by omega), List.getElem?_set_self (by omega)]
    · rw [List.getElem?_set_ne (by omega), List.getElem?_set_self (by simp; omega)]
    · rw [List.getElem?_set_self (by simp; omega)]
  · obtain ⟨g', m', c', hI', hg', h0, h1, h2⟩ := h j (by omega)
    refine ⟨g', m', c', hI', hg', ?_, ?_, ?_⟩
    · rw [List.getElem?_set_ne (by omega), List.getElem?_set_ne (by omega), List.getElem?_set_ne (by omega)]; exact h0
    · rw [List.getElem?_set_ne (by omega), List.getElem?_set_ne (by omega), List.getElem?_set_ne (by omega)]; exact h1
    · rw [List.getElem?_set_ne (by omega), List.getElem?_set_ne (by omega), List.getElem?_set_ne (by omega)]; exact h2
theorem Lins.of_own {w : World} {base R n c : Nat} {t : TypeId} {zs : List Value} {ls : List LinV} (h : w.ownsRow base t 3 (.slice (some ⟨R, 0, none⟩) n c) n zs) (hf : Fill3 w R zs ls n) (hl : ls.length = n) (hn : n ≤ 9223372036854775807) : Lins w (some ⟨R, 0, none⟩) n ls :=
  ⟨hl, fun _ => ⟨R, 0, rfl, (h.lt R rfl).2, fun j hj => by
    obtain ⟨g, m, c', hI, _, h0, h1, h2⟩ := hf j hj
    rw [Nat.zero_add]
    exact ⟨_, m, c', hI, by rw [h.cellAt _ (by omega)]; exact h0, by rw [h.cellAt _ (by omega)]; exact h1, by rw [h.cellAt _ (by omega)]; exact h2⟩⟩, hn⟩

set_option maxHeartbeats 4000000 in
theorem toLinS_any {A : Option Addr} {n c : Nat} {ls : List LinV} {w : World} (h : Lins w A n ls) (hn : n ≤ 1048576) (hm : lsum ls n ≤ 1048576) :
    Calls Try.prog 32 #[.slice A n c] w fun e w' => e = .returned (.slice (some ⟨w.heap.size, 0, none⟩) n n) ∧ Lins w' (some ⟨w.heap.size, 0, none⟩) n ls ∧ Below w.heap.size w w' := by
  obtain ⟨i0, hi, hz0, hz1, hz2⟩ := info_parts lin_info
  obtain ⟨w1, hrun, hown, hgrow⟩ := run_make_full (P := Try.prog) w w.heap.size 23 34 i0 (.agg #[.slice none 0 0, .int .i64 0, .bool false]) 3 Try.underlying23 hi hz0 hz1 .i64 .i64 n (by rw [hz2]; omega) (by unfold maxLen; omega) (Nat.le_refl _)
  have hB : Below w.heap.size w w1 := (Below.refl _ _).grown hgrow (Nat.le_refl _) (fun k hk => by cases hk)
  clear hgrow
  go_enter Try.func32, Try.ntmps32
  go_wp2
  clear hrun
  go_loopw [4] (fun i wr => ∃ (k : Nat) (zs : List Value), k ≤ n ∧ i = .int .i64 k ∧ wr.ownsRow w.heap.size 34 3 (.slice (some ⟨w.heap.size, 0, none⟩) n n) n zs ∧ Fill3 wr w.heap.size zs ls k ∧ Below w.heap.size w wr) (fun i _ => n - (intOf i).toNat)
  case atStart => exact ⟨0, _, by omega, rfl, hown, Fill3.zero _ _ _ ls, hB⟩
  case round =>
    clear hown hB
    obtain ⟨k, zs, hk, rfl, hown, hfill, hB⟩ := hrel
    by_cases hlt : k < n
    · obtain ⟨p, o, rfl, hp, hcs⟩ := (h.later hB).cells (by omega)
      obtain ⟨B, m, cb, hIk, hc1, hc2, hc3⟩ := (hcs k hlt).ex
      clear hcs
      have hmk : m ≤ 1048576 := by have := hIk.len; have := lsum_at ls hlt; omega
      have hzl : k * 3 + 2 < zs.length := by have := hown.1; omega
      have hgw := (hown.lt _ rfl).2
      generalize hx : (ls.getD k lin0).1 = xs at *
      generalize hy : (ls.getD k lin0).2.1 = b at *
      generalize hz : (ls.getD k lin0).2.2 = s at *
      go_wp2_with fail
      refine (toLin_any b s hIk hmk).mono ?_
      rintro e w2 ⟨g, rfl, hI2, hg, hb1⟩
      have hown2 : w2.ownsRow w.heap.size 34 3 (.slice (some ⟨w.heap.size, 0, none⟩) n n) n zs := hown.kept (row := none) ⟨hb1.os, hb1.tape, hb1.output, hb1.size, fun i hi _ => hb1.block i hi⟩ (.inr (by simp [Value.ownBlock]))
      have hfill2 := hfill.later hb1
      have hB2 : Below w.heap.size w w2 := hB.trans (hb1.mono hB.size)
      have hs2 := hb1.size
      clear hb1 hown hB hfill
      have hd1 := hown2.cellAt (k * 3) (by omega)
      have hd2 := hown2.cellAt (k * 3 + 1) (by omega)
      have hd3 := hown2.cellAt (k * 3 + 2) (by omega)
      rw [List.getElem?_eq_getElem (show k * 3 < zs.length by omega)] at hd1
      rw [List.getElem?_eq_getElem (show k * 3 + 1 < zs.length by omega)] at hd2
      rw [List.getElem?_eq_getElem hzl] at hd3
      have hf1 := hown2.frozenAt (k * 3)
      have hf2 := hown2.frozenAt (k * 3 + 1)
      have hf3 := hown2.frozenAt (k * 3 + 2)
      have hst1 := hown2.stored (k * 3) (.slice (some ⟨g, 0, none⟩) m m)
      have hst2 := hst1.1.stored (k * 3 + 1) (.int .i64 b)
      have hst3 := hst2.1.stored (k * 3 + 2) (.bool s)
      have hfill' := ((((hfill2.set (c := m) hzl (by rw [hx]; exact hI2) (by omega)).far (k * 3) (.slice (some ⟨g, 0, none⟩) m m)).far (k * 3 + 1) (.int .i64 b)).far (k * 3 + 2) (.bool s))
      rw [hy, hz] at hfill'
      have HB : Below w.heap.size w (((w2.setCell ⟨w.heap.size, k * 3, none⟩ (.slice (some ⟨g, 0, none⟩) m m)).setCell ⟨w.heap.size, k * 3 + 1, none⟩ (.int .i64 b)).setCell ⟨w.heap.size, k * 3 + 2, none⟩ (.bool s)) := by (repeat (first | with_reducible exact Below.refl _ _ | with_reducible assumption | (with_reducible refine below_drewN ?_ _) | (with_reducible refine Below.drew ?_) | (with_reducible refine Below.setCell ?_ (by first | omega | (simp; done) | (simp; omega)) _) | (with_reducible refine Below.alloc ?_ (by first | omega | (simp; done) | (simp; omega)) _) | refine Below.trans ?_ (Below.mono (by with_reducible assumption) (by first | omega | (simp; done) | (simp; omega)))))
      have HS := Lib.hid (And.intro hst3.1 (And.intro hfill' HB))
      clear hst1 hst2 hst3 hfill' hown2 hfill2 HB
      generalize zs[k * 3] = z1 at hd1
      generalize zs[k * 3 + 1] = z2 at hd2
      generalize zs[k * 3 + 2] = z3 at hd3
      go_wp2
      go_roundw
      case rel => exact ⟨k + 1, _, by omega, by go_num, HS.out.1, HS.out.2.1, HS.out.2.2⟩
      case measure => simp [intOf]; omega
    · obtain rfl : k = n := by omega
      go_wp2
      go_ret
      exact ⟨rfl, Lins.of_own hown hfill h.len h.few, hB⟩

theorem eqLin_same {A A' : Option Addr} {n c c' : Nat} {xs : List Int} {b : Int} {s : Bool} {w : World} (h : Ints w A n xs) {n' : Nat} (h' : Ints w A' n' xs) :
    Calls Try.prog 75 #[.agg #[.slice A n c, .int .i64 b, .bool s], .agg #[.slice A' n' c', .int .i64 b, .bool s]] w fun e w' => e = .returned (.bool true) ∧ Below w.heap.size w w' := by
  have := eqLin_any (c := c) (c' := c') b b s s h h'
  rw [show linSame xs b s xs b s = true by simp [linSame]] at this
  exact this
set_option maxHeartbeats 4000000 in
theorem eqLinS_same {A A' : Option Addr} {n c c' : Nat} {ls : List LinV} {w : World} (h : Lins w A n ls) (h' : Lins w A' n ls) :
    Calls Try.prog 35 #[.slice A n c, .slice A' n c'] w fun e w' => e = .returned (.bool true) ∧ Below w.heap.size w w' := by
  have hfew := h.few
  go_enter Try.func35, Try.ntmps35
  go_wp2_with fail
  go_loopw [5] (fun i wr => ∃ k : Nat, k ≤ n ∧ i = .int .i64 k ∧ Below w.heap.size w wr) (fun i _ => n - (intOf i).toNat)
  case atStart => exact ⟨0, by omega, rfl, by (repeat (first | with_reducible exact Below.refl _ _ | with_reducible assumption | (with_reducible refine below_drewN ?_ _) | (with_reducible refine Below.drew ?_) | (with_reducible refine Below.setCell ?_ (by first | omega | (simp; done) | (simp; omega)) _) | (with_reducible refine Below.alloc ?_ (by first | omega | (simp; done) | (simp; omega)) _) | refine Below.trans ?_ (Below.mono (by with_reducible assumption) (by first | omega | (simp; done) | (simp; omega)))))⟩
  case round =>
    obtain ⟨k, hk, rfl, hB⟩ := hrel
    by_cases hlt : k < n
    · obtain ⟨p, o, rfl, hp, hcs⟩ := (h.later hB).cells (by omega)
      obtain ⟨B, m, cb, hIk, hc1, hc2, hc3⟩ := (hcs k hlt).ex
      clear hcs
      obtain ⟨p', o', rfl, hp', hcs'⟩ := (h'.later hB).cells (by omega)
      obtain ⟨B', m', cb', hIk', hc4, hc5, hc6⟩ := (hcs' k hlt).ex
      clear hcs'
      have hlm := hIk.len
      have hlm' := hIk'.len
      generalize (ls.getD k lin0).1 = xs at *
      generalize (ls.getD k lin0).2.1 = b at *
      generalize (ls.getD k lin0).2.2 = s at *
      have c1 := Lib.hid (fun (W : World) (hW : Below wr.heap.size wr W) (st : Grown W) => eqLin_same (c := cb) (c' := cb') (b := b) (s := s) (hIk.later (hW.trans (st.ok.mono hW.size))) (hIk'.later (hW.trans (st.ok.mono hW.size))))
      go_wp2_with fail
      refine wp_region_grown (by kernel_rfl) (by kernel_rfl) ?_
      refine quiet_with (a := ⟨p, o + k * 3, none⟩) (v := .slice B m cb) hc1 ?_; intro g
      refine quiet_with (a := ⟨p, o + k * 3 + 1, none⟩) (v := .int .i64 b) hc2 ?_; intro g
      refine quiet_with (a := ⟨p, o + k * 3 + 2, none⟩) (v := .bool s) hc3 ?_; intro g
      refine quiet_with (a := ⟨p', o' + k * 3, none⟩) (v := .slice B' m' cb') hc4 ?_; intro g
      refine quiet_with (a := ⟨p', o' + k * 3 + 1, none⟩) (v := .int .i64 b) hc5 ?_; intro g
      refine quiet_with (a := ⟨p', o' + k * 3 + 2, none⟩) (v := .bool s) hc6 ?_; intro g
      repeat (go_big_quiet_step ((first | (go_at_call 75; (with_reducible exact grown_of (c1.out _ (Below.refl _ _) _))))))
      refine wpQuiet_nil ?_
      rintro w2 ⟨⟨_, hb1⟩, rfl⟩
      have hB2 : Below w.heap.size w w2 := hB.trans (hb1.mono hB.size)
      clear hb1 c1
      go_wp2
      go_roundw
      case rel => exact ⟨k + 1, by omega, by go_num, hB2⟩
      case measure => simp [intOf]; omega
    · obtain rfl : k = n := by omega
      go_wp2
      go_ret
      exact ⟨rfl, hB⟩

theorem open_lins53 {H : Type} {enc : TypeId × Value → H} {W : World} {base : Nat} {v : Value} {d : DataW H} {p : List MemPlace} (hv : Value.okWide Try.prog W .any base 53 v) (h : DataW.Trod enc Try.prog W 0 (fun _ => true) true 53 v d p) :
    ∃ (A : Option Addr) (n c : Nat) (ls : List LinV), v = .slice A n c ∧ Lins W A n ls := by
  obtain ⟨a0, len0, cap0, rfl⟩ := okWide_slice Try.underlying53 hv
  obtain ⟨fuel, hf⟩ := h
  rcases Go.Deep.open_slice Try.underlying53 hf with ⟨hcs, hx⟩ | ⟨a, len, cap, m, k, D, Pl, hcs, _, hl, hm, hmm, hx, hi⟩
  · simp only [Value.cells, List.cons.injEq, Value.slice.injEq, and_true, Array.toList] at hcs
    obtain ⟨rfl, rfl, rfl⟩ := hcs
    exact ⟨none, 0, 0, [], rfl, rfl, fun h => absurd h (by omega), by omega⟩
  · simp only [Value.cells, List.cons.injEq, Value.slice.injEq, and_true, Array.toList] at hcs
    obtain ⟨rfl, rfl, rfl⟩ := hcs
    simp only [if_true] at hmm
    have hC : Try.prog.cellsOf 100 = 3 := by kernel_rfl
    have each : ∀ i, i < m → ∃ l : LinV, ∃ A' m' c', Ints W A' m' l.1 ∧ W.cell? (a.add (i * 3)) = some (.slice A' m' c') ∧ W.cell? (a.add (i * 3 + 1)) = some (.int .i64 l.2.1) ∧ W.cell? (a.add (i * 3 + 2)) = some (.bool l.2.2) := fun i him => by
      obtain ⟨cs', h1, h2⟩ := hi i him
      rw [hC] at h1
      obtain ⟨_, hlen, hcell⟩ := World.cells?_some h1
      obtain ⟨y0, y1, y2, n2, _, _, t0, t1, t2⟩ := Go.Deep.trod_struct3 Try.underlying100 h2
      match cs', hlen with
      | [u0, u1, u2], _ =>
        have t0' : DataW.trod enc Try.prog W 0 (fun _ => true) true n2 29 [u0] = some y0 := t0
        have t1' : DataW.trod enc Try.prog W 0 (fun _ => true) true n2 3 [u1] = some y1 := t1
        have t2' : DataW.trod enc Try.prog W 0 (fun _ => true) true n2 4 [u2] = some y2 := t2
        obtain ⟨b, e1, _, w1⟩ := DataW.trod_int Try.underlying3 t1'
        obtain ⟨s, e2, _⟩ := DataW.trod_bool Try.underlying4 t2'
        obtain ⟨A', m', c', xs, e0, hI⟩ := open_ints_at t0'
        simp at e1 e2
        subst e0 e1 e2
        have g0 := hcell 0 (by omega)
        have g1 := hcell 1 (by omega)
        have g2 := hcell 2 (by omega)
        rw [Go.Deep.add_add] at g0 g1 g2
        exact ⟨(xs, b, s), A', m', c', hI, by simpa using g0, by simpa using g1, by simpa using g2⟩
    have hex : ∃ F : Nat → LinV, ∀ i, i < m → ∃ A' m' c', Ints W A' m' (F i).1 ∧ W.cell? (a.add (i * 3)) = some (.slice A' m' c') ∧ W.cell? (a.add (i * 3 + 1)) = some (.int .i64 (F i).2.1) ∧ W.cell? (a.add (i * 3 + 2)) = some (.bool (F i).2.2) :=
      ⟨fun i => if h : i < m then (each i h).choose else lin0, fun i him => by
        have := (each i him).choose_spec
        simpa [him] using this⟩
    obtain ⟨F, hF⟩ := hex
    have hget : ∀ j, j < len0 → ((List.range len0).map F).getD j lin0 = F j := fun j hj => by
      rw [List.getD_eq_getElem?_getD, List.getElem?_map, List.getElem?_range hj]; rfl
    unfold maxLen at hm
    refine ⟨some a, len0, cap0, (List.range len0).map F, rfl, by simp, fun hn0 => ?_, by omega⟩
    obtain ⟨_, _, _, _, h0, _⟩ := hF 0 (by omega)
    have hblk := World.block_lt_of_cell? _ _ h0
    obtain ⟨ab, ao, asp⟩ := a
    have hsp : asp = none := by
      cases asp with
      | none => rfl
      | some s => exfalso; simp [Addr.add, World.cell?] at h0; split at h0 <;> cases h0
    subst hsp
    have hadd : ∀ q, (⟨ab, ao, none⟩ : Addr).add q = ⟨ab, ao + q, none⟩ := fun q => by unfold Addr.add; split <;> simp_all
    refine ⟨ab, ao, rfl, by simpa [Addr.add] using hblk, fun j hj => ?_⟩
    obtain ⟨A', m', c', hI, g0, g1, g2⟩ := hF j (by omega)
    rw [hadd] at g0 g1 g2
    rw [hget j hj]
    exact ⟨A', m', c', hI, g0, g1, g2⟩
end Go.Proofs.Ytccjbipmlpnhkaa

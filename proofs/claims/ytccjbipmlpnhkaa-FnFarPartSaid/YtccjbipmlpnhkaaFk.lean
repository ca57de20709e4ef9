/- Lists of constraints that are marked. -/
import Derived.Test.YtccjbipmlpnhkaaFs
import Derived.Test.YtccjbipmlpnhkaaI
namespace Go.Proofs.Ytccjbipmlpnhkaa
set_option maxRecDepth 100000
open Go.RowKit Go.ChangeShapes Go.WideShapes Go.ChangeAt
set_option linter.unusedSimpArgs false
set_option linter.unusedVariables false

/-- Of what was there, only blocks from a on and below b may have turned. -/
structure Span (a b : Nat) (w w' : World) : Prop where
  os : w'.os = w.os
  tape : w'.tape = w.tape
  output : w'.output = w.output
  size : w.heap.size ≤ w'.heap.size
  block : ∀ i, i < w.heap.size → (i < a ∨ b ≤ i) → w'.heap[i]? = w.heap[i]?
theorem Span.refl (a b : Nat) (w : World) : Span a b w w := ⟨rfl, rfl, rfl, Nat.le_refl _, fun _ _ _ => rfl⟩
theorem Span.trans {a b : Nat} {u v w : World} (h : Span a b u v) (k : Span a b v w) : Span a b u w :=
  ⟨k.os.trans h.os, k.tape.trans h.tape, k.output.trans h.output, Nat.le_trans h.size k.size, fun i hi hn => (k.block i (Nat.lt_of_lt_of_le hi h.size) hn).trans (h.block i hi hn)⟩
theorem Span.of_grown {a b g : Nat} {u v : World} (k : u.grownBy v (some g)) (h1 : a ≤ g) (h2 : g < b) : Span a b u v :=
  ⟨k.os, k.tape, k.output, k.size, fun i hi hn => k.block i hi (fun e => by injection e with e; omega)⟩
theorem Span.set {a b : Nat} {u v : World} (h : Span a b u v) {p : Addr} (h1 : a ≤ p.block) (h2 : p.block < b) (x : Value) : Span a b u (v.setCell p x) :=
  ⟨h.os, h.tape, h.output, by simpa [World.setCell] using h.size, fun i hi hn => (Below.heap_setCell v p x i (by omega)).trans (h.block i hi hn)⟩
theorem Span.below {a b B : Nat} {u v : World} (h : Span a b u v) (hB : B ≤ a) (hs : B ≤ u.heap.size) : Below B u v :=
  ⟨h.os, h.tape, h.output, h.size, fun i hi => h.block i (by omega) (.inl (by omega))⟩
theorem Span.cell {a b : Nat} {u v : World} (h : Span a b u v) {p : Addr} {x : Value} (hc : u.cell? p = some x) (hn : p.block < a ∨ b ≤ p.block) : v.cell? p = some x :=
  (World.cell?_of_block (w := u) (h.block p.block (World.block_lt_of_cell? _ _ hc) hn)).trans hc
theorem Ints.span {a b g o n : Nat} {u v : World} {xs : List Int} (h : Ints u (some ⟨g, o, none⟩) n xs) (k : Span a b u v) (hn : g < a ∨ b ≤ g) : Ints v (some ⟨g, o, none⟩) n xs :=
  ⟨h.len, fun h0 => by
    obtain ⟨q, o', e, hb, hc⟩ := h.cells h0
    have e' := e
    injection e with e; injection e with e1 e2
    subst e1 e2
    exact ⟨_, _, rfl, Nat.lt_of_lt_of_le hb k.size, fun j hj => k.cell (hc j hj) hn⟩, h.rng, h.few⟩
theorem Free.span {a b g : Nat} {u v : World} (h : Free u g) (k : Span a b u v) (hn : g < a ∨ b ≤ g) : Free v g :=
  ⟨Nat.lt_of_lt_of_le h.lt k.size, fun j => (World.frozen?_of_block (w := u) (a := ⟨g, j, none⟩) (k.block g h.lt hn)).trans (h.free j)⟩
theorem Row.aside {w w' : World} {g r n : Nat} (h : Row w g n) (hl : g < w.heap.size) (k : w.grownBy w' (some r)) (hne : g ≠ r) : Row w' g n :=
  ⟨fun j hj => by
    obtain ⟨v, hv⟩ := h.cell j hj
    exact ⟨v, keep_aside k hv hne⟩, fun j => (World.frozen?_of_block (w := w) (a := ⟨g, j, none⟩) (k.block g hl (fun e => hne (by injection e)))).trans (h.free j)⟩

set_option maxHeartbeats 1000000 in
theorem markIntS_keep {g n c : Nat} (a : Int) {w : World} (hr : Row w g n) (hg : g < w.heap.size) (ha : 0 ≤ a) (ha' : a ≤ 100000000) (hn : n ≤ 10000000) :
    Calls Try.prog 38 #[.slice (some ⟨g, 0, none⟩) n c, .int .i64 a] w fun e w' => e = .returned (.int .i64 (a + n)) ∧ (∀ N, Row w g N → Row w' g N) ∧ w.grownBy w' (some g) := by
  go_enter Try.func38, Try.ntmps38
  go_wp2
  go_loopw [1, 5] (fun x i wr => ∃ k : Nat, k ≤ n ∧ i = .int .i64 k ∧ x = .int .i64 (a + k) ∧ Hid (∀ N, Row w g N → Row wr g N) ∧ w.grownBy wr (some g)) (fun _ i _ => n - (intOf i).toNat)
  case atStart => exact ⟨0, by omega, rfl, by simp, Lib.hid (fun _ h => h), World.grownBy.refl w _⟩
  case round =>
    obtain ⟨k, hk, rfl, rfl, hall, hgr⟩ := hrel
    by_cases hlt : k < n
    · have hrow := hall.out n hr
      obtain ⟨v, hv⟩ := hrow.cell k hlt
      have hf := hrow.free k
      clear hrow
      go_wp2
      go_roundw
      case rel =>
        exact ⟨k + 1, by omega, by go_num, (by congr 1; omega), Lib.hid (fun N hN => (hall.out N hN).set ⟨g, k, none⟩ (.int .i64 (a + k))), hgr.trans ⟨rfl, rfl, rfl, by simp [World.setCell], fun i _ hi => Below.heap_setCell _ _ _ _ (fun e => hi (by rw [e]))⟩⟩
      case measure => simp [intOf]; omega
    · obtain rfl : k = n := by omega
      go_wp2
      go_ret
      exact ⟨rfl, hall.out, hgr⟩
/-- A list that may be marked: block R holds it; the rows lie above R and below b. -/
structure MarkRow (w : World) (R b n : Nat) (ls : List LinV) : Prop where
  own : Row w R (n * 3)
  lt : R < w.heap.size
  rows : ∀ j, j < n → ∃ g c, w.cell? ⟨R, j * 3, none⟩ = some (.slice (some ⟨g, 0, none⟩) (ls.getD j lin0).1.length c) ∧ Row w g (ls.getD j lin0).1.length ∧ R < g ∧ g < b ∧ g < w.heap.size

set_option maxHeartbeats 4000000 in
theorem markLinS_any {R b n c : Nat} {ls : List LinV} (a : Int) {w : World} (h : MarkRow w R b n ls) (ha : 0 ≤ a) (ha' : a ≤ 10) (hn : n ≤ 1048576) (hm : lsum ls n ≤ 1048576) (hb : b ≤ w.heap.size) :
    Calls Try.prog 36 #[.slice (some ⟨R, 0, none⟩) n c, .int .i64 a] w fun e w' => e = .returned (.int .i64 (a + lsum ls n + 2 * n)) ∧ Span R b w w' := by
  go_enter Try.func36, Try.ntmps36
  go_wp2_with fail
  go_loopw [1, 5] (fun x i wr => ∃ (k : Nat) (q : Int), k ≤ n ∧ i = .int .i64 k ∧ x = .int .i64 q ∧ Hid (q = a + lsum ls k + 2 * k) ∧ (0 ≤ q ∧ q ≤ 10000000) ∧ MarkRow wr R b n ls ∧ Span R b w wr) (fun _ i _ => n - (intOf i).toNat)
  case atStart => exact ⟨0, a, by omega, rfl, rfl, Lib.hid (by simp [lsum]), by omega, h, Span.refl _ _ _⟩
  case round =>
    obtain ⟨k, q, hk, rfl, rfl, HQ, ⟨hq0, hq1⟩, hM, hS⟩ := hrel
    by_cases hlt : k < n
    · obtain ⟨g, cg, hc0, hrg, hRg, hgb, hgl⟩ := hM.rows k hlt
      have hls : lsum ls (k + 1) = lsum ls k + (ls.getD k lin0).1.length := rfl
      have hmono := lsum_mono ls (show k + 1 ≤ n by omega)
      obtain ⟨m, hmm⟩ : ∃ m, (ls.getD k lin0).1.length = m := ⟨_, rfl⟩
      rw [hmm] at hc0 hrg hls
      have HM := Lib.hid (And.intro hmm (And.intro hls hmono))
      clear hmm hls hmono
      have hmb : m ≤ 1048576 := by have := HM.out.2.1; have := HM.out.2.2; omega
      have hRl := hM.lt
      go_wp2_with fail
      refine (markIntS_keep q hrg hgl hq0 (by omega) (by omega)).mono ?_
      rintro e w1 ⟨rfl, hkeep, hgr⟩
      have hs1 := hgr.size
      have hown1 : Row w1 R (n * 3) := hM.own.aside hRl hgr (by omega)
      have hM1 : MarkRow w1 R b n ls := ⟨hown1, by omega, fun j hj => by
        obtain ⟨g', c', h0, h1, h2, h3, h4⟩ := hM.rows j hj
        refine ⟨g', c', keep_aside hgr h0 (by show R ≠ g; omega), ?_, h2, h3, by omega⟩
        by_cases e : g' = g
        · subst e; exact hkeep _ h1
        · exact h1.aside h4 hgr e⟩
      have hS1 : Span R b w w1 := hS.trans (Span.of_grown hgr (by omega) hgb)
      obtain ⟨v1, hv1⟩ := hown1.cell (k * 3 + 1) (by omega)
      obtain ⟨v2, hv2⟩ := hown1.cell (k * 3 + 2) (by omega)
      have hv0 := keep_aside (a := ⟨R, k * 3, none⟩) hgr hc0 (by show R ≠ g; omega)
      have hf1 := hown1.free (k * 3 + 1)
      have hf2 := hown1.free (k * 3 + 2)
      have hend : ∀ (x y : Value), MarkRow ((w1.setCell ⟨R, k * 3 + 1, none⟩ x).setCell ⟨R, k * 3 + 2, none⟩ y) R b n ls := fun x y =>
        ⟨(hM1.own.set _ _).set _ _, by simpa [World.setCell] using hM1.lt, fun j hj => by
          obtain ⟨g', c', h0, h1, h2, h3, h4⟩ := hM1.rows j hj
          refine ⟨g', c', ?_, (h1.set _ _).set _ _, h2, h3, by simpa [World.setCell] using h4⟩
          rw [World.cell?_setCell_other _ _ _ _ (fun e => by have e2 := congrArg Addr.off e; dsimp only at e2; omega), World.cell?_setCell_other _ _ _ _ (fun e => by have e2 := congrArg Addr.off e; dsimp only at e2; omega)]
          exact h0⟩
      have hspan : ∀ (x y : Value), Span R b w ((w1.setCell ⟨R, k * 3 + 1, none⟩ x).setCell ⟨R, k * 3 + 2, none⟩ y) := fun x y => (hS1.set (by show R ≤ R; omega) (by show R < b; omega) x).set (by show R ≤ R; omega) (by show R < b; omega) y
      have HE := Lib.hid hend
      have HSp := Lib.hid hspan
      clear hend hspan hkeep hgr hM1 hS1 hM hown1 hrg
      go_wp2
      go_roundw
      case rel => exact ⟨k + 1, q + m + 1 + 1, by omega, by go_num, (by first | rfl | (congr 1; omega)), Lib.hid (by have h1 := HM.out.2.1; have h2 := HQ.out; omega), (by have h1 := HM.out.2.1; have h2 := HM.out.2.2; have h3 := HQ.out; omega), HE.out _ _, HSp.out _ _⟩
      case measure => simp [intOf]; omega
    · obtain rfl : k = n := by omega
      go_wp2
      go_ret
      exact ⟨by rw [HQ.out]; rfl, hS⟩
/-- The first k triples of cells are the constraints; their rows lie above block R. -/
def FillF (w : World) (R : Nat) (zs : List Value) (ls : List LinV) (k : Nat) : Prop := ∀ j, j < k → ∃ g m c, (Ints w (some ⟨g, 0, none⟩) m (ls.getD j lin0).1 ∧ Free w g) ∧ R < g ∧ zs[j * 3]? = some (.slice (some ⟨g, 0, none⟩) m c) ∧ zs[j * 3 + 1]? = some (.int .i64 (ls.getD j lin0).2.1) ∧ zs[j * 3 + 2]? = some (.bool (ls.getD j lin0).2.2)
theorem FillF.zero (w : World) (R : Nat) (zs : List Value) (ls : List LinV) : FillF w R zs ls 0 := fun _ h => absurd h (by omega)
theorem FillF.later {w w' : World} {R : Nat} {zs : List Value} {ls : List LinV} {k : Nat} (h : FillF w R zs ls k) (hb : Below w.heap.size w w') : FillF w' R zs ls k := fun j hj => by
  obtain ⟨g, m, c, hI, hg, h0⟩ := h j hj
  exact ⟨g, m, c, ⟨hI.1.later hb, hI.2.later hb⟩, hg, h0⟩
theorem FillF.far {w : World} {R : Nat} {zs : List Value} {ls : List LinV} {k : Nat} (h : FillF w R zs ls k) (o : Nat) (v : Value) : FillF (w.setCell ⟨R, o, none⟩ v) R zs ls k := fun j hj => by
  obtain ⟨g, m, c, hI, hg, h0⟩ := h j hj
  exact ⟨g, m, c, ⟨hI.1.far (by show R ≠ g; omega) v, hI.2.set _ _⟩, hg, h0⟩
theorem FillF.set {w : World} {R : Nat} {zs : List Value} {ls : List LinV} {k g m c : Nat} (h : FillF w R zs ls k) (hk : k * 3 + 2 < zs.length) (hI : Ints w (some ⟨g, 0, none⟩) m (ls.getD k lin0).1 ∧ Free w g) (hg : R < g) :
    FillF w R (((zs.set (k * 3) (.slice (some ⟨g, 0, none⟩) m c)).set (k * 3 + 1) (.int .i64 (ls.getD k lin0).2.1)).set (k * 3 + 2) (.bool (ls.getD k lin0).2.2)) ls (k + 1) := fun j hj => by
  by_cases e : j = k
  · subst e
    refine ⟨g, m, c, hI, hg, ?_, ?_, ?_⟩
    · rw [List.getElem?_set_ne (by omega), List.getElem?_set_ne (by omega), List.getElem?_set_self (by omega)]
    · rw [List.getElem?_set_ne (by omega), List.getElem?_set_self (by simp; omega)]
    · rw [List.getElem?_set_self (by simp; omega)]
  · obtain ⟨g', m', c', hI', hg', h0, h1, h2⟩ := h j (by omega)
    refine ⟨g', m', c', hI', hg', ?_, ?_, ?_⟩
    · rw [List.getElem?_set_ne (by omega), List.getElem?_set_ne (by omega), List.getElem?_set_ne (by omega)]; exact h0
    · rw [List.getElem?_set_ne (by omega), List.getElem?_set_ne (by omega), List.getElem?_set_ne (by omega)]; exact h1
    · rw [List.getElem?_set_ne (by omega), List.getElem?_set_ne (by omega), List.getElem?_set_ne (by omega)]; exact h2
theorem FillF.fill {w : World} {R : Nat} {zs : List Value} {ls : List LinV} {k : Nat} (h : FillF w R zs ls k) : Fill3 w R zs ls k := fun j hj => by
  obtain ⟨g, m, c, hI, hg, h0⟩ := h j hj
  exact ⟨g, m, c, hI.1, hg, h0⟩
theorem FillF.marks {w : World} {base R n c : Nat} {t : TypeId} {zs : List Value} {ls : List LinV} (h : w.ownsRow base t 3 (.slice (some ⟨R, 0, none⟩) n c) n zs) (hf : FillF w R zs ls n) : MarkRow w R w.heap.size n ls :=
  ⟨⟨fun j hj => ⟨zs[j]'(by have := h.1; omega), by rw [h.cellAt j hj, List.getElem?_eq_getElem]⟩, fun j => h.frozenAt j⟩, (h.lt R rfl).2, fun j hj => by
    obtain ⟨g, m, c', ⟨hI, hF⟩, hg, h0, _, _⟩ := hf j hj
    have hl := hI.len
    subst hl
    exact ⟨g, c', by rw [h.cellAt _ (by omega)]; exact h0, Row.of hI hF, hg, hF.lt, hF.lt⟩⟩

set_option maxHeartbeats 4000000 in
theorem toLinS_free {A : Option Addr} {n c : Nat} {ls : List LinV} {w : World} (h : Lins w A n ls) (hn : n ≤ 1048576) (hm : lsum ls n ≤ 1048576) :
    Calls Try.prog 32 #[.slice A n c] w fun e w' => e = .returned (.slice (some ⟨w.heap.size, 0, none⟩) n n) ∧ (Lins w' (some ⟨w.heap.size, 0, none⟩) n ls ∧ MarkRow w' w.heap.size w'.heap.size n ls) ∧ Below w.heap.size w w' := by
  obtain ⟨i0, hi, hz0, hz1, hz2⟩ := info_parts lin_info
  obtain ⟨w1, hrun, hown, hgrow⟩ := run_make_full (P := Try.prog) w w.heap.size 23 34 i0 (.agg #[.slice none 0 0, .int .i64 0, .bool false]) 3 Try.underlying23 hi hz0 hz1 .i64 .i64 n (by rw [hz2]; omega) (by unfold maxLen; omega) (Nat.le_refl _)
  have hB : Below w.heap.size w w1 := (Below.refl _ _).grown hgrow (Nat.le_refl _) (fun k hk => by cases hk)
  clear hgrow
  go_enter Try.func32, Try.ntmps32
  go_wp2
  clear hrun
  go_loopw [4] (fun i wr => ∃ (k : Nat) (zs : List Value), k ≤ n ∧ i = .int .i64 k ∧ wr.ownsRow w.heap.size 34 3 (.slice (some ⟨w.heap.size, 0, none⟩) n n) n zs ∧ FillF wr w.heap.size zs ls k ∧ Below w.heap.size w wr) (fun i _ => n - (intOf i).toNat)
  case atStart => exact ⟨0, _, by omega, rfl, hown, FillF.zero _ _ _ ls, hB⟩
  case round =>
    clear hown hB
    obtain ⟨k, zs, hk, rfl, hown, hfill, hB⟩ := hrel
    by_cases hlt : k < n
    · obtain ⟨p, o, rfl, hp, hcs⟩ := (h.later hB).cells (by omega)
      obtain ⟨B, m, cb, hIk, hc1, hc2, hc3⟩ := (hcs k hlt).ex
      clear hcs
      have hmk : m ≤ 1048576 := by have := hIk.len; have := lsum_at ls hlt; omega
      have hzl : k * 3 + 2 < zs.length := by have := hown.1; omega
      have hgw := (hown.lt _ rfl).2
      generalize hx : (ls.getD k lin0).1 = xs at *
      generalize hy : (ls.getD k lin0).2.1 = b at *
      generalize hz : (ls.getD k lin0).2.2 = s at *
      go_wp2_with fail
      refine (toLin_free b s hIk hmk).mono ?_
      rintro e w2 ⟨g, rfl, ⟨hI2, hF2⟩, hg, hb1⟩
      have hown2 : w2.ownsRow w.heap.size 34 3 (.slice (some ⟨w.heap.size, 0, none⟩) n n) n zs := hown.kept (row := none) ⟨hb1.os, hb1.tape, hb1.output, hb1.size, fun i hi _ => hb1.block i hi⟩ (.inr (by simp [Value.ownBlock]))
      have hfill2 := hfill.later hb1
      have hB2 : Below w.heap.size w w2 := hB.trans (hb1.mono hB.size)
      have hs2 := hb1.size
      clear hb1 hown hB hfill
      have hd1 := hown2.cellAt (k * 3) (by omega)
      have hd2 := hown2.cellAt (k * 3 + 1) (by omega)
      have hd3 := hown2.cellAt (k * 3 + 2) (by omega)
      rw [List.getElem?_eq_getElem (show k * 3 < zs.length by omega)] at hd1
      rw [List.getElem?_eq_getElem (show k * 3 + 1 < zs.length by omega)] at hd2
      rw [List.getElem?_eq_getElem hzl] at hd3
      have hf1 := hown2.frozenAt (k * 3)
      have hf2 := hown2.frozenAt (k * 3 + 1)
      have hf3 := hown2.frozenAt (k * 3 + 2)
      have hst1 := hown2.stored (k * 3) (.slice (some ⟨g, 0, none⟩) m m)
      have hst2 := hst1.1.stored (k * 3 + 1) (.int .i64 b)
      have hst3 := hst2.1.stored (k * 3 + 2) (.bool s)
      have hfill' := ((((hfill2.set (c := m) hzl (by rw [hx]; exact ⟨hI2, hF2⟩) (by omega)).far (k * 3) (.slice (some ⟨g, 0, none⟩) m m)).far (k * 3 + 1) (.int .i64 b)).far (k * 3 + 2) (.bool s))
      rw [hy, hz] at hfill'
      have HB : Below w.heap.size w (((w2.setCell ⟨w.heap.size, k * 3, none⟩ (.slice (some ⟨g, 0, none⟩) m m)).setCell ⟨w.heap.size, k * 3 + 1, none⟩ (.int .i64 b)).setCell ⟨w.heap.size, k * 3 + 2, none⟩ (.bool s)) := by (repeat (first | with_reducible exact Below.refl _ _ | with_reducible assumption | (with_reducible refine below_drewN ?_ _) | (with_reducible refine Below.drew ?_) | (with_reducible refine Below.setCell ?_ (by first | omega | (simp; done) | (simp; omega)) _) | (with_reducible refine Below.alloc ?_ (by first | omega | (simp; done) | (simp; omega)) _) | refine Below.trans ?_ (Below.mono (by with_reducible assumption) (by first | omega | (simp; done) | (simp; omega)))))
      have HS := Lib.hid (And.intro hst3.1 (And.intro hfill' HB))
      clear hst1 hst2 hst3 hfill' hown2 hfill2 HB
      generalize zs[k * 3] = z1 at hd1
      generalize zs[k * 3 + 1] = z2 at hd2
      generalize zs[k * 3 + 2] = z3 at hd3
      go_wp2
      go_roundw
      case rel => exact ⟨k + 1, _, by omega, by go_num, HS.out.1, HS.out.2.1, HS.out.2.2⟩
      case measure => simp [intOf]; omega
    · obtain rfl : k = n := by omega
      go_wp2
      go_ret
      exact ⟨rfl, ⟨Lins.of_own hown hfill.fill h.len h.few, hfill.marks hown⟩, hB⟩
theorem Row.later {w w' : World} {g n : Nat} (h : Row w g n) (hl : g < w.heap.size) (hb : Below w.heap.size w w') : Row w' g n :=
  ⟨fun j hj => by
    obtain ⟨v, hv⟩ := h.cell j hj
    exact ⟨v, (hb.cell (p := ⟨g, j, none⟩) hl).trans hv⟩, fun j => (hb.frozen (p := ⟨g, j, none⟩) hl).trans (h.free j)⟩
theorem MarkRow.later {w w' : World} {R b n : Nat} {ls : List LinV} (h : MarkRow w R b n ls) (hb : Below w.heap.size w w') : MarkRow w' R b n ls :=
  ⟨h.own.later h.lt hb, Nat.lt_of_lt_of_le h.lt hb.size, fun j hj => by
    obtain ⟨g, c, h0, h1, h2, h3, h4⟩ := h.rows j hj
    exact ⟨g, c, (hb.cell (p := ⟨R, j * 3, none⟩) h.lt).trans h0, h1.later h4 hb, h2, h3, Nat.lt_of_lt_of_le h4 hb.size⟩⟩
theorem MarkRow.alloc {w : World} {R b n : Nat} {ls : List LinV} (h : MarkRow w R b n ls) (o : Obj) : MarkRow (w.alloc o) R b n ls := h.later ((Below.refl _ _).alloc (Nat.le_refl _) o)

theorem sFarSum_yes{A A' : Option Addr} {n n' c c' : Nat} {ls : List LinV} {ts : List Int} {zs : List Int} {b : Int} {s : Bool} {w : World} (h : Lins w A n ls) (h' : Ints w A' n' ts) (ho : farSum ls ts = some (zs, b, s)) :
    Calls Try.prog 27 #[.slice A n c, .slice A' n' c'] w fun e w' => ∃ g cap, e = .returned (.tuple #[.agg #[.slice (some ⟨g, 0, none⟩) 4 cap, .int .i64 b, .bool s], .bool true]) ∧ (Ints w' (some ⟨g, 0, none⟩) 4 zs ∧ Free w' g) ∧ 4 ≤ cap ∧ w.heap.size ≤ g ∧ Below w.heap.size w w' := by
  have := sFarSum_any (c := c) (c' := c') h h'
  rw [ho] at this
  exact this
theorem sFarSum_no{A A' : Option Addr} {n n' c c' : Nat} {ls : List LinV} {ts : List Int} {w : World} (h : Lins w A n ls) (h' : Ints w A' n' ts) (ho : farSum ls ts = none) :
    Calls Try.prog 27 #[.slice A n c, .slice A' n' c'] w fun e w' => e = .returned (.tuple #[.agg #[.slice none 0 0, .int .i64 0, .bool false], .bool false]) ∧ Below w.heap.size w w' := by
  have := sFarSum_any (c := c) (c' := c') h h'
  rw [ho] at this
  exact this

theorem iFarSum_yes{A A' : Option Addr} {n n' c c' : Nat} {ls : List LinV} {ts : List Int} {zs : List Int} {b : Int} {s : Bool} {w : World} (h : Lins w A n ls) (h' : Ints w A' n' ts) (ho : farSum ls ts = some (zs, b, s)) :
    Calls Try.prog 23 #[.slice A n c, .slice A' n' c'] w fun e w' => ∃ g cap, e = .returned (.tuple #[.agg #[.slice (some ⟨g, 0, none⟩) 4 cap, .int .i64 b, .bool s], .bool true]) ∧ (Ints w' (some ⟨g, 0, none⟩) 4 zs ∧ Free w' g) ∧ 4 ≤ cap ∧ w.heap.size ≤ g ∧ Below w.heap.size w w' := by
  have := iFarSum_any (c := c) (c' := c') h h'
  rw [ho] at this
  exact this
theorem iFarSum_no{A A' : Option Addr} {n n' c c' : Nat} {ls : List LinV} {ts : List Int} {w : World} (h : Lins w A n ls) (h' : Ints w A' n' ts) (ho : farSum ls ts = none) :
    Calls Try.prog 23 #[.slice A n c, .slice A' n' c'] w fun e w' => e = .returned (.tuple #[.agg #[.slice none 0 0, .int .i64 0, .bool false], .bool false]) ∧ Below w.heap.size w w' := by
  have := iFarSum_any (c := c) (c' := c') h h'
  rw [ho] at this
  exact this
end Go.Proofs.Ytccjbipmlpnhkaa

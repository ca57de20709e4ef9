/- Constraints that are made: negations and sums. -/
import Derived.Test.YtccjbipmlpnhkaaD
import Derived.Test.YtccjbipmlpnhkaaT
import Derived.OneCell
namespace Go.Proofs.Ytccjbipmlpnhkaa
set_option maxRecDepth 100000
open Go.RowKit Go.ChangeShapes Go.WideShapes Go.ChangeAt
set_option linter.unusedSimpArgs false
set_option linter.unusedVariables false

/-- Block G is a constraint whose numbers are being appended: k so far, below G nothing turns. -/
structure Bld (w : World) (G : Nat) (v : Value) (k : Nat) (ys : List Int) (b : Int) (s : Bool) : Prop where
  own : w.ownsRow (G + 1) 3 1 v k (ys.map (Value.int .i64))
  c0 : w.cell? ⟨G, 0, none⟩ = some v
  c1 : w.cell? ⟨G, 1, none⟩ = some (.int .i64 b)
  c2 : w.cell? ⟨G, 2, none⟩ = some (.bool s)
  f0 : w.frozen? ⟨G, 0, none⟩ = false
theorem Bld.lt {w : World} {G : Nat} {v : Value} {k : Nat} {ys : List Int} {b : Int} {s : Bool} (h : Bld w G v k ys b s) : G < w.heap.size := World.block_lt_of_cell? _ _ h.c0
theorem Bld.ne {w : World} {G : Nat} {v : Value} {k : Nat} {ys : List Int} {b : Int} {s : Bool} (h : Bld w G v k ys b s) : v.ownBlock ≠ some G := fun e => by
  have := (h.own.lt G e).1; omega
theorem Bld.len {w : World} {G : Nat} {v : Value} {k : Nat} {ys : List Int} {b : Int} {s : Bool} (h : Bld w G v k ys b s) : ys.length = k := by
  have := h.own.1; simpa using this
/-- Behind the append: the cells of G are as they were. -/
theorem Bld.mid {w wm w2 : World} {G : Nat} {v : Value} {k : Nat} {ys : List Int} {b : Int} {s : Bool} (h : Bld w G v k ys b s) (hm : Below w.heap.size w wm) (hg : wm.grownBy w2 v.ownBlock) :
    w2.cell? ⟨G, 0, none⟩ = some v ∧ w2.frozen? ⟨G, 0, none⟩ = false ∧ w2.cell? ⟨G, 1, none⟩ = some (.int .i64 b) ∧ w2.cell? ⟨G, 2, none⟩ = some (.bool s) := by
  have hl := h.lt
  have hlm : G < wm.heap.size := Nat.lt_of_lt_of_le hl hm.size
  have hne := h.ne
  have hc : ∀ o, w2.cell? ⟨G, o, none⟩ = w.cell? ⟨G, o, none⟩ := fun o => (hg.cell_far ⟨G, o, none⟩ hlm (fun e => hne e.symm)).trans (hm.cell (p := ⟨G, o, none⟩) hl)
  have hf : w2.frozen? ⟨G, 0, none⟩ = w.frozen? ⟨G, 0, none⟩ := (hg.frozen_far ⟨G, 0, none⟩ hlm (fun e => hne e.symm)).trans (hm.frozen (p := ⟨G, 0, none⟩) hl)
  exact ⟨(hc 0).trans h.c0, hf.trans h.f0, (hc 1).trans h.c1, (hc 2).trans h.c2⟩
theorem Bld.under {w0 w wm w2 : World} {G : Nat} {v : Value} {k : Nat} {ys : List Int} {b : Int} {s : Bool} (h : Bld w G v k ys b s) (hB : Below G w0 w) (hm : Below w.heap.size w wm) (hg : wm.grownBy w2 v.ownBlock) : Below G w0 w2 := by
  have hl := h.lt
  have hm' : Below G w wm := hm.mono (by omega)
  refine (hB.trans hm').grown hg (by have := hm.size; omega) (fun j hj => ?_)
  have := (h.own.lt j hj).1
  omega
theorem Bld.step {w0 w wm w2 : World} {G : Nat} {v : Value} {k : Nat} {ys : List Int} {b : Int} {s : Bool} {x : Int} {g cap : Nat} (h : Bld w G v k ys b s) (hB : Below G w0 w) (hm : Below w.heap.size w wm) (hg : wm.grownBy w2 v.ownBlock)
    (ho : w2.ownsRow (G + 1) 3 1 (.slice (some ⟨g, 0, none⟩) (k + 1) cap) (k + 1) (ys.map (Value.int .i64) ++ [.int .i64 x])) :
    Bld (w2.setCell ⟨G, 0, none⟩ (.slice (some ⟨g, 0, none⟩) (k + 1) cap)) G (.slice (some ⟨g, 0, none⟩) (k + 1) cap) (k + 1) (ys ++ [x]) b s ∧ Below G w0 (w2.setCell ⟨G, 0, none⟩ (.slice (some ⟨g, 0, none⟩) (k + 1) cap)) := by
  obtain ⟨c0, f0, c1, c2⟩ := h.mid hm hg
  have hl := h.lt
  have hgG : G + 1 ≤ g := (ho.lt g rfl).1
  have hl2 : G < w2.heap.size := World.block_lt_of_cell? _ _ c0
  refine ⟨⟨?_, ?_, ?_, ?_, ?_⟩, ?_⟩
  · rw [List.map_append]
    exact Go.ownsRow_setCell_other ho (by simp [Value.ownBlock]; omega) _
  · exact World.cell?_setCell_same _ _ _ c0
  · rw [World.cell?_setCell_other _ _ _ _ (by simp)]; exact c1
  · rw [World.cell?_setCell_other _ _ _ _ (by simp)]; exact c2
  · rw [World.frozen?_setCell]; exact f0
  · have hm' : Below G w wm := hm.mono (by omega)
    refine ((hB.trans hm').grown hg (by have := hm.size; omega) (fun j hj => ?_)).setCell (Nat.le_refl _) _
    have := (h.own.lt j hj).1
    omega
theorem keep_cell {w wx : World} {a : Addr} {v : Value} (hb : Below w.heap.size w wx) (h : w.cell? a = some v) : wx.cell? a = some v := (hb.cell (World.block_lt_of_cell? _ _ h)).trans h
theorem Bld.start (w : World) (b : Int) (s : Bool) : Bld (w.alloc (.cells #[.slice none 0 0, .int .i64 b, .bool s] 34)) w.heap.size (.slice none 0 0) 0 [] b s :=
  ⟨⟨by simp, .inl ⟨rfl, rfl⟩⟩, by simp [go_sem], by simp [go_sem], by simp [go_sem], by simp [go_sem]⟩
theorem Bld.drewN {w : World} {G : Nat} {v : Value} {k : Nat} {ys : List Int} {b : Int} {s : Bool} (h : Bld w G v k ys b s) (m : Nat) : Bld (w.drewN m) G v k ys b s := ⟨h.own, h.c0, h.c1, h.c2, h.f0⟩
theorem Bld.drew {w : World} {G : Nat} {v : Value} {k : Nat} {ys : List Int} {b : Int} {s : Bool} (h : Bld w G v k ys b s) : Bld w.drew G v k ys b s := ⟨h.own, h.c0, h.c1, h.c2, h.f0⟩
/-- What has been made reads as the numbers. -/
theorem Bld.ints {w : World} {G g cap : Nat} {k : Nat} {ys : List Int} {b : Int} {s : Bool} (h : Bld w G (.slice (some ⟨g, 0, none⟩) k cap) k ys b s) (hr : ∀ j, J64 (ys.getD j 0)) (hk : k ≤ 9223372036854775807) : Ints w (some ⟨g, 0, none⟩) k ys := by
  refine Ints.of_own h.own (fun j hj => ?_) h.len hr hk
  have hl := h.len
  rw [List.getElem?_map, List.getElem?_eq_getElem (show j < ys.length by omega), List.getD_eq_getElem?_getD, List.getElem?_eq_getElem (show j < ys.length by omega)]
  rfl
theorem Bld.form {w : World} {G : Nat} {v : Value} {k : Nat} {ys : List Int} {b : Int} {s : Bool} (h : Bld w G v k ys b s) (hk : 0 < k) : ∃ g cap, v = .slice (some ⟨g, 0, none⟩) k cap ∧ G < g ∧ k ≤ cap := by
  obtain ⟨g, cap, h1, h2, _⟩ := h.own.form hk
  refine ⟨g, cap, h1, h2, ?_⟩
  subst h1
  rcases h.own.2 with ⟨e, _⟩ | ⟨g', cap', cur, e, _, _, hc, _⟩
  · simp at e
  · simp only [Value.slice.injEq, Option.some.injEq, Addr.mk.injEq, and_true, true_and] at e
    omega

/-- the negation's numbers -/
def negs (xs : List Int) : List Int := xs.map fun x => -x
theorem negs_len (xs : List Int) : (negs xs).length = xs.length := by simp [negs]
theorem negs_getD (xs : List Int) (j : Nat) : (negs xs).getD j 0 = -(xs.getD j 0) := by
  unfold negs
  rw [List.getD_eq_getElem?_getD, List.getD_eq_getElem?_getD, List.getElem?_map]
  cases xs[j]? <;> simp
theorem take_snoc (l : List Int) {k : Nat} (h : k < l.length) : l.take k ++ [l.getD k 0] = l.take (k + 1) := by
  rw [List.take_succ_eq_append_getElem h, List.getD_eq_getElem?_getD, List.getElem?_eq_getElem h]; rfl
theorem negs_rng {xs : List Int} (h : OkTo xs xs.length) (j : Nat) : J64 ((negs xs).getD j 0) := by
  rw [negs_getD]
  rcases Nat.lt_or_ge j xs.length with hj | hj
  · have := coefOk_iff.1 (h j hj); unfold J64; omega
  · rw [List.getD_eq_getElem?_getD, List.getElem?_eq_none hj]; simp [J64]

theorem sLinNot_no {A : Option Addr} {n c : Nat} {xs : List Int} (b : Int) (s : Bool) {w : World} (h : Ints w A n xs) (hb : linOk xs b = false) :
    Calls Try.prog 104 #[.agg #[.slice A n c, .int .i64 b, .bool s]] w fun e w' => e = .returned (.agg #[.slice none 0 0, .int .i64 0, .bool false]) ∧ Below w.heap.size w w' := by
  go_enter Try.func104, Try.ntmps104
  go_wp2_with fail
  refine (sLinOk_any (xs := xs) b s (h.later (by (repeat (first | with_reducible exact Below.refl _ _ | with_reducible assumption | (with_reducible refine below_drewN ?_ _) | (with_reducible refine Below.drew ?_) | (with_reducible refine Below.setCell ?_ (by first | omega | (simp; done) | (simp; omega)) _) | (with_reducible refine Below.alloc ?_ (by first | omega | (simp; done) | (simp; omega)) _) | refine Below.trans ?_ (Below.mono (by with_reducible assumption) (by first | omega | (simp; done) | (simp; omega)))))))).mono ?_
  rintro e w1 ⟨rfl, hb1⟩
  have hz1 := hb1.size; (try simp at hz1); have hB1 : Below w.heap.size w w1 := (by refine Below.trans ?_ (Below.mono hb1 (by first | omega | (simp; done) | (simp; omega))); (repeat (first | with_reducible exact Below.refl _ _ | with_reducible assumption | (with_reducible refine below_drewN ?_ _) | (with_reducible refine Below.drew ?_) | (with_reducible refine Below.setCell ?_ (by first | omega | (simp; done) | (simp; omega)) _) | (with_reducible refine Below.alloc ?_ (by first | omega | (simp; done) | (simp; omega)) _) | refine Below.trans ?_ (Below.mono (by with_reducible assumption) (by first | omega | (simp; done) | (simp; omega)))))); (obtain ⟨kc_, fc_, lc_⟩ := keep_later (a := ⟨w.heap.size, 0, none⟩) (v := .slice A n c) hb1 (by go_simp) (by go_simp); obtain ⟨kc_, fc_, lc_⟩ := keep_later (a := ⟨w.heap.size, 1, none⟩) (v := .int .i64 b) hb1 (by go_simp) (by go_simp); obtain ⟨kc_, fc_, lc_⟩ := keep_later (a := ⟨w.heap.size, 2, none⟩) (v := .bool s) hb1 (by go_simp) (by go_simp); obtain ⟨kc_, fc_, lc_⟩ := keep_later (a := ⟨w.heap.size+1, 0, none⟩) (v := .slice none 0 0) hb1 (by go_simp) (by go_simp); obtain ⟨kc_, fc_, lc_⟩ := keep_later (a := ⟨w.heap.size+1, 1, none⟩) (v := .int .i64 0) hb1 (by go_simp) (by go_simp); obtain ⟨kc_, fc_, lc_⟩ := keep_later (a := ⟨w.heap.size+1, 2, none⟩) (v := .bool false) hb1 (by go_simp) (by go_simp)); clear hb1
  go_wp2
  refine bodyPost_ret (v := .agg #[.slice none 0 0, .int .i64 0, .bool false]) (by simp only [results, Try.results104]; go_simp) rfl ⟨rfl, ?_⟩
  (repeat (first | with_reducible exact Below.refl _ _ | with_reducible assumption | (with_reducible refine below_drewN ?_ _) | (with_reducible refine Below.drew ?_) | (with_reducible refine Below.setCell ?_ (by first | omega | (simp; done) | (simp; omega)) _) | (with_reducible refine Below.alloc ?_ (by first | omega | (simp; done) | (simp; omega)) _) | refine Below.trans ?_ (Below.mono (by with_reducible assumption) (by first | omega | (simp; done) | (simp; omega)))))
set_option maxRecDepth 100000 in
set_option maxHeartbeats 2000000 in
theorem sLinNot_free {A : Option Addr} {n c : Nat} {xs : List Int} (b : Int) (s : Bool) {w : World} (h : Ints w A n xs) (hb : linOk xs b = true) :
    Calls Try.prog 104 #[.agg #[.slice A n c, .int .i64 b, .bool s]] w fun e w' => ∃ g cap, e = .returned (.agg #[.slice (some ⟨g, 0, none⟩) 4 cap, .int .i64 (-b), .bool (!s)]) ∧ (Ints w' (some ⟨g, 0, none⟩) 4 (negs xs) ∧ Free w' g) ∧ 4 ≤ cap ∧ w.heap.size ≤ g ∧ Below w.heap.size w w' := by
  obtain ⟨hl4, hbb, hok⟩ := linOk_len hb
  obtain ⟨hb1, hb2⟩ := coefOk_iff.1 hbb
  have hn : n = 4 := h.len.symm.trans hl4
  subst hn
  have HL := Lib.hid hl4
  clear hl4
  obtain ⟨i0, hi, zi0, zi1, zi2⟩ := info_parts int_info
  go_enter Try.func104, Try.ntmps104
  go_wp2_with fail
  refine (sLinOk_any (xs := xs) b s (h.later (by (repeat (first | with_reducible exact Below.refl _ _ | with_reducible assumption | (with_reducible refine below_drewN ?_ _) | (with_reducible refine Below.drew ?_) | (with_reducible refine Below.setCell ?_ (by first | omega | (simp; done) | (simp; omega)) _) | (with_reducible refine Below.alloc ?_ (by first | omega | (simp; done) | (simp; omega)) _) | refine Below.trans ?_ (Below.mono (by with_reducible assumption) (by first | omega | (simp; done) | (simp; omega)))))))).mono ?_
  rintro e w1 ⟨rfl, hb1⟩
  have hz1 := hb1.size; (try simp at hz1); have hB1 : Below w.heap.size w w1 := (by refine Below.trans ?_ (Below.mono hb1 (by first | omega | (simp; done) | (simp; omega))); (repeat (first | with_reducible exact Below.refl _ _ | with_reducible assumption | (with_reducible refine below_drewN ?_ _) | (with_reducible refine Below.drew ?_) | (with_reducible refine Below.setCell ?_ (by first | omega | (simp; done) | (simp; omega)) _) | (with_reducible refine Below.alloc ?_ (by first | omega | (simp; done) | (simp; omega)) _) | refine Below.trans ?_ (Below.mono (by with_reducible assumption) (by first | omega | (simp; done) | (simp; omega)))))); (obtain ⟨kc_, fc_, lc_⟩ := keep_later (a := ⟨w.heap.size, 0, none⟩) (v := .slice A 4 c) hb1 (by go_simp) (by go_simp); obtain ⟨kc_, fc_, lc_⟩ := keep_later (a := ⟨w.heap.size, 1, none⟩) (v := .int .i64 b) hb1 (by go_simp) (by go_simp); obtain ⟨kc_, fc_, lc_⟩ := keep_later (a := ⟨w.heap.size, 2, none⟩) (v := .bool s) hb1 (by go_simp) (by go_simp); obtain ⟨kc_, fc_, lc_⟩ := keep_later (a := ⟨w.heap.size+1, 0, none⟩) (v := .slice none 0 0) hb1 (by go_simp) (by go_simp); obtain ⟨kc_, fc_, lc_⟩ := keep_later (a := ⟨w.heap.size+1, 1, none⟩) (v := .int .i64 0) hb1 (by go_simp) (by go_simp); obtain ⟨kc_, fc_, lc_⟩ := keep_later (a := ⟨w.heap.size+1, 2, none⟩) (v := .bool false) hb1 (by go_simp) (by go_simp)); clear hb1
  go_wp2_with fail
  have hst := Bld.start w1 (-b) (!s)
  go_loopw [4] (fun i wr => ∃ (k : Nat) (v : Value), k ≤ 4 ∧ i = .int .i64 k ∧ Bld wr w1.heap.size v k ((negs xs).take k) (-b) (!s) ∧ Below w1.heap.size w1 wr) (fun i _ => 4 - (intOf i).toNat)
  case atStart => exact ⟨0, _, by omega, rfl, hst, (Below.refl _ _).alloc (Nat.le_refl _) _⟩
  case round =>
    clear hst
    obtain ⟨k, v, hk, rfl, hbld, hBw⟩ := hrel
    have hzr := hBw.size
    have k0 := hbld.c0
    have f0 := hbld.f0
    have hb1 := hBw
    obtain ⟨kc_, fc_, lc_⟩ := keep_later (a := ⟨w.heap.size, 0, none⟩) (v := .slice A 4 c) hb1 (by go_simp) (by go_simp); obtain ⟨kc_, fc_, lc_⟩ := keep_later (a := ⟨w.heap.size, 1, none⟩) (v := .int .i64 b) hb1 (by go_simp) (by go_simp); obtain ⟨kc_, fc_, lc_⟩ := keep_later (a := ⟨w.heap.size, 2, none⟩) (v := .bool s) hb1 (by go_simp) (by go_simp); obtain ⟨kc_, fc_, lc_⟩ := keep_later (a := ⟨w.heap.size+1, 0, none⟩) (v := .slice none 0 0) hb1 (by go_simp) (by go_simp); obtain ⟨kc_, fc_, lc_⟩ := keep_later (a := ⟨w.heap.size+1, 1, none⟩) (v := .int .i64 0) hb1 (by go_simp) (by go_simp); obtain ⟨kc_, fc_, lc_⟩ := keep_later (a := ⟨w.heap.size+1, 2, none⟩) (v := .bool false) hb1 (by go_simp) (by go_simp)
    clear hb1
    by_cases hlt : k < 4
    · obtain ⟨p, o, rfl, hp, hc⟩ := h.cells (by omega)
      have hck : wr.cell? ⟨p, o + k, none⟩ = some (.int .i64 (xs.getD k 0)) := (Below.cell (by (repeat (first | with_reducible exact Below.refl _ _ | with_reducible assumption | (with_reducible refine below_drewN ?_ _) | (with_reducible refine Below.drew ?_) | (with_reducible refine Below.setCell ?_ (by first | omega | (simp; done) | (simp; omega)) _) | (with_reducible refine Below.alloc ?_ (by first | omega | (simp; done) | (simp; omega)) _) | refine Below.trans ?_ (Below.mono (by with_reducible assumption) (by first | omega | (simp; done) | (simp; omega))))) : Below w.heap.size w wr) (p := ⟨p, o + k, none⟩) hp).trans (hc k hlt)
      have hck1 : w1.cell? ⟨p, o + k, none⟩ = some (.int .i64 (xs.getD k 0)) := (Below.cell (by (repeat (first | with_reducible exact Below.refl _ _ | with_reducible assumption | (with_reducible refine below_drewN ?_ _) | (with_reducible refine Below.drew ?_) | (with_reducible refine Below.setCell ?_ (by first | omega | (simp; done) | (simp; omega)) _) | (with_reducible refine Below.alloc ?_ (by first | omega | (simp; done) | (simp; omega)) _) | refine Below.trans ?_ (Below.mono (by with_reducible assumption) (by first | omega | (simp; done) | (simp; omega))))) : Below w.heap.size w w1) (p := ⟨p, o + k, none⟩) hp).trans (hc k hlt)
      clear hc
      obtain ⟨x1, x2⟩ := coefOk_iff.1 (hok k hlt)
      have HN := Lib.hid ((congrArg (fun y => (negs xs).take k ++ [y]) (negs_getD xs k)).symm.trans (take_snoc (negs xs) (by rw [negs_len, HL.out]; exact hlt)))
      generalize xs.getD k 0 = x at *
      go_wp2_with fail
      have hbl := hbld.lt
      have hpr : p < wr.heap.size := by omega
      have hwx : IntKind.i64.wrap (-x) = -x := IntWalk.i64_in _ (by omega)
      refine wp_region_T 10 (fun w' => w'.cell? ⟨w.heap.size, 0, none⟩ = some (.slice (some ⟨p, o, none⟩) 4 c) ∧ w'.cell? ⟨w1.heap.size, 0, none⟩ = some v ∧ w'.cell? ⟨p, o + k, none⟩ = some (.int .i64 x)) (by kernel_rfl) (by kernel_rfl) ?_ (fun hHeld => ?_)
      · simp [*]
      (refine wpAnyT_take (i := 0) (v := ?_) rfl (by kernel_rfl) (by kernel_rfl) (by kernel_rfl) (by kernel_rfl) (fun _ _ _ h => h) (Or.inl ⟨by rfl, ?_⟩) (by assumption) ?_; rotate_left; (focus (intro wS hSw; (try dsimp only at hSw); go_simp; (try with_reducible rfl))); (try simp only [Act.put, List.setIfInBounds_toArray, List.set_cons_zero, List.set_cons_succ]))
      (refine wpAnyT_take (i := 1) (v := ?_) rfl (by kernel_rfl) (by kernel_rfl) (by kernel_rfl) (by kernel_rfl) (fun _ _ _ h => h) (Or.inl ⟨by rfl, ?_⟩) (by assumption) ?_; rotate_left; (focus (intro wS hSw; (try dsimp only at hSw); go_simp; (try with_reducible rfl))); (try simp only [Act.put, List.setIfInBounds_toArray, List.set_cons_zero, List.set_cons_succ]))
      (refine wpAnyT_take (i := 2) (v := ?_) rfl (by kernel_rfl) (by kernel_rfl) (by kernel_rfl) (by kernel_rfl) (fun _ _ _ h => h) (Or.inl ⟨by rfl, ?_⟩) (by assumption) ?_; rotate_left; (focus (intro wS hSw; (try dsimp only at hSw); go_simp; (try with_reducible rfl))); (try simp only [Act.put, List.setIfInBounds_toArray, List.set_cons_zero, List.set_cons_succ]))
      (refine wpAnyT_take (i := 3) (v := ?_) rfl (by kernel_rfl) (by kernel_rfl) (by kernel_rfl) (by kernel_rfl) (fun _ _ _ h => h) (Or.inl ⟨by rfl, ?_⟩) (by assumption) ?_; rotate_left; (focus (intro wS hSw; (try dsimp only at hSw); go_simp; (try with_reducible rfl))); (try simp only [Act.put, List.setIfInBounds_toArray, List.set_cons_zero, List.set_cons_succ]))
      (refine wpAnyT_take (i := 4) (v := ?_) rfl (by kernel_rfl) (by kernel_rfl) (by kernel_rfl) (by kernel_rfl) (fun _ _ _ h => h) (Or.inl ⟨by rfl, ?_⟩) (by assumption) ?_; rotate_left; (focus (intro wS hSw; (try dsimp only at hSw); go_simp; (try with_reducible rfl))); (try simp only [Act.put, List.setIfInBounds_toArray, List.set_cons_zero, List.set_cons_succ]))
      (refine wpAnyT_take (i := 5) (v := ?_) rfl (by kernel_rfl) (by kernel_rfl) (by kernel_rfl) (by kernel_rfl) (fun _ _ _ h => h) (Or.inl ⟨by rfl, ?_⟩) (by assumption) ?_; rotate_left; (focus (intro wS hSw; (try dsimp only at hSw); go_simp; (try with_reducible rfl))); (try simp only [Act.put, List.setIfInBounds_toArray, List.set_cons_zero, List.set_cons_succ]))
      (refine wpAnyT_take (i := 6) (v := ?_) rfl (by kernel_rfl) (by kernel_rfl) (by kernel_rfl) (by kernel_rfl) (fun _ _ _ h => h) (Or.inl ⟨by rfl, ?_⟩) (by assumption) ?_; rotate_left; (focus (intro wS hSw; (try dsimp only at hSw); go_simp; (try with_reducible rfl))); (try simp only [Act.put, List.setIfInBounds_toArray, List.set_cons_zero, List.set_cons_succ]))
      (refine wpAnyT_take (i := 7) (v := ?_) rfl (by kernel_rfl) (by kernel_rfl) (by kernel_rfl) (by kernel_rfl) (fun _ _ _ h => h) (Or.inl ⟨by rfl, ?_⟩) (by assumption) ?_; rotate_left; (focus (intro wS hSw; (try dsimp only at hSw); go_simp; (try with_reducible rfl))); (try simp only [Act.put, List.setIfInBounds_toArray, List.set_cons_zero, List.set_cons_succ]))
      refine wpAnyT_ready (rs := [8]) (by kernel_rfl) (by kernel_rfl) ?_
      refine AllReadyT.cons rfl (fun K hK => ?_) AllReadyT.nil
      go_simp
      refine hK.out _ _ ?_ (fun hHeld => ?_)
      · (try dsimp only)
        simp [go_sem, World.cell?_alloc_past, *]
      clear hK K
      (try simp only [Act.put, List.setIfInBounds_toArray, List.set_cons_zero, List.set_cons_succ])
      have hm : Below wr.heap.size wr (wr.alloc (.cells #[.int .i64 (-x)] 3)).drew := by (repeat (first | with_reducible exact Below.refl _ _ | with_reducible assumption | (with_reducible refine below_drewN ?_ _) | (with_reducible refine Below.drew ?_) | (with_reducible refine Below.setCell ?_ (by first | omega | (simp; done) | (simp; omega)) _) | (with_reducible refine Below.alloc ?_ (by first | omega | (simp; done) | (simp; omega)) _) | refine Below.trans ?_ (Below.mono (by with_reducible assumption) (by first | omega | (simp; done) | (simp; omega)))))
      refine wpAnyT_ready (rs := [9]) (by kernel_rfl) (by kernel_rfl) ?_
      refine AllReadyT.cons rfl (fun K hK => ?_) AllReadyT.nil
      ((refine step_append_lies _ (by rfl) (.tmp 24) (.tmp 31) _ (by rfl) (w1.heap.size + 1) 3 i0 _ 1 8 Try.underlying29 hi zi0 zi1 zi2 rfl (by omega) v k _ (by rfl) (hbld.own.alloc _) ⟨wr.heap.size, 0, none⟩ 1 1 [.int .i64 (-x)] (by rfl) (by rfl) (World.news_of_block (cs := #[.int .i64 (-x)]) (t := 3) (fr := (0, 0)) (heap_alloc_new _ _)) (by simp [Value.oneCell']) (by omega) (by unfold maxLen; omega) (by omega) (by simp; omega) (wr.heap.size + 1) (by simp) ?_; intro g cap wq hown2 hgrow hat hlt2); have hB2 := hbld.under hBw hm hgrow; obtain ⟨m0, m1, m2, m3⟩ := hbld.mid hm hgrow; have HS := Lib.hid (hbld.step hBw hm hgrow hown2); clear hown2 hgrow hat)
      refine hK.out _ _ ?_ (fun hHeld => ?_)
      · (try dsimp only)
        exact ⟨(hB2.cell (p := ⟨w.heap.size, 0, none⟩) (by show w.heap.size < w1.heap.size; omega)).trans (by assumption), m0, (hB2.cell (p := ⟨p, o + k, none⟩) (by show p < w1.heap.size; omega)).trans hck1⟩
      clear hK K
      (try simp only [Act.put, List.setIfInBounds_toArray, List.set_cons_zero, List.set_cons_succ])
      refine wpAnyT_done (by kernel_rfl) ?_
      simp only [List.drop_succ_cons, List.drop_zero]
      go_wp2
      go_roundw
      case rel =>
        have h1 := HS.out.1
        rw [HN.out] at h1
        exact ⟨k + 1, _, by omega, by go_num, h1, HS.out.2⟩
      case measure => simp [intOf]; omega
    · obtain rfl : k = 4 := by omega
      obtain ⟨g, cap, rfl, hgG, hcap⟩ := hbld.form (by omega)
      rw [List.take_of_length_le (by rw [negs_len, HL.out]; exact Nat.le_refl _)] at hbld
      have hI := hbld.ints (fun j => negs_rng (by rw [HL.out]; exact hok) j) (by omega)
      have c1 := hbld.c1
      have c2 := hbld.c2
      have hF : Free wr g := ⟨(hbld.own.lt g rfl).2, fun j => hbld.own.frozenAt j⟩
      clear hbld
      go_wp2
      refine bodyPost_ret (v := .agg #[.slice (some ⟨g, 0, none⟩) 4 cap, .int .i64 (-b), .bool (!s)]) (by simp only [results, Try.results104]; go_simp) rfl ⟨g, cap, rfl, ⟨?_, ?_⟩, hcap, by omega, ?_⟩
      · (repeat (first | with_reducible exact hI | (with_reducible refine Ints.far ?_ (by first | omega | (simp; done) | (simp; omega)) _) | (with_reducible refine Ints.alloc ?_ _) | (with_reducible refine Ints.drewN ?_ _) | (with_reducible refine Ints.drew ?_)))
      · (repeat (first | with_reducible exact hF | (with_reducible refine Free.set ?_ _ _) | (with_reducible refine Free.alloc ?_ _) | (with_reducible refine Free.drewN ?_ _) | (with_reducible refine Free.drew ?_)))
      · (repeat (first | with_reducible exact Below.refl _ _ | with_reducible assumption | (with_reducible refine below_drewN ?_ _) | (with_reducible refine Below.drew ?_) | (with_reducible refine Below.setCell ?_ (by first | omega | (simp; done) | (simp; omega)) _) | (with_reducible refine Below.alloc ?_ (by first | omega | (simp; done) | (simp; omega)) _) | refine Below.trans ?_ (Below.mono (by with_reducible assumption) (by first | omega | (simp; done) | (simp; omega)))))
/-- Block g holds three cells that may be written. -/
structure L3 (w : World) (g : Nat) (v0 v1 v2 : Value) : Prop where
  c0 : w.cell? ⟨g, 0, none⟩ = some v0
  c1 : w.cell? ⟨g, 1, none⟩ = some v1
  c2 : w.cell? ⟨g, 2, none⟩ = some v2
  f0 : w.frozen? ⟨g, 0, none⟩ = false
  f1 : w.frozen? ⟨g, 1, none⟩ = false
  f2 : w.frozen? ⟨g, 2, none⟩ = false
end Go.Proofs.Ytccjbipmlpnhkaa

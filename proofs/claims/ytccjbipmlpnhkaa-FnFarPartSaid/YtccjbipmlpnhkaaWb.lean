/- The bound that a row gives for a number: contracts. -/
import Derived.Test.YtccjbipmlpnhkaaWx
import Derived.Test.YtccjbipmlpnhkaaO
import Derived.Test.YtccjbipmlpnhkaaE
import Derived.Deep.DeepCutAuto
namespace Go.Proofs.Ytccjbipmlpnhkaa
set_option maxRecDepth 100000
open Go.RowKit Go.ChangeShapes Go.WideShapes Go.ChangeAt
set_option linter.unusedSimpArgs false
set_option linter.unusedVariables false

/-- A fraction, or not. -/
def RatBk (o : Option (Int × Int)) (w : World) (e : Ending) (w' : World) : Prop :=
  ∃ x y : Int, e = .returned (.tuple #[.agg #[.int .i64 x, .int .i64 y], .bool o.isSome]) ∧ (∀ p, o = some p → p = (x, y)) ∧ Below w.heap.size w w'
theorem plusV_O {p q c v1 v2 X Y : Int} {t : Bool} (H : plusV p q c v1 v2 = (X, Y, t)) : (t = true → plusR (p, q) c (v1, v2) = some (X, Y)) ∧ (t = false → plusR (p, q) c (v1, v2) = none) := by
  unfold plusV at H
  split at H
  · rename_i hs
    simp only [Prod.mk.injEq] at H
    obtain ⟨rfl, rfl, rfl⟩ := H
    exact ⟨fun _ => hs, fun h => (by cases h)⟩
  · rename_i hs
    simp only [Prod.mk.injEq] at H
    obtain ⟨_, _, rfl⟩ := H
    exact ⟨fun h => (by cases h), fun _ => hs⟩
theorem plusR_mul {p q c v1 v2 X Y : Int} {t : Bool} (H : mulR c 1 v1 v2 = (X, Y, t)) {P Q : Int} {t2 : Bool} (H2 : addR p q X Y = (P, Q, t2)) : (t = false → plusR (p, q) c (v1, v2) = none) ∧ (t = true → plusR (p, q) c (v1, v2) = toO (P, Q, t2)) := by
  constructor
  · rintro rfl; simp [plusR, H]
  · rintro rfl; cases t2 <;> simp [plusR, H, H2, toO]

set_option maxHeartbeats 8000000 in
theorem boundBy_any {A A' : Option Addr} {n c c' u : Nat} {xs : List Int} {vs : List (Int × Int)} (b : Int) (s : Bool) {w : World} (h : Ints w A n xs) (h' : Rats w A' 4 vs) (hx : linOk xs b = true) (hu : u < 4) :
    Calls Try.prog 85 #[.agg #[.slice A n c, .int .i64 b, .bool s], .int .i64 u, .slice A' 4 c'] w (RatBk (boundR xs b vs u) w) := by
  obtain ⟨hl4, hbb, hok⟩ := linOk_len hx
  have hn : n = 4 := h.len.symm.trans hl4
  subst hn
  clear hl4 hbb
  obtain ⟨o, ho⟩ : ∃ o, boundR xs b vs u = o := ⟨_, rfl⟩
  rw [ho]
  have HO := Lib.hid ho
  clear ho
  obtain ⟨bp, oo, rfl, hp, hc⟩ := h.cells (by omega)
  obtain ⟨bp', o', rfl, hp', hc'⟩ := h'.cells (by omega)
  have HC := Lib.hid hc
  have HC' := Lib.hid hc'
  have HOK := Lib.hid hok
  clear hc hc' hok
  go_enter Try.func85, Try.ntmps85
  go_wp2_with fail
  refine (whole_any b _).mono ?_
  rintro e w3 ⟨rfl, hb1⟩
  have hz1 := hb1.size; (try simp at hz1); have hB1 : Below w.heap.size w w3 := (by refine Below.trans ?_ (Below.mono hb1 (by first | omega | (simp; done) | (simp; omega))); (repeat (first | with_reducible exact Below.refl _ _ | with_reducible assumption | (with_reducible refine below_drewN ?_ _) | (with_reducible refine Below.drew ?_) | (with_reducible refine Below.setCell ?_ (by first | omega | (simp; done) | (simp; omega)) _) | (with_reducible refine Below.alloc ?_ (by first | omega | (simp; done) | (simp; omega)) _) | refine Below.trans ?_ (Below.mono (by with_reducible assumption) (by first | omega | (simp; done) | (simp; omega)))))); obtain ⟨kc_, fc_, lc_⟩ := keep_later (a := ⟨w.heap.size, 0, none⟩) (v := .slice (some ⟨bp, oo, none⟩) 4 c) hb1 (by go_simp) (by go_simp); obtain ⟨kc_, fc_, lc_⟩ := keep_later (a := ⟨w.heap.size, 1, none⟩) (v := .int .i64 b) hb1 (by go_simp) (by go_simp); obtain ⟨kc_, fc_, lc_⟩ := keep_later (a := ⟨w.heap.size, 2, none⟩) (v := .bool s) hb1 (by go_simp) (by go_simp); obtain ⟨kc_, fc_, lc_⟩ := keep_later (a := ⟨w.heap.size+1, 0, none⟩) (v := .int .i64 0) hb1 (by go_simp) (by go_simp); obtain ⟨kc_, fc_, lc_⟩ := keep_later (a := ⟨w.heap.size+1, 1, none⟩) (v := .int .i64 0) hb1 (by go_simp) (by go_simp); clear hb1
  go_wp2_with fail
  go_loopw [21] (fun i wr => ∃ (k : Nat) (p q : Int), k ≤ 4 ∧ i = .int .i64 k ∧ Hid (restTo xs b vs u k = some (p, q)) ∧ Lv wr w3.heap.size p q ∧ Below w3.heap.size w3 wr) (fun i _ => 4 - (intOf i).toNat)
  case atStart => exact ⟨0, b, 1, by omega, rfl, Lib.hid rfl, ⟨by go_simp, by go_simp, by go_simp, by go_simp, (by first | omega | (simp; done) | (simp; omega))⟩, by (repeat (first | with_reducible exact Below.refl _ _ | with_reducible assumption | (with_reducible refine below_drewN ?_ _) | (with_reducible refine Below.drew ?_) | (with_reducible refine Below.setCell ?_ (by first | omega | (simp; done) | (simp; omega)) _) | (with_reducible refine Below.alloc ?_ (by first | omega | (simp; done) | (simp; omega)) _) | refine Below.trans ?_ (Below.mono (by with_reducible assumption) (by first | omega | (simp; done) | (simp; omega)))))⟩
  case round =>
    obtain ⟨k, p, q, hk, rfl, HS, ⟨k1, k2, k3, k4, k5⟩, hBr⟩ := hrel
    have hb1 := hBr
    have hzr := hBr.size
    obtain ⟨kc_, fc_, lc_⟩ := keep_later (a := ⟨w.heap.size, 0, none⟩) (v := .slice (some ⟨bp, oo, none⟩) 4 c) hb1 (by go_simp) (by go_simp); obtain ⟨kc_, fc_, lc_⟩ := keep_later (a := ⟨w.heap.size, 1, none⟩) (v := .int .i64 b) hb1 (by go_simp) (by go_simp); obtain ⟨kc_, fc_, lc_⟩ := keep_later (a := ⟨w.heap.size, 2, none⟩) (v := .bool s) hb1 (by go_simp) (by go_simp); obtain ⟨kc_, fc_, lc_⟩ := keep_later (a := ⟨w.heap.size+1, 0, none⟩) (v := .int .i64 0) hb1 (by go_simp) (by go_simp); obtain ⟨kc_, fc_, lc_⟩ := keep_later (a := ⟨w.heap.size+1, 1, none⟩) (v := .int .i64 0) hb1 (by go_simp) (by go_simp)
    clear hb1
    have hBw : Below w.heap.size w wr := by (repeat (first | with_reducible exact Below.refl _ _ | with_reducible assumption | (with_reducible refine below_drewN ?_ _) | (with_reducible refine Below.drew ?_) | (with_reducible refine Below.setCell ?_ (by first | omega | (simp; done) | (simp; omega)) _) | (with_reducible refine Below.alloc ?_ (by first | omega | (simp; done) | (simp; omega)) _) | refine Below.trans ?_ (Below.mono (by with_reducible assumption) (by first | omega | (simp; done) | (simp; omega)))))
    by_cases hlt : k < 4
    · have hck : wr.cell? ⟨bp, oo + k, none⟩ = some (.int .i64 (xs.getD k 0)) := (hBw.cell (p := ⟨bp, oo + k, none⟩) hp).trans (HC.out k hlt)
      have hpr : bp < wr.heap.size := by have := hBw.size; omega
      have hpr' : bp' < wr.heap.size := by have := hBw.size; omega
      obtain ⟨x1, x2⟩ := coefOk_iff.1 (HOK.out k hlt)
      by_cases hku : k = u
      · subst hku
        have HX := Lib.hid (rest_skip HS.out rfl)
        generalize xs.getD k 0 = x at *
        go_wp2
        go_roundw
        case rel => exact ⟨k + 1, p, q, by omega, by go_num, HX, ⟨by go_simp, by go_simp, by go_simp, by go_simp, (by first | omega | (simp; done) | (simp; omega))⟩, by (repeat (first | with_reducible exact Below.refl _ _ | with_reducible assumption | (with_reducible refine below_drewN ?_ _) | (with_reducible refine Below.drew ?_) | (with_reducible refine Below.setCell ?_ (by first | omega | (simp; done) | (simp; omega)) _) | (with_reducible refine Below.alloc ?_ (by first | omega | (simp; done) | (simp; omega)) _) | refine Below.trans ?_ (Below.mono (by with_reducible assumption) (by first | omega | (simp; done) | (simp; omega)))))⟩
        case measure => simp [intOf]; omega
      have hku2 : ((k : Int) == (u : Int)) = false := by simp; omega
      have hc1 : wr.cell? ⟨bp', o' + k * 2, none⟩ = some (.int .i64 (vs.getD k (0, 0)).1) := (hBw.cell (p := ⟨bp', o' + k * 2, none⟩) hp').trans (HC'.out k hlt).1
      have hc2 : wr.cell? ⟨bp', o' + k * 2 + 1, none⟩ = some (.int .i64 (vs.getD k (0, 0)).2) := (hBw.cell (p := ⟨bp', o' + k * 2 + 1, none⟩) hp').trans (HC'.out k hlt).2
      obtain ⟨X, Y, t, hpl⟩ : ∃ X Y t, plusV p q (-(xs.getD k 0)) (vs.getD k (0, 0)).1 (vs.getD k (0, 0)).2 = (X, Y, t) := ⟨_, _, _, rfl⟩
      have HY : Hid (t = true → restTo xs b vs u (k + 1) = some (X, Y)) := Lib.hid (fun ht => (rest_step HS.out hku).trans ((plusV_O hpl).1 ht))
      have HN : Hid (t = false → o = none) := Lib.hid (fun ht => HO.out.symm.trans (bound_rest (restTo_none (k := k + 1) ((rest_step HS.out hku).trans ((plusV_O hpl).2 ht)) (by omega))))
      have HP := Lib.hid hpl
      clear hpl
      generalize xs.getD k 0 = x at *
      generalize (vs.getD k (0, 0)).1 = v1 at *
      generalize (vs.getD k (0, 0)).2 = v2 at *
      have hwn : IntKind.i64.wrap (-x) = -x := IntWalk.i64_in _ (by omega)
      go_wp2_with fail
      obtain ⟨w1, hw1⟩ : ∃ x : World, x = w := ⟨w, rfl⟩
      clear hw1
      go_region_held3 (fun w' => w'.cell? ⟨w3.heap.size, 0, none⟩ = some (.int .i64 p) ∧ w'.cell? ⟨w3.heap.size, 1, none⟩ = some (.int .i64 q) ∧ w'.cell? ⟨bp', o' + k * 2, none⟩ = some (.int .i64 v1) ∧ w'.cell? ⟨bp', o' + k * 2 + 1, none⟩ = some (.int .i64 v2)) (simp [go_sem, World.cell?_alloc_past, *])
        (first
          | (go_at_call 59; rename World => wp; refine (plus_any p q (-x) v1 v2 X Y t HP _).mono ?_; rintro e w1 ⟨rfl, hb1⟩; have hz1 := hb1.size; (try simp at hz1); have hB1 : Below w.heap.size w w1 := (by refine Below.trans ?_ (Below.mono hb1 (by first | omega | (simp; done) | (simp; omega))); (repeat (first | with_reducible exact Below.refl _ _ | with_reducible assumption | (with_reducible refine below_drewN ?_ _) | (with_reducible refine Below.drew ?_) | (with_reducible refine Below.setCell ?_ (by first | omega | (simp; done) | (simp; omega)) _) | (with_reducible refine Below.alloc ?_ (by first | omega | (simp; done) | (simp; omega)) _) | refine Below.trans ?_ (Below.mono (by with_reducible assumption) (by first | omega | (simp; done) | (simp; omega)))))); have hC1 : Below w3.heap.size w3 w1 := (by refine Below.trans ?_ (Below.mono hb1 (by first | omega | (simp; done) | (simp; omega))); (repeat (first | with_reducible exact Below.refl _ _ | with_reducible assumption | (with_reducible refine below_drewN ?_ _) | (with_reducible refine Below.drew ?_) | (with_reducible refine Below.setCell ?_ (by first | omega | (simp; done) | (simp; omega)) _) | (with_reducible refine Below.alloc ?_ (by first | omega | (simp; done) | (simp; omega)) _) | refine Below.trans ?_ (Below.mono (by with_reducible assumption) (by first | omega | (simp; done) | (simp; omega)))))); obtain ⟨kc_, fc_, lc_⟩ := keep_later (a := ⟨w.heap.size, 0, none⟩) (v := .slice (some ⟨bp, oo, none⟩) 4 c) hb1 (by go_simp) (by go_simp); obtain ⟨kc_, fc_, lc_⟩ := keep_later (a := ⟨w.heap.size, 1, none⟩) (v := .int .i64 b) hb1 (by go_simp) (by go_simp); obtain ⟨kc_, fc_, lc_⟩ := keep_later (a := ⟨w.heap.size, 2, none⟩) (v := .bool s) hb1 (by go_simp) (by go_simp); obtain ⟨kc_, fc_, lc_⟩ := keep_later (a := ⟨w.heap.size+1, 0, none⟩) (v := .int .i64 0) hb1 (by go_simp) (by go_simp); obtain ⟨kc_, fc_, lc_⟩ := keep_later (a := ⟨w.heap.size+1, 1, none⟩) (v := .int .i64 0) hb1 (by go_simp) (by go_simp); obtain ⟨kc_, fc_, lc_⟩ := keep_later (a := ⟨w3.heap.size, 0, none⟩) (v := .int .i64 p) hb1 (by go_simp) (by go_simp); obtain ⟨kc_, fc_, lc_⟩ := keep_later (a := ⟨w3.heap.size, 1, none⟩) (v := .int .i64 q) hb1 (by go_simp) (by go_simp); (have kc1 := keep_cell (a := ⟨bp', o' + k * 2, none⟩) (v := .int .i64 v1) hb1 (by go_simp)); (have kc2 := keep_cell (a := ⟨bp', o' + k * 2 + 1, none⟩) (v := .int .i64 v2) hb1 (by go_simp)); (have lc1 := World.block_lt_of_cell? _ _ kc1; (try dsimp only at lc1)); (first | (refine with_keep hb1 kn0 fn0 ?_; refine with_keep hb1 kn1 fn1 ?_; clear kn0 fn0 kn1 fn1; intro kn1 fn1 ln1 kn0 fn0 ln0) | (refine with_new (wp := wp) (v0 := .int .i64 0) (v1 := .int .i64 0) (t := 82) hb1 ?_; intro kn0 fn0 kn1 fn1 ln0) | (refine with_newd (wp := wr) (v0 := .int .i64 0) (v1 := .int .i64 0) (t := 82) hb1 ?_; intro kn0 fn0 kn1 fn1 ln0; (try simp only [World.size_alloc] at kn0 fn0 kn1 fn1 ln0)) | skip); clear hb1))
      all_goals
        cases t
        · have ho := HN.out rfl
          subst ho
          go_wp2
          refine bodyPost_ret (v := .tuple #[.agg #[.int .i64 0, .int .i64 0], .bool false]) (by simp only [results, Try.results85]; go_simp) rfl ⟨0, 0, rfl, fun _ e => (by cases e), ?_⟩
          (repeat (first | with_reducible exact Below.refl _ _ | with_reducible assumption | (with_reducible refine below_drewN ?_ _) | (with_reducible refine Below.drew ?_) | (with_reducible refine Below.setCell ?_ (by first | omega | (simp; done) | (simp; omega)) _) | (with_reducible refine Below.alloc ?_ (by first | omega | (simp; done) | (simp; omega)) _) | refine Below.trans ?_ (Below.mono (by with_reducible assumption) (by first | omega | (simp; done) | (simp; omega)))))
        · go_wp2
          go_roundw
          case rel => exact ⟨k + 1, X, Y, by omega, by go_num, Lib.hid (HY.out rfl), ⟨by go_simp, by go_simp, by go_simp, by go_simp, (by first | omega | (simp; done) | (simp; omega))⟩, by (repeat (first | with_reducible exact Below.refl _ _ | with_reducible assumption | (with_reducible refine below_drewN ?_ _) | (with_reducible refine Below.drew ?_) | (with_reducible refine Below.setCell ?_ (by first | omega | (simp; done) | (simp; omega)) _) | (with_reducible refine Below.alloc ?_ (by first | omega | (simp; done) | (simp; omega)) _) | refine Below.trans ?_ (Below.mono (by with_reducible assumption) (by first | omega | (simp; done) | (simp; omega)))))⟩
          case measure => simp [intOf]; omega
    · obtain rfl : k = 4 := by omega
      have hcu : wr.cell? ⟨bp, oo + u, none⟩ = some (.int .i64 (xs.getD u 0)) := (hBw.cell (p := ⟨bp, oo + u, none⟩) hp).trans (HC.out u hu)
      have hpr : bp < wr.heap.size := by have := hBw.size; omega
      obtain ⟨P, Q, t, hof⟩ : ∃ P Q t, ofR 1 (xs.getD u 0) = (P, Q, t) := ⟨_, _, _, rfl⟩
      obtain ⟨X, Y, t2, hmu⟩ : ∃ X Y t2, mulR p q P Q = (X, Y, t2) := ⟨_, _, _, rfl⟩
      obtain ⟨hbn, hby⟩ := bound_go HS.out hof hmu
      have HF := Lib.hid hof
      have HM := Lib.hid hmu
      have HN : Hid (t = false → o = none) := Lib.hid (fun ht => HO.out.symm.trans (hbn ht))
      have HY : Hid (t = true → o = toO (X, Y, t2)) := Lib.hid (fun ht => HO.out.symm.trans (hby ht))
      clear hof hmu hbn hby
      generalize xs.getD u 0 = x at *
      go_wp2_with fail
      refine (iRatOf_any 1 x P Q t HF _).mono ?_
      rintro e w4 ⟨rfl, hb1⟩
      have hz1 := hb1.size; (try simp at hz1); have hB1 : Below w.heap.size w w4 := (by refine Below.trans ?_ (Below.mono hb1 (by first | omega | (simp; done) | (simp; omega))); (repeat (first | with_reducible exact Below.refl _ _ | with_reducible assumption | (with_reducible refine below_drewN ?_ _) | (with_reducible refine Below.drew ?_) | (with_reducible refine Below.setCell ?_ (by first | omega | (simp; done) | (simp; omega)) _) | (with_reducible refine Below.alloc ?_ (by first | omega | (simp; done) | (simp; omega)) _) | refine Below.trans ?_ (Below.mono (by with_reducible assumption) (by first | omega | (simp; done) | (simp; omega)))))); obtain ⟨kc_, fc_, lc_⟩ := keep_later (a := ⟨w3.heap.size, 0, none⟩) (v := .int .i64 p) hb1 (by go_simp) (by go_simp); obtain ⟨kc_, fc_, lc_⟩ := keep_later (a := ⟨w3.heap.size, 1, none⟩) (v := .int .i64 q) hb1 (by go_simp) (by go_simp); obtain ⟨kc_, fc_, lc_⟩ := keep_later (a := ⟨w.heap.size+1, 0, none⟩) (v := .int .i64 0) hb1 (by go_simp) (by go_simp); obtain ⟨kc_, fc_, lc_⟩ := keep_later (a := ⟨w.heap.size+1, 1, none⟩) (v := .int .i64 0) hb1 (by go_simp) (by go_simp); clear hb1
      cases t
      · have ho := HN.out rfl
        subst ho
        go_wp2
        refine bodyPost_ret (v := .tuple #[.agg #[.int .i64 0, .int .i64 0], .bool false]) (by simp only [results, Try.results85]; go_simp) rfl ⟨0, 0, rfl, fun _ e => (by cases e), ?_⟩
        (repeat (first | with_reducible exact Below.refl _ _ | with_reducible assumption | (with_reducible refine below_drewN ?_ _) | (with_reducible refine Below.drew ?_) | (with_reducible refine Below.setCell ?_ (by first | omega | (simp; done) | (simp; omega)) _) | (with_reducible refine Below.alloc ?_ (by first | omega | (simp; done) | (simp; omega)) _) | refine Below.trans ?_ (Below.mono (by with_reducible assumption) (by first | omega | (simp; done) | (simp; omega)))))
      · have ho := HY.out rfl
        subst ho
        go_wp2_with fail
        refine (iRatMul_any p q P Q X Y t2 HM _).mono ?_
        rintro e w5 ⟨rfl, hb1⟩
        have hz1 := hb1.size; (try simp at hz1); have hB1 : Below w.heap.size w w5 := (by refine Below.trans ?_ (Below.mono hb1 (by first | omega | (simp; done) | (simp; omega))); (repeat (first | with_reducible exact Below.refl _ _ | with_reducible assumption | (with_reducible refine below_drewN ?_ _) | (with_reducible refine Below.drew ?_) | (with_reducible refine Below.setCell ?_ (by first | omega | (simp; done) | (simp; omega)) _) | (with_reducible refine Below.alloc ?_ (by first | omega | (simp; done) | (simp; omega)) _) | refine Below.trans ?_ (Below.mono (by with_reducible assumption) (by first | omega | (simp; done) | (simp; omega)))))); obtain ⟨kc_, fc_, lc_⟩ := keep_later (a := ⟨w.heap.size+1, 0, none⟩) (v := .int .i64 0) hb1 (by go_simp) (by go_simp); obtain ⟨kc_, fc_, lc_⟩ := keep_later (a := ⟨w.heap.size+1, 1, none⟩) (v := .int .i64 0) hb1 (by go_simp) (by go_simp); clear hb1
        go_wp2
        refine bodyPost_ret (v := .tuple #[.agg #[.int .i64 X, .int .i64 Y], .bool t2]) (by simp only [results, Try.results85]; go_simp) rfl ⟨X, Y, ?_, (toO_some (X, Y, t2)).2, ?_⟩
        · rw [(toO_some (X, Y, t2)).1]
        · (repeat (first | with_reducible exact Below.refl _ _ | with_reducible assumption | (with_reducible refine below_drewN ?_ _) | (with_reducible refine Below.drew ?_) | (with_reducible refine Below.setCell ?_ (by first | omega | (simp; done) | (simp; omega)) _) | (with_reducible refine Below.alloc ?_ (by first | omega | (simp; done) | (simp; omega)) _) | refine Below.trans ?_ (Below.mono (by with_reducible assumption) (by first | omega | (simp; done) | (simp; omega)))))

set_option maxHeartbeats 8000000 in
theorem l3Rest_any {A A' : Option Addr} {n c c' u : Nat} {xs : List Int} {vs : List (Int × Int)} (b : Int) (s : Bool) {w : World} (h : Ints w A n xs) (h' : Rats w A' 4 vs) (hx : linOk xs b = true) (hu : u < 4) :
    Calls Try.prog 114 #[.agg #[.slice A n c, .int .i64 b, .bool s], .slice A' 4 c', .int .i64 u] w (RatBk (boundR xs b vs u) w) := by
  obtain ⟨hl4, hbb, hok⟩ := linOk_len hx
  have hn : n = 4 := h.len.symm.trans hl4
  subst hn
  clear hl4 hbb
  obtain ⟨o, ho⟩ : ∃ o, boundR xs b vs u = o := ⟨_, rfl⟩
  rw [ho]
  have HO := Lib.hid ho
  clear ho
  obtain ⟨bp, oo, rfl, hp, hc⟩ := h.cells (by omega)
  obtain ⟨bp', o', rfl, hp', hc'⟩ := h'.cells (by omega)
  have HC := Lib.hid hc
  have HC' := Lib.hid hc'
  have HOK := Lib.hid hok
  clear hc hc' hok
  obtain ⟨w1, hw1⟩ : ∃ x : World, x = w := ⟨w, rfl⟩
  clear hw1
  go_enter Try.func114, Try.ntmps114
  go_wp2_with fail
  go_loopw [9] (fun i wr => ∃ (k : Nat) (p q : Int), k ≤ 4 ∧ i = .int .i64 k ∧ Hid (restTo xs b vs u k = some (p, q)) ∧ L3 wr w.heap.size (.slice (some ⟨bp, oo, none⟩) 4 c) (.int .i64 b) (.bool s) ∧ Lv wr (w.heap.size + 1) 0 0 ∧ Lv wr (w.heap.size + 1 + 1) p q ∧ Below w.heap.size w wr) (fun i _ => 4 - (intOf i).toNat)
  case atStart => exact ⟨0, b, 1, by omega, rfl, Lib.hid rfl, ⟨by go_simp, by go_simp, by go_simp, by go_simp, by go_simp, by go_simp⟩, ⟨by go_simp, by go_simp, by go_simp, by go_simp, (by first | omega | (simp; done) | (simp; omega))⟩, ⟨by go_simp, by go_simp, by go_simp, by go_simp, (by first | omega | (simp; done) | (simp; omega))⟩, by (repeat (first | with_reducible exact Below.refl _ _ | with_reducible assumption | (with_reducible refine below_drewN ?_ _) | (with_reducible refine Below.drew ?_) | (with_reducible refine Below.setCell ?_ (by first | omega | (simp; done) | (simp; omega)) _) | (with_reducible refine Below.alloc ?_ (by first | omega | (simp; done) | (simp; omega)) _) | refine Below.trans ?_ (Below.mono (by with_reducible assumption) (by first | omega | (simp; done) | (simp; omega)))))⟩
  case round =>
    obtain ⟨k, p, q, hk, rfl, HS, ⟨l0, l1, l2, l3, l4, l5⟩, ⟨r1, r2, r3, r4, r5⟩, ⟨k1, k2, k3, k4, k5⟩, hBw⟩ := hrel
    have hzr := hBw.size
    have hl0 := World.block_lt_of_cell? _ _ l0
    dsimp only at hl0
    by_cases hlt : k < 4
    · have hck : wr.cell? ⟨bp, oo + k, none⟩ = some (.int .i64 (xs.getD k 0)) := (hBw.cell (p := ⟨bp, oo + k, none⟩) hp).trans (HC.out k hlt)
      have hpr : bp < wr.heap.size := by omega
      have hpr' : bp' < wr.heap.size := by omega
      obtain ⟨x1, x2⟩ := coefOk_iff.1 (HOK.out k hlt)
      by_cases hku : k = u
      · subst hku
        have HX := Lib.hid (rest_skip HS.out rfl)
        generalize xs.getD k 0 = x at *
        go_wp2
        go_roundw
        case rel => exact ⟨k + 1, p, q, by omega, by go_num, HX, ⟨by go_simp, by go_simp, by go_simp, by go_simp, by go_simp, by go_simp⟩, ⟨by go_simp, by go_simp, by go_simp, by go_simp, (by first | omega | (simp; done) | (simp; omega))⟩, ⟨by go_simp, by go_simp, by go_simp, by go_simp, (by first | omega | (simp; done) | (simp; omega))⟩, by (repeat (first | with_reducible exact Below.refl _ _ | with_reducible assumption | (with_reducible refine below_drewN ?_ _) | (with_reducible refine Below.drew ?_) | (with_reducible refine Below.setCell ?_ (by first | omega | (simp; done) | (simp; omega)) _) | (with_reducible refine Below.alloc ?_ (by first | omega | (simp; done) | (simp; omega)) _) | refine Below.trans ?_ (Below.mono (by with_reducible assumption) (by first | omega | (simp; done) | (simp; omega)))))⟩
        case measure => simp [intOf]; omega
      have hku2 : ((k : Int) == (u : Int)) = false := by simp; omega
      have hc1 : wr.cell? ⟨bp', o' + k * 2, none⟩ = some (.int .i64 (vs.getD k (0, 0)).1) := (hBw.cell (p := ⟨bp', o' + k * 2, none⟩) hp').trans (HC'.out k hlt).1
      have hc2 : wr.cell? ⟨bp', o' + k * 2 + 1, none⟩ = some (.int .i64 (vs.getD k (0, 0)).2) := (hBw.cell (p := ⟨bp', o' + k * 2 + 1, none⟩) hp').trans (HC'.out k hlt).2
      obtain ⟨X, Y, t, hm⟩ : ∃ X Y t, mulR (-(xs.getD k 0)) 1 (vs.getD k (0, 0)).1 (vs.getD k (0, 0)).2 = (X, Y, t) := ⟨_, _, _, rfl⟩
      obtain ⟨P, Q, u2, ha⟩ : ∃ P Q u2, addR p q X Y = (P, Q, u2) := ⟨_, _, _, rfl⟩
      have hpm := plusR_mul hm ha
      have H1 : Hid (t = false → o = none) := Lib.hid (fun ht => HO.out.symm.trans (bound_rest (restTo_none (k := k + 1) ((rest_step HS.out hku).trans (hpm.1 ht)) (by omega))))
      have H2 : Hid (t = true → u2 = false → o = none) := Lib.hid (fun ht hu2 => HO.out.symm.trans (bound_rest (restTo_none (k := k + 1) ((rest_step HS.out hku).trans ((hpm.2 ht).trans (by subst hu2; rfl))) (by omega))))
      have H3 : Hid (t = true → u2 = true → restTo xs b vs u (k + 1) = some (P, Q)) := Lib.hid (fun ht hu2 => (rest_step HS.out hku).trans ((hpm.2 ht).trans (by subst hu2; rfl)))
      have HM := Lib.hid hm
      have HA := Lib.hid ha
      clear hm ha hpm HS
      generalize xs.getD k 0 = x at *
      generalize (vs.getD k (0, 0)).1 = v1 at *
      generalize (vs.getD k (0, 0)).2 = v2 at *
      have hwn : IntKind.i64.wrap (-x) = -x := IntWalk.i64_in _ (by omega)
      go_wp2_with fail
      obtain ⟨wz, hwz⟩ : ∃ y : World, y = w := ⟨w, rfl⟩
      clear hwz
      go_region_held3 (fun w' => w'.cell? ⟨w.heap.size, 0, none⟩ = some (.slice (some ⟨bp, oo, none⟩) 4 c) ∧ w'.cell? ⟨bp, oo + k, none⟩ = some (.int .i64 x) ∧ w'.cell? ⟨bp', o' + k * 2, none⟩ = some (.int .i64 v1) ∧ w'.cell? ⟨bp', o' + k * 2 + 1, none⟩ = some (.int .i64 v2)) (simp [go_sem, World.cell?_alloc_past, *])
        (first
          | (go_at_call 120; rename World => wp; refine (sRatMul_any (-x) 1 v1 v2 X Y t HM _).mono ?_; rintro e w1 ⟨rfl, hb1⟩; have hz1 := hb1.size; (try simp at hz1); have hB1 : Below w.heap.size w w1 := (by refine Below.trans ?_ (Below.mono hb1 (by first | omega | (simp; done) | (simp; omega))); (repeat (first | with_reducible exact Below.refl _ _ | with_reducible assumption | (with_reducible refine below_drewN ?_ _) | (with_reducible refine Below.drew ?_) | (with_reducible refine Below.setCell ?_ (by first | omega | (simp; done) | (simp; omega)) _) | (with_reducible refine Below.alloc ?_ (by first | omega | (simp; done) | (simp; omega)) _) | refine Below.trans ?_ (Below.mono (by with_reducible assumption) (by first | omega | (simp; done) | (simp; omega)))))); obtain ⟨kc_, fc_, lc_⟩ := keep_later (a := ⟨w.heap.size, 0, none⟩) (v := .slice (some ⟨bp, oo, none⟩) 4 c) hb1 (by go_simp) (by go_simp); obtain ⟨kc_, fc_, lc_⟩ := keep_later (a := ⟨w.heap.size, 1, none⟩) (v := .int .i64 b) hb1 (by go_simp) (by go_simp); obtain ⟨kc_, fc_, lc_⟩ := keep_later (a := ⟨w.heap.size, 2, none⟩) (v := .bool s) hb1 (by go_simp) (by go_simp); obtain ⟨kc_, fc_, lc_⟩ := keep_later (a := ⟨w.heap.size+1, 0, none⟩) (v := .int .i64 0) hb1 (by go_simp) (by go_simp); obtain ⟨kc_, fc_, lc_⟩ := keep_later (a := ⟨w.heap.size+1, 1, none⟩) (v := .int .i64 0) hb1 (by go_simp) (by go_simp); obtain ⟨kc_, fc_, lc_⟩ := keep_later (a := ⟨w.heap.size+1+1, 0, none⟩) (v := .int .i64 p) hb1 (by go_simp) (by go_simp); obtain ⟨kc_, fc_, lc_⟩ := keep_later (a := ⟨w.heap.size+1+1, 1, none⟩) (v := .int .i64 q) hb1 (by go_simp) (by go_simp); (have kc0 := keep_cell (a := ⟨bp, oo + k, none⟩) (v := .int .i64 x) hb1 (by go_simp)); (have kc1 := keep_cell (a := ⟨bp', o' + k * 2, none⟩) (v := .int .i64 v1) hb1 (by go_simp)); (have kc2 := keep_cell (a := ⟨bp', o' + k * 2 + 1, none⟩) (v := .int .i64 v2) hb1 (by go_simp)); (have lc0 := World.block_lt_of_cell? _ _ kc0; (try dsimp only at lc0)); (have lc1 := World.block_lt_of_cell? _ _ kc1; (try dsimp only at lc1)); (first | (refine with_keep hb1 kn0 fn0 ?_; refine with_keep hb1 kn1 fn1 ?_; clear kn0 fn0 kn1 fn1; intro kn1 fn1 ln1 kn0 fn0 ln0) | (refine with_new (wp := wp) (v0 := .int .i64 0) (v1 := .int .i64 0) (t := 82) hb1 ?_; intro kn0 fn0 kn1 fn1 ln0) | (refine with_newd (wp := wr) (v0 := .int .i64 0) (v1 := .int .i64 0) (t := 82) hb1 ?_; intro kn0 fn0 kn1 fn1 ln0; (try simp only [World.size_alloc] at kn0 fn0 kn1 fn1 ln0)) | skip); clear hb1))
      all_goals
        cases t
        · have ho := H1.out (by trivial)
          subst ho
          go_wp2
          refine bodyPost_ret (v := .tuple #[.agg #[.int .i64 p, .int .i64 q], .bool false]) (by simp only [results, Try.results114]; go_simp) rfl ⟨p, q, rfl, fun _ e => (by cases e), ?_⟩
          (repeat (first | with_reducible exact Below.refl _ _ | with_reducible assumption | (with_reducible refine below_drewN ?_ _) | (with_reducible refine Below.drew ?_) | (with_reducible refine Below.setCell ?_ (by first | omega | (simp; done) | (simp; omega)) _) | (with_reducible refine Below.alloc ?_ (by first | omega | (simp; done) | (simp; omega)) _) | refine Below.trans ?_ (Below.mono (by with_reducible assumption) (by first | omega | (simp; done) | (simp; omega)))))
        · go_wp2_with fail
          refine (sRatAdd_any p q X Y P Q u2 HA _).mono ?_
          rintro e w4 ⟨rfl, hb1⟩
          have hz1 := hb1.size; (try simp at hz1); have hB1 : Below w.heap.size w w4 := (by refine Below.trans ?_ (Below.mono hb1 (by first | omega | (simp; done) | (simp; omega))); (repeat (first | with_reducible exact Below.refl _ _ | with_reducible assumption | (with_reducible refine below_drewN ?_ _) | (with_reducible refine Below.drew ?_) | (with_reducible refine Below.setCell ?_ (by first | omega | (simp; done) | (simp; omega)) _) | (with_reducible refine Below.alloc ?_ (by first | omega | (simp; done) | (simp; omega)) _) | refine Below.trans ?_ (Below.mono (by with_reducible assumption) (by first | omega | (simp; done) | (simp; omega)))))); obtain ⟨kc_, fc_, lc_⟩ := keep_later (a := ⟨w.heap.size, 0, none⟩) (v := .slice (some ⟨bp, oo, none⟩) 4 c) hb1 (by go_simp) (by go_simp); obtain ⟨kc_, fc_, lc_⟩ := keep_later (a := ⟨w.heap.size, 1, none⟩) (v := .int .i64 b) hb1 (by go_simp) (by go_simp); obtain ⟨kc_, fc_, lc_⟩ := keep_later (a := ⟨w.heap.size, 2, none⟩) (v := .bool s) hb1 (by go_simp) (by go_simp); obtain ⟨kc_, fc_, lc_⟩ := keep_later (a := ⟨w.heap.size+1, 0, none⟩) (v := .int .i64 0) hb1 (by go_simp) (by go_simp); obtain ⟨kc_, fc_, lc_⟩ := keep_later (a := ⟨w.heap.size+1, 1, none⟩) (v := .int .i64 0) hb1 (by go_simp) (by go_simp); obtain ⟨kc_, fc_, lc_⟩ := keep_later (a := ⟨w.heap.size+1+1, 0, none⟩) (v := .int .i64 p) hb1 (by go_simp) (by go_simp); obtain ⟨kc_, fc_, lc_⟩ := keep_later (a := ⟨w.heap.size+1+1, 1, none⟩) (v := .int .i64 q) hb1 (by go_simp) (by go_simp); clear hb1
          cases u2
          · have ho := H2.out (by trivial) (by trivial)
            subst ho
            go_wp2
            refine bodyPost_ret (v := .tuple #[.agg #[.int .i64 P, .int .i64 Q], .bool false]) (by simp only [results, Try.results114]; go_simp) rfl ⟨P, Q, rfl, fun _ e => (by cases e), ?_⟩
            (repeat (first | with_reducible exact Below.refl _ _ | with_reducible assumption | (with_reducible refine below_drewN ?_ _) | (with_reducible refine Below.drew ?_) | (with_reducible refine Below.setCell ?_ (by first | omega | (simp; done) | (simp; omega)) _) | (with_reducible refine Below.alloc ?_ (by first | omega | (simp; done) | (simp; omega)) _) | refine Below.trans ?_ (Below.mono (by with_reducible assumption) (by first | omega | (simp; done) | (simp; omega)))))
          · go_wp2
            go_roundw
            case rel => exact ⟨k + 1, P, Q, by omega, by go_num, Lib.hid (H3.out (by trivial) (by trivial)), ⟨by go_simp, by go_simp, by go_simp, by go_simp, by go_simp, by go_simp⟩, ⟨by go_simp, by go_simp, by go_simp, by go_simp, (by first | omega | (simp; done) | (simp; omega))⟩, ⟨by go_simp, by go_simp, by go_simp, by go_simp, (by first | omega | (simp; done) | (simp; omega))⟩, by (repeat (first | with_reducible exact Below.refl _ _ | with_reducible assumption | (with_reducible refine below_drewN ?_ _) | (with_reducible refine Below.drew ?_) | (with_reducible refine Below.setCell ?_ (by first | omega | (simp; done) | (simp; omega)) _) | (with_reducible refine Below.alloc ?_ (by first | omega | (simp; done) | (simp; omega)) _) | refine Below.trans ?_ (Below.mono (by with_reducible assumption) (by first | omega | (simp; done) | (simp; omega)))))⟩
            case measure => simp [intOf]; omega
    · obtain rfl : k = 4 := by omega
      have hcu : wr.cell? ⟨bp, oo + u, none⟩ = some (.int .i64 (xs.getD u 0)) := (hBw.cell (p := ⟨bp, oo + u, none⟩) hp).trans (HC.out u hu)
      have hpr : bp < wr.heap.size := by omega
      obtain ⟨P, Q, t, hof⟩ : ∃ P Q t, ofR 1 (xs.getD u 0) = (P, Q, t) := ⟨_, _, _, rfl⟩
      obtain ⟨X, Y, t2, hmu⟩ : ∃ X Y t2, mulR p q P Q = (X, Y, t2) := ⟨_, _, _, rfl⟩
      obtain ⟨hbn, hby⟩ := bound_go HS.out hof hmu
      have HF := Lib.hid hof
      have HM := Lib.hid hmu
      have HN : Hid (t = false → o = none) := Lib.hid (fun ht => HO.out.symm.trans (hbn ht))
      have HY : Hid (t = true → o = toO (X, Y, t2)) := Lib.hid (fun ht => HO.out.symm.trans (hby ht))
      clear hof hmu hbn hby
      generalize xs.getD u 0 = x at *
      go_wp2_with fail
      refine (sRatOf_any 1 x P Q t HF _).mono ?_
      rintro e w4 ⟨rfl, hb1⟩
      have hz1 := hb1.size; (try simp at hz1); have hB1 : Below w.heap.size w w4 := (by refine Below.trans ?_ (Below.mono hb1 (by first | omega | (simp; done) | (simp; omega))); (repeat (first | with_reducible exact Below.refl _ _ | with_reducible assumption | (with_reducible refine below_drewN ?_ _) | (with_reducible refine Below.drew ?_) | (with_reducible refine Below.setCell ?_ (by first | omega | (simp; done) | (simp; omega)) _) | (with_reducible refine Below.alloc ?_ (by first | omega | (simp; done) | (simp; omega)) _) | refine Below.trans ?_ (Below.mono (by with_reducible assumption) (by first | omega | (simp; done) | (simp; omega)))))); obtain ⟨kc_, fc_, lc_⟩ := keep_later (a := ⟨w.heap.size+1+1, 0, none⟩) (v := .int .i64 p) hb1 (by go_simp) (by go_simp); obtain ⟨kc_, fc_, lc_⟩ := keep_later (a := ⟨w.heap.size+1+1, 1, none⟩) (v := .int .i64 q) hb1 (by go_simp) (by go_simp); obtain ⟨kc_, fc_, lc_⟩ := keep_later (a := ⟨w.heap.size+1, 0, none⟩) (v := .int .i64 0) hb1 (by go_simp) (by go_simp); obtain ⟨kc_, fc_, lc_⟩ := keep_later (a := ⟨w.heap.size+1, 1, none⟩) (v := .int .i64 0) hb1 (by go_simp) (by go_simp); clear hb1
      cases t
      · have ho := HN.out rfl
        subst ho
        go_wp2
        refine bodyPost_ret (v := .tuple #[.agg #[.int .i64 p, .int .i64 q], .bool false]) (by simp only [results, Try.results114]; go_simp) rfl ⟨p, q, rfl, fun _ e => (by cases e), ?_⟩
        (repeat (first | with_reducible exact Below.refl _ _ | with_reducible assumption | (with_reducible refine below_drewN ?_ _) | (with_reducible refine Below.drew ?_) | (with_reducible refine Below.setCell ?_ (by first | omega | (simp; done) | (simp; omega)) _) | (with_reducible refine Below.alloc ?_ (by first | omega | (simp; done) | (simp; omega)) _) | refine Below.trans ?_ (Below.mono (by with_reducible assumption) (by first | omega | (simp; done) | (simp; omega)))))
      · have ho := HY.out rfl
        subst ho
        go_wp2_with fail
        refine (sRatMul_any p q P Q X Y t2 HM _).mono ?_
        rintro e w5 ⟨rfl, hb1⟩
        have hz1 := hb1.size; (try simp at hz1); have hB1 : Below w.heap.size w w5 := (by refine Below.trans ?_ (Below.mono hb1 (by first | omega | (simp; done) | (simp; omega))); (repeat (first | with_reducible exact Below.refl _ _ | with_reducible assumption | (with_reducible refine below_drewN ?_ _) | (with_reducible refine Below.drew ?_) | (with_reducible refine Below.setCell ?_ (by first | omega | (simp; done) | (simp; omega)) _) | (with_reducible refine Below.alloc ?_ (by first | omega | (simp; done) | (simp; omega)) _) | refine Below.trans ?_ (Below.mono (by with_reducible assumption) (by first | omega | (simp; done) | (simp; omega)))))); obtain ⟨kc_, fc_, lc_⟩ := keep_later (a := ⟨w.heap.size+1, 0, none⟩) (v := .int .i64 0) hb1 (by go_simp) (by go_simp); obtain ⟨kc_, fc_, lc_⟩ := keep_later (a := ⟨w.heap.size+1, 1, none⟩) (v := .int .i64 0) hb1 (by go_simp) (by go_simp); clear hb1
        go_wp2
        refine bodyPost_ret (v := .tuple #[.agg #[.int .i64 X, .int .i64 Y], .bool t2]) (by simp only [results, Try.results114]; go_simp) rfl ⟨X, Y, ?_, (toO_some (X, Y, t2)).2, ?_⟩
        · rw [(toO_some (X, Y, t2)).1]
        · (repeat (first | with_reducible exact Below.refl _ _ | with_reducible assumption | (with_reducible refine below_drewN ?_ _) | (with_reducible refine Below.drew ?_) | (with_reducible refine Below.setCell ?_ (by first | omega | (simp; done) | (simp; omega)) _) | (with_reducible refine Below.alloc ?_ (by first | omega | (simp; done) | (simp; omega)) _) | refine Below.trans ?_ (Below.mono (by with_reducible assumption) (by first | omega | (simp; done) | (simp; omega)))))
end Go.Proofs.Ytccjbipmlpnhkaa

/- Terms: whether they are right, walked. -/
import Derived.Test.YtgmeoblapnmpiaaTp
namespace Go.Proofs.Ytgmeoblapnmpiaa
set_option maxRecDepth 100000
open Go.RowKit Go.ChangeShapes Go.WideShapes Go.ChangeAt
set_option linter.unusedSimpArgs false
set_option linter.unusedVariables false

theorem term_eta (t : TermV) : t = .mk t.name t.kids := by cases t; rfl
theorem psum_next (f : TermV → Nat) (ks : List TermV) (k : Nat) : psum f ks (k + 1) = psum f ks k + f (.mk (ks.getD k tm0).name (ks.getD k tm0).kids) := by
  rw [← term_eta]; rfl
theorem tsz_bad {f : Nat} {s : ByteArray} {ks : List TermV} (h : nameOk s = false) : tsz f (.mk s ks) = 13 := by
  cases f with
  | zero => rfl
  | succ f => unfold tsz; rw [if_neg]; simp [TermV.name, h]
theorem tsz_many {f : Nat} {s : ByteArray} {ks : List TermV} (h : ¬ ks.length ≤ 2) : tsz f (.mk s ks) = 13 := by
  cases f with
  | zero => rfl
  | succ f => unfold tsz; rw [if_neg]; rw [Bool.and_eq_true, decide_eq_true_eq]; exact fun hh => h hh.2
theorem tsz_go {f : Nat} {s : ByteArray} {ks : List TermV} (h : nameOk s = true) (h2 : ks.length ≤ 2) : tsz (f + 1) (.mk s ks) = 1 + psum (tsz f) ks ks.length := by
  unfold tsz; rw [if_pos]; · rfl
  rw [Bool.and_eq_true, decide_eq_true_eq]; exact ⟨h, h2⟩
theorem tsz_351 {f : Nat} (hf : f ≤ 3) (t : TermV) : tsz f t ≤ 351 := by
  have h1 := tsz_le f t
  have h2 : 3 ^ f ≤ 3 ^ 3 := Nat.pow_le_pow_right (by omega) hf
  omega

def TszCall (f : Nat) : Prop := ∀ {d : Nat} {A : Option Addr} {n c lo : Nat} {ks : List TermV} (s : ByteArray) (x : Int) {w : World}, Kids w lo d A n ks → s.size ≤ 9223372036854775807 → f ≤ 4 → x = 5 - (f : Int) →
    Calls Try.prog 79 #[.agg #[.string s, .slice A n c], .int .i64 x] w fun e w' => e = .returned (.int .i64 (tsz f (.mk s ks) : Nat)) ∧ Below w.heap.size w w'
set_option maxHeartbeats 4000000 in
theorem termSize_of {f : Nat} (IH : ∀ f', f = f' + 1 → TszCall f') : TszCall f := by
  intro d A n c lo ks s x w h hs hf hx
  have hfew := h.few
  have hlen := h.len
  have hx1 : 1 ≤ x := by omega
  have hx5 : x ≤ 5 := by omega
  cases hk : nameOk s
  · clear hx
    rw [tsz_bad hk]
    go_enter Try.func79, Try.ntmps79
    go_wp2_with fail
    refine (iNameOk_any s hs _).mono ?_
    rw [hk]
    rintro e w1 ⟨rfl, rfl⟩
    go_wp2
    go_ret
    exact ⟨rfl, by (repeat (first | with_reducible exact Below.refl _ _ | with_reducible assumption | (with_reducible refine below_drewN ?_ _) | (with_reducible refine Below.drew ?_) | (with_reducible refine Below.setCell ?_ (by first | omega | (simp; done) | (simp; omega)) _) | (with_reducible refine Below.alloc ?_ (by first | omega | (simp; done) | (simp; omega)) _) | refine Below.trans ?_ (Below.mono (by with_reducible assumption) (by first | omega | (simp; done) | (simp; omega)))))⟩
  by_cases hn : n ≤ 2
  · have hn2 : ¬ 2 < (n : Int) := by omega
    cases f with
    | zero =>
      have hx4 : 4 < x := by omega
      clear hx
      go_enter Try.func79, Try.ntmps79
      go_wp2_with fail
      refine (iNameOk_any s hs _).mono ?_
      rw [hk]
      rintro e w1 ⟨rfl, rfl⟩
      go_wp2
      go_ret
      exact ⟨rfl, by (repeat (first | with_reducible exact Below.refl _ _ | with_reducible assumption | (with_reducible refine below_drewN ?_ _) | (with_reducible refine Below.drew ?_) | (with_reducible refine Below.setCell ?_ (by first | omega | (simp; done) | (simp; omega)) _) | (with_reducible refine Below.alloc ?_ (by first | omega | (simp; done) | (simp; omega)) _) | refine Below.trans ?_ (Below.mono (by with_reducible assumption) (by first | omega | (simp; done) | (simp; omega)))))⟩
    | succ f' =>
      have hx4 : ¬ 4 < x := by omega
      have hx' : x + 1 = 5 - (f' : Int) := by omega
      have hv := tsz_go (f := f') hk (by rw [hlen]; exact hn)
      rw [hlen] at hv
      have HV := Lib.hid hv
      have HB : Hid (∀ k, k ≤ n → psum (tsz f') ks k ≤ 702) := Lib.hid (fun k hkn => by
        have h1 := psum_le (f := tsz f') (ks := ks) (m := 351) (k := k) (fun j _ => tsz_351 (by omega) _)
        have h2 := Nat.mul_le_mul_right 351 (show k ≤ 2 by omega)
        omega)
      have HI : Hid (TszCall f') := Lib.hid (IH f' rfl)
      have HX := Lib.hid hx'
      clear hv hx' hx
      go_enter Try.func79, Try.ntmps79
      go_wp2_with fail
      refine (iNameOk_any s hs _).mono ?_
      rw [hk]
      rintro e w1 ⟨rfl, rfl⟩
      go_wp2_with fail
      go_loopw [5, 25] (fun acc i wr => ∃ (k : Nat) (l : Int), k ≤ n ∧ i = .int .i64 k ∧ acc = .int .i64 l ∧ Hid (l = 1 + (psum (tsz f') ks k : Nat)) ∧ (0 ≤ l ∧ l ≤ 703) ∧ Below w.heap.size w wr) (fun _ i _ => n - (intOf i).toNat)
      case atStart => exact ⟨0, 1, by omega, rfl, rfl, Lib.hid rfl, by omega, by (repeat (first | with_reducible exact Below.refl _ _ | with_reducible assumption | (with_reducible refine below_drewN ?_ _) | (with_reducible refine Below.drew ?_) | (with_reducible refine Below.setCell ?_ (by first | omega | (simp; done) | (simp; omega)) _) | (with_reducible refine Below.alloc ?_ (by first | omega | (simp; done) | (simp; omega)) _) | refine Below.trans ?_ (Below.mono (by with_reducible assumption) (by first | omega | (simp; done) | (simp; omega)))))⟩
      case round =>
        obtain ⟨k, l, hkn, rfl, rfl, HL, ⟨hl0, hl1⟩, hB⟩ := hrel
        have hzr := hB.size
        by_cases hlt : k < n
        · obtain ⟨d', p, o, rfl, rfl, hpl, hp, hcs⟩ := (h.later hB).cells (by omega)
          obtain ⟨B, m, cb, hc1, hc2, hIk, hsf⟩ := hcs k hlt
          clear hcs
          have HS := Lib.hid (psum_next (tsz f') ks k)
          have HT : Hid (tsz f' (.mk (ks.getD k tm0).name (ks.getD k tm0).kids) ≤ 351) := Lib.hid (tsz_351 (by omega) _)
          have HN : Hid (psum (tsz f') ks (k + 1) ≤ 702) := Lib.hid (HB.out (k + 1) (by omega))
          generalize (ks.getD k tm0).name = s' at *
          generalize (ks.getD k tm0).kids = qs at *
          obtain ⟨tv, htv⟩ : ∃ tv, tsz f' (.mk s' qs) = tv := ⟨_, rfl⟩
          have HTV := Lib.hid htv
          have htv1 : tv ≤ 351 := by rw [← htv]; exact HT.out
          clear htv
          go_wp2_with fail
          refine (HI.out s' (x + 1) (hIk.later (by (repeat (first | with_reducible exact Below.refl _ _ | with_reducible assumption | (with_reducible refine below_drewN ?_ _) | (with_reducible refine Below.drew ?_) | (with_reducible refine Below.setCell ?_ (by first | omega | (simp; done) | (simp; omega)) _) | (with_reducible refine Below.alloc ?_ (by first | omega | (simp; done) | (simp; omega)) _) | refine Below.trans ?_ (Below.mono (by with_reducible assumption) (by first | omega | (simp; done) | (simp; omega))))))) hsf (by omega) HX.out).mono ?_
          rw [HTV.out]
          rintro e w2 ⟨rfl, hb1⟩
          have hz1 := hb1.size; (try simp at hz1); have hB1 : Below w.heap.size w w2 := (by refine Below.trans ?_ (Below.mono hb1 (by first | omega | (simp; done) | (simp; omega))); (repeat (first | with_reducible exact Below.refl _ _ | with_reducible assumption | (with_reducible refine below_drewN ?_ _) | (with_reducible refine Below.drew ?_) | (with_reducible refine Below.setCell ?_ (by first | omega | (simp; done) | (simp; omega)) _) | (with_reducible refine Below.alloc ?_ (by first | omega | (simp; done) | (simp; omega)) _) | refine Below.trans ?_ (Below.mono (by with_reducible assumption) (by first | omega | (simp; done) | (simp; omega))))))
          clear hb1
          go_wp2
          go_roundw
          case rel => exact ⟨k + 1, l + tv, by omega, by go_num, by go_num, Lib.hid (by rw [HS.out, HL.out, HTV.out]; omega), by have := HL.out; have := HS.out; have := HTV.out; have := HN.out; omega, by (repeat (first | with_reducible exact Below.refl _ _ | with_reducible assumption | (with_reducible refine below_drewN ?_ _) | (with_reducible refine Below.drew ?_) | (with_reducible refine Below.setCell ?_ (by first | omega | (simp; done) | (simp; omega)) _) | (with_reducible refine Below.alloc ?_ (by first | omega | (simp; done) | (simp; omega)) _) | refine Below.trans ?_ (Below.mono (by with_reducible assumption) (by first | omega | (simp; done) | (simp; omega)))))⟩
          case measure => simp [intOf]; omega
        · obtain rfl : k = n := by omega
          go_wp2
          go_ret
          exact ⟨by rw [HV.out, HL.out]; rfl, hB⟩
  · have hn2 : 2 < (n : Int) := by omega
    clear hx
    rw [tsz_many (by rw [hlen]; exact hn)]
    go_enter Try.func79, Try.ntmps79
    go_wp2_with fail
    refine (iNameOk_any s hs _).mono ?_
    rw [hk]
    rintro e w1 ⟨rfl, rfl⟩
    go_wp2
    go_ret
    exact ⟨rfl, by (repeat (first | with_reducible exact Below.refl _ _ | with_reducible assumption | (with_reducible refine below_drewN ?_ _) | (with_reducible refine Below.drew ?_) | (with_reducible refine Below.setCell ?_ (by first | omega | (simp; done) | (simp; omega)) _) | (with_reducible refine Below.alloc ?_ (by first | omega | (simp; done) | (simp; omega)) _) | refine Below.trans ?_ (Below.mono (by with_reducible assumption) (by first | omega | (simp; done) | (simp; omega)))))⟩
theorem termSize_any : ∀ f, TszCall f
  | 0 => termSize_of (fun f' e => by omega)
  | f + 1 => termSize_of (fun f' e => by obtain rfl : f = f' := by omega
                                         exact termSize_any f)
theorem isTerm_any {d : Nat} {A : Option Addr} {n c lo : Nat} {ks : List TermV} (s : ByteArray) {w : World} (h : Kids w lo d A n ks) (hs : s.size ≤ 9223372036854775807) :
    Calls Try.prog 61 #[.agg #[.string s, .slice A n c]] w fun e w' => e = .returned (.bool (termOk (.mk s ks))) ∧ Below w.heap.size w w' := by
  obtain ⟨tv, htv⟩ : ∃ tv, tsz 4 (.mk s ks) = tv := ⟨_, rfl⟩
  have hv : termOk (.mk s ks) = decide ((tv : Int) ≤ 12) := by
    unfold termOk; rw [htv]; apply decide_eq_decide.2; omega
  rw [hv]
  have HT := Lib.hid htv
  clear htv hv
  go_enter Try.func61, Try.ntmps61
  go_wp2_with fail
  refine (termSize_any 4 s 1 (h.later (by (repeat (first | with_reducible exact Below.refl _ _ | with_reducible assumption | (with_reducible refine below_drewN ?_ _) | (with_reducible refine Below.drew ?_) | (with_reducible refine Below.setCell ?_ (by first | omega | (simp; done) | (simp; omega)) _) | (with_reducible refine Below.alloc ?_ (by first | omega | (simp; done) | (simp; omega)) _) | refine Below.trans ?_ (Below.mono (by with_reducible assumption) (by first | omega | (simp; done) | (simp; omega))))))) hs (by omega) (by omega)).mono ?_
  rw [HT.out]
  rintro e w1 ⟨rfl, hb1⟩
  have hz1 := hb1.size; (try simp at hz1); have hB1 : Below w.heap.size w w1 := (by refine Below.trans ?_ (Below.mono hb1 (by first | omega | (simp; done) | (simp; omega))); (repeat (first | with_reducible exact Below.refl _ _ | with_reducible assumption | (with_reducible refine below_drewN ?_ _) | (with_reducible refine Below.drew ?_) | (with_reducible refine Below.setCell ?_ (by first | omega | (simp; done) | (simp; omega)) _) | (with_reducible refine Below.alloc ?_ (by first | omega | (simp; done) | (simp; omega)) _) | refine Below.trans ?_ (Below.mono (by with_reducible assumption) (by first | omega | (simp; done) | (simp; omega))))))
  clear hb1
  go_wp2
  go_ret
  exact ⟨rfl, by (repeat (first | with_reducible exact Below.refl _ _ | with_reducible assumption | (with_reducible refine below_drewN ?_ _) | (with_reducible refine Below.drew ?_) | (with_reducible refine Below.setCell ?_ (by first | omega | (simp; done) | (simp; omega)) _) | (with_reducible refine Below.alloc ?_ (by first | omega | (simp; done) | (simp; omega)) _) | refine Below.trans ?_ (Below.mono (by with_reducible assumption) (by first | omega | (simp; done) | (simp; omega)))))⟩

/-- the first k are right -/
def ShapeTo (f : Nat) (ks : List TermV) (k : Nat) : Prop := ∀ j, j < k → tshape f (ks.getD j tm0) = true
theorem ShapeTo.succ {f : Nat} {ks : List TermV} {k : Nat} (h : ShapeTo f ks k) (h' : tshape f (.mk (ks.getD k tm0).name (ks.getD k tm0).kids) = true) : ShapeTo f ks (k + 1) := fun j hj => by
  by_cases e : j = k
  · rw [e, term_eta (ks.getD k tm0)]; exact h'
  · exact h j (by omega)
theorem shape_bad {f : Nat} {s : ByteArray} {ks : List TermV} (h : nameOk s = false) : tshape f (.mk s ks) = false := by
  cases hh : tshape f (.mk s ks)
  · rfl
  · cases f with
    | zero => cases hh
    | succ f => have := (tshape_iff.1 hh).1; rw [show TermV.name (.mk s ks) = s from rfl, h] at this; cases this
theorem shape_many {f : Nat} {s : ByteArray} {ks : List TermV} (h : ¬ ks.length ≤ 2) : tshape f (.mk s ks) = false := by
  cases hh : tshape f (.mk s ks)
  · rfl
  · cases f with
    | zero => cases hh
    | succ f => exact absurd (tshape_iff.1 hh).2.1 h
theorem shape_kid {f : Nat} {s : ByteArray} {ks : List TermV} {k : Nat} (hk : k < ks.length) (h : tshape f (.mk (ks.getD k tm0).name (ks.getD k tm0).kids) = false) : tshape (f + 1) (.mk s ks) = false := by
  cases hh : tshape (f + 1) (.mk s ks)
  · rfl
  · have := (tshape_iff.1 hh).2.2 k hk
    rw [← term_eta] at h
    rw [show TermV.kids (.mk s ks) = ks from rfl, h] at this; cases this
theorem shape_go {f : Nat} {s : ByteArray} {ks : List TermV} (h1 : nameOk s = true) (h2 : ks.length ≤ 2) (h : ShapeTo f ks ks.length) : tshape (f + 1) (.mk s ks) = true := tshape_iff.2 ⟨h1, h2, h⟩
def ShapeCall (f : Nat) : Prop := ∀ {d : Nat} {A : Option Addr} {n c lo : Nat} {ks : List TermV} (s : ByteArray) (x : Int) {w : World}, Kids w lo d A n ks → s.size ≤ 9223372036854775807 → f ≤ 4 → x = (f : Int) →
    Calls Try.prog 77 #[.agg #[.string s, .slice A n c], .int .i64 x] w fun e w' => e = .returned (.bool (tshape f (.mk s ks))) ∧ Below w.heap.size w w'
set_option maxHeartbeats 4000000 in
theorem l4Shape_of {f : Nat} (IH : ∀ f', f = f' + 1 → ShapeCall f') : ShapeCall f := by
  intro d A n c lo ks s x w h hs hf hx
  have hfew := h.few
  have hlen := h.len
  have hx5 : x ≤ 4 := by omega
  cases f with
  | zero =>
    have hx1 : x < 1 := by omega
    clear hx
    go_enter Try.func77, Try.ntmps77
    go_wp2
    go_ret
    exact ⟨rfl, by (repeat (first | with_reducible exact Below.refl _ _ | with_reducible assumption | (with_reducible refine below_drewN ?_ _) | (with_reducible refine Below.drew ?_) | (with_reducible refine Below.setCell ?_ (by first | omega | (simp; done) | (simp; omega)) _) | (with_reducible refine Below.alloc ?_ (by first | omega | (simp; done) | (simp; omega)) _) | refine Below.trans ?_ (Below.mono (by with_reducible assumption) (by first | omega | (simp; done) | (simp; omega)))))⟩
  | succ f' =>
  have hx1 : ¬ x < 1 := by omega
  have hx0 : 1 ≤ x := by omega
  cases hk : nameOk s
  · clear hx
    rw [shape_bad hk]
    go_enter Try.func77, Try.ntmps77
    go_wp2_with fail
    refine (sNameOk_any s hs _).mono ?_
    rw [hk]
    rintro e w1 ⟨rfl, rfl⟩
    go_wp2
    go_ret
    exact ⟨rfl, by (repeat (first | with_reducible exact Below.refl _ _ | with_reducible assumption | (with_reducible refine below_drewN ?_ _) | (with_reducible refine Below.drew ?_) | (with_reducible refine Below.setCell ?_ (by first | omega | (simp; done) | (simp; omega)) _) | (with_reducible refine Below.alloc ?_ (by first | omega | (simp; done) | (simp; omega)) _) | refine Below.trans ?_ (Below.mono (by with_reducible assumption) (by first | omega | (simp; done) | (simp; omega)))))⟩
  by_cases hn : n ≤ 2
  · have hn2 : ¬ 2 < (n : Int) := by omega
    have HX := Lib.hid (show x - 1 = (f' : Int) by omega)
    have HI : Hid (ShapeCall f') := Lib.hid (IH f' rfl)
    have HG : Hid (ShapeTo f' ks n → tshape (f' + 1) (.mk s ks) = true) := Lib.hid (fun hh => shape_go hk (by rw [hlen]; exact hn) (by rw [hlen]; exact hh))
    obtain ⟨sv, hsv⟩ : ∃ v, tshape (f' + 1) (.mk s ks) = v := ⟨_, rfl⟩
    rw [hsv]
    have HSV := Lib.hid hsv
    clear hsv hx
    go_enter Try.func77, Try.ntmps77
    go_wp2_with fail
    refine (sNameOk_any s hs _).mono ?_
    rw [hk]
    rintro e w1 ⟨rfl, rfl⟩
    go_wp2_with fail
    go_loopw [5] (fun i wr => ∃ k : Nat, k ≤ n ∧ i = .int .i64 k ∧ ShapeTo f' ks k ∧ wr.cell? ⟨w.heap.size, 1, none⟩ = some (.slice A n c) ∧ Below w.heap.size w wr) (fun i _ => n - (intOf i).toNat)
    case atStart => exact ⟨0, by omega, rfl, fun _ h => absurd h (by omega), by go_simp, by (repeat (first | with_reducible exact Below.refl _ _ | with_reducible assumption | (with_reducible refine below_drewN ?_ _) | (with_reducible refine Below.drew ?_) | (with_reducible refine Below.setCell ?_ (by first | omega | (simp; done) | (simp; omega)) _) | (with_reducible refine Below.alloc ?_ (by first | omega | (simp; done) | (simp; omega)) _) | refine Below.trans ?_ (Below.mono (by with_reducible assumption) (by first | omega | (simp; done) | (simp; omega)))))⟩
    case round =>
      obtain ⟨k, hkn, rfl, hok, hq1, hB⟩ := hrel
      have hzr := hB.size
      have hx1 := World.block_lt_of_cell? _ _ hq1
      dsimp only at hx1
      by_cases hlt : k < n
      · obtain ⟨d', p, o, rfl, rfl, hpl, hp, hcs⟩ := (h.later hB).cells (by omega)
        obtain ⟨B, m, cb, hc1, hc2, hIk, hsf⟩ := hcs k hlt
        clear hcs
        have HK := Lib.hid (@shape_kid f' s ks k (by omega))
        have HY := Lib.hid (@ShapeTo.succ f' ks k hok)
        generalize (ks.getD k tm0).name = s' at *
        generalize (ks.getD k tm0).kids = qs at *
        obtain ⟨v, hv⟩ : ∃ v, tshape f' (.mk s' qs) = v := ⟨_, rfl⟩
        have HV := Lib.hid hv
        clear hv
        go_wp2_with fail
        refine (HI.out s' (x - 1) (hIk.later (by (repeat (first | with_reducible exact Below.refl _ _ | with_reducible assumption | (with_reducible refine below_drewN ?_ _) | (with_reducible refine Below.drew ?_) | (with_reducible refine Below.setCell ?_ (by first | omega | (simp; done) | (simp; omega)) _) | (with_reducible refine Below.alloc ?_ (by first | omega | (simp; done) | (simp; omega)) _) | refine Below.trans ?_ (Below.mono (by with_reducible assumption) (by first | omega | (simp; done) | (simp; omega))))))) hsf (by omega) HX.out).mono ?_
        rw [HV.out]
        rintro e w2 ⟨rfl, hb1⟩
        have hz1 := hb1.size; (try simp at hz1); have hB1 : Below w.heap.size w w2 := (by refine Below.trans ?_ (Below.mono hb1 (by first | omega | (simp; done) | (simp; omega))); (repeat (first | with_reducible exact Below.refl _ _ | with_reducible assumption | (with_reducible refine below_drewN ?_ _) | (with_reducible refine Below.drew ?_) | (with_reducible refine Below.setCell ?_ (by first | omega | (simp; done) | (simp; omega)) _) | (with_reducible refine Below.alloc ?_ (by first | omega | (simp; done) | (simp; omega)) _) | refine Below.trans ?_ (Below.mono (by with_reducible assumption) (by first | omega | (simp; done) | (simp; omega))))))
        have hq2 := (hb1.cell (p := ⟨w.heap.size, 1, none⟩) (by first | omega | (simp; done) | (simp; omega))).trans hq1
        clear hb1
        cases v
        · obtain rfl := HSV.out.symm.trans (HK.out HV.out)
          go_wp2
          go_ret
          exact ⟨rfl, by (repeat (first | with_reducible exact Below.refl _ _ | with_reducible assumption | (with_reducible refine below_drewN ?_ _) | (with_reducible refine Below.drew ?_) | (with_reducible refine Below.setCell ?_ (by first | omega | (simp; done) | (simp; omega)) _) | (with_reducible refine Below.alloc ?_ (by first | omega | (simp; done) | (simp; omega)) _) | refine Below.trans ?_ (Below.mono (by with_reducible assumption) (by first | omega | (simp; done) | (simp; omega)))))⟩
        · have HZ := Lib.hid (HY.out HV.out)
          go_wp2
          go_roundw
          case rel => exact ⟨k + 1, by omega, by go_num, HZ.out, hq2, by (repeat (first | with_reducible exact Below.refl _ _ | with_reducible assumption | (with_reducible refine below_drewN ?_ _) | (with_reducible refine Below.drew ?_) | (with_reducible refine Below.setCell ?_ (by first | omega | (simp; done) | (simp; omega)) _) | (with_reducible refine Below.alloc ?_ (by first | omega | (simp; done) | (simp; omega)) _) | refine Below.trans ?_ (Below.mono (by with_reducible assumption) (by first | omega | (simp; done) | (simp; omega)))))⟩
          case measure => simp [intOf]; omega
      · obtain rfl : k = n := by omega
        obtain rfl := HSV.out.symm.trans (HG.out hok)
        go_wp2
        go_ret
        exact ⟨rfl, hB⟩
  · have hn2 : 2 < (n : Int) := by omega
    clear hx
    rw [shape_many (by rw [hlen]; exact hn)]
    go_enter Try.func77, Try.ntmps77
    go_wp2_with fail
    refine (sNameOk_any s hs _).mono ?_
    rw [hk]
    rintro e w1 ⟨rfl, rfl⟩
    go_wp2
    go_ret
    exact ⟨rfl, by (repeat (first | with_reducible exact Below.refl _ _ | with_reducible assumption | (with_reducible refine below_drewN ?_ _) | (with_reducible refine Below.drew ?_) | (with_reducible refine Below.setCell ?_ (by first | omega | (simp; done) | (simp; omega)) _) | (with_reducible refine Below.alloc ?_ (by first | omega | (simp; done) | (simp; omega)) _) | refine Below.trans ?_ (Below.mono (by with_reducible assumption) (by first | omega | (simp; done) | (simp; omega)))))⟩
theorem l4Shape_any : ∀ f, ShapeCall f
  | 0 => l4Shape_of (fun f' e => by omega)
  | f + 1 => l4Shape_of (fun f' e => by obtain rfl : f = f' := by omega
                                        exact l4Shape_any f)
end Go.Proofs.Ytgmeoblapnmpiaa

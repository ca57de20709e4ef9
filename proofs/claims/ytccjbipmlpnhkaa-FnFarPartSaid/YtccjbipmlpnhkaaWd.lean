/- One number eliminated, by the reference: contract. -/
import Derived.Test.YtccjbipmlpnhkaaWl
import Derived.Deep.DeepCutAuto
import Derived.Deep.RegionHeld3
namespace Go.Proofs.Ytccjbipmlpnhkaa
set_option maxRecDepth 100000
open Go.RowKit Go.ChangeShapes Go.WideShapes Go.ChangeAt
set_option linter.unusedSimpArgs false
set_option linter.unusedVariables false

/-- The four cells of a box, not frozen. -/
structure L4 (w : World) (g : Nat) (v0 v1 v2 v3 : Value) : Prop where
  c0 : w.cell? ⟨g, 0, none⟩ = some v0
  c1 : w.cell? ⟨g, 1, none⟩ = some v1
  c2 : w.cell? ⟨g, 2, none⟩ = some v2
  c3 : w.cell? ⟨g, 3, none⟩ = some v3
  f0 : w.frozen? ⟨g, 0, none⟩ = false
  f1 : w.frozen? ⟨g, 1, none⟩ = false
  f2 : w.frozen? ⟨g, 2, none⟩ = false
  f3 : w.frozen? ⟨g, 3, none⟩ = false
theorem with_new4 {G : Prop} {wp wx : World} {v0 v1 v2 v3 : Value} {t : TypeId} (hb : Below (wp.alloc (.cells #[v0, v1, v2, v3] t)).heap.size (wp.alloc (.cells #[v0, v1, v2, v3] t)) wx)
    (k : L4 wx wp.heap.size v0 v1 v2 v3 → wp.heap.size < wx.heap.size → G) : G := by
  have hc : ∀ o v, (wp.alloc (.cells #[v0, v1, v2, v3] t)).cell? ⟨wp.heap.size, o, none⟩ = some v → wx.cell? ⟨wp.heap.size, o, none⟩ = some v := fun o v h => (hb.cell (p := ⟨wp.heap.size, o, none⟩) (World.block_lt_of_cell? _ _ h)).trans h
  have hf : ∀ o, wx.frozen? ⟨wp.heap.size, o, none⟩ = false := fun o => (hb.frozen (p := ⟨wp.heap.size, o, none⟩) (by simp)).trans (by simp [go_sem])
  exact k ⟨hc 0 v0 (by simp [go_sem]), hc 1 v1 (by simp [go_sem]), hc 2 v2 (by simp [go_sem]), hc 3 v3 (by simp [go_sem]), hf 0, hf 1, hf 2, hf 3⟩ (Nat.lt_of_lt_of_le (by simp) hb.size)
theorem with_newd4 {G : Prop} {wp wx : World} {v0 v1 v2 v3 : Value} {t : TypeId} (hb : Below (wp.alloc (.cells #[v0, v1, v2, v3] t)).drew.heap.size (wp.alloc (.cells #[v0, v1, v2, v3] t)).drew wx)
    (k : L4 wx wp.heap.size v0 v1 v2 v3 → wp.heap.size < wx.heap.size → G) : G := with_new4 (wp := wp) ⟨hb.os, hb.tape, hb.output, hb.size, hb.block⟩ k

set_option maxHeartbeats 16000000 in
theorem l3Drop_any {A : Option Addr} {n c u N : Nat} {rs : List RowV} {w : World} (h : Rws w A n rs) (hrs : RowsOk N rs) (hu : u < 4) (hN : N ≤ 1000) :
    Calls Try.prog 52 #[.slice A n c, .int .i64 u] w (LessBack (lessRows rs u) w) := by
  have hlen0 := h.len
  have hmany := hrs.many
  rw [hlen0] at hmany
  obtain ⟨j0, hj, yj0, yj1, yj2⟩ := info_parts l3row_info
  obtain ⟨o, ho⟩ : ∃ o, lessRows rs u = o := ⟨_, rfl⟩
  rw [ho]
  have HO := Lib.hid ho
  clear ho
  go_enter Try.func52, Try.ntmps52
  go_wp2_with fail
  go_loopw [6, 7] (fun v0 i wr => ∃ (k : Nat) (v : Value) (zs : List Value), k ≤ n ∧ i = .int .i64 k ∧ v = v0 ∧ RowG wr 79 w.heap.size v (flatTo rs u k).length (flatTo rs u k) zs ∧ Below w.heap.size w wr) (fun _ i _ => n - (intOf i).toNat)
  case atStart => exact ⟨0, _, [], by omega, rfl, rfl, RowG.empty rfl (Nat.le_refl _), by (repeat (first | with_reducible exact Below.refl _ _ | with_reducible assumption | (with_reducible refine below_drewN ?_ _) | (with_reducible refine Below.drew ?_) | (with_reducible refine Below.setCell ?_ (by first | omega | (simp; done) | (simp; omega)) _) | (with_reducible refine Below.alloc ?_ (by first | omega | (simp; done) | (simp; omega)) _) | refine Below.trans ?_ (Below.mono (by with_reducible assumption) (by first | omega | (simp; done) | (simp; omega)))))⟩
  case round =>
    obtain ⟨k, v, zs, hk, rfl, rfl, hrow, hB⟩ := hrel
    have hzr := hB.size
    by_cases hlt : k < n
    · obtain ⟨p, o1, rfl, hp0, hcs⟩ := (h).cells (by omega)
      obtain ⟨A1, m, c1, B1, q, d1, ⟨hI0, hJ0⟩, hd1, hd2, hd3, hd4⟩ := (hcs k (by omega)).ex
      clear hcs
      have hr := hrs.each k (by rw [hlen0]; omega)
      have xc1 := (hB.cell (p := ⟨p, o1 + k * 4, none⟩) hp0).trans hd1
      have xc2 := (hB.cell (p := ⟨p, o1 + k * 4 + 1, none⟩) hp0).trans hd2
      have xc3 := (hB.cell (p := ⟨p, o1 + k * 4 + 2, none⟩) hp0).trans hd3
      have xc4 := (hB.cell (p := ⟨p, o1 + k * 4 + 3, none⟩) hp0).trans hd4
      clear hd1 hd2 hd3 hd4
      obtain ⟨xs, b, s, us, hxx⟩ := row_at rs k
      have hyes := Lib.hid (@flat_yes rs u k)
      have hno := Lib.hid (@flat_no rs u k)
      have hfl := flatTo_len rs u k
      rw [hxx] at hyes hno hI0 hJ0 xc2 xc3 hr
      dsimp only at hI0 hJ0 xc2 xc3
      obtain ⟨hl4, _, _⟩ := linOk_len hr.lin
      have hm4 : m = 4 := hI0.len.symm.trans hl4
      subst hm4
      obtain ⟨pa, oa, rfl, hpa, hcx⟩ := hI0.cells (by omega)
      have hcx1 := (hB.cell (p := ⟨pa, oa + u, none⟩) hpa).trans (hcx u hu)
      have hpw : p < wr.heap.size := by omega
      have hpaw : pa < wr.heap.size := by omega
      clear hcx hl4 hr hxx
      have hcf : cf ((xs, b, s), us) u = xs.getD u 0 := rfl
      rw [hcf] at hyes hno
      clear hcf
      generalize xs.getD u 0 = x at *
      generalize hF : flatTo rs u k = fl at *
      by_cases hx : x = 0
      · subst hx
        have HY := Lib.hid (hyes.out rfl)
        clear hyes hno
        go_wp2_with (first | (at_builtin; refine wpList_append_lies _ (by rfl) (.tmp 29) (.tmp 34) _ (by rfl) w.heap.size 79 j0 _ 4 64 Try.underlying74 hj yj0 yj1 yj2 rfl (by omega) v fl.length zs (by rfl) (RowG.later hrow (by (repeat (first | with_reducible exact Below.refl _ _ | with_reducible assumption | (with_reducible refine below_drewN ?_ _) | (with_reducible refine Below.drew ?_) | (with_reducible refine Below.setCell ?_ (by first | omega | (simp; done) | (simp; omega)) _) | (with_reducible refine Below.alloc ?_ (by first | omega | (simp; done) | (simp; omega)) _) | refine Below.trans ?_ (Below.mono (by with_reducible assumption) (by first | omega | (simp; done) | (simp; omega))))))).own ⟨wr.heap.size, 0, none⟩ 1 1 [.slice (some ⟨pa, oa, none⟩) 4 c1, .int .i64 b, .bool s, .slice B1 q d1] (by rfl) (by rfl) (news4 (by first | omega | (simp; done) | (simp; omega))) (by simp [Value.oneCell']) (by omega) (by unfold maxLen; omega) (by omega) (by first | omega | (simp; done) | (simp; omega)) (wr.heap.size + 1) (by simp) ?_; intro g' cap' wq hown3 hgrow hat hlt2; (have hrow4 := (RowG.later hrow (by (repeat (first | with_reducible exact Below.refl _ _ | with_reducible assumption | (with_reducible refine below_drewN ?_ _) | (with_reducible refine Below.drew ?_) | (with_reducible refine Below.setCell ?_ (by first | omega | (simp; done) | (simp; omega)) _) | (with_reducible refine Below.alloc ?_ (by first | omega | (simp; done) | (simp; omega)) _) | refine Below.trans ?_ (Below.mono (by with_reducible assumption) (by first | omega | (simp; done) | (simp; omega))))))).snoc (x := ((xs, b, s), us)) hown3 hgrow hat (by simp) (hI0.later (by (repeat (first | with_reducible exact Below.refl _ _ | with_reducible assumption | (with_reducible refine below_drewN ?_ _) | (with_reducible refine Below.drew ?_) | (with_reducible refine Below.setCell ?_ (by first | omega | (simp; done) | (simp; omega)) _) | (with_reducible refine Below.alloc ?_ (by first | omega | (simp; done) | (simp; omega)) _) | refine Below.trans ?_ (Below.mono (by with_reducible assumption) (by first | omega | (simp; done) | (simp; omega))))))) (hJ0.later (by (repeat (first | with_reducible exact Below.refl _ _ | with_reducible assumption | (with_reducible refine below_drewN ?_ _) | (with_reducible refine Below.drew ?_) | (with_reducible refine Below.setCell ?_ (by first | omega | (simp; done) | (simp; omega)) _) | (with_reducible refine Below.alloc ?_ (by first | omega | (simp; done) | (simp; omega)) _) | refine Below.trans ?_ (Below.mono (by with_reducible assumption) (by first | omega | (simp; done) | (simp; omega))))))) (Off.upper hI0 hrow.own) (Off.upper hJ0 hrow.own); have hB4 : Below w.heap.size w wq := Below.grown (by (repeat (first | with_reducible exact Below.refl _ _ | with_reducible assumption | (with_reducible refine below_drewN ?_ _) | (with_reducible refine Below.drew ?_) | (with_reducible refine Below.setCell ?_ (by first | omega | (simp; done) | (simp; omega)) _) | (with_reducible refine Below.alloc ?_ (by first | omega | (simp; done) | (simp; omega)) _) | refine Below.trans ?_ (Below.mono (by with_reducible assumption) (by first | omega | (simp; done) | (simp; omega)))))) hgrow (by first | omega | (simp; done) | (simp; omega)) (fun j hj => (hrow.own.lt j hj).1); clear hown3 hgrow hat hlt2 hrow)))
        go_roundw
        case rel => exact ⟨k + 1, _, _, by omega, by go_num, rfl, by rw [HY.out, List.length_append]; exact hrow4, hB4⟩
        case measure => simp [intOf]; omega
      · have HY := Lib.hid (hno.out hx)
        have hx2 : (x == 0) = false := by simpa using hx
        clear hyes hno
        go_wp2
        go_roundw
        case rel => exact ⟨k + 1, v, zs, by omega, by go_num, rfl, by rw [HY.out]; exact hrow.later (by (repeat (first | with_reducible exact Below.refl _ _ | with_reducible assumption | (with_reducible refine below_drewN ?_ _) | (with_reducible refine Below.drew ?_) | (with_reducible refine Below.setCell ?_ (by first | omega | (simp; done) | (simp; omega)) _) | (with_reducible refine Below.alloc ?_ (by first | omega | (simp; done) | (simp; omega)) _) | refine Below.trans ?_ (Below.mono (by with_reducible assumption) (by first | omega | (simp; done) | (simp; omega)))))), by (repeat (first | with_reducible exact Below.refl _ _ | with_reducible assumption | (with_reducible refine below_drewN ?_ _) | (with_reducible refine Below.drew ?_) | (with_reducible refine Below.setCell ?_ (by first | omega | (simp; done) | (simp; omega)) _) | (with_reducible refine Below.alloc ?_ (by first | omega | (simp; done) | (simp; omega)) _) | refine Below.trans ?_ (Below.mono (by with_reducible assumption) (by first | omega | (simp; done) | (simp; omega)))))⟩
        case measure => simp [intOf]; omega
    · obtain rfl : k = n := by omega
      have hst : RowG wr 79 w.heap.size v (flatTo rs u rs.length).length (flatTo rs u rs.length) zs := by rw [hlen0]; exact hrow
      clear hrow
      go_wp2_with fail
      go_loopw [6, 8] (fun v0 i wr => ∃ (i1 : Nat) (v : Value) (zs : List Value) (out : List RowV), i1 ≤ k ∧ i = .int .i64 i1 ∧ v = v0 ∧ Hid (outerK rs u i1 = some out) ∧ RowG wr 79 w.heap.size v out.length out zs ∧ Below w.heap.size w wr) (fun _ i _ => k - (intOf i).toNat)
      case atStart => exact ⟨0, _, zs, _, by omega, rfl, rfl, Lib.hid rfl, hst, hB⟩
      case round =>
        clear hst hB hzr
        obtain ⟨i1, v2, zs2, out0, hi1, rfl, rfl, HOUT, hrow, hB⟩ := hrel
        have hzr := hB.size
        have hok0 := outerK_ok hrs (by omega) HOUT.out
        by_cases hlt2 : i1 < k
        · obtain ⟨p, o1, rfl, hp0, hcs⟩ := h.cells (by omega)
          have HCS := Lib.hid hcs
          obtain ⟨A1, m, c1, B1, q, d1, ⟨hI0, hJ0⟩, hd1, hd2, hd3, hd4⟩ := (hcs i1 hlt2).ex
          clear hcs
          have hra := hrs.each i1 (by omega)
          have HNO : Hid (∀ m : Nat, m ≤ k → innerK rs u (rs.getD i1 row0) out0 m = none → o = none) := Lib.hid (fun m hm hh => HO.out.symm.trans (less_none (k := m) (by omega) HOUT.out hh (by omega)))
          have HNX : Hid (∀ o2 : List RowV, innerK rs u (rs.getD i1 row0) out0 rs.length = some o2 → outerK rs u (i1 + 1) = some o2) := Lib.hid (fun o2 hh => less_next HOUT.out hh)
          obtain ⟨xs, b, s, us, hxx⟩ := row_at rs i1
          rw [hxx] at hI0 hJ0 hd2 hd3 hra HNO HNX
          dsimp only at hI0 hJ0 hd2 hd3
          obtain ⟨hl4, _, _⟩ := linOk_len hra.lin
          have hm4 : m = 4 := hI0.len.symm.trans hl4
          subst hm4
          clear hxx hl4
          go_wp2_with fail
          go_loopw [6, 9] (fun v0 i wr => ∃ (j : Nat) (v : Value) (zs : List Value) (out : List RowV), j ≤ k ∧ i = .int .i64 j ∧ v = v0 ∧ Hid (innerK rs u ((xs, b, s), us) out0 j = some out) ∧ RowG wr 79 w.heap.size v out.length out zs ∧ Below w.heap.size w wr) (fun _ i _ => k - (intOf i).toNat)
          case atStart => exact ⟨0, _, zs2, out0, by omega, rfl, rfl, Lib.hid rfl, hrow, hB⟩
          case round =>
            obtain ⟨j, v, zs, out, hjk, rfl, rfl, HIN, hrow, hB2⟩ := hrel
            have hzq := hB2.size
            have hok := innerK_ok hrs hra hok0 (by omega) HIN.out
            have hmo := hok.many
            by_cases hlt3 : j < k
            · obtain ⟨A2, m2, c2, B2, q2, d2, ⟨hI2, hJ2⟩, hd1, hd2, hd3, hd4⟩ := (HCS.out j hlt3).ex
              have hrb := hrs.each j (by omega)
              have HSK := Lib.hid (@inner_skip rs u j ((xs, b, s), us) out0 out HIN.out)
              have HYS := Lib.hid (@inner_yes rs u j ((xs, b, s), us) out0 out HIN.out)
              have HNN := Lib.hid (@inner_no rs u j ((xs, b, s), us) out0 out HIN.out)
              obtain ⟨ys, b', s', vs, hyy⟩ := row_at rs j
              rw [hyy] at hI2 hJ2 hd2 hd3 hrb HSK HYS HNN
              dsimp only at hI2 hJ2 hd2 hd3
              have zc1 := (hB2.cell (p := ⟨p, o1 + j * 4, none⟩) hp0).trans hd1
              have zc2 := (hB2.cell (p := ⟨p, o1 + j * 4 + 1, none⟩) hp0).trans hd2
              have zc3 := (hB2.cell (p := ⟨p, o1 + j * 4 + 2, none⟩) hp0).trans hd3
              have zc4 := (hB2.cell (p := ⟨p, o1 + j * 4 + 3, none⟩) hp0).trans hd4
              clear hd1 hd2 hd3 hd4
              obtain ⟨hl4', _, _⟩ := linOk_len hrb.lin
              have hm4' : m2 = 4 := hI2.len.symm.trans hl4'
              subst hm4'
              clear hl4' hyy
              have hpq : p < wr.heap.size := by omega
              obtain ⟨x, hx⟩ : ∃ x, cf ((xs, b, s), us) u = x := ⟨_, rfl⟩
              obtain ⟨y, hy⟩ : ∃ y, cf ((ys, b', s'), vs) u = y := ⟨_, rfl⟩
              obtain ⟨pa, oa, ea, hpa, hcx⟩ := hI0.cells (by omega)
              obtain ⟨pb, ob, eb, hpb, hcy⟩ := hI2.cells (by omega)
              subst ea eb
              have hcx1 := (hB2.cell (p := ⟨pa, oa + u, none⟩) hpa).trans (hcx u hu)
              have hcy1 := (hB2.cell (p := ⟨pb, ob + u, none⟩) hpb).trans (hcy u hu)
              rw [show xs.getD u 0 = x from hx] at hcx1
              rw [show ys.getD u 0 = y from hy] at hcy1
              clear hcx hcy
              have hpaq : pa < wr.heap.size := by omega
              have hpbq : pb < wr.heap.size := by omega
              have xc1 := (hB2.cell (p := ⟨p, o1 + i1 * 4, none⟩) hp0).trans hd1
              have xc2 := (hB2.cell (p := ⟨p, o1 + i1 * 4 + 1, none⟩) hp0).trans hd2
              have xc3 := (hB2.cell (p := ⟨p, o1 + i1 * 4 + 2, none⟩) hp0).trans hd3
              have xc4 := (hB2.cell (p := ⟨p, o1 + i1 * 4 + 3, none⟩) hp0).trans hd4
              clear hd1 hd2 hd3 hd4
              obtain ⟨Av, cv, rfl⟩ := hrow.form
              by_cases hx0 : 0 < x
              · by_cases hy0 : y < 0
                · obtain ⟨okb, hokb⟩ : ∃ o, pairOk ((xs, b, s), us) ((ys, b', s'), vs) u = o := ⟨_, rfl⟩
                  have HOK := Lib.hid hokb
                  have hx1 : 0 < cf ((xs, b, s), us) u := by rw [hx]; exact hx0
                  have hy1 : cf ((ys, b', s'), vs) u < 0 := by rw [hy]; exact hy0
                  obtain ⟨R, hR⟩ : ∃ R, pairRow ((xs, b, s), us) ((ys, b', s'), vs) u = R := ⟨_, rfl⟩
                  have HR := Lib.hid hR
                  clear hR hokb
                  go_upto_region 14 with fail
                  go_cut [10, 11] (fun s10 s11 wx => ∃ (g : Nat) (X : Option Addr) (q9 cap : Nat) (z : Int) (t : Bool) (U : Option Addr) (m9 d9 : Nat), s10 = .pointer (some ⟨g, 0, none⟩) ∧ s11 = .bool okb ∧ Box4 wx g (.slice X q9 cap) (.int .i64 z) (.bool t) (.slice U m9 d9) ∧ Hid (okb = true → (Ints wx X q9 R.1.1 ∧ Ints wx U m9 R.2) ∧ (Fresh wr.heap.size X q9 ∧ Fresh wr.heap.size U m9) ∧ z = R.1.2.1 ∧ t = R.1.2.2) ∧ Below wr.heap.size wr wx)
                  case first =>
                    obtain ⟨wz, hwz⟩ : ∃ x : World, x = w := ⟨w, rfl⟩
                    clear hwz
                    go_region_held3 (fun w' => w'.cell? ⟨p, o1 + i1 * 4, none⟩ = some (.slice (some ⟨pa, oa, none⟩) 4 c1) ∧ w'.cell? ⟨p, o1 + i1 * 4 + 1, none⟩ = some (.int .i64 b) ∧ w'.cell? ⟨p, o1 + i1 * 4 + 2, none⟩ = some (.bool s) ∧ w'.cell? ⟨p, o1 + i1 * 4 + 3, none⟩ = some (.slice B1 q d1) ∧ w'.cell? ⟨p, o1 + j * 4, none⟩ = some (.slice (some ⟨pb, ob, none⟩) 4 c2) ∧ w'.cell? ⟨p, o1 + j * 4 + 1, none⟩ = some (.int .i64 b') ∧ w'.cell? ⟨p, o1 + j * 4 + 2, none⟩ = some (.bool s') ∧ w'.cell? ⟨p, o1 + j * 4 + 3, none⟩ = some (.slice B2 q2 d2)) (simp [go_sem, World.cell?_alloc_past, *])
                      ((first
                        | (go_at_call 83; rename World => wp; refine (l3Both_any (N := N) (v := u) b b' s s' (hI0.later (by (repeat (first | with_reducible exact Below.refl _ _ | with_reducible assumption | (with_reducible refine below_drewN ?_ _) | (with_reducible refine Below.drew ?_) | (with_reducible refine Below.setCell ?_ (by first | omega | (simp; done) | (simp; omega)) _) | (with_reducible refine Below.alloc ?_ (by first | omega | (simp; done) | (simp; omega)) _) | refine Below.trans ?_ (Below.mono (by with_reducible assumption) (by first | omega | (simp; done) | (simp; omega))))))) (hI2.later (by (repeat (first | with_reducible exact Below.refl _ _ | with_reducible assumption | (with_reducible refine below_drewN ?_ _) | (with_reducible refine Below.drew ?_) | (with_reducible refine Below.setCell ?_ (by first | omega | (simp; done) | (simp; omega)) _) | (with_reducible refine Below.alloc ?_ (by first | omega | (simp; done) | (simp; omega)) _) | refine Below.trans ?_ (Below.mono (by with_reducible assumption) (by first | omega | (simp; done) | (simp; omega))))))) (hJ0.later (by (repeat (first | with_reducible exact Below.refl _ _ | with_reducible assumption | (with_reducible refine below_drewN ?_ _) | (with_reducible refine Below.drew ?_) | (with_reducible refine Below.setCell ?_ (by first | omega | (simp; done) | (simp; omega)) _) | (with_reducible refine Below.alloc ?_ (by first | omega | (simp; done) | (simp; omega)) _) | refine Below.trans ?_ (Below.mono (by with_reducible assumption) (by first | omega | (simp; done) | (simp; omega))))))) (hJ2.later (by (repeat (first | with_reducible exact Below.refl _ _ | with_reducible assumption | (with_reducible refine below_drewN ?_ _) | (with_reducible refine Below.drew ?_) | (with_reducible refine Below.setCell ?_ (by first | omega | (simp; done) | (simp; omega)) _) | (with_reducible refine Below.alloc ?_ (by first | omega | (simp; done) | (simp; omega)) _) | refine Below.trans ?_ (Below.mono (by with_reducible assumption) (by first | omega | (simp; done) | (simp; omega))))))) hra hrb hu hN hx1 hy1).mono ?_; rw [HOK.out, HR.out]; rintro e w1 ⟨X, q9, cap, z, t, U, m9, d9, rfl, hP, hb1⟩; have hbq : Below wr.heap.size wr w1 := (by (repeat (first | with_reducible exact Below.refl _ _ | with_reducible assumption | (with_reducible refine below_drewN ?_ _) | (with_reducible refine Below.drew ?_) | (with_reducible refine Below.setCell ?_ (by first | omega | (simp; done) | (simp; omega)) _) | (with_reducible refine Below.alloc ?_ (by first | omega | (simp; done) | (simp; omega)) _) | refine Below.trans ?_ (Below.mono (by with_reducible assumption) (by first | omega | (simp; done) | (simp; omega)))))); have hzq1 := hbq.size; have yc1 := (hbq.cell (p := ⟨p, o1 + i1 * 4, none⟩) hpq).trans xc1; have yc2 := (hbq.cell (p := ⟨p, o1 + i1 * 4 + 1, none⟩) hpq).trans xc2; have yc3 := (hbq.cell (p := ⟨p, o1 + i1 * 4 + 2, none⟩) hpq).trans xc3; have yc4 := (hbq.cell (p := ⟨p, o1 + i1 * 4 + 3, none⟩) hpq).trans xc4; have yc5 := (hbq.cell (p := ⟨p, o1 + j * 4, none⟩) hpq).trans zc1; have yc6 := (hbq.cell (p := ⟨p, o1 + j * 4 + 1, none⟩) hpq).trans zc2; have yc7 := (hbq.cell (p := ⟨p, o1 + j * 4 + 2, none⟩) hpq).trans zc3; have yc8 := (hbq.cell (p := ⟨p, o1 + j * 4 + 3, none⟩) hpq).trans zc4; have hpq1 : p < w1.heap.size := (by omega); have HP := Lib.hid hP; (first | (refine with_new4 (wp := wp) (v0 := .slice none 0 0) (v1 := .int .i64 0) (v2 := .bool false) (v3 := .slice none 0 0) (t := 79) hb1 ?_; intro hn4 ln4; obtain ⟨n0, n1, n2, n3, n4, n5, n6, n7⟩ := hn4) | (refine with_newd4 (wp := wr) (v0 := .slice none 0 0) (v1 := .int .i64 0) (v2 := .bool false) (v3 := .slice none 0 0) (t := 79) hb1 ?_; intro hn4 ln4; obtain ⟨n0, n1, n2, n3, n4, n5, n6, n7⟩ := hn4) | skip); clear hb1 hP)))
                    all_goals (go_wp2_with fail; go_meet; refine ⟨_, X, q9, cap, z, t, U, m9, d9, rfl, rfl, ⟨by go_simp, by go_simp, by go_simp, by go_simp⟩, Lib.hid (fun hk => ?_), by (repeat (first | with_reducible exact Below.refl _ _ | with_reducible assumption | (with_reducible refine below_drewN ?_ _) | (with_reducible refine Below.drew ?_) | (with_reducible refine Below.setCell ?_ (by first | omega | (simp; done) | (simp; omega)) _) | (with_reducible refine Below.alloc ?_ (by first | omega | (simp; done) | (simp; omega)) _) | refine Below.trans ?_ (Below.mono (by with_reducible assumption) (by first | omega | (simp; done) | (simp; omega)))))⟩; obtain ⟨⟨hIX, hIU⟩, ⟨hFX, hFU⟩, ez, et⟩ := HP.out hk; refine ⟨⟨?_, ?_⟩, ⟨fun hn p e => (by have := hFX hn p e; (try simp at this); omega), fun hn p e => (by have := hFU hn p e; (try simp at this); omega)⟩, ez, et⟩; focus (first | ((repeat (refine Ints.set ?_ (fun hn a e => by have := hFX hn a e; (try simp at this); dsimp only; omega) _)); (with_reducible exact hIX)) | exact Ints.later hIX (by (repeat (first | with_reducible exact Below.refl _ _ | with_reducible assumption | (with_reducible refine below_drewN ?_ _) | (with_reducible refine Below.drew ?_) | (with_reducible refine Below.setCell ?_ (by first | omega | (simp; done) | (simp; omega)) _) | (with_reducible refine Below.alloc ?_ (by first | omega | (simp; done) | (simp; omega)) _) | refine Below.trans ?_ (Below.mono (by with_reducible assumption) (by first | omega | (simp; done) | (simp; omega))))))))
                    all_goals (first | ((repeat (refine Ints.set ?_ (fun hn a e => by have := hFU hn a e; (try simp at this); dsimp only; omega) _)); (with_reducible exact hIU)) | exact Ints.later hIU (by (repeat (first | with_reducible exact Below.refl _ _ | with_reducible assumption | (with_reducible refine below_drewN ?_ _) | (with_reducible refine Below.drew ?_) | (with_reducible refine Below.setCell ?_ (by first | omega | (simp; done) | (simp; omega)) _) | (with_reducible refine Below.alloc ?_ (by first | omega | (simp; done) | (simp; omega)) _) | refine Below.trans ?_ (Below.mono (by with_reducible assumption) (by first | omega | (simp; done) | (simp; omega)))))))
                  case rest =>
                    obtain ⟨g, X, q9, cap, z, t, U, m9, d9, rfl, rfl, ⟨k0, k1, k2, k3⟩, HPK, hbq⟩ := hcut
                    have hzc := hbq.size
                    have hown1 := hrow.own
                    have hrow1 := hrow.later hbq
                    have hBc : Below w.heap.size w wc := hB2.trans (hbq.mono hB2.size)
                    clear hrow
                    cases okb
                    · have ho := HNO.out (j + 1) (by omega) (HNN.out ⟨hx1, hy1⟩ (by rw [HOK.out]; simp))
                      subst ho
                      go_wp2
                      refine bodyPost_ret (v := .tuple #[.slice Av out.length cv, .bool false]) (by simp only [results, Try.results52]; go_simp) rfl ⟨Av, out.length, cv, rfl, fun _ e => (by cases e), hBc⟩
                    · by_cases h200 : out.length = 200
                      · have ho := HNO.out (j + 1) (by omega) (HNN.out ⟨hx1, hy1⟩ (by omega))
                        subst ho
                        have hd200 : decide ((200 : Int) ≤ (out.length : Int)) = true := by simp; omega
                        go_wp2
                        refine bodyPost_ret (v := .tuple #[.slice Av out.length cv, .bool false]) (by simp only [results, Try.results52]; go_simp) rfl ⟨Av, out.length, cv, rfl, fun _ e => (by cases e), hBc⟩
                      · have hd200 : decide ((200 : Int) ≤ (out.length : Int)) = false := by simp; omega
                        have HX := Lib.hid (HYS.out ⟨hx1, hy1⟩ HOK.out (by omega))
                        rw [HR.out] at HX
                        obtain ⟨⟨hIX, hIU⟩, ⟨hFX, hFU⟩, rfl, rfl⟩ := HPK.out rfl
                        have hOX := Off.freshF hown1 hFX (Nat.le_refl _)
                        have hOU := Off.freshF hown1 hFU (Nat.le_refl _)
                        clear HPK HOK HR
                        have hrow := hrow1
                        go_wp2_with (first | (at_builtin; refine wpList_append_lies _ (by rfl) (.tmp 91) (.tmp 93) _ (by rfl) w.heap.size 79 j0 _ 4 64 Try.underlying74 hj yj0 yj1 yj2 rfl (by omega) (.slice Av out.length cv) out.length zs (by rfl) (RowG.later hrow (by (repeat (first | with_reducible exact Below.refl _ _ | with_reducible assumption | (with_reducible refine below_drewN ?_ _) | (with_reducible refine Below.drew ?_) | (with_reducible refine Below.setCell ?_ (by first | omega | (simp; done) | (simp; omega)) _) | (with_reducible refine Below.alloc ?_ (by first | omega | (simp; done) | (simp; omega)) _) | refine Below.trans ?_ (Below.mono (by with_reducible assumption) (by first | omega | (simp; done) | (simp; omega))))))).own ⟨wc.heap.size, 0, none⟩ 1 1 [.slice X q9 cap, .int .i64 R.1.2.1, .bool R.1.2.2, .slice U m9 d9] (by rfl) (by rfl) (news4 (by first | omega | (simp; done) | (simp; omega))) (by simp [Value.oneCell']) (by omega) (by unfold maxLen; omega) (by omega) (by first | omega | (simp; done) | (simp; omega)) (wc.heap.size + 1) (by simp) ?_; intro g' cap' wq2 hown3 hgrow hat hlt2; (have hrow4 := (RowG.later hrow (by (repeat (first | with_reducible exact Below.refl _ _ | with_reducible assumption | (with_reducible refine below_drewN ?_ _) | (with_reducible refine Below.drew ?_) | (with_reducible refine Below.setCell ?_ (by first | omega | (simp; done) | (simp; omega)) _) | (with_reducible refine Below.alloc ?_ (by first | omega | (simp; done) | (simp; omega)) _) | refine Below.trans ?_ (Below.mono (by with_reducible assumption) (by first | omega | (simp; done) | (simp; omega))))))).snoc (x := R) hown3 hgrow hat (by simp) (hIX.later (by (repeat (first | with_reducible exact Below.refl _ _ | with_reducible assumption | (with_reducible refine below_drewN ?_ _) | (with_reducible refine Below.drew ?_) | (with_reducible refine Below.setCell ?_ (by first | omega | (simp; done) | (simp; omega)) _) | (with_reducible refine Below.alloc ?_ (by first | omega | (simp; done) | (simp; omega)) _) | refine Below.trans ?_ (Below.mono (by with_reducible assumption) (by first | omega | (simp; done) | (simp; omega))))))) (hIU.later (by (repeat (first | with_reducible exact Below.refl _ _ | with_reducible assumption | (with_reducible refine below_drewN ?_ _) | (with_reducible refine Below.drew ?_) | (with_reducible refine Below.setCell ?_ (by first | omega | (simp; done) | (simp; omega)) _) | (with_reducible refine Below.alloc ?_ (by first | omega | (simp; done) | (simp; omega)) _) | refine Below.trans ?_ (Below.mono (by with_reducible assumption) (by first | omega | (simp; done) | (simp; omega))))))) hOX hOU; have hB4 : Below w.heap.size w wq2 := Below.grown (by (repeat (first | with_reducible exact Below.refl _ _ | with_reducible assumption | (with_reducible refine below_drewN ?_ _) | (with_reducible refine Below.drew ?_) | (with_reducible refine Below.setCell ?_ (by first | omega | (simp; done) | (simp; omega)) _) | (with_reducible refine Below.alloc ?_ (by first | omega | (simp; done) | (simp; omega)) _) | refine Below.trans ?_ (Below.mono (by with_reducible assumption) (by first | omega | (simp; done) | (simp; omega)))))) hgrow (by first | omega | (simp; done) | (simp; omega)) (fun j hj => (hrow.own.lt j hj).1); clear hown3 hgrow hat hlt2 hrow)))
                        go_roundw
                        case rel => exact ⟨j + 1, _, _, _, by omega, by go_num, rfl, HX, by rw [List.length_append]; exact hrow4, hB4⟩
                        case measure => simp [intOf]; omega
                · have HX := Lib.hid (HSK.out (by rw [hy]; omega))
                  go_wp2
                  go_roundw
                  case rel => exact ⟨j + 1, _, zs, out, by omega, by go_num, rfl, HX, hrow, hB2⟩
                  case measure => simp [intOf]; omega
              · have HX := Lib.hid (HNX.out _ ((innerK_skip (rs := rs) (v := u) (a := ((xs, b, s), us)) (out := out0) (by rw [hx]; exact hx0) rs.length)))
                have ho0 : out = out0 := Option.some.inj (HIN.out.symm.trans (innerK_skip (by rw [hx]; exact hx0) j))
                subst ho0
                go_wp2
                go_roundw
                case rel => exact ⟨i1 + 1, _, zs, out, by omega, by go_num, rfl, HX, (by assumption), (by assumption)⟩
                case measure => simp [intOf]; omega
            · obtain rfl : j = k := by omega
              have HX := Lib.hid (HNX.out _ (by rw [hlen0]; exact HIN.out))
              go_wp2
              go_roundw
              case rel => exact ⟨i1 + 1, v, zs, out, by omega, by go_num, rfl, HX, hrow, hB2⟩
              case measure => simp [intOf]; omega
        · obtain rfl : i1 = k := by omega
          have ho : o = some out0 := HO.out.symm.trans (by unfold lessRows; rw [hlen0]; exact HOUT.out)
          obtain ⟨A', c', rfl⟩ := hrow.form
          have hmo := hok0.many
          have hR := hrow.rws (by omega)
          subst ho
          go_wp2
          refine bodyPost_ret (v := .tuple #[.slice A' out0.length c', .bool true]) (by simp only [results, Try.results52]; go_simp) rfl ⟨A', _, c', rfl, fun rs' e => by obtain rfl := Option.some.inj e; exact hR, hB⟩
end Go.Proofs.Ytccjbipmlpnhkaa

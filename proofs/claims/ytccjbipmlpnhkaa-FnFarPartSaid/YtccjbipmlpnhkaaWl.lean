/- One number eliminated: contracts. -/
import Derived.Test.YtccjbipmlpnhkaaWp
import Derived.Deep.DeepCutAuto
namespace Go.Proofs.Ytccjbipmlpnhkaa
set_option maxRecDepth 100000
open Go.RowKit Go.ChangeShapes Go.WideShapes Go.ChangeAt
set_option linter.unusedSimpArgs false
set_option linter.unusedVariables false

def LessBack (o : Option (List RowV)) (w : World) (e : Ending) (w' : World) : Prop :=
  ∃ (A : Option Addr) (n c : Nat), e = .returned (.tuple #[.slice A n c, .bool o.isSome]) ∧ (∀ rs, o = some rs → Rws w' A n rs) ∧ Below w.heap.size w w'
theorem less_none {rs : List RowV} {u i k : Nat} {out : List RowV} (hi : i < rs.length) (h1 : outerK rs u i = some out) (h2 : innerK rs u (rs.getD i row0) out k = none) (hk : k ≤ rs.length) : lessRows rs u = none := by
  refine outerK_none (k := i + 1) ?_ (by omega)
  simp only [outerK, h1, Option.bind_some]
  exact innerK_none h2 hk
theorem less_next {rs : List RowV} {u i : Nat} {out o2 : List RowV} (h1 : outerK rs u i = some out) (h2 : innerK rs u (rs.getD i row0) out rs.length = some o2) : outerK rs u (i + 1) = some o2 := by
  simp only [outerK, h1, Option.bind_some]
  exact h2
theorem inner_skip {rs : List RowV} {u k : Nat} {a : RowV} {out o : List RowV} (h : innerK rs u a out k = some o) (hc : ¬ (0 < cf a u ∧ cf (rs.getD k row0) u < 0)) : innerK rs u a out (k + 1) = some o := by
  simp only [innerK, h, Option.bind_some, stepPair]
  rw [if_neg hc]
theorem inner_yes {rs : List RowV} {u k : Nat} {a : RowV} {out o : List RowV} (h : innerK rs u a out k = some o) (hc : 0 < cf a u ∧ cf (rs.getD k row0) u < 0) (hp : pairOk a (rs.getD k row0) u = true) (hl : o.length < 200) : innerK rs u a out (k + 1) = some (o ++ [pairRow a (rs.getD k row0) u]) := by
  simp only [innerK, h, Option.bind_some, stepPair]
  rw [if_pos hc, if_pos ⟨hp, hl⟩]
theorem inner_no {rs : List RowV} {u k : Nat} {a : RowV} {out o : List RowV} (h : innerK rs u a out k = some o) (hc : 0 < cf a u ∧ cf (rs.getD k row0) u < 0) (hp : ¬ (pairOk a (rs.getD k row0) u = true ∧ o.length < 200)) : innerK rs u a out (k + 1) = none := by
  simp only [innerK, h, Option.bind_some, stepPair]
  rw [if_pos hc, if_neg hp]
theorem flat_yes {rs : List RowV} {u k : Nat} (h : cf (rs.getD k row0) u = 0) : flatTo rs u (k + 1) = flatTo rs u k ++ [rs.getD k row0] := by
  simp only [flatTo]; rw [if_pos h]
theorem flat_no {rs : List RowV} {u k : Nat} (h : cf (rs.getD k row0) u ≠ 0) : flatTo rs u (k + 1) = flatTo rs u k := by
  simp only [flatTo]; rw [if_neg h]
theorem row_eta (r : RowV) : r = ((r.1.1, r.1.2.1, r.1.2.2), r.2) := rfl
theorem row_at (rs : List RowV) (k : Nat) : ∃ (xs : List Int) (b : Int) (s : Bool) (us : List Int), rs.getD k row0 = ((xs, b, s), us) := ⟨_, _, _, _, row_eta _⟩
/-- The four cells of a box. -/
structure Box4 (w : World) (b : Nat) (v0 v1 v2 v3 : Value) : Prop where
  c0 : w.cell? ⟨b, 0, none⟩ = some v0
  c1 : w.cell? ⟨b, 1, none⟩ = some v1
  c2 : w.cell? ⟨b, 2, none⟩ = some v2
  c3 : w.cell? ⟨b, 3, none⟩ = some v3
theorem Box4.lt {w : World} {b : Nat} {v0 v1 v2 v3 : Value} (h : Box4 w b v0 v1 v2 v3) : b < w.heap.size := World.block_lt_of_cell? _ _ h.c0
theorem Box4.later {w w' : World} {b : Nat} {v0 v1 v2 v3 : Value} (h : Box4 w b v0 v1 v2 v3) (hb : Below w.heap.size w w') : Box4 w' b v0 v1 v2 v3 :=
  have hq : ∀ x, w'.cell? ⟨b, x, none⟩ = w.cell? ⟨b, x, none⟩ := fun x => hb.cell (p := ⟨b, x, none⟩) h.lt
  ⟨(hq _).trans h.c0, (hq _).trans h.c1, (hq _).trans h.c2, (hq _).trans h.c3⟩
theorem Box4.off {w w' : World} {r : Option Nat} {b : Nat} {v0 v1 v2 v3 : Value} (h : Box4 w b v0 v1 v2 v3) (hg : w.grownBy w' r) (hne : r ≠ some b) : Box4 w' b v0 v1 v2 v3 :=
  have hq : ∀ x, w'.cell? ⟨b, x, none⟩ = w.cell? ⟨b, x, none⟩ := fun x => hg.cell_far ⟨b, x, none⟩ h.lt (fun e => hne e.symm)
  ⟨(hq _).trans h.c0, (hq _).trans h.c1, (hq _).trans h.c2, (hq _).trans h.c3⟩
theorem own_ne {w : World} {base : Nat} {t : TypeId} {sz : Nat} {v : Value} {k : Nat} {zs : List Value} (h : w.ownsRow base t sz v k zs) {b : Nat} (hb : w.heap.size ≤ b) : v.ownBlock ≠ some b := fun e => by
  have := (h.lt b e).2; omega
theorem own_ne2 {v : Value} {g b H : Nat} {x : Value} (hat : v.ownBlock = some g ∨ g = H) (hv : v.ownBlock ≠ some b) (hH : b < H) (hx : x.ownBlock = some g) : x.ownBlock ≠ some b := fun e => by
  rw [hx] at e
  obtain rfl := Option.some.inj e
  rcases hat with e | e
  · exact hv e
  · omega
theorem Off.freshF {w : World} {base : Nat} {t : TypeId} {sz : Nat} {v : Value} {k : Nat} {zs : List Value} (hown : w.ownsRow base t sz v k zs) {A : Option Addr} {n lo : Nat} (hf : Fresh lo A n) (hl : w.heap.size ≤ lo) : Off A n v.ownBlock := fun hn p e e2 => by
  have h1 := (hown.lt _ e2.symm).2
  have h2 := hf hn p e
  omega

set_option maxHeartbeats 16000000 in
theorem less_any {A : Option Addr} {n c u N : Nat} {rs : List RowV} {w : World} (h : Rws w A n rs) (hrs : RowsOk N rs) (hu : u < 4) (hN : N ≤ 1000) :
    Calls Try.prog 48 #[.slice A n c, .int .i64 u] w (LessBack (lessRows rs u) w) := by
  have hlen0 := h.len
  have hmany := hrs.many
  rw [hlen0] at hmany
  obtain ⟨j0, hj, yj0, yj1, yj2⟩ := info_parts ulin_info
  obtain ⟨o, ho⟩ : ∃ o, lessRows rs u = o := ⟨_, rfl⟩
  rw [ho]
  have HO := Lib.hid ho
  clear ho
  go_enter Try.func48, Try.ntmps48
  go_wp2_with fail
  go_loopw [6, 17] (fun v0 i wr => ∃ (k : Nat) (v : Value) (zs : List Value), k ≤ n ∧ i = .int .i64 k ∧ v = v0 ∧ RowG wr 72 w.heap.size v (flatTo rs u k).length (flatTo rs u k) zs ∧ Below w.heap.size w wr) (fun _ i _ => n - (intOf i).toNat)
  case atStart => exact ⟨0, _, [], by omega, rfl, rfl, RowG.nil _ _ _, by (repeat (first | with_reducible exact Below.refl _ _ | with_reducible assumption | (with_reducible refine below_drewN ?_ _) | (with_reducible refine Below.drew ?_) | (with_reducible refine Below.setCell ?_ (by first | omega | (simp; done) | (simp; omega)) _) | (with_reducible refine Below.alloc ?_ (by first | omega | (simp; done) | (simp; omega)) _) | refine Below.trans ?_ (Below.mono (by with_reducible assumption) (by first | omega | (simp; done) | (simp; omega)))))⟩
  case round =>
    obtain ⟨k, v, zs, hk, rfl, rfl, hrow, hB⟩ := hrel
    have hzr := hB.size
    by_cases hlt : k < n
    · obtain ⟨p, o1, rfl, hp0, hcs⟩ := (h).cells (by omega)
      obtain ⟨A1, m, c1, B1, q, d1, ⟨hI0, hJ0⟩, hd1, hd2, hd3, hd4⟩ := (hcs k (by omega)).ex
      clear hcs
      have hr := hrs.each k (by rw [hlen0]; omega)
      have xc1 := (hB.cell (p := ⟨p, o1 + k * 4, none⟩) hp0).trans hd1
      have xc2 := (hB.cell (p := ⟨p, o1 + k * 4 + 1, none⟩) hp0).trans hd2
      have xc3 := (hB.cell (p := ⟨p, o1 + k * 4 + 2, none⟩) hp0).trans hd3
      have xc4 := (hB.cell (p := ⟨p, o1 + k * 4 + 3, none⟩) hp0).trans hd4
      clear hd1 hd2 hd3 hd4
      obtain ⟨xs, b, s, us, hxx⟩ := row_at rs k
      have hyes := Lib.hid (@flat_yes rs u k)
      have hno := Lib.hid (@flat_no rs u k)
      have hfl := flatTo_len rs u k
      rw [hxx] at hyes hno hI0 hJ0 xc2 xc3 hr
      dsimp only at hI0 hJ0 xc2 xc3
      obtain ⟨hl4, _, _⟩ := linOk_len hr.lin
      have hm4 : m = 4 := hI0.len.symm.trans hl4
      subst hm4
      obtain ⟨pa, oa, rfl, hpa, hcx⟩ := hI0.cells (by omega)
      have hcx1 := (hB.cell (p := ⟨pa, oa + u, none⟩) hpa).trans (hcx u hu)
      have hpw : p < wr.heap.size := by omega
      have hpaw : pa < wr.heap.size := by omega
      clear hcx hl4 hr hxx
      have hcf : cf ((xs, b, s), us) u = xs.getD u 0 := rfl
      rw [hcf] at hyes hno
      clear hcf
      generalize xs.getD u 0 = x at *
      generalize hF : flatTo rs u k = fl at *
      by_cases hx : x = 0
      · subst hx
        have HY := Lib.hid (hyes.out rfl)
        clear hyes hno
        go_wp2_with (first | (at_builtin; refine wpList_append_lies _ (by rfl) (.tmp 28) (.tmp 30) _ (by rfl) w.heap.size 72 j0 _ 4 64 Try.underlying67 hj yj0 yj1 yj2 rfl (by omega) v fl.length zs (by rfl) (RowG.later hrow (by (repeat (first | with_reducible exact Below.refl _ _ | with_reducible assumption | (with_reducible refine below_drewN ?_ _) | (with_reducible refine Below.drew ?_) | (with_reducible refine Below.setCell ?_ (by first | omega | (simp; done) | (simp; omega)) _) | (with_reducible refine Below.alloc ?_ (by first | omega | (simp; done) | (simp; omega)) _) | refine Below.trans ?_ (Below.mono (by with_reducible assumption) (by first | omega | (simp; done) | (simp; omega))))))).own ⟨wr.heap.size + 1, 0, none⟩ 1 1 [.slice (some ⟨pa, oa, none⟩) 4 c1, .int .i64 b, .bool s, .slice B1 q d1] (by rfl) (by rfl) (news4 (by first | omega | (simp; done) | (simp; omega))) (by simp [Value.oneCell']) (by omega) (by unfold maxLen; omega) (by omega) (by first | omega | (simp; done) | (simp; omega)) (wr.heap.size + 1 + 1) (by simp) ?_; intro g' cap' wq hown3 hgrow hat hlt2; (have hrow4 := (RowG.later hrow (by (repeat (first | with_reducible exact Below.refl _ _ | with_reducible assumption | (with_reducible refine below_drewN ?_ _) | (with_reducible refine Below.drew ?_) | (with_reducible refine Below.setCell ?_ (by first | omega | (simp; done) | (simp; omega)) _) | (with_reducible refine Below.alloc ?_ (by first | omega | (simp; done) | (simp; omega)) _) | refine Below.trans ?_ (Below.mono (by with_reducible assumption) (by first | omega | (simp; done) | (simp; omega))))))).snoc (x := ((xs, b, s), us)) hown3 hgrow hat (by simp) (hI0.later (by (repeat (first | with_reducible exact Below.refl _ _ | with_reducible assumption | (with_reducible refine below_drewN ?_ _) | (with_reducible refine Below.drew ?_) | (with_reducible refine Below.setCell ?_ (by first | omega | (simp; done) | (simp; omega)) _) | (with_reducible refine Below.alloc ?_ (by first | omega | (simp; done) | (simp; omega)) _) | refine Below.trans ?_ (Below.mono (by with_reducible assumption) (by first | omega | (simp; done) | (simp; omega))))))) (hJ0.later (by (repeat (first | with_reducible exact Below.refl _ _ | with_reducible assumption | (with_reducible refine below_drewN ?_ _) | (with_reducible refine Below.drew ?_) | (with_reducible refine Below.setCell ?_ (by first | omega | (simp; done) | (simp; omega)) _) | (with_reducible refine Below.alloc ?_ (by first | omega | (simp; done) | (simp; omega)) _) | refine Below.trans ?_ (Below.mono (by with_reducible assumption) (by first | omega | (simp; done) | (simp; omega))))))) (Off.upper hI0 hrow.own) (Off.upper hJ0 hrow.own); have hB4 : Below w.heap.size w wq := Below.grown (by (repeat (first | with_reducible exact Below.refl _ _ | with_reducible assumption | (with_reducible refine below_drewN ?_ _) | (with_reducible refine Below.drew ?_) | (with_reducible refine Below.setCell ?_ (by first | omega | (simp; done) | (simp; omega)) _) | (with_reducible refine Below.alloc ?_ (by first | omega | (simp; done) | (simp; omega)) _) | refine Below.trans ?_ (Below.mono (by with_reducible assumption) (by first | omega | (simp; done) | (simp; omega)))))) hgrow (by first | omega | (simp; done) | (simp; omega)) (fun j hj => (hrow.own.lt j hj).1); clear hown3 hgrow hat hlt2 hrow)))
        go_roundw
        case rel => exact ⟨k + 1, _, _, by omega, by go_num, rfl, by rw [HY.out, List.length_append]; exact hrow4, hB4⟩
        case measure => simp [intOf]; omega
      · have HY := Lib.hid (hno.out hx)
        have hx2 : (x == 0) = false := by simpa using hx
        clear hyes hno
        go_wp2
        go_roundw
        case rel => exact ⟨k + 1, v, zs, by omega, by go_num, rfl, by rw [HY.out]; exact hrow.later (by (repeat (first | with_reducible exact Below.refl _ _ | with_reducible assumption | (with_reducible refine below_drewN ?_ _) | (with_reducible refine Below.drew ?_) | (with_reducible refine Below.setCell ?_ (by first | omega | (simp; done) | (simp; omega)) _) | (with_reducible refine Below.alloc ?_ (by first | omega | (simp; done) | (simp; omega)) _) | refine Below.trans ?_ (Below.mono (by with_reducible assumption) (by first | omega | (simp; done) | (simp; omega)))))), by (repeat (first | with_reducible exact Below.refl _ _ | with_reducible assumption | (with_reducible refine below_drewN ?_ _) | (with_reducible refine Below.drew ?_) | (with_reducible refine Below.setCell ?_ (by first | omega | (simp; done) | (simp; omega)) _) | (with_reducible refine Below.alloc ?_ (by first | omega | (simp; done) | (simp; omega)) _) | refine Below.trans ?_ (Below.mono (by with_reducible assumption) (by first | omega | (simp; done) | (simp; omega)))))⟩
        case measure => simp [intOf]; omega
    · obtain rfl : k = n := by omega
      have hfl := flatTo_len rs u k
      have hst : RowG wr 72 w.heap.size v (flatTo rs u rs.length).length (flatTo rs u rs.length) zs := by rw [hlen0]; exact hrow
      clear hrow
      go_wp2_with fail
      go_loopw [6, 35] (fun v0 i wr => ∃ (i1 : Nat) (v : Value) (zs : List Value) (out : List RowV), i1 ≤ k ∧ i = .int .i64 i1 ∧ v = v0 ∧ Hid (outerK rs u i1 = some out) ∧ RowG wr 72 w.heap.size v out.length out zs ∧ Below w.heap.size w wr) (fun _ i _ => k - (intOf i).toNat)
      case atStart => exact ⟨0, _, zs, _, by omega, rfl, rfl, Lib.hid rfl, hst, hB⟩
      case round =>
        clear hst hB hzr
        obtain ⟨i1, v2, zs2, out0, hi1, rfl, rfl, HOUT, hrow, hB⟩ := hrel
        have hzr := hB.size
        have hok0 := outerK_ok hrs (by omega) HOUT.out
        by_cases hlt2 : i1 < k
        · obtain ⟨p, o1, rfl, hp0, hcs⟩ := h.cells (by omega)
          have HCS := Lib.hid hcs
          obtain ⟨A1, m, c1, B1, q, d1, ⟨hI0, hJ0⟩, hd1, hd2, hd3, hd4⟩ := (hcs i1 hlt2).ex
          clear hcs
          have hra := hrs.each i1 (by omega)
          have HNO : Hid (∀ m : Nat, m ≤ k → innerK rs u (rs.getD i1 row0) out0 m = none → o = none) := Lib.hid (fun m hm hh => HO.out.symm.trans (less_none (k := m) (by omega) HOUT.out hh (by omega)))
          have HNX : Hid (∀ o2 : List RowV, innerK rs u (rs.getD i1 row0) out0 rs.length = some o2 → outerK rs u (i1 + 1) = some o2) := Lib.hid (fun o2 hh => less_next HOUT.out hh)
          obtain ⟨xs, b, s, us, hxx⟩ := row_at rs i1
          rw [hxx] at hI0 hJ0 hd2 hd3 hra HNO HNX
          dsimp only at hI0 hJ0 hd2 hd3
          have xc1 := (hB.cell (p := ⟨p, o1 + i1 * 4, none⟩) hp0).trans hd1
          have xc2 := (hB.cell (p := ⟨p, o1 + i1 * 4 + 1, none⟩) hp0).trans hd2
          have xc3 := (hB.cell (p := ⟨p, o1 + i1 * 4 + 2, none⟩) hp0).trans hd3
          have xc4 := (hB.cell (p := ⟨p, o1 + i1 * 4 + 3, none⟩) hp0).trans hd4
          clear hd1 hd2 hd3 hd4
          obtain ⟨hl4, _, _⟩ := linOk_len hra.lin
          have hm4 : m = 4 := hI0.len.symm.trans hl4
          subst hm4
          clear hxx hl4
          have hpw : p < wr.heap.size := by omega
          go_wp2_with fail
          obtain ⟨wo, rfl⟩ : ∃ x : World, x = wr := ⟨wr, rfl⟩
          go_loopw [6, 41] (fun v0 i wr => ∃ (j : Nat) (v : Value) (zs : List Value) (out : List RowV), j ≤ k ∧ i = .int .i64 j ∧ v = v0 ∧ Hid (innerK rs u ((xs, b, s), us) out0 j = some out) ∧ RowG wr 72 w.heap.size v out.length out zs ∧ Box4 wr wo.heap.size (.slice A1 4 c1) (.int .i64 b) (.bool s) (.slice B1 q d1) ∧ v.ownBlock ≠ some wo.heap.size ∧ Below w.heap.size w wr) (fun _ i _ => k - (intOf i).toNat)
          case atStart => exact ⟨0, _, zs2, out0, by omega, rfl, rfl, Lib.hid rfl, hrow.later (by (repeat (first | with_reducible exact Below.refl _ _ | with_reducible assumption | (with_reducible refine below_drewN ?_ _) | (with_reducible refine Below.drew ?_) | (with_reducible refine Below.setCell ?_ (by first | omega | (simp; done) | (simp; omega)) _) | (with_reducible refine Below.alloc ?_ (by first | omega | (simp; done) | (simp; omega)) _) | refine Below.trans ?_ (Below.mono (by with_reducible assumption) (by first | omega | (simp; done) | (simp; omega)))))), ⟨by go_simp, by go_simp, by go_simp, by go_simp⟩, own_ne hrow.own (Nat.le_refl _), by (repeat (first | with_reducible exact Below.refl _ _ | with_reducible assumption | (with_reducible refine below_drewN ?_ _) | (with_reducible refine Below.drew ?_) | (with_reducible refine Below.setCell ?_ (by first | omega | (simp; done) | (simp; omega)) _) | (with_reducible refine Below.alloc ?_ (by first | omega | (simp; done) | (simp; omega)) _) | refine Below.trans ?_ (Below.mono (by with_reducible assumption) (by first | omega | (simp; done) | (simp; omega)))))⟩
          case round =>
            obtain ⟨j, v, zs, out, hjk, rfl, rfl, HIN, hrow, hbox, hne, hB2⟩ := hrel
            have hzq := hB2.size
            have hbl := hbox.lt
            have hok := innerK_ok hrs hra hok0 (by omega) HIN.out
            have hmo := hok.many
            by_cases hlt3 : j < k
            · obtain ⟨A2, m2, c2, B2, q2, d2, ⟨hI2, hJ2⟩, hd1, hd2, hd3, hd4⟩ := (HCS.out j hlt3).ex
              have hrb := hrs.each j (by omega)
              have HSK := Lib.hid (@inner_skip rs u j ((xs, b, s), us) out0 out HIN.out)
              have HYS := Lib.hid (@inner_yes rs u j ((xs, b, s), us) out0 out HIN.out)
              have HNN := Lib.hid (@inner_no rs u j ((xs, b, s), us) out0 out HIN.out)
              obtain ⟨ys, b', s', vs, hyy⟩ := row_at rs j
              rw [hyy] at hI2 hJ2 hd2 hd3 hrb HSK HYS HNN
              dsimp only at hI2 hJ2 hd2 hd3
              have zc1 := (hB2.cell (p := ⟨p, o1 + j * 4, none⟩) hp0).trans hd1
              have zc2 := (hB2.cell (p := ⟨p, o1 + j * 4 + 1, none⟩) hp0).trans hd2
              have zc3 := (hB2.cell (p := ⟨p, o1 + j * 4 + 2, none⟩) hp0).trans hd3
              have zc4 := (hB2.cell (p := ⟨p, o1 + j * 4 + 3, none⟩) hp0).trans hd4
              clear hd1 hd2 hd3 hd4
              obtain ⟨hl4', _, _⟩ := linOk_len hrb.lin
              have hm4' : m2 = 4 := hI2.len.symm.trans hl4'
              subst hm4'
              clear hl4' hyy
              have hpq : p < wr.heap.size := by omega
              obtain ⟨x, hx⟩ : ∃ x, cf ((xs, b, s), us) u = x := ⟨_, rfl⟩
              obtain ⟨y, hy⟩ : ∃ y, cf ((ys, b', s'), vs) u = y := ⟨_, rfl⟩
              obtain ⟨pa, oa, ea, hpa, hcx⟩ := hI0.cells (by omega)
              obtain ⟨pb, ob, eb, hpb, hcy⟩ := hI2.cells (by omega)
              subst ea eb
              have hcx1 := (hB2.cell (p := ⟨pa, oa + u, none⟩) hpa).trans (hcx u hu)
              have hcy1 := (hB2.cell (p := ⟨pb, ob + u, none⟩) hpb).trans (hcy u hu)
              rw [show xs.getD u 0 = x from hx] at hcx1
              rw [show ys.getD u 0 = y from hy] at hcy1
              clear hcx hcy
              have hpaq : pa < wr.heap.size := by omega
              have hpbq : pb < wr.heap.size := by omega
              obtain ⟨Av, cv, rfl⟩ := hrow.form
              obtain ⟨a0, a1, a2, a3⟩ := hbox
              have hbox : Box4 wr wo.heap.size (.slice (some ⟨pa, oa, none⟩) 4 c1) (.int .i64 b) (.bool s) (.slice B1 q d1) := ⟨a0, a1, a2, a3⟩
              by_cases hx0 : 0 < x
              · by_cases hy0 : y < 0
                · obtain ⟨okb, hokb⟩ : ∃ o, pairOk ((xs, b, s), us) ((ys, b', s'), vs) u = o := ⟨_, rfl⟩
                  go_wp2_with fail
                  refine (iPaired_any (N := N) (v := u) b b' s s' (hI0.later (by (repeat (first | with_reducible exact Below.refl _ _ | with_reducible assumption | (with_reducible refine below_drewN ?_ _) | (with_reducible refine Below.drew ?_) | (with_reducible refine Below.setCell ?_ (by first | omega | (simp; done) | (simp; omega)) _) | (with_reducible refine Below.alloc ?_ (by first | omega | (simp; done) | (simp; omega)) _) | refine Below.trans ?_ (Below.mono (by with_reducible assumption) (by first | omega | (simp; done) | (simp; omega))))))) (hI2.later (by (repeat (first | with_reducible exact Below.refl _ _ | with_reducible assumption | (with_reducible refine below_drewN ?_ _) | (with_reducible refine Below.drew ?_) | (with_reducible refine Below.setCell ?_ (by first | omega | (simp; done) | (simp; omega)) _) | (with_reducible refine Below.alloc ?_ (by first | omega | (simp; done) | (simp; omega)) _) | refine Below.trans ?_ (Below.mono (by with_reducible assumption) (by first | omega | (simp; done) | (simp; omega))))))) (hJ0.later (by (repeat (first | with_reducible exact Below.refl _ _ | with_reducible assumption | (with_reducible refine below_drewN ?_ _) | (with_reducible refine Below.drew ?_) | (with_reducible refine Below.setCell ?_ (by first | omega | (simp; done) | (simp; omega)) _) | (with_reducible refine Below.alloc ?_ (by first | omega | (simp; done) | (simp; omega)) _) | refine Below.trans ?_ (Below.mono (by with_reducible assumption) (by first | omega | (simp; done) | (simp; omega))))))) (hJ2.later (by (repeat (first | with_reducible exact Below.refl _ _ | with_reducible assumption | (with_reducible refine below_drewN ?_ _) | (with_reducible refine Below.drew ?_) | (with_reducible refine Below.setCell ?_ (by first | omega | (simp; done) | (simp; omega)) _) | (with_reducible refine Below.alloc ?_ (by first | omega | (simp; done) | (simp; omega)) _) | refine Below.trans ?_ (Below.mono (by with_reducible assumption) (by first | omega | (simp; done) | (simp; omega))))))) hra hrb hu hN (by rw [hx]; exact hx0) (by rw [hy]; exact hy0)).mono ?_
                  rw [hokb]
                  rintro e w1 ⟨X, q9, cap, z, t, U, m9, d9, rfl, hP, hb1⟩
                  have hbq : Below wr.heap.size wr w1 := by (repeat (first | with_reducible exact Below.refl _ _ | with_reducible assumption | (with_reducible refine below_drewN ?_ _) | (with_reducible refine Below.drew ?_) | (with_reducible refine Below.setCell ?_ (by first | omega | (simp; done) | (simp; omega)) _) | (with_reducible refine Below.alloc ?_ (by first | omega | (simp; done) | (simp; omega)) _) | refine Below.trans ?_ (Below.mono (by with_reducible assumption) (by first | omega | (simp; done) | (simp; omega)))))
                  have hown1 := hrow.own
                  have hrow1 := hrow.later hbq
                  have hbox1 := hbox.later hbq
                  have hz1 := hb1.size; (try simp at hz1); have hB1 : Below w.heap.size w w1 := (by refine Below.trans ?_ (Below.mono hb1 (by first | omega | (simp; done) | (simp; omega))); (repeat (first | with_reducible exact Below.refl _ _ | with_reducible assumption | (with_reducible refine below_drewN ?_ _) | (with_reducible refine Below.drew ?_) | (with_reducible refine Below.setCell ?_ (by first | omega | (simp; done) | (simp; omega)) _) | (with_reducible refine Below.alloc ?_ (by first | omega | (simp; done) | (simp; omega)) _) | refine Below.trans ?_ (Below.mono (by with_reducible assumption) (by first | omega | (simp; done) | (simp; omega))))))
                  have HP := Lib.hid hP
                  clear hb1 hP hrow hbox a0 a1 a2 a3
                  cases okb
                  · have ho := HNO.out (j + 1) (by omega) (HNN.out ⟨by rw [hx]; exact hx0, by rw [hy]; exact hy0⟩ (by rw [hokb]; simp))
                    subst ho
                    go_wp2
                    refine bodyPost_ret (v := .tuple #[.slice none 0 0, .bool false]) (by simp only [results, Try.results48]; go_simp) rfl ⟨none, 0, 0, rfl, fun _ e => (by cases e), ?_⟩
                    (repeat (first | with_reducible exact Below.refl _ _ | with_reducible assumption | (with_reducible refine below_drewN ?_ _) | (with_reducible refine Below.drew ?_) | (with_reducible refine Below.setCell ?_ (by first | omega | (simp; done) | (simp; omega)) _) | (with_reducible refine Below.alloc ?_ (by first | omega | (simp; done) | (simp; omega)) _) | refine Below.trans ?_ (Below.mono (by with_reducible assumption) (by first | omega | (simp; done) | (simp; omega)))))
                  · by_cases h200 : out.length = 200
                    · have ho := HNO.out (j + 1) (by omega) (HNN.out ⟨by rw [hx]; exact hx0, by rw [hy]; exact hy0⟩ (by omega))
                      subst ho
                      have hd200 : ((out.length : Int) == 200) = true := by simp; omega
                      go_wp2
                      refine bodyPost_ret (v := .tuple #[.slice none 0 0, .bool false]) (by simp only [results, Try.results48]; go_simp) rfl ⟨none, 0, 0, rfl, fun _ e => (by cases e), ?_⟩
                      (repeat (first | with_reducible exact Below.refl _ _ | with_reducible assumption | (with_reducible refine below_drewN ?_ _) | (with_reducible refine Below.drew ?_) | (with_reducible refine Below.setCell ?_ (by first | omega | (simp; done) | (simp; omega)) _) | (with_reducible refine Below.alloc ?_ (by first | omega | (simp; done) | (simp; omega)) _) | refine Below.trans ?_ (Below.mono (by with_reducible assumption) (by first | omega | (simp; done) | (simp; omega)))))
                    · have hd200 : ((out.length : Int) == 200) = false := by simp; omega
                      have HX := Lib.hid (HYS.out ⟨by rw [hx]; exact hx0, by rw [hy]; exact hy0⟩ hokb (by omega))
                      obtain ⟨⟨hIX, hIU⟩, ⟨hFX, hFU⟩, rfl, rfl⟩ := HP.out rfl
                      have hOX := Off.freshF hown1 hFX (by simp)
                      have hOU := Off.freshF hown1 hFU (by simp)
                      clear HP
                      generalize hpr : pairRow ((xs, b, s), us) ((ys, b', s'), vs) u = R at *
                      have hrow := hrow1
                      go_wp2_with (first | (at_builtin; refine wpList_append_lies _ (by rfl) (.tmp 75) (.tmp 77) _ (by rfl) w.heap.size 72 j0 _ 4 64 Try.underlying67 hj yj0 yj1 yj2 rfl (by omega) (.slice Av out.length cv) out.length zs (by rfl) (RowG.later hrow (by (repeat (first | with_reducible exact Below.refl _ _ | with_reducible assumption | (with_reducible refine below_drewN ?_ _) | (with_reducible refine Below.drew ?_) | (with_reducible refine Below.setCell ?_ (by first | omega | (simp; done) | (simp; omega)) _) | (with_reducible refine Below.alloc ?_ (by first | omega | (simp; done) | (simp; omega)) _) | refine Below.trans ?_ (Below.mono (by with_reducible assumption) (by first | omega | (simp; done) | (simp; omega))))))).own ⟨w1.heap.size + 1, 0, none⟩ 1 1 [.slice X q9 cap, .int .i64 R.1.2.1, .bool R.1.2.2, .slice U m9 d9] (by rfl) (by rfl) (news4 (by first | omega | (simp; done) | (simp; omega))) (by simp [Value.oneCell']) (by omega) (by unfold maxLen; omega) (by omega) (by first | omega | (simp; done) | (simp; omega)) (w1.heap.size + 1 + 1) (by simp) ?_; intro g' cap' wq2 hown3 hgrow hat hlt2; (have hrow4 := (RowG.later hrow (by (repeat (first | with_reducible exact Below.refl _ _ | with_reducible assumption | (with_reducible refine below_drewN ?_ _) | (with_reducible refine Below.drew ?_) | (with_reducible refine Below.setCell ?_ (by first | omega | (simp; done) | (simp; omega)) _) | (with_reducible refine Below.alloc ?_ (by first | omega | (simp; done) | (simp; omega)) _) | refine Below.trans ?_ (Below.mono (by with_reducible assumption) (by first | omega | (simp; done) | (simp; omega))))))).snoc (x := R) hown3 hgrow hat (by simp) (hIX.later (by (repeat (first | with_reducible exact Below.refl _ _ | with_reducible assumption | (with_reducible refine below_drewN ?_ _) | (with_reducible refine Below.drew ?_) | (with_reducible refine Below.setCell ?_ (by first | omega | (simp; done) | (simp; omega)) _) | (with_reducible refine Below.alloc ?_ (by first | omega | (simp; done) | (simp; omega)) _) | refine Below.trans ?_ (Below.mono (by with_reducible assumption) (by first | omega | (simp; done) | (simp; omega))))))) (hIU.later (by (repeat (first | with_reducible exact Below.refl _ _ | with_reducible assumption | (with_reducible refine below_drewN ?_ _) | (with_reducible refine Below.drew ?_) | (with_reducible refine Below.setCell ?_ (by first | omega | (simp; done) | (simp; omega)) _) | (with_reducible refine Below.alloc ?_ (by first | omega | (simp; done) | (simp; omega)) _) | refine Below.trans ?_ (Below.mono (by with_reducible assumption) (by first | omega | (simp; done) | (simp; omega))))))) hOX hOU; have hB4 : Below w.heap.size w wq2 := Below.grown (by (repeat (first | with_reducible exact Below.refl _ _ | with_reducible assumption | (with_reducible refine below_drewN ?_ _) | (with_reducible refine Below.drew ?_) | (with_reducible refine Below.setCell ?_ (by first | omega | (simp; done) | (simp; omega)) _) | (with_reducible refine Below.alloc ?_ (by first | omega | (simp; done) | (simp; omega)) _) | refine Below.trans ?_ (Below.mono (by with_reducible assumption) (by first | omega | (simp; done) | (simp; omega)))))) hgrow (by first | omega | (simp; done) | (simp; omega)) (fun j hj => (hrow.own.lt j hj).1); have hbox4 := (hbox1.later (by (repeat (first | with_reducible exact Below.refl _ _ | with_reducible assumption | (with_reducible refine below_drewN ?_ _) | (with_reducible refine Below.drew ?_) | (with_reducible refine Below.setCell ?_ (by first | omega | (simp; done) | (simp; omega)) _) | (with_reducible refine Below.alloc ?_ (by first | omega | (simp; done) | (simp; omega)) _) | refine Below.trans ?_ (Below.mono (by with_reducible assumption) (by first | omega | (simp; done) | (simp; omega))))))).off hgrow hne; have hne4 : (Value.slice (some ⟨g', 0, none⟩) (out.length + 1) cap').ownBlock ≠ some wo.heap.size := own_ne2 hat hne (by omega) rfl; clear hown3 hgrow hat hlt2 hrow)))
                      go_roundw
                      case rel => exact ⟨j + 1, _, _, _, by omega, by go_num, rfl, HX, by rw [List.length_append]; exact hrow4, hbox4, hne4, hB4⟩
                      case measure => simp [intOf]; omega
                · have HX := Lib.hid (HSK.out (by rw [hy]; omega))
                  go_wp2
                  go_roundw
                  case rel => exact ⟨j + 1, _, zs, out, by omega, by go_num, rfl, HX, hrow.later (by (repeat (first | with_reducible exact Below.refl _ _ | with_reducible assumption | (with_reducible refine below_drewN ?_ _) | (with_reducible refine Below.drew ?_) | (with_reducible refine Below.setCell ?_ (by first | omega | (simp; done) | (simp; omega)) _) | (with_reducible refine Below.alloc ?_ (by first | omega | (simp; done) | (simp; omega)) _) | refine Below.trans ?_ (Below.mono (by with_reducible assumption) (by first | omega | (simp; done) | (simp; omega)))))), hbox.later (by (repeat (first | with_reducible exact Below.refl _ _ | with_reducible assumption | (with_reducible refine below_drewN ?_ _) | (with_reducible refine Below.drew ?_) | (with_reducible refine Below.setCell ?_ (by first | omega | (simp; done) | (simp; omega)) _) | (with_reducible refine Below.alloc ?_ (by first | omega | (simp; done) | (simp; omega)) _) | refine Below.trans ?_ (Below.mono (by with_reducible assumption) (by first | omega | (simp; done) | (simp; omega)))))), hne, by (repeat (first | with_reducible exact Below.refl _ _ | with_reducible assumption | (with_reducible refine below_drewN ?_ _) | (with_reducible refine Below.drew ?_) | (with_reducible refine Below.setCell ?_ (by first | omega | (simp; done) | (simp; omega)) _) | (with_reducible refine Below.alloc ?_ (by first | omega | (simp; done) | (simp; omega)) _) | refine Below.trans ?_ (Below.mono (by with_reducible assumption) (by first | omega | (simp; done) | (simp; omega)))))⟩
                  case measure => simp [intOf]; omega
              · have HX := Lib.hid (HSK.out (by rw [hx]; omega))
                go_wp2
                go_roundw
                case rel => exact ⟨j + 1, _, zs, out, by omega, by go_num, rfl, HX, hrow.later (by (repeat (first | with_reducible exact Below.refl _ _ | with_reducible assumption | (with_reducible refine below_drewN ?_ _) | (with_reducible refine Below.drew ?_) | (with_reducible refine Below.setCell ?_ (by first | omega | (simp; done) | (simp; omega)) _) | (with_reducible refine Below.alloc ?_ (by first | omega | (simp; done) | (simp; omega)) _) | refine Below.trans ?_ (Below.mono (by with_reducible assumption) (by first | omega | (simp; done) | (simp; omega)))))), hbox.later (by (repeat (first | with_reducible exact Below.refl _ _ | with_reducible assumption | (with_reducible refine below_drewN ?_ _) | (with_reducible refine Below.drew ?_) | (with_reducible refine Below.setCell ?_ (by first | omega | (simp; done) | (simp; omega)) _) | (with_reducible refine Below.alloc ?_ (by first | omega | (simp; done) | (simp; omega)) _) | refine Below.trans ?_ (Below.mono (by with_reducible assumption) (by first | omega | (simp; done) | (simp; omega)))))), hne, by (repeat (first | with_reducible exact Below.refl _ _ | with_reducible assumption | (with_reducible refine below_drewN ?_ _) | (with_reducible refine Below.drew ?_) | (with_reducible refine Below.setCell ?_ (by first | omega | (simp; done) | (simp; omega)) _) | (with_reducible refine Below.alloc ?_ (by first | omega | (simp; done) | (simp; omega)) _) | refine Below.trans ?_ (Below.mono (by with_reducible assumption) (by first | omega | (simp; done) | (simp; omega)))))⟩
                case measure => simp [intOf]; omega
            · obtain rfl : j = k := by omega
              have HX := Lib.hid (HNX.out _ (by rw [hlen0]; exact HIN.out))
              go_wp2
              go_roundw
              case rel => exact ⟨i1 + 1, v, zs, out, by omega, by go_num, rfl, HX, hrow, hB2⟩
              case measure => simp [intOf]; omega
        · obtain rfl : i1 = k := by omega
          have ho : o = some out0 := HO.out.symm.trans (by unfold lessRows; rw [hlen0]; exact HOUT.out)
          obtain ⟨A', c', rfl⟩ := hrow.form
          have hmo := hok0.many
          have hR := hrow.rws (by omega)
          subst ho
          have hdec : decide ((out0.length : Int) ≤ 200) = true := by simp; omega
          go_wp2
          refine bodyPost_ret (v := .tuple #[.slice A' out0.length c', .bool true]) (by simp only [results, Try.results48]; go_simp) rfl ⟨A', _, c', rfl, fun rs' e => by obtain rfl := Option.some.inj e; exact hR, hB⟩
end Go.Proofs.Ytccjbipmlpnhkaa

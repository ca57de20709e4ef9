/- A number between what the rows allow: contracts. -/
import Derived.Test.YtccjbipmlpnhkaaWb
import Derived.Test.YtccjbipmlpnhkaaWr
import Derived.Deep.RegionHeld3
namespace Go.Proofs.Ytccjbipmlpnhkaa
set_option maxRecDepth 100000
open Go.RowKit Go.ChangeShapes Go.WideShapes Go.ChangeAt
set_option linter.unusedSimpArgs false
set_option linter.unusedVariables false

theorem row_at' (rs : List RowV) (k : Nat) : ∃ (xs : List Int) (b : Int) (s : Bool) (us : List Int), rs.getD k row0 = ((xs, b, s), us) := ⟨_, _, _, _, rfl⟩
theorem lessI (a b c d : Int) (t : Bool) (h : lessR a b c d = t) (w : World) :
    Calls Try.prog 86 #[.agg #[.int .i64 a, .int .i64 b], .agg #[.int .i64 c, .int .i64 d]] w fun e w' => e = .returned (.bool t) ∧ Below w.heap.size w w' := by
  subst h; exact iRatLess_any a b c d w
theorem bound_bk {o : Option (Int × Int)} {x y : Int} (h : ∀ p, o = some p → p = (x, y)) (ho : o.isSome = true) : o = some (x, y) := by
  cases o with
  | none => cases ho
  | some p => rw [h p rfl]
theorem put_hi {c : Int} {x y : Int} {l1 l2 h1 h2 : Int} {a b : Bool} (hc : 0 < c) (hp : b = false ∨ lessR x y h1 h2 = true) : endPut c (x, y) ⟨(l1, l2), (h1, h2), a, b⟩ = ⟨(l1, l2), (x, y), a, true⟩ := by
  unfold endPut
  rw [if_pos hc]
  rcases hp with rfl | hp
  · rfl
  · rw [if_pos (by show (!b || lessR x y h1 h2) = true; rw [hp]; simp)]
theorem put_hi0 {c : Int} {x y : Int} {l1 l2 h1 h2 : Int} {a : Bool} (hc : 0 < c) (hp : lessR x y h1 h2 = false) : endPut c (x, y) ⟨(l1, l2), (h1, h2), a, true⟩ = ⟨(l1, l2), (h1, h2), a, true⟩ := by
  unfold endPut
  rw [if_pos hc, if_neg (by show ¬ (!true || lessR x y h1 h2) = true; rw [hp]; simp)]
theorem put_lo {c : Int} {x y : Int} {l1 l2 h1 h2 : Int} {a b : Bool} (hc : ¬ 0 < c) (hp : a = false ∨ lessR l1 l2 x y = true) : endPut c (x, y) ⟨(l1, l2), (h1, h2), a, b⟩ = ⟨(x, y), (h1, h2), true, b⟩ := by
  unfold endPut
  rw [if_neg hc]
  rcases hp with rfl | hp
  · rfl
  · rw [if_pos (by show (!a || lessR l1 l2 x y) = true; rw [hp]; simp)]
theorem put_lo0 {c : Int} {x y : Int} {l1 l2 h1 h2 : Int} {b : Bool} (hc : ¬ 0 < c) (hp : lessR l1 l2 x y = false) : endPut c (x, y) ⟨(l1, l2), (h1, h2), true, b⟩ = ⟨(l1, l2), (h1, h2), true, b⟩ := by
  unfold endPut
  rw [if_neg hc, if_neg (by show ¬ (!true || lessR l1 l2 x y) = true; rw [hp]; simp)]

set_option maxHeartbeats 16000000 in
theorem valueOf_any {A A' : Option Addr} {n c c' u N : Nat} {rs : List RowV} {vs : List (Int × Int)} {w : World} (h : Rws w A n rs) (h' : Rats w A' 4 vs) (hrs : RowsOk N rs) (hu : u < 4) :
    Calls Try.prog 56 #[.slice A n c, .int .i64 u, .slice A' 4 c'] w (RatBk (valueR rs u vs) w) := by
  have hlen0 := h.len
  have hmany := hrs.many
  rw [hlen0] at hmany
  obtain ⟨o, ho⟩ : ∃ o, valueR rs u vs = o := ⟨_, rfl⟩
  rw [ho]
  have HO := Lib.hid ho
  clear ho
  go_enter Try.func56, Try.ntmps56
  go_wp2_with fail
  go_loopw [10, 11, 19] (fun vl vh i wr => ∃ (k : Nat) (l1 l2 h1 h2 : Int) (hl hh : Bool), k ≤ n ∧ i = .int .i64 k ∧ vl = .bool hl ∧ vh = .bool hh ∧ Hid (endsTo rs u vs k = some ⟨(l1, l2), (h1, h2), hl, hh⟩) ∧ Lv wr w.heap.size 0 0 ∧ Lv wr (w.heap.size + 1) l1 l2 ∧ Lv wr (w.heap.size + 1 + 1) h1 h2 ∧ Below w.heap.size w wr) (fun _ _ i _ => n - (intOf i).toNat)
  case atStart => exact ⟨0, 0, 0, 0, 0, false, false, by omega, rfl, rfl, rfl, Lib.hid rfl, ⟨by go_simp, by go_simp, by go_simp, by go_simp, (by first | omega | (simp; done) | (simp; omega))⟩, ⟨by go_simp, by go_simp, by go_simp, by go_simp, (by first | omega | (simp; done) | (simp; omega))⟩, ⟨by go_simp, by go_simp, by go_simp, by go_simp, (by first | omega | (simp; done) | (simp; omega))⟩, by (repeat (first | with_reducible exact Below.refl _ _ | with_reducible assumption | (with_reducible refine below_drewN ?_ _) | (with_reducible refine Below.drew ?_) | (with_reducible refine Below.setCell ?_ (by first | omega | (simp; done) | (simp; omega)) _) | (with_reducible refine Below.alloc ?_ (by first | omega | (simp; done) | (simp; omega)) _) | refine Below.trans ?_ (Below.mono (by with_reducible assumption) (by first | omega | (simp; done) | (simp; omega)))))⟩
  case round =>
    obtain ⟨k, l1, l2, h1, h2, hl, hh, hk, rfl, rfl, rfl, HE, ⟨r1, r2, r3, r4, r5⟩, ⟨m1, m2, m3, m4, m5⟩, ⟨n1, n2, n3, n4, n5⟩, hB⟩ := hrel
    have hzr := hB.size
    by_cases hlt : k < n
    · obtain ⟨p, o1, rfl, hp0, hcs⟩ := h.cells (by omega)
      obtain ⟨A1, m, c1, B1, q, d1, ⟨hI0, hJ0⟩, hd1, hd2, hd3, hd4⟩ := (hcs k hlt).ex
      clear hcs
      have hr := hrs.each k (by rw [hlen0]; omega)
      have HSK := Lib.hid (@ends_skip rs u k vs ⟨(l1, l2), (h1, h2), hl, hh⟩ HE.out)
      have HNO := Lib.hid (fun hc hb => HO.out.symm.trans (value_none (endsTo_none (ends_none (rs := rs) (u := u) (k := k) (vs := vs) HE.out hc hb) (by omega))))
      have HPT := Lib.hid (@ends_put rs u k vs ⟨(l1, l2), (h1, h2), hl, hh⟩ HE.out)
      obtain ⟨xs, b, s, us, hxx⟩ := row_at' rs k
      rw [hxx] at HSK HNO HPT hI0 hJ0 hd2 hd3 hr
      dsimp only at hI0 hJ0 hd2 hd3 HNO HPT
      have xc1 := (hB.cell (p := ⟨p, o1 + k * 4, none⟩) hp0).trans hd1
      have xc2 := (hB.cell (p := ⟨p, o1 + k * 4 + 1, none⟩) hp0).trans hd2
      have xc3 := (hB.cell (p := ⟨p, o1 + k * 4 + 2, none⟩) hp0).trans hd3
      have xc4 := (hB.cell (p := ⟨p, o1 + k * 4 + 3, none⟩) hp0).trans hd4
      clear hd1 hd2 hd3 hd4
      obtain ⟨hl4, _, _⟩ := linOk_len hr.lin
      have hm4 : m = 4 := hI0.len.symm.trans hl4
      subst hm4
      have hlin := hr.lin
      dsimp only at hlin
      obtain ⟨pa, oa, rfl, hpa, hcx⟩ := hI0.cells (by omega)
      have hcx1 := (hB.cell (p := ⟨pa, oa + u, none⟩) hpa).trans (hcx u hu)
      have hpw : p < wr.heap.size := by omega
      have hpaw : pa < wr.heap.size := by omega
      have hcb := hr.cf u
      have hcf : cf ((xs, b, s), us) u = xs.getD u 0 := rfl
      rw [hcf] at HSK HNO HPT hcb
      clear hcx hl4 hr hxx hcf
      generalize xs.getD u 0 = x at *
      by_cases hx0 : x = 0
      · subst hx0
        have HX := Lib.hid (HSK.out rfl)
        go_wp2
        go_roundw
        case rel => exact ⟨k + 1, _, _, _, _, _, _, by omega, by go_num, rfl, rfl, HX, ⟨by go_simp, by go_simp, by go_simp, by go_simp, (by first | omega | (simp; done) | (simp; omega))⟩, ⟨by go_simp, by go_simp, by go_simp, by go_simp, (by first | omega | (simp; done) | (simp; omega))⟩, ⟨by go_simp, by go_simp, by go_simp, by go_simp, (by first | omega | (simp; done) | (simp; omega))⟩, by (repeat (first | with_reducible exact Below.refl _ _ | with_reducible assumption | (with_reducible refine below_drewN ?_ _) | (with_reducible refine Below.drew ?_) | (with_reducible refine Below.setCell ?_ (by first | omega | (simp; done) | (simp; omega)) _) | (with_reducible refine Below.alloc ?_ (by first | omega | (simp; done) | (simp; omega)) _) | refine Below.trans ?_ (Below.mono (by with_reducible assumption) (by first | omega | (simp; done) | (simp; omega)))))⟩
        case measure => simp [intOf]; omega
      have hx2 : (x == 0) = false := by simpa using hx0
      go_wp2_with fail
      refine (boundBy_any (xs := xs) (vs := vs) (u := u) b s (hI0.later (by (repeat (first | with_reducible exact Below.refl _ _ | with_reducible assumption | (with_reducible refine below_drewN ?_ _) | (with_reducible refine Below.drew ?_) | (with_reducible refine Below.setCell ?_ (by first | omega | (simp; done) | (simp; omega)) _) | (with_reducible refine Below.alloc ?_ (by first | omega | (simp; done) | (simp; omega)) _) | refine Below.trans ?_ (Below.mono (by with_reducible assumption) (by first | omega | (simp; done) | (simp; omega))))))) (h'.later (by (repeat (first | with_reducible exact Below.refl _ _ | with_reducible assumption | (with_reducible refine below_drewN ?_ _) | (with_reducible refine Below.drew ?_) | (with_reducible refine Below.setCell ?_ (by first | omega | (simp; done) | (simp; omega)) _) | (with_reducible refine Below.alloc ?_ (by first | omega | (simp; done) | (simp; omega)) _) | refine Below.trans ?_ (Below.mono (by with_reducible assumption) (by first | omega | (simp; done) | (simp; omega))))))) hlin hu).mono ?_
      rintro e w1 ⟨X, Y, rfl, hbx, hb1⟩
      obtain ⟨ob, hob⟩ : ∃ ob, boundR xs b vs u = ob := ⟨_, rfl⟩
      rw [hob] at hbx HNO HPT ⊢
      obtain ⟨ok, hok⟩ : ∃ ok, ob.isSome = ok := ⟨_, rfl⟩
      rw [hok]
      have HB := Lib.hid hbx
      have hz1 := hb1.size; (try simp at hz1); have hB1 : Below w.heap.size w w1 := (by refine Below.trans ?_ (Below.mono hb1 (by first | omega | (simp; done) | (simp; omega))); (repeat (first | with_reducible exact Below.refl _ _ | with_reducible assumption | (with_reducible refine below_drewN ?_ _) | (with_reducible refine Below.drew ?_) | (with_reducible refine Below.setCell ?_ (by first | omega | (simp; done) | (simp; omega)) _) | (with_reducible refine Below.alloc ?_ (by first | omega | (simp; done) | (simp; omega)) _) | refine Below.trans ?_ (Below.mono (by with_reducible assumption) (by first | omega | (simp; done) | (simp; omega)))))); obtain ⟨kc_, fc_, lc_⟩ := keep_later (a := ⟨w.heap.size, 0, none⟩) (v := .int .i64 0) hb1 (by go_simp) (by go_simp); obtain ⟨kc_, fc_, lc_⟩ := keep_later (a := ⟨w.heap.size, 1, none⟩) (v := .int .i64 0) hb1 (by go_simp) (by go_simp); obtain ⟨kc_, fc_, lc_⟩ := keep_later (a := ⟨w.heap.size+1, 0, none⟩) (v := .int .i64 l1) hb1 (by go_simp) (by go_simp); obtain ⟨kc_, fc_, lc_⟩ := keep_later (a := ⟨w.heap.size+1, 1, none⟩) (v := .int .i64 l2) hb1 (by go_simp) (by go_simp); obtain ⟨kc_, fc_, lc_⟩ := keep_later (a := ⟨w.heap.size+1+1, 0, none⟩) (v := .int .i64 h1) hb1 (by go_simp) (by go_simp); obtain ⟨kc_, fc_, lc_⟩ := keep_later (a := ⟨w.heap.size+1+1, 1, none⟩) (v := .int .i64 h2) hb1 (by go_simp) (by go_simp); clear hb1 hbx hob r1 r2 r3 r4 m1 m2 m3 m4 n1 n2 n3 n4
      cases ok
      · have ho := HNO.out hx0 (by cases ob <;> simp at hok ⊢)
        subst ho
        go_wp2
        refine bodyPost_ret (v := .tuple #[.agg #[.int .i64 0, .int .i64 0], .bool false]) (by simp only [results, Try.results56]; go_simp) rfl ⟨0, 0, rfl, fun _ e => (by cases e), ?_⟩
        (repeat (first | with_reducible exact Below.refl _ _ | with_reducible assumption | (with_reducible refine below_drewN ?_ _) | (with_reducible refine Below.drew ?_) | (with_reducible refine Below.setCell ?_ (by first | omega | (simp; done) | (simp; omega)) _) | (with_reducible refine Below.alloc ?_ (by first | omega | (simp; done) | (simp; omega)) _) | refine Below.trans ?_ (Below.mono (by with_reducible assumption) (by first | omega | (simp; done) | (simp; omega)))))
      have HBX := Lib.hid (bound_bk HB.out hok)
      clear hok HNO HSK
      by_cases hxp : 0 < x
      · cases hh
        · have HX : Hid (endsTo rs u vs (k + 1) = some _) := Lib.hid ((HPT.out hx0 HBX.out).trans (congrArg some (put_hi hxp (.inl rfl))))
          go_wp2
          go_roundw
          case rel => exact ⟨k + 1, _, _, _, _, _, _, by omega, by go_num, rfl, rfl, HX, ⟨by go_simp, by go_simp, by go_simp, by go_simp, (by first | omega | (simp; done) | (simp; omega))⟩, ⟨by go_simp, by go_simp, by go_simp, by go_simp, (by first | omega | (simp; done) | (simp; omega))⟩, ⟨by go_simp, by go_simp, by go_simp, by go_simp, (by first | omega | (simp; done) | (simp; omega))⟩, by (repeat (first | with_reducible exact Below.refl _ _ | with_reducible assumption | (with_reducible refine below_drewN ?_ _) | (with_reducible refine Below.drew ?_) | (with_reducible refine Below.setCell ?_ (by first | omega | (simp; done) | (simp; omega)) _) | (with_reducible refine Below.alloc ?_ (by first | omega | (simp; done) | (simp; omega)) _) | refine Below.trans ?_ (Below.mono (by with_reducible assumption) (by first | omega | (simp; done) | (simp; omega)))))⟩
          case measure => simp [intOf]; omega
        · obtain ⟨tl, htl⟩ : ∃ t, lessR X Y h1 h2 = t := ⟨_, rfl⟩
          go_wp2_with fail
          refine (lessI X Y h1 h2 tl htl _).mono ?_
          rintro e w2 ⟨rfl, hb1⟩
          have hz1 := hb1.size; (try simp at hz1); have hB1 : Below w.heap.size w w2 := (by refine Below.trans ?_ (Below.mono hb1 (by first | omega | (simp; done) | (simp; omega))); (repeat (first | with_reducible exact Below.refl _ _ | with_reducible assumption | (with_reducible refine below_drewN ?_ _) | (with_reducible refine Below.drew ?_) | (with_reducible refine Below.setCell ?_ (by first | omega | (simp; done) | (simp; omega)) _) | (with_reducible refine Below.alloc ?_ (by first | omega | (simp; done) | (simp; omega)) _) | refine Below.trans ?_ (Below.mono (by with_reducible assumption) (by first | omega | (simp; done) | (simp; omega)))))); obtain ⟨kc_, fc_, lc_⟩ := keep_later (a := ⟨w.heap.size, 0, none⟩) (v := .int .i64 0) hb1 (by go_simp) (by go_simp); obtain ⟨kc_, fc_, lc_⟩ := keep_later (a := ⟨w.heap.size, 1, none⟩) (v := .int .i64 0) hb1 (by go_simp) (by go_simp); obtain ⟨kc_, fc_, lc_⟩ := keep_later (a := ⟨w.heap.size+1, 0, none⟩) (v := .int .i64 l1) hb1 (by go_simp) (by go_simp); obtain ⟨kc_, fc_, lc_⟩ := keep_later (a := ⟨w.heap.size+1, 1, none⟩) (v := .int .i64 l2) hb1 (by go_simp) (by go_simp); obtain ⟨kc_, fc_, lc_⟩ := keep_later (a := ⟨w.heap.size+1+1, 0, none⟩) (v := .int .i64 h1) hb1 (by go_simp) (by go_simp); obtain ⟨kc_, fc_, lc_⟩ := keep_later (a := ⟨w.heap.size+1+1, 1, none⟩) (v := .int .i64 h2) hb1 (by go_simp) (by go_simp); obtain ⟨kc_, fc_, lc_⟩ := keep_later (a := ⟨w1.heap.size, 0, none⟩) (v := .int .i64 X) hb1 (by go_simp) (by go_simp); obtain ⟨kc_, fc_, lc_⟩ := keep_later (a := ⟨w1.heap.size, 1, none⟩) (v := .int .i64 Y) hb1 (by go_simp) (by go_simp); clear hb1
          cases tl
          · have HX : Hid (endsTo rs u vs (k + 1) = some _) := Lib.hid ((HPT.out hx0 HBX.out).trans (congrArg some (put_hi0 hxp htl)))
            go_wp2
            go_roundw
            case rel => exact ⟨k + 1, _, _, _, _, _, _, by omega, by go_num, rfl, rfl, HX, ⟨by go_simp, by go_simp, by go_simp, by go_simp, (by first | omega | (simp; done) | (simp; omega))⟩, ⟨by go_simp, by go_simp, by go_simp, by go_simp, (by first | omega | (simp; done) | (simp; omega))⟩, ⟨by go_simp, by go_simp, by go_simp, by go_simp, (by first | omega | (simp; done) | (simp; omega))⟩, by (repeat (first | with_reducible exact Below.refl _ _ | with_reducible assumption | (with_reducible refine below_drewN ?_ _) | (with_reducible refine Below.drew ?_) | (with_reducible refine Below.setCell ?_ (by first | omega | (simp; done) | (simp; omega)) _) | (with_reducible refine Below.alloc ?_ (by first | omega | (simp; done) | (simp; omega)) _) | refine Below.trans ?_ (Below.mono (by with_reducible assumption) (by first | omega | (simp; done) | (simp; omega)))))⟩
            case measure => simp [intOf]; omega
          · have HX : Hid (endsTo rs u vs (k + 1) = some _) := Lib.hid ((HPT.out hx0 HBX.out).trans (congrArg some (put_hi hxp (.inr htl))))
            go_wp2
            go_roundw
            case rel => exact ⟨k + 1, _, _, _, _, _, _, by omega, by go_num, rfl, rfl, HX, ⟨by go_simp, by go_simp, by go_simp, by go_simp, (by first | omega | (simp; done) | (simp; omega))⟩, ⟨by go_simp, by go_simp, by go_simp, by go_simp, (by first | omega | (simp; done) | (simp; omega))⟩, ⟨by go_simp, by go_simp, by go_simp, by go_simp, (by first | omega | (simp; done) | (simp; omega))⟩, by (repeat (first | with_reducible exact Below.refl _ _ | with_reducible assumption | (with_reducible refine below_drewN ?_ _) | (with_reducible refine Below.drew ?_) | (with_reducible refine Below.setCell ?_ (by first | omega | (simp; done) | (simp; omega)) _) | (with_reducible refine Below.alloc ?_ (by first | omega | (simp; done) | (simp; omega)) _) | refine Below.trans ?_ (Below.mono (by with_reducible assumption) (by first | omega | (simp; done) | (simp; omega)))))⟩
            case measure => simp [intOf]; omega
      · have hxn : x < 0 := by omega
        cases hl
        · have HX : Hid (endsTo rs u vs (k + 1) = some _) := Lib.hid ((HPT.out hx0 HBX.out).trans (congrArg some (put_lo (by omega) (.inl rfl))))
          go_wp2
          go_roundw
          case rel => exact ⟨k + 1, _, _, _, _, _, _, by omega, by go_num, rfl, rfl, HX, ⟨by go_simp, by go_simp, by go_simp, by go_simp, (by first | omega | (simp; done) | (simp; omega))⟩, ⟨by go_simp, by go_simp, by go_simp, by go_simp, (by first | omega | (simp; done) | (simp; omega))⟩, ⟨by go_simp, by go_simp, by go_simp, by go_simp, (by first | omega | (simp; done) | (simp; omega))⟩, by (repeat (first | with_reducible exact Below.refl _ _ | with_reducible assumption | (with_reducible refine below_drewN ?_ _) | (with_reducible refine Below.drew ?_) | (with_reducible refine Below.setCell ?_ (by first | omega | (simp; done) | (simp; omega)) _) | (with_reducible refine Below.alloc ?_ (by first | omega | (simp; done) | (simp; omega)) _) | refine Below.trans ?_ (Below.mono (by with_reducible assumption) (by first | omega | (simp; done) | (simp; omega)))))⟩
          case measure => simp [intOf]; omega
        · obtain ⟨tl, htl⟩ : ∃ t, lessR l1 l2 X Y = t := ⟨_, rfl⟩
          go_wp2_with fail
          refine (lessI l1 l2 X Y tl htl _).mono ?_
          rintro e w2 ⟨rfl, hb1⟩
          have hz1 := hb1.size; (try simp at hz1); have hB1 : Below w.heap.size w w2 := (by refine Below.trans ?_ (Below.mono hb1 (by first | omega | (simp; done) | (simp; omega))); (repeat (first | with_reducible exact Below.refl _ _ | with_reducible assumption | (with_reducible refine below_drewN ?_ _) | (with_reducible refine Below.drew ?_) | (with_reducible refine Below.setCell ?_ (by first | omega | (simp; done) | (simp; omega)) _) | (with_reducible refine Below.alloc ?_ (by first | omega | (simp; done) | (simp; omega)) _) | refine Below.trans ?_ (Below.mono (by with_reducible assumption) (by first | omega | (simp; done) | (simp; omega)))))); obtain ⟨kc_, fc_, lc_⟩ := keep_later (a := ⟨w.heap.size, 0, none⟩) (v := .int .i64 0) hb1 (by go_simp) (by go_simp); obtain ⟨kc_, fc_, lc_⟩ := keep_later (a := ⟨w.heap.size, 1, none⟩) (v := .int .i64 0) hb1 (by go_simp) (by go_simp); obtain ⟨kc_, fc_, lc_⟩ := keep_later (a := ⟨w.heap.size+1, 0, none⟩) (v := .int .i64 l1) hb1 (by go_simp) (by go_simp); obtain ⟨kc_, fc_, lc_⟩ := keep_later (a := ⟨w.heap.size+1, 1, none⟩) (v := .int .i64 l2) hb1 (by go_simp) (by go_simp); obtain ⟨kc_, fc_, lc_⟩ := keep_later (a := ⟨w.heap.size+1+1, 0, none⟩) (v := .int .i64 h1) hb1 (by go_simp) (by go_simp); obtain ⟨kc_, fc_, lc_⟩ := keep_later (a := ⟨w.heap.size+1+1, 1, none⟩) (v := .int .i64 h2) hb1 (by go_simp) (by go_simp); obtain ⟨kc_, fc_, lc_⟩ := keep_later (a := ⟨w1.heap.size, 0, none⟩) (v := .int .i64 X) hb1 (by go_simp) (by go_simp); obtain ⟨kc_, fc_, lc_⟩ := keep_later (a := ⟨w1.heap.size, 1, none⟩) (v := .int .i64 Y) hb1 (by go_simp) (by go_simp); clear hb1
          cases tl
          · have HX : Hid (endsTo rs u vs (k + 1) = some _) := Lib.hid ((HPT.out hx0 HBX.out).trans (congrArg some (put_lo0 (by omega) htl)))
            go_wp2
            go_roundw
            case rel => exact ⟨k + 1, _, _, _, _, _, _, by omega, by go_num, rfl, rfl, HX, ⟨by go_simp, by go_simp, by go_simp, by go_simp, (by first | omega | (simp; done) | (simp; omega))⟩, ⟨by go_simp, by go_simp, by go_simp, by go_simp, (by first | omega | (simp; done) | (simp; omega))⟩, ⟨by go_simp, by go_simp, by go_simp, by go_simp, (by first | omega | (simp; done) | (simp; omega))⟩, by (repeat (first | with_reducible exact Below.refl _ _ | with_reducible assumption | (with_reducible refine below_drewN ?_ _) | (with_reducible refine Below.drew ?_) | (with_reducible refine Below.setCell ?_ (by first | omega | (simp; done) | (simp; omega)) _) | (with_reducible refine Below.alloc ?_ (by first | omega | (simp; done) | (simp; omega)) _) | refine Below.trans ?_ (Below.mono (by with_reducible assumption) (by first | omega | (simp; done) | (simp; omega)))))⟩
            case measure => simp [intOf]; omega
          · have HX : Hid (endsTo rs u vs (k + 1) = some _) := Lib.hid ((HPT.out hx0 HBX.out).trans (congrArg some (put_lo (by omega) (.inr htl))))
            go_wp2
            go_roundw
            case rel => exact ⟨k + 1, _, _, _, _, _, _, by omega, by go_num, rfl, rfl, HX, ⟨by go_simp, by go_simp, by go_simp, by go_simp, (by first | omega | (simp; done) | (simp; omega))⟩, ⟨by go_simp, by go_simp, by go_simp, by go_simp, (by first | omega | (simp; done) | (simp; omega))⟩, ⟨by go_simp, by go_simp, by go_simp, by go_simp, (by first | omega | (simp; done) | (simp; omega))⟩, by (repeat (first | with_reducible exact Below.refl _ _ | with_reducible assumption | (with_reducible refine below_drewN ?_ _) | (with_reducible refine Below.drew ?_) | (with_reducible refine Below.setCell ?_ (by first | omega | (simp; done) | (simp; omega)) _) | (with_reducible refine Below.alloc ?_ (by first | omega | (simp; done) | (simp; omega)) _) | refine Below.trans ?_ (Below.mono (by with_reducible assumption) (by first | omega | (simp; done) | (simp; omega)))))⟩
            case measure => simp [intOf]; omega
    · obtain rfl : k = n := by omega
      have HV := Lib.hid (HO.out.symm.trans (value_some (rs := rs) (u := u) (vs := vs) (by rw [hlen0]; exact HE.out)))
      have hho : ∀ {X Y : Int} {t : Bool}, chooseR ⟨(l1, l2), (h1, h2), hl, hh⟩ = (X, Y, t) → o = toO (X, Y, t) := fun e => HV.out.trans (congrArg toO e)
      clear h h' HO HV HE
      cases hl <;> cases hh
      · have ho : o = toO (0, 1, true) := hho rfl
        subst ho
        go_wp2_with fail
        refine (whole_any 0 _).mono ?_
        rintro e w4 ⟨rfl, hb1⟩
        have hz1 := hb1.size; (try simp at hz1); have hB1 : Below w.heap.size w w4 := (by refine Below.trans ?_ (Below.mono hb1 (by first | omega | (simp; done) | (simp; omega))); (repeat (first | with_reducible exact Below.refl _ _ | with_reducible assumption | (with_reducible refine below_drewN ?_ _) | (with_reducible refine Below.drew ?_) | (with_reducible refine Below.setCell ?_ (by first | omega | (simp; done) | (simp; omega)) _) | (with_reducible refine Below.alloc ?_ (by first | omega | (simp; done) | (simp; omega)) _) | refine Below.trans ?_ (Below.mono (by with_reducible assumption) (by first | omega | (simp; done) | (simp; omega)))))); obtain ⟨kc_, fc_, lc_⟩ := keep_later (a := ⟨w.heap.size, 0, none⟩) (v := .int .i64 0) hb1 (by go_simp) (by go_simp); obtain ⟨kc_, fc_, lc_⟩ := keep_later (a := ⟨w.heap.size, 1, none⟩) (v := .int .i64 0) hb1 (by go_simp) (by go_simp); clear hb1
        go_wp2
        refine bodyPost_ret (v := .tuple #[.agg #[.int .i64 0, .int .i64 1], .bool true]) (by simp only [results, Try.results56]; go_simp) rfl ⟨0, 1, by rw [(toO_some (0, 1, true)).1], (toO_some (0, 1, true)).2, ?_⟩
        (repeat (first | with_reducible exact Below.refl _ _ | with_reducible assumption | (with_reducible refine below_drewN ?_ _) | (with_reducible refine Below.drew ?_) | (with_reducible refine Below.setCell ?_ (by first | omega | (simp; done) | (simp; omega)) _) | (with_reducible refine Below.alloc ?_ (by first | omega | (simp; done) | (simp; omega)) _) | refine Below.trans ?_ (Below.mono (by with_reducible assumption) (by first | omega | (simp; done) | (simp; omega)))))
      · obtain ⟨X, Y, t, hm⟩ : ∃ X Y t, addR h1 h2 (-1) 1 = (X, Y, t) := ⟨_, _, _, rfl⟩
        have ho : o = toO (X, Y, t) := hho hm
        subst ho
        have HM := Lib.hid hm
        clear hm hho
        go_wp2_with fail
        obtain ⟨w1, hw1⟩ : ∃ y : World, y = w := ⟨w, rfl⟩
        clear hw1
        go_region_held3 (fun w' => w'.cell? ⟨(w.heap.size + 1 + 1), 0, none⟩ = some (.int .i64 h1) ∧ w'.cell? ⟨(w.heap.size + 1 + 1), 1, none⟩ = some (.int .i64 h2)) (simp [go_sem, World.cell?_alloc_past, *])
          (first
            | (go_at_call 55; refine (whole_any _ _).mono ?_; rintro e w1 ⟨rfl, hb1⟩; have hz1 := hb1.size; (try simp at hz1); have hB1 : Below w.heap.size w w1 := (by refine Below.trans ?_ (Below.mono hb1 (by first | omega | (simp; done) | (simp; omega))); (repeat (first | with_reducible exact Below.refl _ _ | with_reducible assumption | (with_reducible refine below_drewN ?_ _) | (with_reducible refine Below.drew ?_) | (with_reducible refine Below.setCell ?_ (by first | omega | (simp; done) | (simp; omega)) _) | (with_reducible refine Below.alloc ?_ (by first | omega | (simp; done) | (simp; omega)) _) | refine Below.trans ?_ (Below.mono (by with_reducible assumption) (by first | omega | (simp; done) | (simp; omega)))))); obtain ⟨kc_, fc_, lc_⟩ := keep_later (a := ⟨w.heap.size, 0, none⟩) (v := .int .i64 0) hb1 (by go_simp) (by go_simp); obtain ⟨kc_, fc_, lc_⟩ := keep_later (a := ⟨w.heap.size, 1, none⟩) (v := .int .i64 0) hb1 (by go_simp) (by go_simp); obtain ⟨kc_, fc_, lc_⟩ := keep_later (a := ⟨(w.heap.size + 1 + 1), 0, none⟩) (v := .int .i64 h1) hb1 (by go_simp) (by go_simp); obtain ⟨kc_, fc_, lc_⟩ := keep_later (a := ⟨(w.heap.size + 1 + 1), 1, none⟩) (v := .int .i64 h2) hb1 (by go_simp) (by go_simp); clear hb1)
            | (go_at_call 88; refine (iRatAdd_any h1 h2 (-1) 1 X Y t HM _).mono ?_; rintro e w1 ⟨rfl, hb1⟩; have hz1 := hb1.size; (try simp at hz1); have hB1 : Below w.heap.size w w1 := (by refine Below.trans ?_ (Below.mono hb1 (by first | omega | (simp; done) | (simp; omega))); (repeat (first | with_reducible exact Below.refl _ _ | with_reducible assumption | (with_reducible refine below_drewN ?_ _) | (with_reducible refine Below.drew ?_) | (with_reducible refine Below.setCell ?_ (by first | omega | (simp; done) | (simp; omega)) _) | (with_reducible refine Below.alloc ?_ (by first | omega | (simp; done) | (simp; omega)) _) | refine Below.trans ?_ (Below.mono (by with_reducible assumption) (by first | omega | (simp; done) | (simp; omega)))))); obtain ⟨kc_, fc_, lc_⟩ := keep_later (a := ⟨w.heap.size, 0, none⟩) (v := .int .i64 0) hb1 (by go_simp) (by go_simp); obtain ⟨kc_, fc_, lc_⟩ := keep_later (a := ⟨w.heap.size, 1, none⟩) (v := .int .i64 0) hb1 (by go_simp) (by go_simp); obtain ⟨kc_, fc_, lc_⟩ := keep_later (a := ⟨(w.heap.size + 1 + 1), 0, none⟩) (v := .int .i64 h1) hb1 (by go_simp) (by go_simp); obtain ⟨kc_, fc_, lc_⟩ := keep_later (a := ⟨(w.heap.size + 1 + 1), 1, none⟩) (v := .int .i64 h2) hb1 (by go_simp) (by go_simp); clear hb1))
        all_goals
          go_wp2
          refine bodyPost_ret (v := .tuple #[.agg #[.int .i64 X, .int .i64 Y], .bool t]) (by simp only [results, Try.results56]; go_simp) rfl ⟨X, Y, by rw [(toO_some (X, Y, t)).1], (toO_some (X, Y, t)).2, ?_⟩
          (repeat (first | with_reducible exact Below.refl _ _ | with_reducible assumption | (with_reducible refine below_drewN ?_ _) | (with_reducible refine Below.drew ?_) | (with_reducible refine Below.setCell ?_ (by first | omega | (simp; done) | (simp; omega)) _) | (with_reducible refine Below.alloc ?_ (by first | omega | (simp; done) | (simp; omega)) _) | refine Below.trans ?_ (Below.mono (by with_reducible assumption) (by first | omega | (simp; done) | (simp; omega)))))
      · obtain ⟨X, Y, t, hm⟩ : ∃ X Y t, addR l1 l2 1 1 = (X, Y, t) := ⟨_, _, _, rfl⟩
        have ho : o = toO (X, Y, t) := hho hm
        subst ho
        have HM := Lib.hid hm
        clear hm hho
        go_wp2_with fail
        obtain ⟨w1, hw1⟩ : ∃ y : World, y = w := ⟨w, rfl⟩
        clear hw1
        go_region_held3 (fun w' => w'.cell? ⟨(w.heap.size + 1), 0, none⟩ = some (.int .i64 l1) ∧ w'.cell? ⟨(w.heap.size + 1), 1, none⟩ = some (.int .i64 l2)) (simp [go_sem, World.cell?_alloc_past, *])
          (first
            | (go_at_call 55; refine (whole_any _ _).mono ?_; rintro e w1 ⟨rfl, hb1⟩; have hz1 := hb1.size; (try simp at hz1); have hB1 : Below w.heap.size w w1 := (by refine Below.trans ?_ (Below.mono hb1 (by first | omega | (simp; done) | (simp; omega))); (repeat (first | with_reducible exact Below.refl _ _ | with_reducible assumption | (with_reducible refine below_drewN ?_ _) | (with_reducible refine Below.drew ?_) | (with_reducible refine Below.setCell ?_ (by first | omega | (simp; done) | (simp; omega)) _) | (with_reducible refine Below.alloc ?_ (by first | omega | (simp; done) | (simp; omega)) _) | refine Below.trans ?_ (Below.mono (by with_reducible assumption) (by first | omega | (simp; done) | (simp; omega)))))); obtain ⟨kc_, fc_, lc_⟩ := keep_later (a := ⟨w.heap.size, 0, none⟩) (v := .int .i64 0) hb1 (by go_simp) (by go_simp); obtain ⟨kc_, fc_, lc_⟩ := keep_later (a := ⟨w.heap.size, 1, none⟩) (v := .int .i64 0) hb1 (by go_simp) (by go_simp); obtain ⟨kc_, fc_, lc_⟩ := keep_later (a := ⟨(w.heap.size + 1), 0, none⟩) (v := .int .i64 l1) hb1 (by go_simp) (by go_simp); obtain ⟨kc_, fc_, lc_⟩ := keep_later (a := ⟨(w.heap.size + 1), 1, none⟩) (v := .int .i64 l2) hb1 (by go_simp) (by go_simp); clear hb1)
            | (go_at_call 88; refine (iRatAdd_any l1 l2 1 1 X Y t HM _).mono ?_; rintro e w1 ⟨rfl, hb1⟩; have hz1 := hb1.size; (try simp at hz1); have hB1 : Below w.heap.size w w1 := (by refine Below.trans ?_ (Below.mono hb1 (by first | omega | (simp; done) | (simp; omega))); (repeat (first | with_reducible exact Below.refl _ _ | with_reducible assumption | (with_reducible refine below_drewN ?_ _) | (with_reducible refine Below.drew ?_) | (with_reducible refine Below.setCell ?_ (by first | omega | (simp; done) | (simp; omega)) _) | (with_reducible refine Below.alloc ?_ (by first | omega | (simp; done) | (simp; omega)) _) | refine Below.trans ?_ (Below.mono (by with_reducible assumption) (by first | omega | (simp; done) | (simp; omega)))))); obtain ⟨kc_, fc_, lc_⟩ := keep_later (a := ⟨w.heap.size, 0, none⟩) (v := .int .i64 0) hb1 (by go_simp) (by go_simp); obtain ⟨kc_, fc_, lc_⟩ := keep_later (a := ⟨w.heap.size, 1, none⟩) (v := .int .i64 0) hb1 (by go_simp) (by go_simp); obtain ⟨kc_, fc_, lc_⟩ := keep_later (a := ⟨(w.heap.size + 1), 0, none⟩) (v := .int .i64 l1) hb1 (by go_simp) (by go_simp); obtain ⟨kc_, fc_, lc_⟩ := keep_later (a := ⟨(w.heap.size + 1), 1, none⟩) (v := .int .i64 l2) hb1 (by go_simp) (by go_simp); clear hb1))
        all_goals
          go_wp2
          refine bodyPost_ret (v := .tuple #[.agg #[.int .i64 X, .int .i64 Y], .bool t]) (by simp only [results, Try.results56]; go_simp) rfl ⟨X, Y, by rw [(toO_some (X, Y, t)).1], (toO_some (X, Y, t)).2, ?_⟩
          (repeat (first | with_reducible exact Below.refl _ _ | with_reducible assumption | (with_reducible refine below_drewN ?_ _) | (with_reducible refine Below.drew ?_) | (with_reducible refine Below.setCell ?_ (by first | omega | (simp; done) | (simp; omega)) _) | (with_reducible refine Below.alloc ?_ (by first | omega | (simp; done) | (simp; omega)) _) | refine Below.trans ?_ (Below.mono (by with_reducible assumption) (by first | omega | (simp; done) | (simp; omega)))))
      · obtain ⟨X, Y, t, hm⟩ : ∃ X Y t, midR l1 l2 h1 h2 = (X, Y, t) := ⟨_, _, _, rfl⟩
        have ho : o = toO (X, Y, t) := hho hm
        subst ho
        have HM := Lib.hid hm
        clear hm hho
        go_wp2_with fail
        refine (iRatMid_any l1 l2 h1 h2 X Y t HM _).mono ?_
        rintro e w4 ⟨rfl, hb1⟩
        have hz1 := hb1.size; (try simp at hz1); have hB1 : Below w.heap.size w w4 := (by refine Below.trans ?_ (Below.mono hb1 (by first | omega | (simp; done) | (simp; omega))); (repeat (first | with_reducible exact Below.refl _ _ | with_reducible assumption | (with_reducible refine below_drewN ?_ _) | (with_reducible refine Below.drew ?_) | (with_reducible refine Below.setCell ?_ (by first | omega | (simp; done) | (simp; omega)) _) | (with_reducible refine Below.alloc ?_ (by first | omega | (simp; done) | (simp; omega)) _) | refine Below.trans ?_ (Below.mono (by with_reducible assumption) (by first | omega | (simp; done) | (simp; omega)))))); obtain ⟨kc_, fc_, lc_⟩ := keep_later (a := ⟨w.heap.size, 0, none⟩) (v := .int .i64 0) hb1 (by go_simp) (by go_simp); obtain ⟨kc_, fc_, lc_⟩ := keep_later (a := ⟨w.heap.size, 1, none⟩) (v := .int .i64 0) hb1 (by go_simp) (by go_simp); clear hb1
        go_wp2
        refine bodyPost_ret (v := .tuple #[.agg #[.int .i64 X, .int .i64 Y], .bool t]) (by simp only [results, Try.results56]; go_simp) rfl ⟨X, Y, by rw [(toO_some (X, Y, t)).1], (toO_some (X, Y, t)).2, ?_⟩
        (repeat (first | with_reducible exact Below.refl _ _ | with_reducible assumption | (with_reducible refine below_drewN ?_ _) | (with_reducible refine Below.drew ?_) | (with_reducible refine Below.setCell ?_ (by first | omega | (simp; done) | (simp; omega)) _) | (with_reducible refine Below.alloc ?_ (by first | omega | (simp; done) | (simp; omega)) _) | refine Below.trans ?_ (Below.mono (by with_reducible assumption) (by first | omega | (simp; done) | (simp; omega)))))
end Go.Proofs.Ytccjbipmlpnhkaa

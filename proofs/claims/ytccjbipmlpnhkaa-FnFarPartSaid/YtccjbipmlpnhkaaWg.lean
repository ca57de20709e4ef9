/- A number between what the rows allow, by the reference: contracts. -/
import Derived.Test.YtccjbipmlpnhkaaWi
import Derived.Deep.RegionHeld3
namespace Go.Proofs.Ytccjbipmlpnhkaa
set_option maxRecDepth 100000
open Go.RowKit Go.ChangeShapes Go.WideShapes Go.ChangeAt
set_option linter.unusedSimpArgs false
set_option linter.unusedVariables false

/-- The six cells of what bounds a number. -/
structure L6 (w : World) (g : Nat) (l1 l2 h1 h2 : Int) (hl hh : Bool) : Prop where
  c0 : w.cell? ⟨g, 0, none⟩ = some (.int .i64 l1)
  c1 : w.cell? ⟨g, 1, none⟩ = some (.int .i64 l2)
  c2 : w.cell? ⟨g, 2, none⟩ = some (.int .i64 h1)
  c3 : w.cell? ⟨g, 3, none⟩ = some (.int .i64 h2)
  c4 : w.cell? ⟨g, 4, none⟩ = some (.bool hl)
  c5 : w.cell? ⟨g, 5, none⟩ = some (.bool hh)
  f0 : w.frozen? ⟨g, 0, none⟩ = false
  f1 : w.frozen? ⟨g, 1, none⟩ = false
  f2 : w.frozen? ⟨g, 2, none⟩ = false
  f3 : w.frozen? ⟨g, 3, none⟩ = false
  f4 : w.frozen? ⟨g, 4, none⟩ = false
  f5 : w.frozen? ⟨g, 5, none⟩ = false
theorem L6.lt {w : World} {g : Nat} {l1 l2 h1 h2 : Int} {hl hh : Bool} (h : L6 w g l1 l2 h1 h2 hl hh) : g < w.heap.size := World.block_lt_of_cell? _ _ h.c0
theorem L6.later {w w' : World} {g : Nat} {l1 l2 h1 h2 : Int} {hl hh : Bool} (h : L6 w g l1 l2 h1 h2 hl hh) (hb : Below w.heap.size w w') : L6 w' g l1 l2 h1 h2 hl hh :=
  have hq : ∀ x, w'.cell? ⟨g, x, none⟩ = w.cell? ⟨g, x, none⟩ := fun x => hb.cell (p := ⟨g, x, none⟩) h.lt
  have hf : ∀ x, w'.frozen? ⟨g, x, none⟩ = w.frozen? ⟨g, x, none⟩ := fun x => hb.frozen (p := ⟨g, x, none⟩) h.lt
  ⟨(hq _).trans h.c0, (hq _).trans h.c1, (hq _).trans h.c2, (hq _).trans h.c3, (hq _).trans h.c4, (hq _).trans h.c5, (hf _).trans h.f0, (hf _).trans h.f1, (hf _).trans h.f2, (hf _).trans h.f3, (hf _).trans h.f4, (hf _).trans h.f5⟩
/-- What bounds a number, or not. -/
def EndsBk (o : Option Ends) (w : World) (e : Ending) (w' : World) : Prop :=
  ∃ (l1 l2 h1 h2 : Int) (hl hh : Bool), e = .returned (.tuple #[.agg #[.int .i64 l1, .int .i64 l2, .int .i64 h1, .int .i64 h2, .bool hl, .bool hh], .bool o.isSome]) ∧ (∀ x, o = some x → x = ⟨(l1, l2), (h1, h2), hl, hh⟩) ∧ Below w.heap.size w w'

theorem lessS (a b c d : Int) (t : Bool) (h : lessR a b c d = t) (w : World) :
    Calls Try.prog 99 #[.agg #[.int .i64 a, .int .i64 b], .agg #[.int .i64 c, .int .i64 d]] w fun e w' => e = .returned (.bool t) ∧ Below w.heap.size w w' := by
  subst h; exact sRatLess_any a b c d w

set_option maxHeartbeats 16000000 in
theorem l3Bounds_any {A A' : Option Addr} {n c c' u N : Nat} {rs : List RowV} {vs : List (Int × Int)} {w : World} (h : Rws w A n rs) (h' : Rats w A' 4 vs) (hrs : RowsOk N rs) (hu : u < 4) :
    Calls Try.prog 93 #[.slice A n c, .slice A' 4 c', .int .i64 u] w (EndsBk (endsTo rs u vs rs.length) w) := by
  have hlen0 := h.len
  have hmany := hrs.many
  rw [hlen0] at hmany
  obtain ⟨o, ho⟩ : ∃ o, endsTo rs u vs rs.length = o := ⟨_, rfl⟩
  rw [ho]
  have HO0 := Lib.hid ho
  have HO : Hid (valueR rs u vs = o.bind fun e => toO (chooseR e)) := Lib.hid (by rw [← ho]; rfl)
  clear ho
  go_enter Try.func93, Try.ntmps93
  go_wp2_with fail
  go_loopw [9] (fun i wr => ∃ (k : Nat) (l1 l2 h1 h2 : Int) (hl hh : Bool), k ≤ n ∧ i = .int .i64 k ∧ Hid (endsTo rs u vs k = some ⟨(l1, l2), (h1, h2), hl, hh⟩) ∧ L6 wr w.heap.size 0 0 0 0 false false ∧ L6 wr (w.heap.size + 1) l1 l2 h1 h2 hl hh ∧ Below w.heap.size w wr) (fun i _ => n - (intOf i).toNat)
  case atStart => exact ⟨0, 0, 0, 0, 0, false, false, by omega, rfl, Lib.hid rfl, ⟨by go_simp, by go_simp, by go_simp, by go_simp, by go_simp, by go_simp, by go_simp, by go_simp, by go_simp, by go_simp, by go_simp, by go_simp⟩, ⟨by go_simp, by go_simp, by go_simp, by go_simp, by go_simp, by go_simp, by go_simp, by go_simp, by go_simp, by go_simp, by go_simp, by go_simp⟩, by (repeat (first | with_reducible exact Below.refl _ _ | with_reducible assumption | (with_reducible refine below_drewN ?_ _) | (with_reducible refine Below.drew ?_) | (with_reducible refine Below.setCell ?_ (by first | omega | (simp; done) | (simp; omega)) _) | (with_reducible refine Below.alloc ?_ (by first | omega | (simp; done) | (simp; omega)) _) | refine Below.trans ?_ (Below.mono (by with_reducible assumption) (by first | omega | (simp; done) | (simp; omega)))))⟩
  case round =>
    obtain ⟨k, l1, l2, h1, h2, hl, hh, hk, rfl, HE, hL0, hL1, hB⟩ := hrel
    have hzr := hB.size
    by_cases hlt : k < n
    · obtain ⟨p, o1, rfl, hp0, hcs⟩ := h.cells (by omega)
      obtain ⟨A1, m, c1, B1, q, d1, ⟨hI0, hJ0⟩, hd1, hd2, hd3, hd4⟩ := (hcs k hlt).ex
      clear hcs
      have hr := hrs.each k (by rw [hlen0]; omega)
      have HSK := Lib.hid (@ends_skip rs u k vs ⟨(l1, l2), (h1, h2), hl, hh⟩ HE.out)
      have HNO := Lib.hid (fun hc hb => HO0.out.symm.trans (endsTo_none (ends_none (rs := rs) (u := u) (k := k) (vs := vs) HE.out hc hb) (by omega)))
      have HPT := Lib.hid (@ends_put rs u k vs ⟨(l1, l2), (h1, h2), hl, hh⟩ HE.out)
      obtain ⟨xs, b, s, us, hxx⟩ := row_at' rs k
      rw [hxx] at HSK HNO HPT hI0 hJ0 hd2 hd3 hr
      dsimp only at hI0 hJ0 hd2 hd3 HNO HPT
      have xc1 := (hB.cell (p := ⟨p, o1 + k * 4, none⟩) hp0).trans hd1
      have xc2 := (hB.cell (p := ⟨p, o1 + k * 4 + 1, none⟩) hp0).trans hd2
      have xc3 := (hB.cell (p := ⟨p, o1 + k * 4 + 2, none⟩) hp0).trans hd3
      have xc4 := (hB.cell (p := ⟨p, o1 + k * 4 + 3, none⟩) hp0).trans hd4
      clear hd1 hd2 hd3 hd4
      obtain ⟨hl4, _, _⟩ := linOk_len hr.lin
      have hm4 : m = 4 := hI0.len.symm.trans hl4
      subst hm4
      have hlin := hr.lin
      dsimp only at hlin
      obtain ⟨pa, oa, rfl, hpa, hcx⟩ := hI0.cells (by omega)
      have hcx1 := (hB.cell (p := ⟨pa, oa + u, none⟩) hpa).trans (hcx u hu)
      have hpw : p < wr.heap.size := by omega
      have hpaw : pa < wr.heap.size := by omega
      have hcb := hr.cf u
      have hcf : cf ((xs, b, s), us) u = xs.getD u 0 := rfl
      rw [hcf] at HSK HNO HPT hcb
      have HCX := Lib.hid (hcx u hu)
      clear hcx hl4 hr hxx hcf
      generalize xs.getD u 0 = x at *
      have hlw := hL1.lt
      have hlw0 : w.heap.size < wr.heap.size := by omega
      obtain ⟨g0, g1, g2, g3, g4, g5, g6, g7, g8, g9, g10, g11⟩ := hL0
      obtain ⟨e0, e1, e2, e3, e4, e5, e6, e7, e8, e9, e10, e11⟩ := hL1
      by_cases hx0 : x = 0
      · subst hx0
        have HX := Lib.hid (HSK.out rfl)
        go_wp2
        go_roundw
        case rel => exact ⟨k + 1, _, _, _, _, _, _, by omega, by go_num, HX, ⟨by go_simp, by go_simp, by go_simp, by go_simp, by go_simp, by go_simp, by go_simp, by go_simp, by go_simp, by go_simp, by go_simp, by go_simp⟩, ⟨by go_simp, by go_simp, by go_simp, by go_simp, by go_simp, by go_simp, by go_simp, by go_simp, by go_simp, by go_simp, by go_simp, by go_simp⟩, by (repeat (first | with_reducible exact Below.refl _ _ | with_reducible assumption | (with_reducible refine below_drewN ?_ _) | (with_reducible refine Below.drew ?_) | (with_reducible refine Below.setCell ?_ (by first | omega | (simp; done) | (simp; omega)) _) | (with_reducible refine Below.alloc ?_ (by first | omega | (simp; done) | (simp; omega)) _) | refine Below.trans ?_ (Below.mono (by with_reducible assumption) (by first | omega | (simp; done) | (simp; omega)))))⟩
        case measure => simp [intOf]; omega
      have hx2 : (x == 0) = false := by simpa using hx0
      go_wp2_with fail
      refine (l3Rest_any (xs := xs) (vs := vs) (u := u) b s (hI0.later (by (repeat (first | with_reducible exact Below.refl _ _ | with_reducible assumption | (with_reducible refine below_drewN ?_ _) | (with_reducible refine Below.drew ?_) | (with_reducible refine Below.setCell ?_ (by first | omega | (simp; done) | (simp; omega)) _) | (with_reducible refine Below.alloc ?_ (by first | omega | (simp; done) | (simp; omega)) _) | refine Below.trans ?_ (Below.mono (by with_reducible assumption) (by first | omega | (simp; done) | (simp; omega))))))) (h'.later (by (repeat (first | with_reducible exact Below.refl _ _ | with_reducible assumption | (with_reducible refine below_drewN ?_ _) | (with_reducible refine Below.drew ?_) | (with_reducible refine Below.setCell ?_ (by first | omega | (simp; done) | (simp; omega)) _) | (with_reducible refine Below.alloc ?_ (by first | omega | (simp; done) | (simp; omega)) _) | refine Below.trans ?_ (Below.mono (by with_reducible assumption) (by first | omega | (simp; done) | (simp; omega))))))) hlin hu).mono ?_
      rintro e w1 ⟨X, Y, rfl, hbx, hb1⟩
      obtain ⟨ob, hob⟩ : ∃ ob, boundR xs b vs u = ob := ⟨_, rfl⟩
      rw [hob] at hbx HNO HPT ⊢
      obtain ⟨ok, hok⟩ : ∃ ok, ob.isSome = ok := ⟨_, rfl⟩
      rw [hok]
      have HB := Lib.hid hbx
      have hLa : L6 w1 w.heap.size 0 0 0 0 false false := (by refine L6.later ?_ hb1; exact ⟨by go_simp, by go_simp, by go_simp, by go_simp, by go_simp, by go_simp, by go_simp, by go_simp, by go_simp, by go_simp, by go_simp, by go_simp⟩)
      have hLb : L6 w1 (w.heap.size + 1) l1 l2 h1 h2 hl hh := (by refine L6.later ?_ hb1; exact ⟨by go_simp, by go_simp, by go_simp, by go_simp, by go_simp, by go_simp, by go_simp, by go_simp, by go_simp, by go_simp, by go_simp, by go_simp⟩)
      have hz1 := hb1.size; (try simp at hz1); have hB1 : Below w.heap.size w w1 := (by refine Below.trans ?_ (Below.mono hb1 (by first | omega | (simp; done) | (simp; omega))); (repeat (first | with_reducible exact Below.refl _ _ | with_reducible assumption | (with_reducible refine below_drewN ?_ _) | (with_reducible refine Below.drew ?_) | (with_reducible refine Below.setCell ?_ (by first | omega | (simp; done) | (simp; omega)) _) | (with_reducible refine Below.alloc ?_ (by first | omega | (simp; done) | (simp; omega)) _) | refine Below.trans ?_ (Below.mono (by with_reducible assumption) (by first | omega | (simp; done) | (simp; omega)))))); obtain ⟨kc_, fc_, lc_⟩ := keep_later (a := ⟨wr.heap.size, 0, none⟩) (v := .slice (some ⟨pa, oa, none⟩) 4 c1) hb1 (by go_simp) (by go_simp); clear hb1 hbx hob g0 g1 g2 g3 g4 g5 g6 g7 g8 g9 g10 g11 e0 e1 e2 e3 e4 e5 e6 e7 e8 e9 e10 e11
      have hcy := (Below.cell (by (repeat (first | with_reducible exact Below.refl _ _ | with_reducible assumption | (with_reducible refine below_drewN ?_ _) | (with_reducible refine Below.drew ?_) | (with_reducible refine Below.setCell ?_ (by first | omega | (simp; done) | (simp; omega)) _) | (with_reducible refine Below.alloc ?_ (by first | omega | (simp; done) | (simp; omega)) _) | refine Below.trans ?_ (Below.mono (by with_reducible assumption) (by first | omega | (simp; done) | (simp; omega))))) : Below w.heap.size w w1) (p := ⟨pa, oa + u, none⟩) hpa).trans HCX.out
      have hpay : pa < w1.heap.size := by omega
      have hlx0 : w.heap.size < w1.heap.size := by omega
      have hlx1 : w.heap.size + 1 < w1.heap.size := by omega
      obtain ⟨g0, g1, g2, g3, g4, g5, g6, g7, g8, g9, g10, g11⟩ := hLa
      obtain ⟨e0, e1, e2, e3, e4, e5, e6, e7, e8, e9, e10, e11⟩ := hLb
      cases ok
      · have ho := HNO.out hx0 (by cases ob <;> simp at hok ⊢)
        subst ho
        go_wp2
        refine bodyPost_ret (v := .tuple #[.agg #[.int .i64 l1, .int .i64 l2, .int .i64 h1, .int .i64 h2, .bool hl, .bool hh], .bool false]) (by simp only [results, Try.results93]; go_simp) rfl ?_
        exact ⟨l1, l2, h1, h2, hl, hh, rfl, fun _ e => (by cases e), by (repeat (first | with_reducible exact Below.refl _ _ | with_reducible assumption | (with_reducible refine below_drewN ?_ _) | (with_reducible refine Below.drew ?_) | (with_reducible refine Below.setCell ?_ (by first | omega | (simp; done) | (simp; omega)) _) | (with_reducible refine Below.alloc ?_ (by first | omega | (simp; done) | (simp; omega)) _) | refine Below.trans ?_ (Below.mono (by with_reducible assumption) (by first | omega | (simp; done) | (simp; omega)))))⟩
      have HBX := Lib.hid (bound_bk HB.out hok)
      clear hok HNO HSK
      by_cases hxp : 0 < x
      · cases hh
        · have HX : Hid (endsTo rs u vs (k + 1) = some _) := Lib.hid ((HPT.out hx0 HBX.out).trans (congrArg some (put_hi hxp (.inl rfl))))
          go_wp2
          go_roundw
          case rel => exact ⟨k + 1, _, _, _, _, _, _, by omega, by go_num, HX, ⟨by go_simp, by go_simp, by go_simp, by go_simp, by go_simp, by go_simp, by go_simp, by go_simp, by go_simp, by go_simp, by go_simp, by go_simp⟩, ⟨by go_simp, by go_simp, by go_simp, by go_simp, by go_simp, by go_simp, by go_simp, by go_simp, by go_simp, by go_simp, by go_simp, by go_simp⟩, by (repeat (first | with_reducible exact Below.refl _ _ | with_reducible assumption | (with_reducible refine below_drewN ?_ _) | (with_reducible refine Below.drew ?_) | (with_reducible refine Below.setCell ?_ (by first | omega | (simp; done) | (simp; omega)) _) | (with_reducible refine Below.alloc ?_ (by first | omega | (simp; done) | (simp; omega)) _) | refine Below.trans ?_ (Below.mono (by with_reducible assumption) (by first | omega | (simp; done) | (simp; omega)))))⟩
          case measure => simp [intOf]; omega
        · obtain ⟨tl, htl⟩ : ∃ t, lessR X Y h1 h2 = t := ⟨_, rfl⟩
          go_wp2_with fail
          refine (lessS X Y h1 h2 tl htl _).mono ?_
          rintro e w2 ⟨rfl, hb1⟩
          have hLa : L6 w2 w.heap.size 0 0 0 0 false false := (by refine L6.later ?_ hb1; exact ⟨by go_simp, by go_simp, by go_simp, by go_simp, by go_simp, by go_simp, by go_simp, by go_simp, by go_simp, by go_simp, by go_simp, by go_simp⟩)
          have hLb : L6 w2 (w.heap.size + 1) l1 l2 h1 h2 hl true := (by refine L6.later ?_ hb1; exact ⟨by go_simp, by go_simp, by go_simp, by go_simp, by go_simp, by go_simp, by go_simp, by go_simp, by go_simp, by go_simp, by go_simp, by go_simp⟩)
          have hz1 := hb1.size; (try simp at hz1); have hB1 : Below w.heap.size w w2 := (by refine Below.trans ?_ (Below.mono hb1 (by first | omega | (simp; done) | (simp; omega))); (repeat (first | with_reducible exact Below.refl _ _ | with_reducible assumption | (with_reducible refine below_drewN ?_ _) | (with_reducible refine Below.drew ?_) | (with_reducible refine Below.setCell ?_ (by first | omega | (simp; done) | (simp; omega)) _) | (with_reducible refine Below.alloc ?_ (by first | omega | (simp; done) | (simp; omega)) _) | refine Below.trans ?_ (Below.mono (by with_reducible assumption) (by first | omega | (simp; done) | (simp; omega)))))); obtain ⟨kc_, fc_, lc_⟩ := keep_later (a := ⟨wr.heap.size, 0, none⟩) (v := .slice (some ⟨pa, oa, none⟩) 4 c1) hb1 (by go_simp) (by go_simp); obtain ⟨kc_, fc_, lc_⟩ := keep_later (a := ⟨w1.heap.size, 0, none⟩) (v := .int .i64 X) hb1 (by go_simp) (by go_simp); obtain ⟨kc_, fc_, lc_⟩ := keep_later (a := ⟨w1.heap.size, 1, none⟩) (v := .int .i64 Y) hb1 (by go_simp) (by go_simp); clear hb1 g0 g1 g2 g3 g4 g5 g6 g7 g8 g9 g10 g11 e0 e1 e2 e3 e4 e5 e6 e7 e8 e9 e10 e11
          have hcy2 := (Below.cell (by (repeat (first | with_reducible exact Below.refl _ _ | with_reducible assumption | (with_reducible refine below_drewN ?_ _) | (with_reducible refine Below.drew ?_) | (with_reducible refine Below.setCell ?_ (by first | omega | (simp; done) | (simp; omega)) _) | (with_reducible refine Below.alloc ?_ (by first | omega | (simp; done) | (simp; omega)) _) | refine Below.trans ?_ (Below.mono (by with_reducible assumption) (by first | omega | (simp; done) | (simp; omega))))) : Below w.heap.size w w2) (p := ⟨pa, oa + u, none⟩) hpa).trans HCX.out
          have hpay2 : pa < w2.heap.size := by omega
          have hly0 : w.heap.size < w2.heap.size := by omega
          have hly1 : w.heap.size + 1 < w2.heap.size := by omega
          obtain ⟨g0, g1, g2, g3, g4, g5, g6, g7, g8, g9, g10, g11⟩ := hLa
          obtain ⟨e0, e1, e2, e3, e4, e5, e6, e7, e8, e9, e10, e11⟩ := hLb
          cases tl
          · have HX : Hid (endsTo rs u vs (k + 1) = some _) := Lib.hid ((HPT.out hx0 HBX.out).trans (congrArg some (put_hi0 hxp htl)))
            go_wp2
            go_roundw
            case rel => exact ⟨k + 1, _, _, _, _, _, _, by omega, by go_num, HX, ⟨by go_simp, by go_simp, by go_simp, by go_simp, by go_simp, by go_simp, by go_simp, by go_simp, by go_simp, by go_simp, by go_simp, by go_simp⟩, ⟨by go_simp, by go_simp, by go_simp, by go_simp, by go_simp, by go_simp, by go_simp, by go_simp, by go_simp, by go_simp, by go_simp, by go_simp⟩, by (repeat (first | with_reducible exact Below.refl _ _ | with_reducible assumption | (with_reducible refine below_drewN ?_ _) | (with_reducible refine Below.drew ?_) | (with_reducible refine Below.setCell ?_ (by first | omega | (simp; done) | (simp; omega)) _) | (with_reducible refine Below.alloc ?_ (by first | omega | (simp; done) | (simp; omega)) _) | refine Below.trans ?_ (Below.mono (by with_reducible assumption) (by first | omega | (simp; done) | (simp; omega)))))⟩
            case measure => simp [intOf]; omega
          · have HX : Hid (endsTo rs u vs (k + 1) = some _) := Lib.hid ((HPT.out hx0 HBX.out).trans (congrArg some (put_hi hxp (.inr htl))))
            go_wp2
            go_roundw
            case rel => exact ⟨k + 1, _, _, _, _, _, _, by omega, by go_num, HX, ⟨by go_simp, by go_simp, by go_simp, by go_simp, by go_simp, by go_simp, by go_simp, by go_simp, by go_simp, by go_simp, by go_simp, by go_simp⟩, ⟨by go_simp, by go_simp, by go_simp, by go_simp, by go_simp, by go_simp, by go_simp, by go_simp, by go_simp, by go_simp, by go_simp, by go_simp⟩, by (repeat (first | with_reducible exact Below.refl _ _ | with_reducible assumption | (with_reducible refine below_drewN ?_ _) | (with_reducible refine Below.drew ?_) | (with_reducible refine Below.setCell ?_ (by first | omega | (simp; done) | (simp; omega)) _) | (with_reducible refine Below.alloc ?_ (by first | omega | (simp; done) | (simp; omega)) _) | refine Below.trans ?_ (Below.mono (by with_reducible assumption) (by first | omega | (simp; done) | (simp; omega)))))⟩
            case measure => simp [intOf]; omega
      · have hxn : x < 0 := by omega
        cases hl
        · have HX : Hid (endsTo rs u vs (k + 1) = some _) := Lib.hid ((HPT.out hx0 HBX.out).trans (congrArg some (put_lo (by omega) (.inl rfl))))
          go_wp2
          go_roundw
          case rel => exact ⟨k + 1, _, _, _, _, _, _, by omega, by go_num, HX, ⟨by go_simp, by go_simp, by go_simp, by go_simp, by go_simp, by go_simp, by go_simp, by go_simp, by go_simp, by go_simp, by go_simp, by go_simp⟩, ⟨by go_simp, by go_simp, by go_simp, by go_simp, by go_simp, by go_simp, by go_simp, by go_simp, by go_simp, by go_simp, by go_simp, by go_simp⟩, by (repeat (first | with_reducible exact Below.refl _ _ | with_reducible assumption | (with_reducible refine below_drewN ?_ _) | (with_reducible refine Below.drew ?_) | (with_reducible refine Below.setCell ?_ (by first | omega | (simp; done) | (simp; omega)) _) | (with_reducible refine Below.alloc ?_ (by first | omega | (simp; done) | (simp; omega)) _) | refine Below.trans ?_ (Below.mono (by with_reducible assumption) (by first | omega | (simp; done) | (simp; omega)))))⟩
          case measure => simp [intOf]; omega
        · obtain ⟨tl, htl⟩ : ∃ t, lessR l1 l2 X Y = t := ⟨_, rfl⟩
          go_wp2_with fail
          refine (lessS l1 l2 X Y tl htl _).mono ?_
          rintro e w2 ⟨rfl, hb1⟩
          have hLa : L6 w2 w.heap.size 0 0 0 0 false false := (by refine L6.later ?_ hb1; exact ⟨by go_simp, by go_simp, by go_simp, by go_simp, by go_simp, by go_simp, by go_simp, by go_simp, by go_simp, by go_simp, by go_simp, by go_simp⟩)
          have hLb : L6 w2 (w.heap.size + 1) l1 l2 h1 h2 true hh := (by refine L6.later ?_ hb1; exact ⟨by go_simp, by go_simp, by go_simp, by go_simp, by go_simp, by go_simp, by go_simp, by go_simp, by go_simp, by go_simp, by go_simp, by go_simp⟩)
          have hz1 := hb1.size; (try simp at hz1); have hB1 : Below w.heap.size w w2 := (by refine Below.trans ?_ (Below.mono hb1 (by first | omega | (simp; done) | (simp; omega))); (repeat (first | with_reducible exact Below.refl _ _ | with_reducible assumption | (with_reducible refine below_drewN ?_ _) | (with_reducible refine Below.drew ?_) | (with_reducible refine Below.setCell ?_ (by first | omega | (simp; done) | (simp; omega)) _) | (with_reducible refine Below.alloc ?_ (by first | omega | (simp; done) | (simp; omega)) _) | refine Below.trans ?_ (Below.mono (by with_reducible assumption) (by first | omega | (simp; done) | (simp; omega)))))); obtain ⟨kc_, fc_, lc_⟩ := keep_later (a := ⟨wr.heap.size, 0, none⟩) (v := .slice (some ⟨pa, oa, none⟩) 4 c1) hb1 (by go_simp) (by go_simp); obtain ⟨kc_, fc_, lc_⟩ := keep_later (a := ⟨w1.heap.size, 0, none⟩) (v := .int .i64 X) hb1 (by go_simp) (by go_simp); obtain ⟨kc_, fc_, lc_⟩ := keep_later (a := ⟨w1.heap.size, 1, none⟩) (v := .int .i64 Y) hb1 (by go_simp) (by go_simp); clear hb1 g0 g1 g2 g3 g4 g5 g6 g7 g8 g9 g10 g11 e0 e1 e2 e3 e4 e5 e6 e7 e8 e9 e10 e11
          have hcy2 := (Below.cell (by (repeat (first | with_reducible exact Below.refl _ _ | with_reducible assumption | (with_reducible refine below_drewN ?_ _) | (with_reducible refine Below.drew ?_) | (with_reducible refine Below.setCell ?_ (by first | omega | (simp; done) | (simp; omega)) _) | (with_reducible refine Below.alloc ?_ (by first | omega | (simp; done) | (simp; omega)) _) | refine Below.trans ?_ (Below.mono (by with_reducible assumption) (by first | omega | (simp; done) | (simp; omega))))) : Below w.heap.size w w2) (p := ⟨pa, oa + u, none⟩) hpa).trans HCX.out
          have hpay2 : pa < w2.heap.size := by omega
          have hly0 : w.heap.size < w2.heap.size := by omega
          have hly1 : w.heap.size + 1 < w2.heap.size := by omega
          obtain ⟨g0, g1, g2, g3, g4, g5, g6, g7, g8, g9, g10, g11⟩ := hLa
          obtain ⟨e0, e1, e2, e3, e4, e5, e6, e7, e8, e9, e10, e11⟩ := hLb
          cases tl
          · have HX : Hid (endsTo rs u vs (k + 1) = some _) := Lib.hid ((HPT.out hx0 HBX.out).trans (congrArg some (put_lo0 (by omega) htl)))
            go_wp2
            go_roundw
            case rel => exact ⟨k + 1, _, _, _, _, _, _, by omega, by go_num, HX, ⟨by go_simp, by go_simp, by go_simp, by go_simp, by go_simp, by go_simp, by go_simp, by go_simp, by go_simp, by go_simp, by go_simp, by go_simp⟩, ⟨by go_simp, by go_simp, by go_simp, by go_simp, by go_simp, by go_simp, by go_simp, by go_simp, by go_simp, by go_simp, by go_simp, by go_simp⟩, by (repeat (first | with_reducible exact Below.refl _ _ | with_reducible assumption | (with_reducible refine below_drewN ?_ _) | (with_reducible refine Below.drew ?_) | (with_reducible refine Below.setCell ?_ (by first | omega | (simp; done) | (simp; omega)) _) | (with_reducible refine Below.alloc ?_ (by first | omega | (simp; done) | (simp; omega)) _) | refine Below.trans ?_ (Below.mono (by with_reducible assumption) (by first | omega | (simp; done) | (simp; omega)))))⟩
            case measure => simp [intOf]; omega
          · have HX : Hid (endsTo rs u vs (k + 1) = some _) := Lib.hid ((HPT.out hx0 HBX.out).trans (congrArg some (put_lo (by omega) (.inr htl))))
            go_wp2
            go_roundw
            case rel => exact ⟨k + 1, _, _, _, _, _, _, by omega, by go_num, HX, ⟨by go_simp, by go_simp, by go_simp, by go_simp, by go_simp, by go_simp, by go_simp, by go_simp, by go_simp, by go_simp, by go_simp, by go_simp⟩, ⟨by go_simp, by go_simp, by go_simp, by go_simp, by go_simp, by go_simp, by go_simp, by go_simp, by go_simp, by go_simp, by go_simp, by go_simp⟩, by (repeat (first | with_reducible exact Below.refl _ _ | with_reducible assumption | (with_reducible refine below_drewN ?_ _) | (with_reducible refine Below.drew ?_) | (with_reducible refine Below.setCell ?_ (by first | omega | (simp; done) | (simp; omega)) _) | (with_reducible refine Below.alloc ?_ (by first | omega | (simp; done) | (simp; omega)) _) | refine Below.trans ?_ (Below.mono (by with_reducible assumption) (by first | omega | (simp; done) | (simp; omega)))))⟩
            case measure => simp [intOf]; omega
    · obtain rfl : k = n := by omega
      have ho : o = some ⟨(l1, l2), (h1, h2), hl, hh⟩ := HO0.out.symm.trans (by rw [hlen0]; exact HE.out)
      subst ho
      obtain ⟨g0, g1, g2, g3, g4, g5, g6, g7, g8, g9, g10, g11⟩ := hL0
      obtain ⟨e0, e1, e2, e3, e4, e5, e6, e7, e8, e9, e10, e11⟩ := hL1
      go_wp2
      refine bodyPost_ret (v := .tuple #[.agg #[.int .i64 l1, .int .i64 l2, .int .i64 h1, .int .i64 h2, .bool hl, .bool hh], .bool true]) (by simp only [results, Try.results93]; go_simp) rfl ?_
      exact ⟨l1, l2, h1, h2, hl, hh, rfl, fun _ e => (Option.some.inj e).symm, by (repeat (first | with_reducible exact Below.refl _ _ | with_reducible assumption | (with_reducible refine below_drewN ?_ _) | (with_reducible refine Below.drew ?_) | (with_reducible refine Below.setCell ?_ (by first | omega | (simp; done) | (simp; omega)) _) | (with_reducible refine Below.alloc ?_ (by first | omega | (simp; done) | (simp; omega)) _) | refine Below.trans ?_ (Below.mono (by with_reducible assumption) (by first | omega | (simp; done) | (simp; omega)))))⟩

set_option maxHeartbeats 4000000 in
theorem l3Choose_any (l1 l2 h1 h2 : Int) (hl hh : Bool) (w : World) :
    Calls Try.prog 94 #[.agg #[.int .i64 l1, .int .i64 l2, .int .i64 h1, .int .i64 h2, .bool hl, .bool hh]] w (RatBk (toO (chooseR ⟨(l1, l2), (h1, h2), hl, hh⟩)) w) := by
  obtain ⟨o, ho0⟩ : ∃ o, toO (chooseR ⟨(l1, l2), (h1, h2), hl, hh⟩) = o := ⟨_, rfl⟩
  rw [ho0]
  have hho : ∀ {X Y : Int} {t : Bool}, chooseR ⟨(l1, l2), (h1, h2), hl, hh⟩ = (X, Y, t) → o = toO (X, Y, t) := fun e => ho0.symm.trans (congrArg toO e)
  clear ho0
  cases hl <;> cases hh
  · have ho : o = toO (0, 1, true) := hho rfl
    subst ho
    go_enter Try.func94, Try.ntmps94
    go_wp2
    refine bodyPost_ret (v := .tuple #[.agg #[.int .i64 0, .int .i64 1], .bool true]) (by simp only [results, Try.results94]; go_simp) rfl ⟨0, 1, by rw [(toO_some (0, 1, true)).1], (toO_some (0, 1, true)).2, ?_⟩
    (repeat (first | with_reducible exact Below.refl _ _ | with_reducible assumption | (with_reducible refine below_drewN ?_ _) | (with_reducible refine Below.drew ?_) | (with_reducible refine Below.setCell ?_ (by first | omega | (simp; done) | (simp; omega)) _) | (with_reducible refine Below.alloc ?_ (by first | omega | (simp; done) | (simp; omega)) _) | refine Below.trans ?_ (Below.mono (by with_reducible assumption) (by first | omega | (simp; done) | (simp; omega)))))
  · obtain ⟨X, Y, t, hm⟩ : ∃ X Y t, addR h1 h2 (-1) 1 = (X, Y, t) := ⟨_, _, _, rfl⟩
    have ho : o = toO (X, Y, t) := hho hm
    subst ho
    go_enter Try.func94, Try.ntmps94
    have HM := Lib.hid hm
    clear hm hho
    go_wp2_with fail
    refine (sRatAdd_any h1 h2 (-1) 1 X Y t HM _).mono ?_
    rintro e w4 ⟨rfl, hb1⟩
    have hz1 := hb1.size; (try simp at hz1); have hB1 : Below w.heap.size w w4 := (by refine Below.trans ?_ (Below.mono hb1 (by first | omega | (simp; done) | (simp; omega))); (repeat (first | with_reducible exact Below.refl _ _ | with_reducible assumption | (with_reducible refine below_drewN ?_ _) | (with_reducible refine Below.drew ?_) | (with_reducible refine Below.setCell ?_ (by first | omega | (simp; done) | (simp; omega)) _) | (with_reducible refine Below.alloc ?_ (by first | omega | (simp; done) | (simp; omega)) _) | refine Below.trans ?_ (Below.mono (by with_reducible assumption) (by first | omega | (simp; done) | (simp; omega)))))); obtain ⟨kc_, fc_, lc_⟩ := keep_later (a := ⟨w.heap.size+1, 0, none⟩) (v := .int .i64 0) hb1 (by go_simp) (by go_simp); obtain ⟨kc_, fc_, lc_⟩ := keep_later (a := ⟨w.heap.size+1, 1, none⟩) (v := .int .i64 0) hb1 (by go_simp) (by go_simp); clear hb1
    go_wp2
    refine bodyPost_ret (v := .tuple #[.agg #[.int .i64 X, .int .i64 Y], .bool t]) (by simp only [results, Try.results94]; go_simp) rfl ⟨X, Y, by rw [(toO_some (X, Y, t)).1], (toO_some (X, Y, t)).2, ?_⟩
    (repeat (first | with_reducible exact Below.refl _ _ | with_reducible assumption | (with_reducible refine below_drewN ?_ _) | (with_reducible refine Below.drew ?_) | (with_reducible refine Below.setCell ?_ (by first | omega | (simp; done) | (simp; omega)) _) | (with_reducible refine Below.alloc ?_ (by first | omega | (simp; done) | (simp; omega)) _) | refine Below.trans ?_ (Below.mono (by with_reducible assumption) (by first | omega | (simp; done) | (simp; omega)))))
  · obtain ⟨X, Y, t, hm⟩ : ∃ X Y t, addR l1 l2 1 1 = (X, Y, t) := ⟨_, _, _, rfl⟩
    have ho : o = toO (X, Y, t) := hho hm
    subst ho
    go_enter Try.func94, Try.ntmps94
    have HM := Lib.hid hm
    clear hm hho
    go_wp2_with fail
    refine (sRatAdd_any l1 l2 1 1 X Y t HM _).mono ?_
    rintro e w4 ⟨rfl, hb1⟩
    have hz1 := hb1.size; (try simp at hz1); have hB1 : Below w.heap.size w w4 := (by refine Below.trans ?_ (Below.mono hb1 (by first | omega | (simp; done) | (simp; omega))); (repeat (first | with_reducible exact Below.refl _ _ | with_reducible assumption | (with_reducible refine below_drewN ?_ _) | (with_reducible refine Below.drew ?_) | (with_reducible refine Below.setCell ?_ (by first | omega | (simp; done) | (simp; omega)) _) | (with_reducible refine Below.alloc ?_ (by first | omega | (simp; done) | (simp; omega)) _) | refine Below.trans ?_ (Below.mono (by with_reducible assumption) (by first | omega | (simp; done) | (simp; omega)))))); obtain ⟨kc_, fc_, lc_⟩ := keep_later (a := ⟨w.heap.size+1, 0, none⟩) (v := .int .i64 0) hb1 (by go_simp) (by go_simp); obtain ⟨kc_, fc_, lc_⟩ := keep_later (a := ⟨w.heap.size+1, 1, none⟩) (v := .int .i64 0) hb1 (by go_simp) (by go_simp); clear hb1
    go_wp2
    refine bodyPost_ret (v := .tuple #[.agg #[.int .i64 X, .int .i64 Y], .bool t]) (by simp only [results, Try.results94]; go_simp) rfl ⟨X, Y, by rw [(toO_some (X, Y, t)).1], (toO_some (X, Y, t)).2, ?_⟩
    (repeat (first | with_reducible exact Below.refl _ _ | with_reducible assumption | (with_reducible refine below_drewN ?_ _) | (with_reducible refine Below.drew ?_) | (with_reducible refine Below.setCell ?_ (by first | omega | (simp; done) | (simp; omega)) _) | (with_reducible refine Below.alloc ?_ (by first | omega | (simp; done) | (simp; omega)) _) | refine Below.trans ?_ (Below.mono (by with_reducible assumption) (by first | omega | (simp; done) | (simp; omega)))))
  · obtain ⟨X, Y, t, hm⟩ : ∃ X Y t, midR l1 l2 h1 h2 = (X, Y, t) := ⟨_, _, _, rfl⟩
    have ho : o = toO (X, Y, t) := hho hm
    subst ho
    go_enter Try.func94, Try.ntmps94
    have HM := Lib.hid hm
    clear hm hho
    go_wp2_with fail
    refine (sRatMid_any l1 l2 h1 h2 X Y t HM _).mono ?_
    rintro e w4 ⟨rfl, hb1⟩
    have hz1 := hb1.size; (try simp at hz1); have hB1 : Below w.heap.size w w4 := (by refine Below.trans ?_ (Below.mono hb1 (by first | omega | (simp; done) | (simp; omega))); (repeat (first | with_reducible exact Below.refl _ _ | with_reducible assumption | (with_reducible refine below_drewN ?_ _) | (with_reducible refine Below.drew ?_) | (with_reducible refine Below.setCell ?_ (by first | omega | (simp; done) | (simp; omega)) _) | (with_reducible refine Below.alloc ?_ (by first | omega | (simp; done) | (simp; omega)) _) | refine Below.trans ?_ (Below.mono (by with_reducible assumption) (by first | omega | (simp; done) | (simp; omega)))))); obtain ⟨kc_, fc_, lc_⟩ := keep_later (a := ⟨w.heap.size+1, 0, none⟩) (v := .int .i64 0) hb1 (by go_simp) (by go_simp); obtain ⟨kc_, fc_, lc_⟩ := keep_later (a := ⟨w.heap.size+1, 1, none⟩) (v := .int .i64 0) hb1 (by go_simp) (by go_simp); clear hb1
    go_wp2
    refine bodyPost_ret (v := .tuple #[.agg #[.int .i64 X, .int .i64 Y], .bool t]) (by simp only [results, Try.results94]; go_simp) rfl ⟨X, Y, by rw [(toO_some (X, Y, t)).1], (toO_some (X, Y, t)).2, ?_⟩
    (repeat (first | with_reducible exact Below.refl _ _ | with_reducible assumption | (with_reducible refine below_drewN ?_ _) | (with_reducible refine Below.drew ?_) | (with_reducible refine Below.setCell ?_ (by first | omega | (simp; done) | (simp; omega)) _) | (with_reducible refine Below.alloc ?_ (by first | omega | (simp; done) | (simp; omega)) _) | refine Below.trans ?_ (Below.mono (by with_reducible assumption) (by first | omega | (simp; done) | (simp; omega)))))

/-- The uses of the first row that is bad, or none. -/
def BadBk (o : Option (List Int)) (w : World) (e : Ending) (w' : World) : Prop :=
  ∃ A n c, e = .returned (.slice A n c) ∧ (match o with
    | none => n = 0
    | some ts => Ints w' A n ts) ∧ Below w.heap.size w w'
theorem bad_some {o : Option (List Int)} {ts : List Int} {w w' : World} {e : Ending} (ho : o = some ts) (h : ∃ A n c, e = .returned (.slice A n c) ∧ Ints w' A n ts ∧ Below w.heap.size w w') : BadBk o w e w' := by subst ho; exact h
theorem bad_none {o : Option (List Int)} {w w' : World} {e : Ending} (ho : o = none) (h : ∃ A n c, e = .returned (.slice A n c) ∧ n = 0 ∧ Below w.heap.size w w') : BadBk o w e w' := by subst ho; exact h
set_option maxHeartbeats 4000000 in
theorem l3Bad_any {A : Option Addr} {n c N : Nat} {rs : List RowV} {w : World} (h : Rws w A n rs) (hrs : RowsOk N rs) :
    Calls Try.prog 61 #[.slice A n c] w (BadBk (badAt rs) w) := by
  have hlen0 := h.len
  have hmany := hrs.many
  rw [hlen0] at hmany
  obtain ⟨o, ho⟩ : ∃ o, badAt rs = o := ⟨_, rfl⟩
  rw [ho]
  have HO := Lib.hid ho
  clear ho
  go_enter Try.func61, Try.ntmps61
  go_wp2_with fail
  go_loopw [3] (fun i wr => ∃ k : Nat, k ≤ n ∧ i = .int .i64 k ∧ Hid (∀ j, j < k → linBad (rs.getD j row0).1.1 (rs.getD j row0).1.2.1 (rs.getD j row0).1.2.2 = false) ∧ Below w.heap.size w wr) (fun i _ => n - (intOf i).toNat)
  case atStart => exact ⟨0, by omega, rfl, Lib.hid (fun j hj => absurd hj (by omega)), by (repeat (first | with_reducible exact Below.refl _ _ | with_reducible assumption | (with_reducible refine below_drewN ?_ _) | (with_reducible refine Below.drew ?_) | (with_reducible refine Below.setCell ?_ (by first | omega | (simp; done) | (simp; omega)) _) | (with_reducible refine Below.alloc ?_ (by first | omega | (simp; done) | (simp; omega)) _) | refine Below.trans ?_ (Below.mono (by with_reducible assumption) (by first | omega | (simp; done) | (simp; omega)))))⟩
  case round =>
    obtain ⟨k, hk, rfl, HBD, hBo⟩ := hrel
    have hzo := hBo.size
    by_cases hlt : k < n
    · obtain ⟨p, o1, rfl, hp0, hcs⟩ := h.cells (by omega)
      obtain ⟨A2, q2, c2, B2, q3, d2, ⟨hI0, hJ0⟩, hd1, hd2, hd3, hd4⟩ := (hcs k hlt).ex
      clear hcs
      have HHIT := Lib.hid (fun hh => badAt_hit (rs := rs) (k := k) (by rw [h.len]; exact hlt) HBD.out hh)
      obtain ⟨xs, b, s, us, hxx⟩ := row_at' rs k
      have HXX := Lib.hid hxx
      rw [hxx] at hI0 hJ0 hd2 hd3 HHIT
      dsimp only at hI0 hJ0 hd2 hd3 HHIT
      have xc1 := (hBo.cell (p := ⟨p, o1 + k * 4, none⟩) hp0).trans hd1
      have xc2 := (hBo.cell (p := ⟨p, o1 + k * 4 + 1, none⟩) hp0).trans hd2
      have xc3 := (hBo.cell (p := ⟨p, o1 + k * 4 + 2, none⟩) hp0).trans hd3
      have hpw : p < wr.heap.size := by omega
      clear hxx
      obtain ⟨v, hv⟩ : ∃ v, linBad xs b s = v := ⟨_, rfl⟩
      have HV := Lib.hid hv
      go_wp2_with fail
      refine (sLinBad_any (xs := xs) b s (hI0.later (by (repeat (first | with_reducible exact Below.refl _ _ | with_reducible assumption | (with_reducible refine below_drewN ?_ _) | (with_reducible refine Below.drew ?_) | (with_reducible refine Below.setCell ?_ (by first | omega | (simp; done) | (simp; omega)) _) | (with_reducible refine Below.alloc ?_ (by first | omega | (simp; done) | (simp; omega)) _) | refine Below.trans ?_ (Below.mono (by with_reducible assumption) (by first | omega | (simp; done) | (simp; omega)))))))).mono ?_
      rw [hv]
      clear hv
      rintro e w4 ⟨rfl, hb1⟩
      have hz1 := hb1.size; (try simp at hz1); have hB1 : Below w.heap.size w w4 := (by refine Below.trans ?_ (Below.mono hb1 (by first | omega | (simp; done) | (simp; omega))); (repeat (first | with_reducible exact Below.refl _ _ | with_reducible assumption | (with_reducible refine below_drewN ?_ _) | (with_reducible refine Below.drew ?_) | (with_reducible refine Below.setCell ?_ (by first | omega | (simp; done) | (simp; omega)) _) | (with_reducible refine Below.alloc ?_ (by first | omega | (simp; done) | (simp; omega)) _) | refine Below.trans ?_ (Below.mono (by with_reducible assumption) (by first | omega | (simp; done) | (simp; omega))))))
      have yc4 := ((Below.cell hB1 (p := ⟨p, o1 + k * 4 + 3, none⟩) hp0)).trans hd4
      have hpy : p < w4.heap.size := by omega
      clear hb1
      cases v
      · go_wp2
        go_roundw
        case rel => exact ⟨k + 1, by omega, by go_num, Lib.hid (fun j hj => by
          by_cases e : j = k
          · rw [e, HXX.out]; exact HV.out
          · exact HBD.out j (by omega)), by (repeat (first | with_reducible exact Below.refl _ _ | with_reducible assumption | (with_reducible refine below_drewN ?_ _) | (with_reducible refine Below.drew ?_) | (with_reducible refine Below.setCell ?_ (by first | omega | (simp; done) | (simp; omega)) _) | (with_reducible refine Below.alloc ?_ (by first | omega | (simp; done) | (simp; omega)) _) | refine Below.trans ?_ (Below.mono (by with_reducible assumption) (by first | omega | (simp; done) | (simp; omega)))))⟩
        case measure => simp [intOf]; omega
      · go_wp2
        go_ret
        exact bad_some (HO.out.symm.trans (HHIT.out HV.out)) ⟨B2, q3, d2, rfl, hJ0.later (by (repeat (first | with_reducible exact Below.refl _ _ | with_reducible assumption | (with_reducible refine below_drewN ?_ _) | (with_reducible refine Below.drew ?_) | (with_reducible refine Below.setCell ?_ (by first | omega | (simp; done) | (simp; omega)) _) | (with_reducible refine Below.alloc ?_ (by first | omega | (simp; done) | (simp; omega)) _) | refine Below.trans ?_ (Below.mono (by with_reducible assumption) (by first | omega | (simp; done) | (simp; omega)))))), by (repeat (first | with_reducible exact Below.refl _ _ | with_reducible assumption | (with_reducible refine below_drewN ?_ _) | (with_reducible refine Below.drew ?_) | (with_reducible refine Below.setCell ?_ (by first | omega | (simp; done) | (simp; omega)) _) | (with_reducible refine Below.alloc ?_ (by first | omega | (simp; done) | (simp; omega)) _) | refine Below.trans ?_ (Below.mono (by with_reducible assumption) (by first | omega | (simp; done) | (simp; omega)))))⟩
    · obtain rfl : k = n := by omega
      have hb0 := badAt_miss (rs := rs) (by rw [h.len]; exact HBD.out)
      go_wp2
      go_ret
      exact bad_none (HO.out.symm.trans hb0) ⟨_, _, _, rfl, rfl, by (repeat (first | with_reducible exact Below.refl _ _ | with_reducible assumption | (with_reducible refine below_drewN ?_ _) | (with_reducible refine Below.drew ?_) | (with_reducible refine Below.setCell ?_ (by first | omega | (simp; done) | (simp; omega)) _) | (with_reducible refine Below.alloc ?_ (by first | omega | (simp; done) | (simp; omega)) _) | refine Below.trans ?_ (Below.mono (by with_reducible assumption) (by first | omega | (simp; done) | (simp; omega)))))⟩
end Go.Proofs.Ytccjbipmlpnhkaa

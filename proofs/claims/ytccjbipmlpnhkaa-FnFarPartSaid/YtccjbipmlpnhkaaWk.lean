/- Numbers told one by one, by the reference: contract. -/
import Derived.Test.YtccjbipmlpnhkaaWg
import Derived.Test.YtccjbipmlpnhkaaJ
namespace Go.Proofs.Ytccjbipmlpnhkaa
set_option maxRecDepth 100000
open Go.RowKit Go.ChangeShapes Go.WideShapes Go.ChangeAt
set_option linter.unusedSimpArgs false
set_option linter.unusedVariables false

/-- Four numbers, or not. -/
def BackBk (o : Option (List (Int × Int))) (w : World) (e : Ending) (w' : World) : Prop :=
  ∃ g cap, e = .returned (.tuple #[.slice (some ⟨g, 0, none⟩) 4 cap, .bool o.isSome]) ∧ (∀ vs, o = some vs → Rats w' (some ⟨g, 0, none⟩) 4 vs ∧ Free w' g ∧ w.heap.size ≤ g) ∧ Below w.heap.size w w'

set_option maxHeartbeats 8000000 in
theorem l3Back_any {S c : Nat} {ls : List LinV} {rs0 : List RowV} {w : World} (h : Stages w S ls 0) (hs : sysOk ls = true) (hc : chain ls 4 = some rs0) :
    Calls Try.prog 62 #[.slice (some ⟨S, 0, none⟩) 4 c] w (BackBk (backTo ls 4) w) := by
  obtain ⟨j0, hj, yj0, yj1, yj2⟩ := info_parts rat_info
  obtain ⟨o, ho⟩ : ∃ o, backTo ls 4 = o := ⟨_, rfl⟩
  rw [ho]
  have HO := Lib.hid ho
  clear ho
  go_enter Try.func62, Try.ntmps62
  go_wp2_with fail
  go_loopw [4, 5] (fun v0 i wr => ∃ (k : Nat) (iv : Int) (v : Value), k ≤ 4 ∧ i = .int .i64 iv ∧ iv = k ∧ v = v0 ∧ RowR wr w.heap.size v k (List.replicate k (0, 1)) ∧ Below w.heap.size w wr) (fun _ i _ => 4 - (intOf i).toNat)
  case atStart => exact ⟨0, _, _, by omega, rfl, rfl, rfl, ⟨own_empty2 rfl (Nat.le_refl _), fun j => by simp [J64]⟩, by (repeat (first | with_reducible exact Below.refl _ _ | with_reducible assumption | (with_reducible refine below_drewN ?_ _) | (with_reducible refine Below.drew ?_) | (with_reducible refine Below.setCell ?_ (by first | omega | (simp; done) | (simp; omega)) _) | (with_reducible refine Below.alloc ?_ (by first | omega | (simp; done) | (simp; omega)) _) | refine Below.trans ?_ (Below.mono (by with_reducible assumption) (by first | omega | (simp; done) | (simp; omega)))))⟩
  case round =>
    obtain ⟨k, iv, v, hk, rfl, hiv, rfl, hrow, hB⟩ := hrel
    have hzr := hB.size
    by_cases hlt : k < 4
    · subst hiv
      go_wp2_with (first | (at_builtin; refine wpList_append_lies _ (by rfl) (.tmp 14) (.tmp 16) _ (by rfl) w.heap.size 82 j0 _ 2 16 Try.underlying28 hj yj0 yj1 yj2 rfl (by omega) v k _ (by rfl) (hrow.alloc _).own ⟨wr.heap.size, 0, none⟩ 1 1 [.int .i64 0, .int .i64 1] (by rfl) (by rfl) (news_at (by first | omega | (simp; done) | (simp; omega))) (by simp [Value.oneCell']) (by omega) (by unfold maxLen; omega) (by omega) (by first | omega | (simp; done) | (simp; omega)) (wr.heap.size + 1) (by simp) ?_; intro g' cap' wq hown3 hgrow hat hlt2; have hrow4 : RowR wq w.heap.size (.slice (some ⟨g', 0, none⟩) (k + 1) cap') (k + 1) (List.replicate k (0, 1) ++ [(0, 1)]) := ⟨by rw [flat_snoc]; exact hown3, snoc_rng2 hrow.rng (by unfold J64; omega) (by unfold J64; omega)⟩; have hB4 : Below w.heap.size w wq := Below.grown (by (repeat (first | with_reducible exact Below.refl _ _ | with_reducible assumption | (with_reducible refine below_drewN ?_ _) | (with_reducible refine Below.drew ?_) | (with_reducible refine Below.setCell ?_ (by first | omega | (simp; done) | (simp; omega)) _) | (with_reducible refine Below.alloc ?_ (by first | omega | (simp; done) | (simp; omega)) _) | refine Below.trans ?_ (Below.mono (by with_reducible assumption) (by first | omega | (simp; done) | (simp; omega)))))) hgrow (by first | omega | (simp; done) | (simp; omega)) (fun j hj => (hrow.own.lt j hj).1); clear hown3 hgrow hat hlt2 hrow))
      rw [← List.replicate_succ'] at hrow4
      go_roundw
      case rel => exact ⟨k + 1, _, _, by omega, rfl, by first | rfl | (simp; done) | omega, rfl, hrow4, hB4⟩
      case measure => simp [intOf]; omega
    · obtain rfl : k = 4 := by omega
      obtain rfl : iv = 4 := by omega
      clear hiv
      obtain ⟨q, cap, rfl, _, _⟩ := hrow.own.form (by omega)
      obtain ⟨hq1, hq2⟩ := hrow.lt
      have hV0 := hrow.rats (by omega)
      have hF0 : Free wr q := ⟨hq2, fun j => hrow.own.frozenAt j⟩
      obtain ⟨wo, rfl⟩ : ∃ x : World, x = wr := ⟨wr, rfl⟩
      clear hrow
      go_wp2_with fail
      go_loopw [6] (fun i wr => ∃ (k : Nat) (vs : List (Int × Int)), k ≤ 4 ∧ i = .int .i64 k ∧ Hid (backTo ls k = some vs) ∧ Rats wr (some ⟨q, 0, none⟩) 4 vs ∧ Free wr q ∧ Below w.heap.size w wr) (fun i _ => 4 - (intOf i).toNat)
      case atStart => exact ⟨0, _, by omega, rfl, Lib.hid rfl, hV0, hF0, hB⟩
      case round =>
        clear hV0 hF0 hzr hq2
        obtain ⟨k2, vs, hk2, rfl, HBK, hVV, hFV, hBw⟩ := hrel
        have hzw := hBw.size
        by_cases hlt3 : k2 < 4
        · obtain ⟨A5, n5, c5, hst, hRs⟩ := h.at_ k2 (by omega) hlt3
          have hst1 := (hBw.cell (p := ⟨S, k2, none⟩) h.lt).trans hst
          have hRs1 := hRs.later hBw
          have hsl := h.lt
          clear hst hRs
          obtain ⟨oe, hoe⟩ : ∃ oe, endsTo (stage ls k2) k2 vs (stage ls k2).length = oe := ⟨_, rfl⟩
          have HOE := Lib.hid hoe
          go_wp2_with fail
          refine (l3Bounds_any (N := ls.length) (u := k2) hRs1 hVV (stage_ok hs hc hlt3) hlt3).mono ?_
          rw [hoe]
          clear hoe
          rintro e w10 ⟨l1, l2, h1, h2, hl, hh, rfl, hpe, hb1⟩
          have hV10 := hVV.later hb1
          have hF10 := hFV.later hb1
          have hz1 := hb1.size; (try simp at hz1); have hB1 : Below w.heap.size w w10 := (by refine Below.trans ?_ (Below.mono hb1 (by first | omega | (simp; done) | (simp; omega))); (repeat (first | with_reducible exact Below.refl _ _ | with_reducible assumption | (with_reducible refine below_drewN ?_ _) | (with_reducible refine Below.drew ?_) | (with_reducible refine Below.setCell ?_ (by first | omega | (simp; done) | (simp; omega)) _) | (with_reducible refine Below.alloc ?_ (by first | omega | (simp; done) | (simp; omega)) _) | refine Below.trans ?_ (Below.mono (by with_reducible assumption) (by first | omega | (simp; done) | (simp; omega))))))
          have HPE := Lib.hid hpe
          clear hb1 hpe hRs1 hVV hFV
          cases oe with
          | none =>
            have ho : o = none := HO.out.symm.trans (backTo_none (back_no HBK.out (value_none HOE.out)) (by omega))
            subst ho
            go_wp2
            refine bodyPost_ret (v := .tuple #[.slice (some ⟨q, 0, none⟩) 4 cap, .bool false]) (by simp only [results, Try.results62]; go_simp) rfl ⟨q, cap, rfl, fun _ e => (by cases e), ?_⟩
            (repeat (first | with_reducible exact Below.refl _ _ | with_reducible assumption | (with_reducible refine below_drewN ?_ _) | (with_reducible refine Below.drew ?_) | (with_reducible refine Below.setCell ?_ (by first | omega | (simp; done) | (simp; omega)) _) | (with_reducible refine Below.alloc ?_ (by first | omega | (simp; done) | (simp; omega)) _) | refine Below.trans ?_ (Below.mono (by with_reducible assumption) (by first | omega | (simp; done) | (simp; omega)))))
          | some ee =>
            obtain rfl := HPE.out _ rfl
            obtain ⟨ov, hov⟩ : ∃ ov, toO (chooseR ⟨(l1, l2), (h1, h2), hl, hh⟩) = ov := ⟨_, rfl⟩
            have HOV := Lib.hid ((value_some HOE.out).trans hov)
            go_wp2_with fail
            refine (l3Choose_any l1 l2 h1 h2 hl hh _).mono ?_
            rw [hov]
            clear hov
            rintro e w11 ⟨X, Y, rfl, hpe, hb1⟩
            have hV11 := Rats.later (hV10.alloc _) hb1
            have hF11 := Free.later (hF10.alloc _) hb1
            have hz1 := hb1.size; (try simp at hz1); have hB1 : Below w.heap.size w w11 := (by refine Below.trans ?_ (Below.mono hb1 (by first | omega | (simp; done) | (simp; omega))); (repeat (first | with_reducible exact Below.refl _ _ | with_reducible assumption | (with_reducible refine below_drewN ?_ _) | (with_reducible refine Below.drew ?_) | (with_reducible refine Below.setCell ?_ (by first | omega | (simp; done) | (simp; omega)) _) | (with_reducible refine Below.alloc ?_ (by first | omega | (simp; done) | (simp; omega)) _) | refine Below.trans ?_ (Below.mono (by with_reducible assumption) (by first | omega | (simp; done) | (simp; omega))))))
            have HPV := Lib.hid hpe
            clear hb1 hpe hV10 hF10
            obtain ⟨bb, ob, eb, hbl, hcc⟩ := hV11.cells (by omega)
            obtain ⟨rfl, rfl⟩ : q = bb ∧ 0 = ob := by
              have := Option.some.inj eb
              simp only [Addr.mk.injEq] at this
              exact ⟨this.1, this.2.1⟩
            have hd1 := (hcc k2 hlt3).1
            have hd2 := (hcc k2 hlt3).2
            rw [Nat.zero_add] at hd1 hd2
            have hf1 := hF11.free (k2 * 2)
            have hf2 := hF11.free (k2 * 2 + 1)
            clear hcc eb
            generalize (vs.getD k2 (0, 0)).1 = z1 at hd1
            generalize (vs.getD k2 (0, 0)).2 = z2 at hd2
            cases ov with
            | none =>
              have ho : o = none := HO.out.symm.trans (backTo_none (back_no HBK.out HOV.out) (by omega))
              subst ho
              go_wp2
              refine bodyPost_ret (v := .tuple #[.slice (some ⟨q, 0, none⟩) 4 cap, .bool false]) (by simp only [results, Try.results62]; go_simp) rfl ⟨q, cap, rfl, fun _ e => (by cases e), ?_⟩
              (repeat (first | with_reducible exact Below.refl _ _ | with_reducible assumption | (with_reducible refine below_drewN ?_ _) | (with_reducible refine Below.drew ?_) | (with_reducible refine Below.setCell ?_ (by first | omega | (simp; done) | (simp; omega)) _) | (with_reducible refine Below.alloc ?_ (by first | omega | (simp; done) | (simp; omega)) _) | refine Below.trans ?_ (Below.mono (by with_reducible assumption) (by first | omega | (simp; done) | (simp; omega)))))
            | some pv =>
              obtain rfl := HPV.out _ rfl
              have hJ := valueR_J HOV.out
              have HVP := Lib.hid (hV11.put hlt3 hJ.1 hJ.2)
              clear hV11 hJ
              go_wp2
              go_roundw
              case rel => exact ⟨k2 + 1, vs.set k2 (X, Y), by omega, by go_num, Lib.hid (back_yes HBK.out HOV.out), HVP.out, by (repeat (first | with_reducible exact hF11 | (with_reducible refine Free.set ?_ _ _) | (with_reducible refine Free.alloc ?_ _) | (with_reducible refine Free.drewN ?_ _) | (with_reducible refine Free.drew ?_))), by (repeat (first | with_reducible exact Below.refl _ _ | with_reducible assumption | (with_reducible refine below_drewN ?_ _) | (with_reducible refine Below.drew ?_) | (with_reducible refine Below.setCell ?_ (by first | omega | (simp; done) | (simp; omega)) _) | (with_reducible refine Below.alloc ?_ (by first | omega | (simp; done) | (simp; omega)) _) | refine Below.trans ?_ (Below.mono (by with_reducible assumption) (by first | omega | (simp; done) | (simp; omega)))))⟩
              case measure => simp [intOf]; omega
        · obtain rfl : k2 = 4 := by omega
          have ho : o = some vs := HO.out.symm.trans HBK.out
          subst ho
          go_wp2
          refine bodyPost_ret (v := .tuple #[.slice (some ⟨q, 0, none⟩) 4 cap, .bool true]) (by simp only [results, Try.results62]; go_simp) rfl ⟨q, cap, rfl, fun vs' e => (by obtain rfl := Option.some.inj e; exact ⟨hVV, hFV, hq1⟩), hBw⟩
end Go.Proofs.Ytccjbipmlpnhkaa

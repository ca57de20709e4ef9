/- Systems decided by the program. -/
import Derived.Test.YtccjbipmlpnhkaaWi
import Derived.Test.YtccjbipmlpnhkaaWc
namespace Go.Proofs.Ytccjbipmlpnhkaa
set_option maxRecDepth 100000
open Go.RowKit Go.ChangeShapes Go.WideShapes Go.ChangeAt
set_option linter.unusedSimpArgs false
set_option linter.unusedVariables false

theorem rats_start (W : World) (t : TypeId) : Rats (W.alloc (.cells #[.int .i64 0, .int .i64 1, .int .i64 0, .int .i64 1, .int .i64 0, .int .i64 1, .int .i64 0, .int .i64 1] t)) (some ⟨W.heap.size, 0, none⟩) 4 [(0, 1), (0, 1), (0, 1), (0, 1)] := by
  refine ⟨rfl, fun _ => ⟨W.heap.size, 0, rfl, by simp, fun j hj => ?_⟩, fun j => ?_, by omega⟩
  · match j, hj with
    | 0, _ => exact ⟨by simp [go_sem], by simp [go_sem]⟩
    | 1, _ => exact ⟨by simp [go_sem], by simp [go_sem]⟩
    | 2, _ => exact ⟨by simp [go_sem], by simp [go_sem]⟩
    | 3, _ => exact ⟨by simp [go_sem], by simp [go_sem]⟩
  · match j with
    | 0 => exact ⟨by show J64 0; unfold J64; omega, by show J64 1; unfold J64; omega⟩
    | 1 => exact ⟨by show J64 0; unfold J64; omega, by show J64 1; unfold J64; omega⟩
    | 2 => exact ⟨by show J64 0; unfold J64; omega, by show J64 1; unfold J64; omega⟩
    | 3 => exact ⟨by show J64 0; unfold J64; omega, by show J64 1; unfold J64; omega⟩
    | j + 4 => exact ⟨by show J64 0; unfold J64; omega, by show J64 0; unfold J64; omega⟩

set_option maxHeartbeats 16000000 in
theorem iFarRun_any {A : Option Addr} {n c : Nat} {ls : List LinV} {w : World} (h : Lins w A n ls) :
    Calls Try.prog 15 #[.slice A n c] w (RunBack (farRun ls) w) := by
  have hlen := h.len
  obtain ⟨r, hr⟩ : ∃ r, farRun ls = r := ⟨_, rfl⟩
  rw [hr]
  have HR := Lib.hid hr
  clear hr
  cases hs : sysOk ls
  · go_enter Try.func15, Try.ntmps15
    go_wp2_with fail
    refine (isSystem_any (h.later (by (repeat (first | with_reducible exact Below.refl _ _ | with_reducible assumption | (with_reducible refine below_drewN ?_ _) | (with_reducible refine Below.drew ?_) | (with_reducible refine Below.setCell ?_ (by first | omega | (simp; done) | (simp; omega)) _) | (with_reducible refine Below.alloc ?_ (by first | omega | (simp; done) | (simp; omega)) _) | refine Below.trans ?_ (Below.mono (by with_reducible assumption) (by first | omega | (simp; done) | (simp; omega)))))))).mono ?_
    rw [hs]
    rintro e w1 ⟨rfl, hb1⟩
    have hz1 := hb1.size; (try simp at hz1); have hB1 : Below w.heap.size w w1 := (by refine Below.trans ?_ (Below.mono hb1 (by first | omega | (simp; done) | (simp; omega))); (repeat (first | with_reducible exact Below.refl _ _ | with_reducible assumption | (with_reducible refine below_drewN ?_ _) | (with_reducible refine Below.drew ?_) | (with_reducible refine Below.setCell ?_ (by first | omega | (simp; done) | (simp; omega)) _) | (with_reducible refine Below.alloc ?_ (by first | omega | (simp; done) | (simp; omega)) _) | refine Below.trans ?_ (Below.mono (by with_reducible assumption) (by first | omega | (simp; done) | (simp; omega))))))
    clear hb1
    go_wp2
    refine bodyPost_ret (v := .tuple #[.slice none 0 0, .slice none 0 0, .int .i64 3]) (by simp only [results, Try.results15]; go_simp) rfl ?_
    exact run_form (HR.out.symm.trans (run_inv hs)) ⟨none, 0, none, 0, rfl, by (repeat (first | with_reducible exact Below.refl _ _ | with_reducible assumption | (with_reducible refine below_drewN ?_ _) | (with_reducible refine Below.drew ?_) | (with_reducible refine Below.setCell ?_ (by first | omega | (simp; done) | (simp; omega)) _) | (with_reducible refine Below.alloc ?_ (by first | omega | (simp; done) | (simp; omega)) _) | refine Below.trans ?_ (Below.mono (by with_reducible assumption) (by first | omega | (simp; done) | (simp; omega)))))⟩
  have hn20 : n ≤ 20 := by have := sysOk_few hs; omega
  have HS := Lib.hid hs
  go_enter Try.func15, Try.ntmps15
  go_wp2_with fail
  refine (isSystem_any (h.later (by (repeat (first | with_reducible exact Below.refl _ _ | with_reducible assumption | (with_reducible refine below_drewN ?_ _) | (with_reducible refine Below.drew ?_) | (with_reducible refine Below.setCell ?_ (by first | omega | (simp; done) | (simp; omega)) _) | (with_reducible refine Below.alloc ?_ (by first | omega | (simp; done) | (simp; omega)) _) | refine Below.trans ?_ (Below.mono (by with_reducible assumption) (by first | omega | (simp; done) | (simp; omega)))))))).mono ?_
  rw [hs]
  clear hs
  rintro e w1 ⟨rfl, hb1⟩
  have hz1 := hb1.size; (try simp at hz1); have hB1 : Below w.heap.size w w1 := (by refine Below.trans ?_ (Below.mono hb1 (by first | omega | (simp; done) | (simp; omega))); (repeat (first | with_reducible exact Below.refl _ _ | with_reducible assumption | (with_reducible refine below_drewN ?_ _) | (with_reducible refine Below.drew ?_) | (with_reducible refine Below.setCell ?_ (by first | omega | (simp; done) | (simp; omega)) _) | (with_reducible refine Below.alloc ?_ (by first | omega | (simp; done) | (simp; omega)) _) | refine Below.trans ?_ (Below.mono (by with_reducible assumption) (by first | omega | (simp; done) | (simp; omega))))))
  clear hb1
  go_wp2_with fail
  refine (usedLins_any (h.later (by (repeat (first | with_reducible exact Below.refl _ _ | with_reducible assumption | (with_reducible refine below_drewN ?_ _) | (with_reducible refine Below.drew ?_) | (with_reducible refine Below.setCell ?_ (by first | omega | (simp; done) | (simp; omega)) _) | (with_reducible refine Below.alloc ?_ (by first | omega | (simp; done) | (simp; omega)) _) | refine Below.trans ?_ (Below.mono (by with_reducible assumption) (by first | omega | (simp; done) | (simp; omega))))))) hn20).mono ?_
  rintro e w2 ⟨A1, c1, rfl, hR, hb1⟩
  have hz1 := hb1.size; (try simp at hz1); have hB1 : Below w.heap.size w w2 := (by refine Below.trans ?_ (Below.mono hb1 (by first | omega | (simp; done) | (simp; omega))); (repeat (first | with_reducible exact Below.refl _ _ | with_reducible assumption | (with_reducible refine below_drewN ?_ _) | (with_reducible refine Below.drew ?_) | (with_reducible refine Below.setCell ?_ (by first | omega | (simp; done) | (simp; omega)) _) | (with_reducible refine Below.alloc ?_ (by first | omega | (simp; done) | (simp; omega)) _) | refine Below.trans ?_ (Below.mono (by with_reducible assumption) (by first | omega | (simp; done) | (simp; omega))))))
  clear hb1
  go_wp2_with fail
  go_loopw [5, 7] (fun rv i wr => ∃ (u : Nat) (B : Option Addr) (m d : Nat) (rs : List RowV), u ≤ 4 ∧ i = .int .i64 ((u : Int) - 1) ∧ rv = .slice B m d ∧ Rws wr B m rs ∧ Hid (chain ls (4 - u) = some rs) ∧ Stages wr w2.heap.size ls u ∧ Below w.heap.size w wr) (fun _ i _ => (intOf i + 1).toNat)
  case atStart => exact ⟨4, A1, n, c1, rowsOf ls, by omega, rfl, rfl, hR.later (by (repeat (first | with_reducible exact Below.refl _ _ | with_reducible assumption | (with_reducible refine below_drewN ?_ _) | (with_reducible refine Below.drew ?_) | (with_reducible refine Below.setCell ?_ (by first | omega | (simp; done) | (simp; omega)) _) | (with_reducible refine Below.alloc ?_ (by first | omega | (simp; done) | (simp; omega)) _) | refine Below.trans ?_ (Below.mono (by with_reducible assumption) (by first | omega | (simp; done) | (simp; omega)))))), Lib.hid rfl, Stages.start w2 ls _, by (repeat (first | with_reducible exact Below.refl _ _ | with_reducible assumption | (with_reducible refine below_drewN ?_ _) | (with_reducible refine Below.drew ?_) | (with_reducible refine Below.setCell ?_ (by first | omega | (simp; done) | (simp; omega)) _) | (with_reducible refine Below.alloc ?_ (by first | omega | (simp; done) | (simp; omega)) _) | refine Below.trans ?_ (Below.mono (by with_reducible assumption) (by first | omega | (simp; done) | (simp; omega)))))⟩
  case round =>
    clear hR
    obtain ⟨u, B, m, d, rs, hu, rfl, rfl, hRr, HC, hSt, hB⟩ := hrel
    have hok := chain_ok HS.out HC.out
    have hsl := hSt.lt
    cases u with
    | succ v =>
      have e1 : ((v + 1 : Nat) : Int) - 1 = v := by omega
      rw [e1]
      obtain ⟨v0, hv0⟩ := hSt.cell v (by omega)
      have hf0 := hSt.free v
      have HP := Lib.hid (hSt.put (n := m) (c := d) (A := B) (by omega) (by rw [stage_eq (by omega) HC.out]; exact hRr))
      have hRs := hRr.slicy (x := v) hSt.only (.slice B m d)
      have hv4 : v < 4 := by omega
      obtain ⟨ol, hol⟩ : ∃ ol, lessRows rs v = ol := ⟨_, rfl⟩
      have HN := Lib.hid ((chain_next hv4 HC.out).trans hol)
      clear HC hSt hRr
      go_wp2_with fail
      refine (less_any (N := ls.length) hRs hok hv4 (by omega)).mono ?_
      rw [hol]
      rintro e w3 ⟨B', m', d', rfl, hRn, hb1⟩
      have hSt3 := Lib.hid (HP.out.later hb1)
      have hz1 := hb1.size; (try simp at hz1); have hB1 : Below w.heap.size w w3 := (by refine Below.trans ?_ (Below.mono hb1 (by first | omega | (simp; done) | (simp; omega))); (repeat (first | with_reducible exact Below.refl _ _ | with_reducible assumption | (with_reducible refine below_drewN ?_ _) | (with_reducible refine Below.drew ?_) | (with_reducible refine Below.setCell ?_ (by first | omega | (simp; done) | (simp; omega)) _) | (with_reducible refine Below.alloc ?_ (by first | omega | (simp; done) | (simp; omega)) _) | refine Below.trans ?_ (Below.mono (by with_reducible assumption) (by first | omega | (simp; done) | (simp; omega))))))
      have HRn := Lib.hid hRn
      clear hb1 hRn HP hol hRs
      cases ol with
      | none =>
        go_wp2
        refine bodyPost_ret (v := .tuple #[.slice none 0 0, .slice none 0 0, .int .i64 2]) (by simp only [results, Try.results15]; go_simp) rfl ?_
        exact run_much (HR.out.symm.trans (run_chain HS.out (chain_none HN.out (by omega)))) ⟨none, 0, none, 0, rfl, by (repeat (first | with_reducible exact Below.refl _ _ | with_reducible assumption | (with_reducible refine below_drewN ?_ _) | (with_reducible refine Below.drew ?_) | (with_reducible refine Below.setCell ?_ (by first | omega | (simp; done) | (simp; omega)) _) | (with_reducible refine Below.alloc ?_ (by first | omega | (simp; done) | (simp; omega)) _) | refine Below.trans ?_ (Below.mono (by with_reducible assumption) (by first | omega | (simp; done) | (simp; omega)))))⟩
      | some rs' =>
        go_wp2
        go_roundw
        case rel => exact ⟨v, B', m', d', rs', by omega, rfl, rfl, HRn.out _ rfl, HN, hSt3.out, by (repeat (first | with_reducible exact Below.refl _ _ | with_reducible assumption | (with_reducible refine below_drewN ?_ _) | (with_reducible refine Below.drew ?_) | (with_reducible refine Below.setCell ?_ (by first | omega | (simp; done) | (simp; omega)) _) | (with_reducible refine Below.alloc ?_ (by first | omega | (simp; done) | (simp; omega)) _) | refine Below.trans ?_ (Below.mono (by with_reducible assumption) (by first | omega | (simp; done) | (simp; omega)))))⟩
        case measure => first | (simp [intOf]; done) | (simp [intOf]; omega)
    | zero =>
      have e1 : ((0 : Nat) : Int) - 1 = -1 := by omega
      rw [e1]
      have hok0 := hok.many
      rw [hRr.len] at hok0
      obtain ⟨wo, rfl⟩ : ∃ x : World, x = wr := ⟨wr, rfl⟩
      go_wp2_with fail
      go_loopw [39] (fun i wr => ∃ k : Nat, k ≤ m ∧ i = .int .i64 k ∧ Hid (∀ j, j < k → linBad (rs.getD j row0).1.1 (rs.getD j row0).1.2.1 (rs.getD j row0).1.2.2 = false) ∧ Below wo.heap.size wo wr) (fun i _ => m - (intOf i).toNat)
      case atStart => exact ⟨0, by omega, rfl, Lib.hid (fun j hj => absurd hj (by omega)), by (repeat (first | with_reducible exact Below.refl _ _ | with_reducible assumption | (with_reducible refine below_drewN ?_ _) | (with_reducible refine Below.drew ?_) | (with_reducible refine Below.setCell ?_ (by first | omega | (simp; done) | (simp; omega)) _) | (with_reducible refine Below.alloc ?_ (by first | omega | (simp; done) | (simp; omega)) _) | refine Below.trans ?_ (Below.mono (by with_reducible assumption) (by first | omega | (simp; done) | (simp; omega)))))⟩
      case round =>
        obtain ⟨k, hk, rfl, HBD, hBo⟩ := hrel
        have hzo := hBo.size
        have hBw : Below w.heap.size w wr := hB.trans (hBo.mono hB.size)
        by_cases hlt : k < m
        · obtain ⟨p, o1, rfl, hp0, hcs⟩ := hRr.cells (by omega)
          obtain ⟨A2, q2, c2, B2, q3, d2, ⟨hI0, hJ0⟩, hd1, hd2, hd3, hd4⟩ := (hcs k hlt).ex
          clear hcs
          have hr0 := hok.each k (by rw [hRr.len]; exact hlt)
          have HHIT := Lib.hid (fun hh => badAt_hit (rs := rs) (k := k) (by rw [hRr.len]; exact hlt) HBD.out hh)
          obtain ⟨xs, b, s, us, hxx⟩ := row_at' rs k
          have HXX := Lib.hid hxx
          rw [hxx] at hI0 hJ0 hd2 hd3 hr0 HHIT
          dsimp only at hI0 hJ0 hd2 hd3 HHIT
          have xc1 := (hBo.cell (p := ⟨p, o1 + k * 4, none⟩) hp0).trans hd1
          have xc2 := (hBo.cell (p := ⟨p, o1 + k * 4 + 1, none⟩) hp0).trans hd2
          have xc3 := (hBo.cell (p := ⟨p, o1 + k * 4 + 2, none⟩) hp0).trans hd3
          have xc4 := (hBo.cell (p := ⟨p, o1 + k * 4 + 3, none⟩) hp0).trans hd4
          have hpw : p < wr.heap.size := by omega
          have HUL := Lib.hid hr0.len
          have HJL := Lib.hid hJ0.len
          clear hd1 hd2 hd3 hd4 hxx hr0
          obtain ⟨v, hv⟩ : ∃ v, linBad xs b s = v := ⟨_, rfl⟩
          have HV := Lib.hid hv
          go_wp2_with fail
          refine (iLinBad_any (xs := xs) b s (hI0.later (by (repeat (first | with_reducible exact Below.refl _ _ | with_reducible assumption | (with_reducible refine below_drewN ?_ _) | (with_reducible refine Below.drew ?_) | (with_reducible refine Below.setCell ?_ (by first | omega | (simp; done) | (simp; omega)) _) | (with_reducible refine Below.alloc ?_ (by first | omega | (simp; done) | (simp; omega)) _) | refine Below.trans ?_ (Below.mono (by with_reducible assumption) (by first | omega | (simp; done) | (simp; omega)))))))).mono ?_
          rw [hv]
          clear hv
          rintro e w4 ⟨rfl, hb1⟩
          have hBo4 : Below wo.heap.size wo w4 := by (repeat (first | with_reducible exact Below.refl _ _ | with_reducible assumption | (with_reducible refine below_drewN ?_ _) | (with_reducible refine Below.drew ?_) | (with_reducible refine Below.setCell ?_ (by first | omega | (simp; done) | (simp; omega)) _) | (with_reducible refine Below.alloc ?_ (by first | omega | (simp; done) | (simp; omega)) _) | refine Below.trans ?_ (Below.mono (by with_reducible assumption) (by first | omega | (simp; done) | (simp; omega)))))
          have hz1 := hb1.size; (try simp at hz1); have hB1 : Below w.heap.size w w4 := (by refine Below.trans ?_ (Below.mono hb1 (by first | omega | (simp; done) | (simp; omega))); (repeat (first | with_reducible exact Below.refl _ _ | with_reducible assumption | (with_reducible refine below_drewN ?_ _) | (with_reducible refine Below.drew ?_) | (with_reducible refine Below.setCell ?_ (by first | omega | (simp; done) | (simp; omega)) _) | (with_reducible refine Below.alloc ?_ (by first | omega | (simp; done) | (simp; omega)) _) | refine Below.trans ?_ (Below.mono (by with_reducible assumption) (by first | omega | (simp; done) | (simp; omega)))))); obtain ⟨kc_, fc_, lc_⟩ := keep_later (a := ⟨wr.heap.size, 3, none⟩) (v := .slice B2 q3 d2) hb1 (by go_simp) (by go_simp); clear hb1
          cases v
          · go_wp2
            go_roundw
            case rel => exact ⟨k + 1, by omega, by go_num, Lib.hid (fun j hj => by
              by_cases e : j = k
              · rw [e, HXX.out]; exact HV.out
              · exact HBD.out j (by omega)), hBo4⟩
            case measure => simp [intOf]; omega
          · obtain ⟨f, hf⟩ : ∃ f, farOk ls us = f := ⟨_, rfl⟩
            have HF := Lib.hid hf
            have HRN := Lib.hid (HR.out.symm.trans (run_bad HS.out HC.out (HHIT.out HV.out)))
            go_wp2_with fail
            refine (iFarOk_any (ls := ls) (ts := us) (h.later (by (repeat (first | with_reducible exact Below.refl _ _ | with_reducible assumption | (with_reducible refine below_drewN ?_ _) | (with_reducible refine Below.drew ?_) | (with_reducible refine Below.setCell ?_ (by first | omega | (simp; done) | (simp; omega)) _) | (with_reducible refine Below.alloc ?_ (by first | omega | (simp; done) | (simp; omega)) _) | refine Below.trans ?_ (Below.mono (by with_reducible assumption) (by first | omega | (simp; done) | (simp; omega))))))) (hJ0.later (by (repeat (first | with_reducible exact Below.refl _ _ | with_reducible assumption | (with_reducible refine below_drewN ?_ _) | (with_reducible refine Below.drew ?_) | (with_reducible refine Below.setCell ?_ (by first | omega | (simp; done) | (simp; omega)) _) | (with_reducible refine Below.alloc ?_ (by first | omega | (simp; done) | (simp; omega)) _) | refine Below.trans ?_ (Below.mono (by with_reducible assumption) (by first | omega | (simp; done) | (simp; omega)))))))).mono ?_
            rw [hf]
            clear hf
            rintro e w5 ⟨rfl, hb1⟩
            have hBo5 : Below wo.heap.size wo w5 := by (repeat (first | with_reducible exact Below.refl _ _ | with_reducible assumption | (with_reducible refine below_drewN ?_ _) | (with_reducible refine Below.drew ?_) | (with_reducible refine Below.setCell ?_ (by first | omega | (simp; done) | (simp; omega)) _) | (with_reducible refine Below.alloc ?_ (by first | omega | (simp; done) | (simp; omega)) _) | refine Below.trans ?_ (Below.mono (by with_reducible assumption) (by first | omega | (simp; done) | (simp; omega)))))
            have hz1 := hb1.size; (try simp at hz1); have hB1 : Below w.heap.size w w5 := (by refine Below.trans ?_ (Below.mono hb1 (by first | omega | (simp; done) | (simp; omega))); (repeat (first | with_reducible exact Below.refl _ _ | with_reducible assumption | (with_reducible refine below_drewN ?_ _) | (with_reducible refine Below.drew ?_) | (with_reducible refine Below.setCell ?_ (by first | omega | (simp; done) | (simp; omega)) _) | (with_reducible refine Below.alloc ?_ (by first | omega | (simp; done) | (simp; omega)) _) | refine Below.trans ?_ (Below.mono (by with_reducible assumption) (by first | omega | (simp; done) | (simp; omega)))))); obtain ⟨kc_, fc_, lc_⟩ := keep_later (a := ⟨wr.heap.size, 3, none⟩) (v := .slice B2 q3 d2) hb1 (by go_simp) (by go_simp); clear hb1
            cases f
            · go_wp2
              refine bodyPost_ret (v := .tuple #[.slice none 0 0, .slice none 0 0, .int .i64 2]) (by simp only [results, Try.results15]; go_simp) rfl ?_
              exact run_much (HRN.out.trans (by rw [HF.out]; rfl)) ⟨none, 0, none, 0, rfl, by (repeat (first | with_reducible exact Below.refl _ _ | with_reducible assumption | (with_reducible refine below_drewN ?_ _) | (with_reducible refine Below.drew ?_) | (with_reducible refine Below.setCell ?_ (by first | omega | (simp; done) | (simp; omega)) _) | (with_reducible refine Below.alloc ?_ (by first | omega | (simp; done) | (simp; omega)) _) | refine Below.trans ?_ (Below.mono (by with_reducible assumption) (by first | omega | (simp; done) | (simp; omega)))))⟩
            · have hq0 : 0 < q3 := by have := farOk_pos HF.out; have := HUL.out; have := HJL.out; dsimp only at *; omega
              have hq1 : q3 ≤ 1000000 := by have := HUL.out; have := HJL.out; dsimp only at *; omega
              go_wp2_with fail
              refine (clone_any (xs := us) (hJ0.later (by (repeat (first | with_reducible exact Below.refl _ _ | with_reducible assumption | (with_reducible refine below_drewN ?_ _) | (with_reducible refine Below.drew ?_) | (with_reducible refine Below.setCell ?_ (by first | omega | (simp; done) | (simp; omega)) _) | (with_reducible refine Below.alloc ?_ (by first | omega | (simp; done) | (simp; omega)) _) | refine Below.trans ?_ (Below.mono (by with_reducible assumption) (by first | omega | (simp; done) | (simp; omega))))))) hq0 hq1).mono ?_
              rintro e w6 ⟨g, cap, rfl, ⟨hI6, hF6⟩, hg6, hb1⟩
              have hz1 := hb1.size; (try simp at hz1); have hB1 : Below w.heap.size w w6 := (by refine Below.trans ?_ (Below.mono hb1 (by first | omega | (simp; done) | (simp; omega))); (repeat (first | with_reducible exact Below.refl _ _ | with_reducible assumption | (with_reducible refine below_drewN ?_ _) | (with_reducible refine Below.drew ?_) | (with_reducible refine Below.setCell ?_ (by first | omega | (simp; done) | (simp; omega)) _) | (with_reducible refine Below.alloc ?_ (by first | omega | (simp; done) | (simp; omega)) _) | refine Below.trans ?_ (Below.mono (by with_reducible assumption) (by first | omega | (simp; done) | (simp; omega))))))
              clear hb1
              go_wp2
              refine bodyPost_ret (v := .tuple #[.slice none 0 0, .slice (some ⟨g, 0, none⟩) q3 cap, .int .i64 1]) (by simp only [results, Try.results15]; go_simp) rfl ?_
              exact run_no (HRN.out.trans (by rw [HF.out]; rfl)) HJL.out ⟨none, 0, g, cap, rfl, ⟨hI6, hF6, by omega⟩, by (repeat (first | with_reducible exact Below.refl _ _ | with_reducible assumption | (with_reducible refine below_drewN ?_ _) | (with_reducible refine Below.drew ?_) | (with_reducible refine Below.setCell ?_ (by first | omega | (simp; done) | (simp; omega)) _) | (with_reducible refine Below.alloc ?_ (by first | omega | (simp; done) | (simp; omega)) _) | refine Below.trans ?_ (Below.mono (by with_reducible assumption) (by first | omega | (simp; done) | (simp; omega)))))⟩
        · obtain rfl : k = m := by omega
          have HB0 := Lib.hid (badAt_miss (rs := rs) (by rw [hRr.len]; exact HBD.out))
          go_wp2_with fail
          refine (whole_any 0 _).mono ?_
          rintro e w4 ⟨rfl, hb1⟩
          have hBow4 : Below wo.heap.size wo w4 := by (repeat (first | with_reducible exact Below.refl _ _ | with_reducible assumption | (with_reducible refine below_drewN ?_ _) | (with_reducible refine Below.drew ?_) | (with_reducible refine Below.setCell ?_ (by first | omega | (simp; done) | (simp; omega)) _) | (with_reducible refine Below.alloc ?_ (by first | omega | (simp; done) | (simp; omega)) _) | refine Below.trans ?_ (Below.mono (by with_reducible assumption) (by first | omega | (simp; done) | (simp; omega)))))
          have hz1 := hb1.size; (try simp at hz1); have hB1 : Below w.heap.size w w4 := (by refine Below.trans ?_ (Below.mono hb1 (by first | omega | (simp; done) | (simp; omega))); (repeat (first | with_reducible exact Below.refl _ _ | with_reducible assumption | (with_reducible refine below_drewN ?_ _) | (with_reducible refine Below.drew ?_) | (with_reducible refine Below.setCell ?_ (by first | omega | (simp; done) | (simp; omega)) _) | (with_reducible refine Below.alloc ?_ (by first | omega | (simp; done) | (simp; omega)) _) | refine Below.trans ?_ (Below.mono (by with_reducible assumption) (by first | omega | (simp; done) | (simp; omega))))))
          clear hb1
          go_wp2_with fail
          refine (whole_any 0 _).mono ?_
          rintro e w5 ⟨rfl, hb1⟩
          have hBow5 : Below wo.heap.size wo w5 := by (repeat (first | with_reducible exact Below.refl _ _ | with_reducible assumption | (with_reducible refine below_drewN ?_ _) | (with_reducible refine Below.drew ?_) | (with_reducible refine Below.setCell ?_ (by first | omega | (simp; done) | (simp; omega)) _) | (with_reducible refine Below.alloc ?_ (by first | omega | (simp; done) | (simp; omega)) _) | refine Below.trans ?_ (Below.mono (by with_reducible assumption) (by first | omega | (simp; done) | (simp; omega)))))
          have hz1 := hb1.size; (try simp at hz1); have hB1 : Below w.heap.size w w5 := (by refine Below.trans ?_ (Below.mono hb1 (by first | omega | (simp; done) | (simp; omega))); (repeat (first | with_reducible exact Below.refl _ _ | with_reducible assumption | (with_reducible refine below_drewN ?_ _) | (with_reducible refine Below.drew ?_) | (with_reducible refine Below.setCell ?_ (by first | omega | (simp; done) | (simp; omega)) _) | (with_reducible refine Below.alloc ?_ (by first | omega | (simp; done) | (simp; omega)) _) | refine Below.trans ?_ (Below.mono (by with_reducible assumption) (by first | omega | (simp; done) | (simp; omega))))))
          clear hb1
          go_wp2_with fail
          refine (whole_any 0 _).mono ?_
          rintro e w6 ⟨rfl, hb1⟩
          have hBow6 : Below wo.heap.size wo w6 := by (repeat (first | with_reducible exact Below.refl _ _ | with_reducible assumption | (with_reducible refine below_drewN ?_ _) | (with_reducible refine Below.drew ?_) | (with_reducible refine Below.setCell ?_ (by first | omega | (simp; done) | (simp; omega)) _) | (with_reducible refine Below.alloc ?_ (by first | omega | (simp; done) | (simp; omega)) _) | refine Below.trans ?_ (Below.mono (by with_reducible assumption) (by first | omega | (simp; done) | (simp; omega)))))
          have hz1 := hb1.size; (try simp at hz1); have hB1 : Below w.heap.size w w6 := (by refine Below.trans ?_ (Below.mono hb1 (by first | omega | (simp; done) | (simp; omega))); (repeat (first | with_reducible exact Below.refl _ _ | with_reducible assumption | (with_reducible refine below_drewN ?_ _) | (with_reducible refine Below.drew ?_) | (with_reducible refine Below.setCell ?_ (by first | omega | (simp; done) | (simp; omega)) _) | (with_reducible refine Below.alloc ?_ (by first | omega | (simp; done) | (simp; omega)) _) | refine Below.trans ?_ (Below.mono (by with_reducible assumption) (by first | omega | (simp; done) | (simp; omega))))))
          clear hb1
          go_wp2_with fail
          refine (whole_any 0 _).mono ?_
          rintro e w7 ⟨rfl, hb1⟩
          have hBow7 : Below wo.heap.size wo w7 := by (repeat (first | with_reducible exact Below.refl _ _ | with_reducible assumption | (with_reducible refine below_drewN ?_ _) | (with_reducible refine Below.drew ?_) | (with_reducible refine Below.setCell ?_ (by first | omega | (simp; done) | (simp; omega)) _) | (with_reducible refine Below.alloc ?_ (by first | omega | (simp; done) | (simp; omega)) _) | refine Below.trans ?_ (Below.mono (by with_reducible assumption) (by first | omega | (simp; done) | (simp; omega)))))
          have hz1 := hb1.size; (try simp at hz1); have hB1 : Below w.heap.size w w7 := (by refine Below.trans ?_ (Below.mono hb1 (by first | omega | (simp; done) | (simp; omega))); (repeat (first | with_reducible exact Below.refl _ _ | with_reducible assumption | (with_reducible refine below_drewN ?_ _) | (with_reducible refine Below.drew ?_) | (with_reducible refine Below.setCell ?_ (by first | omega | (simp; done) | (simp; omega)) _) | (with_reducible refine Below.alloc ?_ (by first | omega | (simp; done) | (simp; omega)) _) | refine Below.trans ?_ (Below.mono (by with_reducible assumption) (by first | omega | (simp; done) | (simp; omega))))))
          clear hb1
          have hSt7 := hSt.later hBow7
          clear hBow4 hBow5 hBow6
          go_wp2_with fail
          go_loopw [62] (fun i wr => ∃ (k : Nat) (vs : List (Int × Int)), k ≤ 4 ∧ i = .int .i64 k ∧ Hid (backTo ls k = some vs) ∧ Rats wr (some ⟨w7.heap.size, 0, none⟩) 4 vs ∧ Free wr w7.heap.size ∧ Below w7.heap.size w7 wr) (fun i _ => 4 - (intOf i).toNat)
          case atStart => exact ⟨0, _, by omega, rfl, Lib.hid rfl, rats_start w7 _, ⟨by simp, fun j => by simp [go_sem]⟩, by (repeat (first | with_reducible exact Below.refl _ _ | with_reducible assumption | (with_reducible refine below_drewN ?_ _) | (with_reducible refine Below.drew ?_) | (with_reducible refine Below.setCell ?_ (by first | omega | (simp; done) | (simp; omega)) _) | (with_reducible refine Below.alloc ?_ (by first | omega | (simp; done) | (simp; omega)) _) | refine Below.trans ?_ (Below.mono (by with_reducible assumption) (by first | omega | (simp; done) | (simp; omega)))))⟩
          case round =>
            obtain ⟨k2, vs, hk2, rfl, HBK, hVV, hFV, hB7⟩ := hrel
            have hz7 := hB7.size
            have hBw2 : Below w.heap.size w wr := by (repeat (first | with_reducible exact Below.refl _ _ | with_reducible assumption | (with_reducible refine below_drewN ?_ _) | (with_reducible refine Below.drew ?_) | (with_reducible refine Below.setCell ?_ (by first | omega | (simp; done) | (simp; omega)) _) | (with_reducible refine Below.alloc ?_ (by first | omega | (simp; done) | (simp; omega)) _) | refine Below.trans ?_ (Below.mono (by with_reducible assumption) (by first | omega | (simp; done) | (simp; omega)))))
            by_cases hlt3 : k2 < 4
            · obtain ⟨A5, n5, c5, hst, hRs⟩ := hSt7.at_ k2 (by omega) hlt3
              have hst1 := (hB7.cell (p := ⟨w2.heap.size, k2, none⟩) hSt7.lt).trans hst
              have hRs1 := hRs.later hB7
              have hs7 := hSt7.lt
              clear hst hRs
              obtain ⟨o, ho⟩ : ∃ o, valueR (stage ls k2) k2 vs = o := ⟨_, rfl⟩
              have HOV := Lib.hid ho
              go_wp2_with fail
              refine (valueOf_any (N := ls.length) (u := k2) hRs1 hVV (stage_ok HS.out HC.out hlt3) hlt3).mono ?_
              rw [ho]
              clear ho
              rintro e w10 ⟨X, Y, rfl, hpe, hb1⟩
              have hV10 := hVV.later hb1
              have hF10 := hFV.later hb1
              have hB10 : Below w7.heap.size w7 w10 := by (repeat (first | with_reducible exact Below.refl _ _ | with_reducible assumption | (with_reducible refine below_drewN ?_ _) | (with_reducible refine Below.drew ?_) | (with_reducible refine Below.setCell ?_ (by first | omega | (simp; done) | (simp; omega)) _) | (with_reducible refine Below.alloc ?_ (by first | omega | (simp; done) | (simp; omega)) _) | refine Below.trans ?_ (Below.mono (by with_reducible assumption) (by first | omega | (simp; done) | (simp; omega)))))
              have hz1 := hb1.size; (try simp at hz1); have hB1 : Below w.heap.size w w10 := (by refine Below.trans ?_ (Below.mono hb1 (by first | omega | (simp; done) | (simp; omega))); (repeat (first | with_reducible exact Below.refl _ _ | with_reducible assumption | (with_reducible refine below_drewN ?_ _) | (with_reducible refine Below.drew ?_) | (with_reducible refine Below.setCell ?_ (by first | omega | (simp; done) | (simp; omega)) _) | (with_reducible refine Below.alloc ?_ (by first | omega | (simp; done) | (simp; omega)) _) | refine Below.trans ?_ (Below.mono (by with_reducible assumption) (by first | omega | (simp; done) | (simp; omega))))))
              have HPE := Lib.hid hpe
              clear hb1 hpe hRs1
              cases o with
              | none =>
                go_wp2
                refine bodyPost_ret (v := .tuple #[.slice none 0 0, .slice none 0 0, .int .i64 2]) (by simp only [results, Try.results15]; go_simp) rfl ?_
                exact run_much (HR.out.symm.trans (run_back HS.out HC.out HB0.out (backTo_none (back_no HBK.out HOV.out) (by omega)))) ⟨none, 0, none, 0, rfl, by (repeat (first | with_reducible exact Below.refl _ _ | with_reducible assumption | (with_reducible refine below_drewN ?_ _) | (with_reducible refine Below.drew ?_) | (with_reducible refine Below.setCell ?_ (by first | omega | (simp; done) | (simp; omega)) _) | (with_reducible refine Below.alloc ?_ (by first | omega | (simp; done) | (simp; omega)) _) | refine Below.trans ?_ (Below.mono (by with_reducible assumption) (by first | omega | (simp; done) | (simp; omega)))))⟩
              | some pv =>
                obtain rfl := HPE.out _ rfl
                have hJ := valueR_J HOV.out
                have HVP := Lib.hid (hV10.put hlt3 hJ.1 hJ.2)
                obtain ⟨bb, ob, eb, hbl, hcc⟩ := hV10.cells (by omega)
                obtain ⟨rfl, rfl⟩ : w7.heap.size = bb ∧ 0 = ob := by
                  have := Option.some.inj eb
                  simp only [Addr.mk.injEq] at this
                  exact ⟨this.1, this.2.1⟩
                have hd1 := (hcc k2 hlt3).1
                have hd2 := (hcc k2 hlt3).2
                rw [Nat.zero_add] at hd1 hd2
                have hf1 := hF10.free (k2 * 2)
                have hf2 := hF10.free (k2 * 2 + 1)
                clear hcc eb hV10 hJ
                generalize (vs.getD k2 (0, 0)).1 = z1 at hd1
                generalize (vs.getD k2 (0, 0)).2 = z2 at hd2
                go_wp2
                go_roundw
                case rel => exact ⟨k2 + 1, vs.set k2 (X, Y), by omega, by go_num, Lib.hid (back_yes HBK.out HOV.out), HVP.out.alloc _, by (repeat (first | with_reducible exact hF10 | (with_reducible refine Free.set ?_ _ _) | (with_reducible refine Free.alloc ?_ _) | (with_reducible refine Free.drewN ?_ _) | (with_reducible refine Free.drew ?_))), by (repeat (first | with_reducible exact Below.refl _ _ | with_reducible assumption | (with_reducible refine below_drewN ?_ _) | (with_reducible refine Below.drew ?_) | (with_reducible refine Below.setCell ?_ (by first | omega | (simp; done) | (simp; omega)) _) | (with_reducible refine Below.alloc ?_ (by first | omega | (simp; done) | (simp; omega)) _) | refine Below.trans ?_ (Below.mono (by with_reducible assumption) (by first | omega | (simp; done) | (simp; omega)))))⟩
                case measure => simp [intOf]; omega
            · obtain rfl : k2 = 4 := by omega
              obtain ⟨f, hf⟩ : ∃ f, farAll ls vs = f := ⟨_, rfl⟩
              have HF := Lib.hid hf
              have HRN := Lib.hid (HR.out.symm.trans (run_all HS.out HC.out HB0.out HBK.out))
              go_wp2_with fail
              refine (iFarAll_any (ls := ls) (vs := vs) (h.later (by (repeat (first | with_reducible exact Below.refl _ _ | with_reducible assumption | (with_reducible refine below_drewN ?_ _) | (with_reducible refine Below.drew ?_) | (with_reducible refine Below.setCell ?_ (by first | omega | (simp; done) | (simp; omega)) _) | (with_reducible refine Below.alloc ?_ (by first | omega | (simp; done) | (simp; omega)) _) | refine Below.trans ?_ (Below.mono (by with_reducible assumption) (by first | omega | (simp; done) | (simp; omega))))))) hVV).mono ?_
              rw [hf]
              clear hf
              rintro e w10 ⟨rfl, hb1⟩
              have hV10 := hVV.later hb1
              have hF10 := hFV.later hb1
              have hz1 := hb1.size; (try simp at hz1); have hB1 : Below w.heap.size w w10 := (by refine Below.trans ?_ (Below.mono hb1 (by first | omega | (simp; done) | (simp; omega))); (repeat (first | with_reducible exact Below.refl _ _ | with_reducible assumption | (with_reducible refine below_drewN ?_ _) | (with_reducible refine Below.drew ?_) | (with_reducible refine Below.setCell ?_ (by first | omega | (simp; done) | (simp; omega)) _) | (with_reducible refine Below.alloc ?_ (by first | omega | (simp; done) | (simp; omega)) _) | refine Below.trans ?_ (Below.mono (by with_reducible assumption) (by first | omega | (simp; done) | (simp; omega))))))
              clear hb1
              cases f
              · go_wp2
                refine bodyPost_ret (v := .tuple #[.slice none 0 0, .slice none 0 0, .int .i64 2]) (by simp only [results, Try.results15]; go_simp) rfl ?_
                exact run_much (HRN.out.trans (by rw [HF.out]; rfl)) ⟨none, 0, none, 0, rfl, by (repeat (first | with_reducible exact Below.refl _ _ | with_reducible assumption | (with_reducible refine below_drewN ?_ _) | (with_reducible refine Below.drew ?_) | (with_reducible refine Below.setCell ?_ (by first | omega | (simp; done) | (simp; omega)) _) | (with_reducible refine Below.alloc ?_ (by first | omega | (simp; done) | (simp; omega)) _) | refine Below.trans ?_ (Below.mono (by with_reducible assumption) (by first | omega | (simp; done) | (simp; omega)))))⟩
              · go_wp2
                refine bodyPost_ret (v := .tuple #[.slice (some ⟨w7.heap.size, 0, none⟩) 4 4, .slice none 0 0, .int .i64 0]) (by simp only [results, Try.results15]; go_simp) rfl ?_
                exact run_yes (HRN.out.trans (by rw [HF.out]; rfl)) ⟨w7.heap.size, 4, none, 0, rfl, ⟨hV10, hF10, by omega⟩, by (repeat (first | with_reducible exact Below.refl _ _ | with_reducible assumption | (with_reducible refine below_drewN ?_ _) | (with_reducible refine Below.drew ?_) | (with_reducible refine Below.setCell ?_ (by first | omega | (simp; done) | (simp; omega)) _) | (with_reducible refine Below.alloc ?_ (by first | omega | (simp; done) | (simp; omega)) _) | refine Below.trans ?_ (Below.mono (by with_reducible assumption) (by first | omega | (simp; done) | (simp; omega)))))⟩
end Go.Proofs.Ytccjbipmlpnhkaa

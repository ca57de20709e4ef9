/- Systems decided by the reference. -/
import Derived.Test.YtccjbipmlpnhkaaWk
import Derived.Test.YtccjbipmlpnhkaaWd
import Derived.Test.YtccjbipmlpnhkaaWi
namespace Go.Proofs.Ytccjbipmlpnhkaa
set_option maxRecDepth 100000
open Go.RowKit Go.ChangeShapes Go.WideShapes Go.ChangeAt
set_option linter.unusedSimpArgs false
set_option linter.unusedVariables false

theorem news_list {W : World} {b o n : Nat} {xs : List Int} (h : Ints W (some ⟨b, o, none⟩) n xs) : ∀ j u, (xs.map (Value.int .i64))[j]? = some u → W.cell? ((⟨b, o, none⟩ : Addr).add j) = some u := fun j u hj => by
  have hl := h.len
  rw [List.getElem?_map] at hj
  by_cases hjn : j < n
  · obtain ⟨b', o', e, hb, hc⟩ := h.cells (by omega)
    obtain ⟨rfl, rfl⟩ : b = b' ∧ o = o' := by
      have := Option.some.inj e
      simp only [Addr.mk.injEq] at this
      exact ⟨this.1, this.2.1⟩
    have h0 := hc j hjn
    rw [List.getElem?_eq_getElem (by omega)] at hj
    rw [List.getD_eq_getElem?_getD, List.getElem?_eq_getElem (by omega)] at h0
    have hadd : (⟨b, o, none⟩ : Addr).add j = ⟨b, o + j, none⟩ := by unfold Addr.add; simp
    rw [hadd, h0]
    exact hj
  · rw [List.getElem?_eq_none (by omega)] at hj
    cases hj
theorem badAt_mem {rs : List RowV} {ts : List Int} (h : badAt rs = some ts) : ∃ j, j < rs.length ∧ (rs.getD j row0).2 = ts := by
  induction rs with
  | nil => cases h
  | cons r rs ih =>
    rw [show badAt (r :: rs) = (if linBad r.1.1 r.1.2.1 r.1.2.2 = true then some r.2 else badAt rs) from rfl] at h
    split at h
    · exact ⟨0, by simp, Option.some.inj h⟩
    · obtain ⟨j, h1, h2⟩ := ih h
      exact ⟨j + 1, by simpa using h1, h2⟩
theorem chain_nil : ∀ k, chain [] k = some []
  | 0 => rfl
  | k + 1 => by simp only [chain, chain_nil k, Option.bind_some]; rfl
theorem bad_len {ls : List LinV} {rs : List RowV} {ts : List Int} (hs : sysOk ls = true) (hc : chain ls 4 = some rs) (h : badAt rs = some ts) : ts.length = ls.length ∧ 0 < ls.length := by
  obtain ⟨j, h1, rfl⟩ := badAt_mem h
  refine ⟨((chain_ok hs hc).each j h1).len, ?_⟩
  cases ls with
  | nil => rw [chain_nil] at hc; obtain rfl := Option.some.inj hc; cases h
  | cons a l => simp

theorem makeSt (w : World) : (Instr.makeSlice 89 (.int .i64 4) (.int .i64 4)).run Try.prog w = .ok (.slice (some ⟨w.heap.size, 0, none⟩) 4 4) (w.alloc (.cells #[.slice none 0 0, .slice none 0 0, .slice none 0 0, .slice none 0 0] 74)) := by kernel_rfl
set_option maxHeartbeats 16000000 in
theorem sFarRun_any {A : Option Addr} {n c : Nat} {ls : List LinV} {w : World} (h : Lins w A n ls) :
    Calls Try.prog 19 #[.slice A n c] w (RunBack (farRun ls) w) := by
  have hlen := h.len
  have hmk := makeSt
  obtain ⟨i0, hi, zi0, zi1, zi2⟩ := info_parts int_info
  obtain ⟨r, hr⟩ : ∃ r, farRun ls = r := ⟨_, rfl⟩
  rw [hr]
  have HR := Lib.hid hr
  clear hr
  cases hs : sysOk ls
  · go_enter Try.func19, Try.ntmps19
    go_wp2_with fail
    refine (l3Ok_any (h.later (by (repeat (first | with_reducible exact Below.refl _ _ | with_reducible assumption | (with_reducible refine below_drewN ?_ _) | (with_reducible refine Below.drew ?_) | (with_reducible refine Below.setCell ?_ (by first | omega | (simp; done) | (simp; omega)) _) | (with_reducible refine Below.alloc ?_ (by first | omega | (simp; done) | (simp; omega)) _) | refine Below.trans ?_ (Below.mono (by with_reducible assumption) (by first | omega | (simp; done) | (simp; omega)))))))).mono ?_
    rw [hs]
    rintro e w1 ⟨rfl, hb1⟩
    have hz1 := hb1.size; (try simp at hz1); have hB1 : Below w.heap.size w w1 := (by refine Below.trans ?_ (Below.mono hb1 (by first | omega | (simp; done) | (simp; omega))); (repeat (first | with_reducible exact Below.refl _ _ | with_reducible assumption | (with_reducible refine below_drewN ?_ _) | (with_reducible refine Below.drew ?_) | (with_reducible refine Below.setCell ?_ (by first | omega | (simp; done) | (simp; omega)) _) | (with_reducible refine Below.alloc ?_ (by first | omega | (simp; done) | (simp; omega)) _) | refine Below.trans ?_ (Below.mono (by with_reducible assumption) (by first | omega | (simp; done) | (simp; omega))))))
    clear hb1
    go_wp2
    refine bodyPost_ret (v := .tuple #[.slice (some ⟨w.heap.size, 0, none⟩) 0 0, .slice (some ⟨w1.heap.size, 0, none⟩) 0 0, .int .i64 3]) (by simp only [results, Try.results19]; go_simp) rfl ?_
    exact run_form (HR.out.symm.trans (run_inv hs)) ⟨_, _, _, _, rfl, by (repeat (first | with_reducible exact Below.refl _ _ | with_reducible assumption | (with_reducible refine below_drewN ?_ _) | (with_reducible refine Below.drew ?_) | (with_reducible refine Below.setCell ?_ (by first | omega | (simp; done) | (simp; omega)) _) | (with_reducible refine Below.alloc ?_ (by first | omega | (simp; done) | (simp; omega)) _) | refine Below.trans ?_ (Below.mono (by with_reducible assumption) (by first | omega | (simp; done) | (simp; omega)))))⟩
  have hn20 : n ≤ 20 := by have := sysOk_few hs; omega
  have HS := Lib.hid hs
  go_enter Try.func19, Try.ntmps19
  go_wp2_with fail
  refine (l3Ok_any (h.later (by (repeat (first | with_reducible exact Below.refl _ _ | with_reducible assumption | (with_reducible refine below_drewN ?_ _) | (with_reducible refine Below.drew ?_) | (with_reducible refine Below.setCell ?_ (by first | omega | (simp; done) | (simp; omega)) _) | (with_reducible refine Below.alloc ?_ (by first | omega | (simp; done) | (simp; omega)) _) | refine Below.trans ?_ (Below.mono (by with_reducible assumption) (by first | omega | (simp; done) | (simp; omega)))))))).mono ?_
  rw [hs]
  clear hs
  rintro e w1 ⟨rfl, hb1⟩
  have hz1 := hb1.size; (try simp at hz1); have hB1 : Below w.heap.size w w1 := (by refine Below.trans ?_ (Below.mono hb1 (by first | omega | (simp; done) | (simp; omega))); (repeat (first | with_reducible exact Below.refl _ _ | with_reducible assumption | (with_reducible refine below_drewN ?_ _) | (with_reducible refine Below.drew ?_) | (with_reducible refine Below.setCell ?_ (by first | omega | (simp; done) | (simp; omega)) _) | (with_reducible refine Below.alloc ?_ (by first | omega | (simp; done) | (simp; omega)) _) | refine Below.trans ?_ (Below.mono (by with_reducible assumption) (by first | omega | (simp; done) | (simp; omega))))))
  clear hb1
  go_wp2_with fail
  refine (l3Rows_any (h.later (by (repeat (first | with_reducible exact Below.refl _ _ | with_reducible assumption | (with_reducible refine below_drewN ?_ _) | (with_reducible refine Below.drew ?_) | (with_reducible refine Below.setCell ?_ (by first | omega | (simp; done) | (simp; omega)) _) | (with_reducible refine Below.alloc ?_ (by first | omega | (simp; done) | (simp; omega)) _) | refine Below.trans ?_ (Below.mono (by with_reducible assumption) (by first | omega | (simp; done) | (simp; omega))))))) hn20).mono ?_
  rintro e w2 ⟨A1, c1, rfl, hR, hb1⟩
  have hSt0 := (Stages.start w1 ls 74).later hb1
  have hz1 := hb1.size; (try simp at hz1); have hB1 : Below w.heap.size w w2 := (by refine Below.trans ?_ (Below.mono hb1 (by first | omega | (simp; done) | (simp; omega))); (repeat (first | with_reducible exact Below.refl _ _ | with_reducible assumption | (with_reducible refine below_drewN ?_ _) | (with_reducible refine Below.drew ?_) | (with_reducible refine Below.setCell ?_ (by first | omega | (simp; done) | (simp; omega)) _) | (with_reducible refine Below.alloc ?_ (by first | omega | (simp; done) | (simp; omega)) _) | refine Below.trans ?_ (Below.mono (by with_reducible assumption) (by first | omega | (simp; done) | (simp; omega))))))
  clear hb1 hmk
  go_wp2_with fail
  go_loopw [7, 8] (fun rv i wr => ∃ (u : Nat) (B : Option Addr) (m d : Nat) (rs : List RowV), u ≤ 4 ∧ i = .int .i64 ((u : Int) - 1) ∧ rv = .slice B m d ∧ Rws wr B m rs ∧ Hid (chain ls (4 - u) = some rs) ∧ Stages wr w1.heap.size ls u ∧ Below w.heap.size w wr) (fun _ i _ => (intOf i + 1).toNat)
  case atStart => exact ⟨4, A1, n, c1, rowsOf ls, by omega, rfl, rfl, hR, Lib.hid rfl, hSt0, by (repeat (first | with_reducible exact Below.refl _ _ | with_reducible assumption | (with_reducible refine below_drewN ?_ _) | (with_reducible refine Below.drew ?_) | (with_reducible refine Below.setCell ?_ (by first | omega | (simp; done) | (simp; omega)) _) | (with_reducible refine Below.alloc ?_ (by first | omega | (simp; done) | (simp; omega)) _) | refine Below.trans ?_ (Below.mono (by with_reducible assumption) (by first | omega | (simp; done) | (simp; omega)))))⟩
  case round =>
    clear hR hSt0
    obtain ⟨u, B, m, d, rs, hu, rfl, rfl, hRr, HC, hSt, hB⟩ := hrel
    have hok := chain_ok HS.out HC.out
    have hsl := hSt.lt
    cases u with
    | succ v =>
      have e1 : ((v + 1 : Nat) : Int) - 1 = v := by omega
      rw [e1]
      obtain ⟨v0, hv0⟩ := hSt.cell v (by omega)
      have hf0 := hSt.free v
      have HP := Lib.hid (hSt.put (n := m) (c := d) (A := B) (by omega) (by rw [stage_eq (by omega) HC.out]; exact hRr))
      have hRs := hRr.slicy (x := v) hSt.only (.slice B m d)
      have hv4 : v < 4 := by omega
      obtain ⟨ol, hol⟩ : ∃ ol, lessRows rs v = ol := ⟨_, rfl⟩
      have HN := Lib.hid ((chain_next hv4 HC.out).trans hol)
      clear HC hSt hRr
      go_wp2_with fail
      refine (l3Drop_any (N := ls.length) hRs hok hv4 (by omega)).mono ?_
      rw [hol]
      rintro e w3 ⟨B', m', d', rfl, hRn, hb1⟩
      have hSt3 := Lib.hid (HP.out.later hb1)
      have hz1 := hb1.size; (try simp at hz1); have hB1 : Below w.heap.size w w3 := (by refine Below.trans ?_ (Below.mono hb1 (by first | omega | (simp; done) | (simp; omega))); (repeat (first | with_reducible exact Below.refl _ _ | with_reducible assumption | (with_reducible refine below_drewN ?_ _) | (with_reducible refine Below.drew ?_) | (with_reducible refine Below.setCell ?_ (by first | omega | (simp; done) | (simp; omega)) _) | (with_reducible refine Below.alloc ?_ (by first | omega | (simp; done) | (simp; omega)) _) | refine Below.trans ?_ (Below.mono (by with_reducible assumption) (by first | omega | (simp; done) | (simp; omega))))))
      have HRn := Lib.hid hRn
      clear hb1 hRn HP hol hRs
      cases ol with
      | none =>
        go_wp2
        refine bodyPost_ret (v := .tuple #[.slice (some ⟨w.heap.size, 0, none⟩) 0 0, .slice (some ⟨w3.heap.size, 0, none⟩) 0 0, .int .i64 2]) (by simp only [results, Try.results19]; go_simp) rfl ?_
        exact run_much (HR.out.symm.trans (run_chain HS.out (chain_none HN.out (by omega)))) ⟨_, _, _, _, rfl, by (repeat (first | with_reducible exact Below.refl _ _ | with_reducible assumption | (with_reducible refine below_drewN ?_ _) | (with_reducible refine Below.drew ?_) | (with_reducible refine Below.setCell ?_ (by first | omega | (simp; done) | (simp; omega)) _) | (with_reducible refine Below.alloc ?_ (by first | omega | (simp; done) | (simp; omega)) _) | refine Below.trans ?_ (Below.mono (by with_reducible assumption) (by first | omega | (simp; done) | (simp; omega)))))⟩
      | some rs' =>
        go_wp2
        go_roundw
        case rel => exact ⟨v, B', m', d', rs', by omega, rfl, rfl, HRn.out _ rfl, HN, hSt3.out, by (repeat (first | with_reducible exact Below.refl _ _ | with_reducible assumption | (with_reducible refine below_drewN ?_ _) | (with_reducible refine Below.drew ?_) | (with_reducible refine Below.setCell ?_ (by first | omega | (simp; done) | (simp; omega)) _) | (with_reducible refine Below.alloc ?_ (by first | omega | (simp; done) | (simp; omega)) _) | refine Below.trans ?_ (Below.mono (by with_reducible assumption) (by first | omega | (simp; done) | (simp; omega)))))⟩
        case measure => first | (simp [intOf]; done) | (simp [intOf]; omega)
    | zero =>
      have e1 : ((0 : Nat) : Int) - 1 = -1 := by omega
      rw [e1]
      obtain ⟨ob, hob⟩ : ∃ ob, badAt rs = ob := ⟨_, rfl⟩
      have HOB := Lib.hid hob
      go_wp2_with fail
      refine (l3Bad_any hRr hok).mono ?_
      rw [hob]
      clear hob
      cases ob with
      | some ts =>
        obtain ⟨hl1, hl2⟩ := bad_len HS.out HC.out HOB.out
        rintro e w4 ⟨A4, n4, c4, rfl, hI4, hb1⟩
        have hz1 := hb1.size; (try simp at hz1); have hB1 : Below w.heap.size w w4 := (by refine Below.trans ?_ (Below.mono hb1 (by first | omega | (simp; done) | (simp; omega))); (repeat (first | with_reducible exact Below.refl _ _ | with_reducible assumption | (with_reducible refine below_drewN ?_ _) | (with_reducible refine Below.drew ?_) | (with_reducible refine Below.setCell ?_ (by first | omega | (simp; done) | (simp; omega)) _) | (with_reducible refine Below.alloc ?_ (by first | omega | (simp; done) | (simp; omega)) _) | refine Below.trans ?_ (Below.mono (by with_reducible assumption) (by first | omega | (simp; done) | (simp; omega))))))
        clear hb1
        dsimp only at hI4
        have h0n : 0 < n4 := by have := hI4.len; omega
        have hn4 : n4 ≤ 1000000 := by have := hI4.len; omega
        have hL4 := Lib.hid hI4.len
        clear hl1 hl2
        obtain ⟨f, hf⟩ : ∃ f, farOk ls ts = f := ⟨_, rfl⟩
        have HF := Lib.hid hf
        have HRN := Lib.hid (HR.out.symm.trans (run_bad HS.out HC.out HOB.out))
        go_wp2_with fail
        refine (sFarOk_any (ls := ls) (ts := ts) (h.later (by (repeat (first | with_reducible exact Below.refl _ _ | with_reducible assumption | (with_reducible refine below_drewN ?_ _) | (with_reducible refine Below.drew ?_) | (with_reducible refine Below.setCell ?_ (by first | omega | (simp; done) | (simp; omega)) _) | (with_reducible refine Below.alloc ?_ (by first | omega | (simp; done) | (simp; omega)) _) | refine Below.trans ?_ (Below.mono (by with_reducible assumption) (by first | omega | (simp; done) | (simp; omega))))))) hI4).mono ?_
        rw [hf]
        clear hf
        rintro e w5 ⟨rfl, hb1⟩
        have hI5 := hI4.later hb1
        have hz1 := hb1.size; (try simp at hz1); have hB1 : Below w.heap.size w w5 := (by refine Below.trans ?_ (Below.mono hb1 (by first | omega | (simp; done) | (simp; omega))); (repeat (first | with_reducible exact Below.refl _ _ | with_reducible assumption | (with_reducible refine below_drewN ?_ _) | (with_reducible refine Below.drew ?_) | (with_reducible refine Below.setCell ?_ (by first | omega | (simp; done) | (simp; omega)) _) | (with_reducible refine Below.alloc ?_ (by first | omega | (simp; done) | (simp; omega)) _) | refine Below.trans ?_ (Below.mono (by with_reducible assumption) (by first | omega | (simp; done) | (simp; omega))))))
        clear hb1 hI4
        cases f
        · go_wp2
          refine bodyPost_ret (v := .tuple #[.slice (some ⟨w.heap.size, 0, none⟩) 0 0, .slice (some ⟨w5.heap.size, 0, none⟩) 0 0, .int .i64 2]) (by simp only [results, Try.results19]; go_simp) rfl ?_
          exact run_much (HRN.out.trans (by rw [HF.out]; rfl)) ⟨_, _, _, _, rfl, by (repeat (first | with_reducible exact Below.refl _ _ | with_reducible assumption | (with_reducible refine below_drewN ?_ _) | (with_reducible refine Below.drew ?_) | (with_reducible refine Below.setCell ?_ (by first | omega | (simp; done) | (simp; omega)) _) | (with_reducible refine Below.alloc ?_ (by first | omega | (simp; done) | (simp; omega)) _) | refine Below.trans ?_ (Below.mono (by with_reducible assumption) (by first | omega | (simp; done) | (simp; omega)))))⟩
        · obtain ⟨b, o, rfl, hb, _⟩ := hI5.cells (by omega)
          have hown0 : (w5.alloc (.cells #[] 3)).ownsRow w.heap.size 3 1 (.slice (some ⟨w5.heap.size, 0, none⟩) 0 0) 0 [] := World.ownsRow_lit w5 #[] 0 (by omega) (by simp) rfl
          have hl5 := hI5.len
          have hrng5 := hI5.rng
          go_wp2_with (first | (at_builtin; refine wpList_append_lies _ (by rfl) (.tmp 57) (.tmp 58) _ (by rfl) w.heap.size 3 i0 _ 1 8 Try.underlying29 hi zi0 zi1 zi2 rfl (by omega) (.slice (some ⟨w5.heap.size, 0, none⟩) 0 0) 0 [] (by rfl) hown0 ⟨b, o, none⟩ n4 c4 (ts.map (Value.int .i64)) (by rfl) (by simp; omega) (news_list (hI5.alloc _)) (by intro u hu; obtain ⟨y, _, rfl⟩ := List.mem_map.1 hu; simp [Value.oneCell']) (by omega) (by unfold maxLen; omega) (by omega) (by first | omega | (simp; omega)) (w5.heap.size + 1) (by simp) ?_; intro g' cap' wq hown3 hgrow hat hlt2; have hB5 : Below w.heap.size w wq := Below.grown (by (repeat (first | with_reducible exact Below.refl _ _ | with_reducible assumption | (with_reducible refine below_drewN ?_ _) | (with_reducible refine Below.drew ?_) | (with_reducible refine Below.setCell ?_ (by first | omega | (simp; done) | (simp; omega)) _) | (with_reducible refine Below.alloc ?_ (by first | omega | (simp; done) | (simp; omega)) _) | refine Below.trans ?_ (Below.mono (by with_reducible assumption) (by first | omega | (simp; done) | (simp; omega)))))) hgrow (by first | omega | (simp; done) | (simp; omega)) (fun j hj => by have := (hown0.lt j hj).1; exact this); have hF5 := (show Free wq g' from ⟨(hown3.lt g' rfl).2, fun j => hown3.frozenAt j⟩); have hg' := (hown3.lt g' rfl).1; have HOW := Lib.hid hown3; clear hown3 hgrow hat hlt2))
          have hown := HOW.out
          rw [Nat.zero_add, List.nil_append] at hown
          refine bodyPost_ret (v := .tuple #[.slice (some ⟨w.heap.size, 0, none⟩) 0 0, .slice (some ⟨g', 0, none⟩) (0 + n4) cap', .int .i64 1]) (by simp only [results, Try.results19]; go_simp) rfl ?_
          rw [Nat.zero_add]
          refine run_no (HRN.out.trans (by rw [HF.out]; rfl)) hL4.out ⟨_, _, g', cap', rfl, ⟨Ints.of_own hown (fun j hj => ?_) hl5 hrng5 (by omega), hF5, hg'⟩, hB5⟩
          rw [List.getElem?_map, List.getElem?_eq_getElem (show j < ts.length by omega), List.getD_eq_getElem?_getD, List.getElem?_eq_getElem (show j < ts.length by omega)]
          rfl
      | none =>
        rintro e w4 ⟨A4, n4, c4, rfl, hI4, hb1⟩
        dsimp only at hI4
        subst hI4
        have hSt4 := hSt.later hb1
        have hz1 := hb1.size; (try simp at hz1); have hB1 : Below w.heap.size w w4 := (by refine Below.trans ?_ (Below.mono hb1 (by first | omega | (simp; done) | (simp; omega))); (repeat (first | with_reducible exact Below.refl _ _ | with_reducible assumption | (with_reducible refine below_drewN ?_ _) | (with_reducible refine Below.drew ?_) | (with_reducible refine Below.setCell ?_ (by first | omega | (simp; done) | (simp; omega)) _) | (with_reducible refine Below.alloc ?_ (by first | omega | (simp; done) | (simp; omega)) _) | refine Below.trans ?_ (Below.mono (by with_reducible assumption) (by first | omega | (simp; done) | (simp; omega))))))
        clear hb1
        obtain ⟨ov, hov⟩ : ∃ ov, backTo ls 4 = ov := ⟨_, rfl⟩
        have HOV := Lib.hid hov
        go_wp2_with fail
        refine (l3Back_any hSt4 HS.out HC.out).mono ?_
        rw [hov]
        clear hov
        rintro e w5 ⟨g, cap, rfl, hpe, hb1⟩
        have hz1 := hb1.size; (try simp at hz1); have hB1 : Below w.heap.size w w5 := (by refine Below.trans ?_ (Below.mono hb1 (by first | omega | (simp; done) | (simp; omega))); (repeat (first | with_reducible exact Below.refl _ _ | with_reducible assumption | (with_reducible refine below_drewN ?_ _) | (with_reducible refine Below.drew ?_) | (with_reducible refine Below.setCell ?_ (by first | omega | (simp; done) | (simp; omega)) _) | (with_reducible refine Below.alloc ?_ (by first | omega | (simp; done) | (simp; omega)) _) | refine Below.trans ?_ (Below.mono (by with_reducible assumption) (by first | omega | (simp; done) | (simp; omega))))))
        have HPE := Lib.hid hpe
        clear hb1 hpe
        cases ov with
        | none =>
          go_wp2
          refine bodyPost_ret (v := .tuple #[.slice (some ⟨w.heap.size, 0, none⟩) 0 0, .slice (some ⟨w5.heap.size, 0, none⟩) 0 0, .int .i64 2]) (by simp only [results, Try.results19]; go_simp) rfl ?_
          exact run_much (HR.out.symm.trans (run_back HS.out HC.out HOB.out HOV.out)) ⟨_, _, _, _, rfl, by (repeat (first | with_reducible exact Below.refl _ _ | with_reducible assumption | (with_reducible refine below_drewN ?_ _) | (with_reducible refine Below.drew ?_) | (with_reducible refine Below.setCell ?_ (by first | omega | (simp; done) | (simp; omega)) _) | (with_reducible refine Below.alloc ?_ (by first | omega | (simp; done) | (simp; omega)) _) | refine Below.trans ?_ (Below.mono (by with_reducible assumption) (by first | omega | (simp; done) | (simp; omega)))))⟩
        | some vs =>
          obtain ⟨hV5, hF5, hg5⟩ := HPE.out _ rfl
          obtain ⟨f, hf⟩ : ∃ f, farAll ls vs = f := ⟨_, rfl⟩
          have HF := Lib.hid hf
          have HRN := Lib.hid (HR.out.symm.trans (run_all HS.out HC.out HOB.out HOV.out))
          go_wp2_with fail
          refine (sFarAll_any (ls := ls) (vs := vs) (h.later (by (repeat (first | with_reducible exact Below.refl _ _ | with_reducible assumption | (with_reducible refine below_drewN ?_ _) | (with_reducible refine Below.drew ?_) | (with_reducible refine Below.setCell ?_ (by first | omega | (simp; done) | (simp; omega)) _) | (with_reducible refine Below.alloc ?_ (by first | omega | (simp; done) | (simp; omega)) _) | refine Below.trans ?_ (Below.mono (by with_reducible assumption) (by first | omega | (simp; done) | (simp; omega))))))) hV5).mono ?_
          rw [hf]
          clear hf
          rintro e w6 ⟨rfl, hb1⟩
          have hV6 := hV5.later hb1
          have hF6 := hF5.later hb1
          have hz1 := hb1.size; (try simp at hz1); have hB1 : Below w.heap.size w w6 := (by refine Below.trans ?_ (Below.mono hb1 (by first | omega | (simp; done) | (simp; omega))); (repeat (first | with_reducible exact Below.refl _ _ | with_reducible assumption | (with_reducible refine below_drewN ?_ _) | (with_reducible refine Below.drew ?_) | (with_reducible refine Below.setCell ?_ (by first | omega | (simp; done) | (simp; omega)) _) | (with_reducible refine Below.alloc ?_ (by first | omega | (simp; done) | (simp; omega)) _) | refine Below.trans ?_ (Below.mono (by with_reducible assumption) (by first | omega | (simp; done) | (simp; omega))))))
          clear hb1 HPE hV5 hF5
          cases f
          · go_wp2
            refine bodyPost_ret (v := .tuple #[.slice (some ⟨w.heap.size, 0, none⟩) 0 0, .slice (some ⟨w6.heap.size, 0, none⟩) 0 0, .int .i64 2]) (by simp only [results, Try.results19]; go_simp) rfl ?_
            exact run_much (HRN.out.trans (by rw [HF.out]; rfl)) ⟨_, _, _, _, rfl, by (repeat (first | with_reducible exact Below.refl _ _ | with_reducible assumption | (with_reducible refine below_drewN ?_ _) | (with_reducible refine Below.drew ?_) | (with_reducible refine Below.setCell ?_ (by first | omega | (simp; done) | (simp; omega)) _) | (with_reducible refine Below.alloc ?_ (by first | omega | (simp; done) | (simp; omega)) _) | refine Below.trans ?_ (Below.mono (by with_reducible assumption) (by first | omega | (simp; done) | (simp; omega)))))⟩
          · go_wp2
            refine bodyPost_ret (v := .tuple #[.slice (some ⟨g, 0, none⟩) 4 cap, .slice (some ⟨w6.heap.size, 0, none⟩) 0 0, .int .i64 0]) (by simp only [results, Try.results19]; go_simp) rfl ?_
            exact run_yes (HRN.out.trans (by rw [HF.out]; rfl)) ⟨g, cap, _, _, rfl, ⟨hV6.alloc _, hF6.alloc _, by omega⟩, by (repeat (first | with_reducible exact Below.refl _ _ | with_reducible assumption | (with_reducible refine below_drewN ?_ _) | (with_reducible refine Below.drew ?_) | (with_reducible refine Below.setCell ?_ (by first | omega | (simp; done) | (simp; omega)) _) | (with_reducible refine Below.alloc ?_ (by first | omega | (simp; done) | (simp; omega)) _) | refine Below.trans ?_ (Below.mono (by with_reducible assumption) (by first | omega | (simp; done) | (simp; omega)))))⟩
end Go.Proofs.Ytccjbipmlpnhkaa

/- A term is copied. -/
import Derived.Test.YtgmeoblapnmpiaaDt
namespace Go.Proofs.Ytgmeoblapnmpiaa
set_option maxRecDepth 100000
open Go.RowKit Go.ChangeShapes Go.WideShapes Go.ChangeAt
set_option linter.unusedSimpArgs false
set_option linter.unusedVariables false


def CopyCall (d : Nat) : Prop := ∀ {A : Option Addr} {n c : Nat} {ks : List TermV} (s : ByteArray) {w : World}, Kids w 0 d A n ks → narrow d ks → s.size ≤ 9223372036854775807 →
    Calls Try.prog 65 #[.agg #[.string s, .slice A n c]] w fun e w' => ∃ (v : Value) (zs : List Value) (B : Nat), e = .returned (.agg #[.string s, v]) ∧ (TermG w' B v n ks zs d ∧ w.heap.size ≤ B) ∧ Below w.heap.size w w'
theorem keep4 {w w' : World} {a1 a2 a3 a4 : Addr} {v1 v2 v3 v4 : Value} (h : w.cell? a1 = some v1 ∧ w.cell? a2 = some v2 ∧ w.cell? a3 = some v3 ∧ w.cell? a4 = some v4) (hb : Below w.heap.size w w') :
    w'.cell? a1 = some v1 ∧ w'.cell? a2 = some v2 ∧ w'.cell? a3 = some v3 ∧ w'.cell? a4 = some v4 :=
  ⟨(hb.cell (World.block_lt_of_cell? _ _ h.1)).trans h.1, (hb.cell (World.block_lt_of_cell? _ _ h.2.1)).trans h.2.1, (hb.cell (World.block_lt_of_cell? _ _ h.2.2.1)).trans h.2.2.1, (hb.cell (World.block_lt_of_cell? _ _ h.2.2.2)).trans h.2.2.2⟩
theorem through {wr W wq : World} {a : Addr} {v : Value} {row : Option Nat} (hb : Below wr.heap.size wr W) (hg : W.grownBy wq row) (hn : some a.block ≠ row) (hc : wr.cell? a = some v) : wq.cell? a = some v := by
  have hl := World.block_lt_of_cell? _ _ hc
  exact ((World.cell?_of_block (w := W) (a := a) (hg.block a.block (Nat.lt_of_lt_of_le hl hb.size) hn)).trans (hb.cell hl)).trans hc
theorem throughF {wr W wq : World} {a : Addr} {row : Option Nat} (hb : Below wr.heap.size wr W) (hg : W.grownBy wq row) (hn : some a.block ≠ row) (hl : a.block < wr.heap.size) (hf : wr.frozen? a = false) : wq.frozen? a = false :=
  ((World.frozen?_of_block (w := W) (a := a) (hg.block a.block (Nat.lt_of_lt_of_le hl hb.size) hn)).trans (World.frozen?_of_block (w := wr) (a := a) (hb.block a.block hl))).trans hf
set_option maxHeartbeats 4000000 in
theorem l4Copy_of {d : Nat} (IH : ∀ d', d = d' + 1 → CopyCall d') : CopyCall d := by
  intro A n c ks s w h hnar hs
  have hfew := h.few
  have hlen := h.len
  have hn9 : n ≤ 9 := by have := hnar.few; omega
  obtain ⟨i0, hi, zi0, zi1, zi2⟩ := info_parts term_info2
  go_enter Try.func65, Try.ntmps65
  go_wp2_with fail
  go_loopw [4] (fun i wr => ∃ (k : Nat) (v : Value) (zs : List Value), k ≤ n ∧ i = .int .i64 k ∧ TermG wr (w.heap.size + 3) v k (ks.take k) zs d ∧ (wr.cell? ⟨w.heap.size, 1, none⟩ = some (.slice A n c) ∧ wr.cell? ⟨w.heap.size + 1, 0, none⟩ = some (.string ⟨#[]⟩) ∧ wr.cell? ⟨w.heap.size + 1, 1, none⟩ = some (.slice none 0 0) ∧ wr.cell? ⟨w.heap.size + 1 + 1, 0, none⟩ = some (.string s) ∧ wr.cell? ⟨w.heap.size + 1 + 1, 1, none⟩ = some v) ∧ (wr.frozen? ⟨w.heap.size + 1, 0, none⟩ = false ∧ wr.frozen? ⟨w.heap.size + 1, 1, none⟩ = false ∧ wr.frozen? ⟨w.heap.size + 1 + 1, 0, none⟩ = false ∧ wr.frozen? ⟨w.heap.size + 1 + 1, 1, none⟩ = false) ∧ Below w.heap.size w wr) (fun i _ => n - (intOf i).toNat)
  case atStart => exact ⟨0, .slice none 0 0, [], by omega, rfl, TermG.nil _ _ _, ⟨by go_simp, by go_simp, by go_simp, by go_simp, by go_simp⟩, ⟨by go_simp, by go_simp, by go_simp, by go_simp⟩, by (repeat (first | with_reducible exact Below.refl _ _ | with_reducible assumption | (with_reducible refine below_drewN ?_ _) | (with_reducible refine Below.drew ?_) | (with_reducible refine Below.setCell ?_ (by first | omega | (simp; done) | (simp; omega)) _) | (with_reducible refine Below.alloc ?_ (by first | omega | (simp; done) | (simp; omega)) _) | refine Below.trans ?_ (Below.mono (by with_reducible assumption) (by first | omega | (simp; done) | (simp; omega)))))⟩
  case round =>
    obtain ⟨k, v, zs, hkn, rfl, hG, ⟨hq1, hr0, hr1, ht0, ht1⟩, ⟨f0, f1, f2, f3⟩, hB⟩ := hrel
    have hzr := hB.size
    have hzt := World.block_lt_of_cell? _ _ ht1
    dsimp only at hzt
    obtain ⟨Av, cv, rfl⟩ := hG.form
    by_cases hlt : k < n
    · obtain ⟨d', p, o, rfl, rfl, hpl, hp, hcs⟩ := (h).cells (by omega)
      obtain ⟨B, m, cb, hc1, hc2, hIk, hsf⟩ := hcs k hlt
      clear hcs
      replace hc1 := (hB.cell (p := ⟨p, o + k * 2, none⟩) hp).trans hc1
      replace hc2 := (hB.cell (p := ⟨p, o + k * 2 + 1, none⟩) hp).trans hc2
      have HI : Hid (CopyCall d') := Lib.hid (IH d' rfl)
      have HS := Lib.hid (take_next (ks := ks) (k := k) (by omega))
      have HNK : Hid (narrow d' (ks.getD k tm0).kids) := Lib.hid (hnar.2 k (by omega))
      generalize (ks.getD k tm0).name = s' at *
      generalize (ks.getD k tm0).kids = qs at *
      generalize hts : ks.take k = ts at *
      clear hts
      have hC4 : wr.cell? ⟨w.heap.size + 1 + 1, 1, none⟩ = some (.slice Av k cv) ∧ wr.cell? ⟨w.heap.size, 1, none⟩ = some (.slice (some ⟨p, o, none⟩) n c) ∧ wr.cell? ⟨p, o + k * 2, none⟩ = some (.string s') ∧ wr.cell? ⟨p, o + k * 2 + 1, none⟩ = some (.slice B m cb) := ⟨ht1, hq1, hc1, hc2⟩
      go_wp2_with fail
      refine wp_region_T2 10 (fun w' => w'.cell? ⟨w.heap.size + 1 + 1, 1, none⟩ = some (.slice Av k cv) ∧ w'.cell? ⟨w.heap.size, 1, none⟩ = some (.slice (some ⟨p, o, none⟩) n c) ∧ w'.cell? ⟨p, o + k * 2, none⟩ = some (.string s') ∧ w'.cell? ⟨p, o + k * 2 + 1, none⟩ = some (.slice B m cb)) (by kernel_rfl) (by kernel_rfl) ?_ (fun hHeld => ?_)
      · exact hC4
      (refine wpAnyT_take (i := 0) (v := ?_) (by simp only [List.getElem?_toArray, List.getElem?_cons_succ, List.getElem?_cons_zero]; rfl) (by kernel_rfl) (by kernel_rfl) (by kernel_rfl) (by kernel_rfl) (by intro _ _ _ h; exact h) (Or.inl ⟨by rfl, ?_⟩) (by assumption) ?_; rotate_left; (focus (intro wS hSw; (try dsimp only at hSw); go_simp; (try with_reducible rfl))); (try simp only [Act.put, List.setIfInBounds_toArray, List.set_cons_zero, List.set_cons_succ]))
      (refine wpAnyT_take (i := 1) (v := ?_) (by simp only [List.getElem?_toArray, List.getElem?_cons_succ, List.getElem?_cons_zero]; rfl) (by kernel_rfl) (by kernel_rfl) (by kernel_rfl) (by kernel_rfl) (by intro _ _ _ h; exact h) (Or.inl ⟨by rfl, ?_⟩) (by assumption) ?_; rotate_left; (focus (intro wS hSw; (try dsimp only at hSw); go_simp; (try with_reducible rfl))); (try simp only [Act.put, List.setIfInBounds_toArray, List.set_cons_zero, List.set_cons_succ]))
      (refine wpAnyT_take (i := 2) (v := ?_) (by simp only [List.getElem?_toArray, List.getElem?_cons_succ, List.getElem?_cons_zero]; rfl) (by kernel_rfl) (by kernel_rfl) (by kernel_rfl) (by kernel_rfl) (by intro _ _ _ h; exact h) (Or.inl ⟨by rfl, ?_⟩) (by assumption) ?_; rotate_left; (focus (intro wS hSw; (try dsimp only at hSw); go_simp; (try with_reducible rfl))); (try simp only [Act.put, List.setIfInBounds_toArray, List.set_cons_zero, List.set_cons_succ]))
      (refine wpAnyT_take (i := 3) (v := ?_) (by simp only [List.getElem?_toArray, List.getElem?_cons_succ, List.getElem?_cons_zero]; rfl) (by kernel_rfl) (by kernel_rfl) (by kernel_rfl) (by kernel_rfl) (by intro _ _ _ h; exact h) (Or.inl ⟨by rfl, ?_⟩) (by assumption) ?_; rotate_left; (focus (intro wS hSw; (try dsimp only at hSw); go_simp; (try with_reducible rfl))); (try simp only [Act.put, List.setIfInBounds_toArray, List.set_cons_zero, List.set_cons_succ]))
      (refine wpAnyT_take (i := 4) (v := ?_) (by simp only [List.getElem?_toArray, List.getElem?_cons_succ, List.getElem?_cons_zero]; rfl) (by kernel_rfl) (by kernel_rfl) (by kernel_rfl) (by kernel_rfl) (by intro _ _ _ h; exact h) (Or.inl ⟨by rfl, ?_⟩) (by assumption) ?_; rotate_left; (focus (intro wS hSw; (try dsimp only at hSw); go_simp; (try with_reducible rfl))); (try simp only [Act.put, List.setIfInBounds_toArray, List.set_cons_zero, List.set_cons_succ]))
      (refine wpAnyT_take (i := 5) (v := ?_) (by simp only [List.getElem?_toArray, List.getElem?_cons_succ, List.getElem?_cons_zero]; rfl) (by kernel_rfl) (by kernel_rfl) (by kernel_rfl) (by kernel_rfl) (by intro _ _ _ h; exact h) (Or.inl ⟨by rfl, ?_⟩) (by assumption) ?_; rotate_left; (focus (intro wS hSw; (try dsimp only at hSw); go_simp; (try with_reducible rfl))); (try simp only [Act.put, List.setIfInBounds_toArray, List.set_cons_zero, List.set_cons_succ]))
      (refine wpAnyT_take (i := 6) (v := ?_) (by simp only [List.getElem?_toArray, List.getElem?_cons_succ, List.getElem?_cons_zero]; rfl) (by kernel_rfl) (by kernel_rfl) (by kernel_rfl) (by kernel_rfl) (by intro _ _ _ h; exact h) (Or.inl ⟨by rfl, ?_⟩) (by assumption) ?_; rotate_left; (focus (intro wS hSw; (try dsimp only at hSw); go_simp; (try with_reducible rfl))); (try simp only [Act.put, List.setIfInBounds_toArray, List.set_cons_zero, List.set_cons_succ]))
      refine wpAnyT_ready (rs := [7]) (by kernel_rfl) (by kernel_rfl) ?_
      refine AllReadyT.cons (by simp only [List.getElem?_toArray, List.getElem?_cons_succ, List.getElem?_cons_zero]; rfl) (fun K hK => ?_) AllReadyT.nil
      (go_simp; (refine (HI.out (c := cb) s' (Kids.later (by (repeat (first | with_reducible exact Below.refl _ _ | with_reducible assumption | (with_reducible refine below_drewN ?_ _) | (with_reducible refine Below.drew ?_) | (with_reducible refine Below.setCell ?_ (by first | omega | (simp; done) | (simp; omega)) _) | (with_reducible refine Below.alloc ?_ (by first | omega | (simp; done) | (simp; omega)) _) | refine Below.trans ?_ (Below.mono (by with_reducible assumption) (by first | omega | (simp; done) | (simp; omega)))))) hIk) HNK.out hsf).mono ?_); rintro e w2 ⟨v1, zs1, B1, rfl, ⟨hG1, hB1⟩, hb1⟩; obtain ⟨A1, c1, rfl⟩ := hG1.form; (try simp at hB1); have hbw : Below wr.heap.size wr w2 := Below.trans (by (repeat (first | with_reducible exact Below.refl _ _ | with_reducible assumption | (with_reducible refine below_drewN ?_ _) | (with_reducible refine Below.drew ?_) | (with_reducible refine Below.setCell ?_ (by first | omega | (simp; done) | (simp; omega)) _) | (with_reducible refine Below.alloc ?_ (by first | omega | (simp; done) | (simp; omega)) _) | refine Below.trans ?_ (Below.mono (by with_reducible assumption) (by first | omega | (simp; done) | (simp; omega)))))) (hb1.mono (by simp)); have hz2 := hbw.size)
      refine hK.out _ _ ?_ (fun hHeld => ?_)
      · (try dsimp only)
        exact keep4 hC4 hbw
      clear hK K
      (try simp only [Act.put, List.setIfInBounds_toArray, List.set_cons_zero, List.set_cons_succ])
      refine wpAnyT_ready (rs := [8]) (by kernel_rfl) (by kernel_rfl) ?_
      refine AllReadyT.cons (by simp only [List.getElem?_toArray, List.getElem?_cons_succ, List.getElem?_cons_zero]; rfl) (fun K hK => ?_) AllReadyT.nil
      go_simp
      refine hK.out _ _ ?_ (fun hHeld => ?_)
      · (try dsimp only)
        exact keep4 hC4 (by (repeat (first | with_reducible exact Below.refl _ _ | with_reducible assumption | (with_reducible refine below_drewN ?_ _) | (with_reducible refine Below.drew ?_) | (with_reducible refine Below.setCell ?_ (by first | omega | (simp; done) | (simp; omega)) _) | (with_reducible refine Below.alloc ?_ (by first | omega | (simp; done) | (simp; omega)) _) | refine Below.trans ?_ (Below.mono (by with_reducible assumption) (by first | omega | (simp; done) | (simp; omega))))))
      clear hK K
      (try simp only [Act.put, List.setIfInBounds_toArray, List.set_cons_zero, List.set_cons_succ])
      have hG2 : TermG (w2.alloc (.cells #[.string s', .slice A1 m c1] 30)) (w.heap.size + 3) (.slice Av k cv) k ts zs (d' + 1) := hG.later (by (repeat (first | with_reducible exact Below.refl _ _ | with_reducible assumption | (with_reducible refine below_drewN ?_ _) | (with_reducible refine Below.drew ?_) | (with_reducible refine Below.setCell ?_ (by first | omega | (simp; done) | (simp; omega)) _) | (with_reducible refine Below.alloc ?_ (by first | omega | (simp; done) | (simp; omega)) _) | refine Below.trans ?_ (Below.mono (by with_reducible assumption) (by first | omega | (simp; done) | (simp; omega))))))
      have hG1k := hG1.kids (by have := HNK.out.few; have := hG1.len; omega)
      have hbW : Below wr.heap.size wr (w2.alloc (.cells #[.string s', .slice A1 m c1] 30)) := by (repeat (first | with_reducible exact Below.refl _ _ | with_reducible assumption | (with_reducible refine below_drewN ?_ _) | (with_reducible refine Below.drew ?_) | (with_reducible refine Below.setCell ?_ (by first | omega | (simp; done) | (simp; omega)) _) | (with_reducible refine Below.alloc ?_ (by first | omega | (simp; done) | (simp; omega)) _) | refine Below.trans ?_ (Below.mono (by with_reducible assumption) (by first | omega | (simp; done) | (simp; omega)))))
      refine wpAnyT_ready (rs := [9]) (by kernel_rfl) (by kernel_rfl) ?_
      refine AllReadyT.cons (by simp only [List.getElem?_toArray, List.getElem?_cons_succ, List.getElem?_cons_zero]; rfl) (fun K hK => ?_) AllReadyT.nil
      ((refine step_append_lies _ (by rfl) (.tmp 16) (.tmp 23) _ (by rfl) (w.heap.size + 3) 30 i0 _ 2 40 Try.underlying28 hi zi0 zi1 zi2 rfl (by omega) (.slice Av k cv) k zs (by rfl) hG2.own ⟨w2.heap.size, 0, none⟩ 1 1 [.string s', .slice A1 m c1] (by rfl) (by rfl) (news2 (by first | rfl | (simp; done))) (by simp [Value.oneCell']) (by omega) (by unfold maxLen; omega) (by omega) (by first | omega | (simp; omega)) _ rfl ?_); intro g' cap' wq hown3 hgrow hat hlt2; have hG3 := hG2.app (us := [.mk s' qs]) hown3 hgrow hat rfl rfl (fun j hj => by (obtain rfl : j = 0 := (by omega)); exact ⟨_, _, _, (hG1k.into hG.own (by omega) (by omega)).step (Same.below (by (repeat (first | with_reducible exact Below.refl _ _ | with_reducible assumption | (with_reducible refine below_drewN ?_ _) | (with_reducible refine Below.drew ?_) | (with_reducible refine Below.setCell ?_ (by first | omega | (simp; done) | (simp; omega)) _) | (with_reducible refine Below.alloc ?_ (by first | omega | (simp; done) | (simp; omega)) _) | refine Below.trans ?_ (Below.mono (by with_reducible assumption) (by first | omega | (simp; done) | (simp; omega))))))), hsf, rfl, rfl⟩); have hrj : ∀ j, (Value.slice Av k cv).ownBlock = some j → w.heap.size + 3 ≤ j := (fun j hj => (hG.own.lt j hj).1); have hno1 : some w.heap.size ≠ (Value.slice Av k cv).ownBlock := (fun e => by have := hrj _ e.symm; omega); have hno2 : some (w.heap.size + 1) ≠ (Value.slice Av k cv).ownBlock := (fun e => by have := hrj _ e.symm; omega); have hno3 : some (w.heap.size + 1 + 1) ≠ (Value.slice Av k cv).ownBlock := (fun e => by have := hrj _ e.symm; omega); have hnop : some p ≠ (Value.slice Av k cv).ownBlock := (fun e => by have := hrj _ e.symm; omega); have hbq : Below w.heap.size w wq := Below.grown (hB.trans (hbW.mono hzr)) hgrow (by first | omega | (simp; done) | (simp; omega)) (fun j hj => by have := hrj j hj; omega); have hzq := hgrow.size; (try simp at hzq))
      refine hK.out _ _ ?_ (fun hHeld => ?_)
      · (try dsimp only)
        exact ⟨through hbW hgrow hno3 hC4.1, through hbW hgrow hno1 hC4.2.1, through hbW hgrow hnop hC4.2.2.1, through hbW hgrow hnop hC4.2.2.2⟩
      clear hK K
      (try simp only [Act.put, List.setIfInBounds_toArray, List.set_cons_zero, List.set_cons_succ])
      refine wpAnyT_done (by kernel_rfl) ?_
      simp only [List.drop_succ_cons, List.drop_zero]
      have hs1 : wq.cell? ⟨w.heap.size, 1, none⟩ = some (.slice (some ⟨p, o, none⟩) n c) := through hbW hgrow hno1 hq1
      have hs2 := through hbW hgrow hno2 hr0
      have hs3 := through hbW hgrow hno2 hr1
      have hs4 := through hbW hgrow hno3 ht0
      have hs5 := through hbW hgrow hno3 ht1
      have hs6 := throughF hbW hgrow hno2 (by dsimp only; omega) f0
      have hs7 := throughF hbW hgrow hno2 (by dsimp only; omega) f1
      have hs8 := throughF hbW hgrow hno3 (by dsimp only; omega) f2
      have hs9 := throughF hbW hgrow hno3 (by dsimp only; omega) f3
      have hG4 := Lib.hid (hG3.set (p := ⟨w.heap.size + 1 + 1, 1, none⟩) (by dsimp only; omega) (.slice (some ⟨g', 0, none⟩) (k + 1) cap'))
      have hbz : Below w.heap.size w (wq.setCell ⟨w.heap.size + 1 + 1, 1, none⟩ (.slice (some ⟨g', 0, none⟩) (k + 1) cap')) := by (repeat (first | with_reducible exact Below.refl _ _ | with_reducible assumption | (with_reducible refine below_drewN ?_ _) | (with_reducible refine Below.drew ?_) | (with_reducible refine Below.setCell ?_ (by first | omega | (simp; done) | (simp; omega)) _) | (with_reducible refine Below.alloc ?_ (by first | omega | (simp; done) | (simp; omega)) _) | refine Below.trans ?_ (Below.mono (by with_reducible assumption) (by first | omega | (simp; done) | (simp; omega)))))
      clear hown3 hgrow hat hlt2 hno1 hno2 hno3 hnop hrj hbW hG2 hG3 hG1k hC4
      go_wp2
      go_roundw
      case rel => exact ⟨k + 1, _, _, by omega, by go_num, by rw [HS.out]; exact hG4.out, ⟨by go_simp, by go_simp, by go_simp, by go_simp, by go_simp⟩, ⟨by go_simp, by go_simp, by go_simp, by go_simp⟩, hbz⟩
      case measure => simp [intOf]; omega
    · obtain rfl : k = n := by omega
      go_wp2
      refine bodyPost_ret (v := .agg #[.string s, .slice Av k cv]) (by simp only [results, Try.results65]; go_simp) rfl ⟨_, zs, w.heap.size + 3, rfl, ⟨?_, by omega⟩, ?_⟩
      · rw [List.take_of_length_le (by omega)] at hG
        exact (hG.set (by dsimp only; omega) _).set (by dsimp only; omega) _
      · (repeat (first | with_reducible exact Below.refl _ _ | with_reducible assumption | (with_reducible refine below_drewN ?_ _) | (with_reducible refine Below.drew ?_) | (with_reducible refine Below.setCell ?_ (by first | omega | (simp; done) | (simp; omega)) _) | (with_reducible refine Below.alloc ?_ (by first | omega | (simp; done) | (simp; omega)) _) | refine Below.trans ?_ (Below.mono (by with_reducible assumption) (by first | omega | (simp; done) | (simp; omega)))))
theorem l4Copy_any : ∀ d, CopyCall d
  | 0 => l4Copy_of (fun d' e => by omega)
  | d + 1 => l4Copy_of (fun d' e => by obtain rfl : d = d' := by omega
                                       exact l4Copy_any d)
end Go.Proofs.Ytgmeoblapnmpiaa

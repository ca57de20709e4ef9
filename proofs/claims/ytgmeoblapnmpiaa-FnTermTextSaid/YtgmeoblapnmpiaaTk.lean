/- Terms are read (the reference's TermRead). -/
import Derived.Test.YtgmeoblapnmpiaaTh
namespace Go.Proofs.Ytgmeoblapnmpiaa
set_option maxRecDepth 100000
open Go.RowKit Go.ChangeShapes Go.WideShapes Go.ChangeAt
set_option linter.unusedSimpArgs false
set_option linter.unusedVariables false

theorem tText_of {t : TermV} (h : termOk t = true) : tText t = termL 4 t := by unfold tText; rw [if_pos h]

set_option maxRecDepth 100000 in
set_option maxHeartbeats 4000000 in
theorem sTermRead_any (s : ByteArray) (hs : s.size ≤ 1048576) (w : World) : Calls Try.prog 34 #[.string s] w (TermRB s w) := by
  have hl : s.data.toList.length = s.size := Array.length_toList
  have HL := Lib.hid hl
  clear hl
  go_enter Try.func34, Try.ntmps34
  go_wp2_with fail
  refine (ReadSCall.at2 (l4Read_any 4) s 0 0 4 rfl (Nat.zero_le _) hs (by omega) rfl).mono ?_
  rintro e w1 ⟨nm, v, m, ts, zs, B, nx, rfl, ⟨hG, ⟨hB1, hB2⟩, hm, hnm, hnx⟩, HC, hb1⟩
  obtain ⟨A, c, rfl⟩ := hG.form
  have hz1 := hb1.size
  (try simp at hz1 hB1)
  have hBb : Below w.heap.size w w1 := Below.trans (by (repeat (first | with_reducible exact Below.refl _ _ | with_reducible assumption | (with_reducible refine below_drewN ?_ _) | (with_reducible refine Below.drew ?_) | (with_reducible refine Below.setCell ?_ (by first | omega | (simp; done) | (simp; omega)) _) | (with_reducible refine Below.alloc ?_ (by first | omega | (simp; done) | (simp; omega)) _) | refine Below.trans ?_ (Below.mono (by with_reducible assumption) (by first | omega | (simp; done) | (simp; omega)))))) (hb1.mono (by first | omega | (simp; done) | (simp; omega)))
  obtain ⟨d0, d1, d2, d3⟩ := (T2c.new w ⟨#[]⟩ (.slice none 0 0) 30).later hb1
  have HX : Hid (∀ t, termOk t = true → termL 4 t = s.data.toList → 0 ≤ nx ∧ TermV.mk nm ts = t ∧ s.data.toList.drop nx.toNat = []) := Lib.hid (fun t h1 h2 => HC.out t [] (termOk_shape h1) stops_nil (by rw [List.append_nil, List.drop_zero]; exact h2.symm))
  have hww : w.heap.size < w1.heap.size := by omega
  clear hb1 HC
  rcases hnx with rfl | ⟨hn1, hn2⟩
  · have hne : ((-1 : Int) != (s.size : Int)) = true := by first | (simp; done) | (simp; omega)
    have HN : Hid (∀ t, termOk t = true → termL 4 t ≠ s.data.toList) := Lib.hid (fun t h1 h2 => by have := (HX.out t h1 h2).1; omega)
    go_wp2_with fail
    exact bodyPost_ret (v := .tuple #[.agg #[.string ⟨#[]⟩, .slice none 0 0], .bool false]) (by simp only [results, Try.results34]; go_simp) rfl ⟨_, _, 0, [], [], w.heap.size, _, rfl, ⟨TermG.nil _ _ _, Nat.le_refl _, by omega, Nat.zero_le _⟩, Lib.hid ⟨(fun h => by cases h), fun _ => ⟨rfl, rfl, HN.out⟩⟩, by (repeat (first | with_reducible exact Below.refl _ _ | with_reducible assumption | (with_reducible refine below_drewN ?_ _) | (with_reducible refine Below.drew ?_) | (with_reducible refine Below.setCell ?_ (by first | omega | (simp; done) | (simp; omega)) _) | (with_reducible refine Below.alloc ?_ (by first | omega | (simp; done) | (simp; omega)) _) | refine Below.trans ?_ (Below.mono (by with_reducible assumption) (by first | omega | (simp; done) | (simp; omega)))))⟩
  obtain ⟨j2, rfl⟩ := Int.eq_ofNat_of_zero_le (show 0 ≤ nx by omega)
  by_cases hj : j2 = s.size
  · have hji : ((j2 : Int) != (s.size : Int)) = false := by first | (simp; done) | (simp; omega)
    have hrl : ¬ s.toList = [] := by
      rw [ByteArray.toList_eq]
      intro e
      have h9 := HL.out
      rw [e, List.length_nil] at h9
      omega
    have hem : s.toList.isEmpty = false := by rw [List.isEmpty_eq_false_iff]; exact hrl
    have HSN : Hid (s.data.toList ≠ []) := Lib.hid (by rw [← ByteArray.toList_eq]; exact hrl)
    have HJ := Lib.hid hj
    clear hj
    obtain ⟨tx, htx⟩ : ∃ l, tText (.mk nm ts) = l := ⟨_, rfl⟩
    have HTX := Lib.hid htx
    clear htx
    go_wp2_with fail
    refine (sTermText_any nm HTX ((hG.kids (by omega)).step (Same.below ((Below.refl _ _).alloc (Nat.le_refl _) _))).here (by omega)).mono ?_
    rintro e w2 ⟨rfl, hb2⟩
    have hz2 := hb2.size
    (try simp at hz2)
    have hBc : Below w.heap.size w w2 := Below.trans (by (repeat (first | with_reducible exact Below.refl _ _ | with_reducible assumption | (with_reducible refine below_drewN ?_ _) | (with_reducible refine Below.drew ?_) | (with_reducible refine Below.setCell ?_ (by first | omega | (simp; done) | (simp; omega)) _) | (with_reducible refine Below.alloc ?_ (by first | omega | (simp; done) | (simp; omega)) _) | refine Below.trans ?_ (Below.mono (by with_reducible assumption) (by first | omega | (simp; done) | (simp; omega)))))) (hb2.mono (by first | omega | (simp; done) | (simp; omega)))
    have hbW : Below w1.heap.size w1 w2 := Below.trans ((Below.refl _ _).alloc (Nat.le_refl _) _) (hb2.mono (by simp))
    obtain ⟨e0, e1, e2, e3⟩ := (⟨d0, d1, d2, d3⟩ : T2c w1 w.heap.size ⟨#[]⟩ (.slice none 0 0)).later hbW
    obtain ⟨f0, f1, f2, f3⟩ := (T2c.new w1 nm (.slice A m c) 30).later hb2
    have hG2 := hG.later hbW
    have hww2 : w.heap.size < w2.heap.size := by omega
    have hww3 : w1.heap.size < w2.heap.size := by omega
    clear d0 d1 d2 d3 hb2
    by_cases heq : tx = s.data.toList
    · have h1 := eq_list heq
      have HEQ := Lib.hid heq
      have hok := tText_ok (t := .mk nm ts) (by rw [HTX.out, heq]; exact HSN.out)
      have HOK := Lib.hid hok
      have hm2 : m ≤ 2 := by
        have h2 := (tshape_iff.1 (termOk_shape hok)).2.1
        have h3 := hG.len
        rw [show TermV.kids (.mk nm ts) = ts from rfl] at h2
        omega
      clear heq hok
      go_wp2_with fail
      exact bodyPost_ret (v := .tuple #[.agg #[.string nm, .slice A m c], .bool true]) (by simp only [results, Try.results34]; go_simp) rfl ⟨_, _, m, ts, zs, B, _, rfl, ⟨(hG2.set (p := ⟨w.heap.size, 0, none⟩) (by dsimp only; omega) _).set (p := ⟨w.heap.size, 1, none⟩) (by dsimp only; omega) _, by omega, hm2, hnm⟩, Lib.hid ⟨(fun _ => ⟨HOK.out, by rw [← tText_of HOK.out, HTX.out, HEQ.out]⟩), fun h => by cases h⟩, by (repeat (first | with_reducible exact Below.refl _ _ | with_reducible assumption | (with_reducible refine below_drewN ?_ _) | (with_reducible refine Below.drew ?_) | (with_reducible refine Below.setCell ?_ (by first | omega | (simp; done) | (simp; omega)) _) | (with_reducible refine Below.alloc ?_ (by first | omega | (simp; done) | (simp; omega)) _) | refine Below.trans ?_ (Below.mono (by with_reducible assumption) (by first | omega | (simp; done) | (simp; omega)))))⟩
    · have h1 := ne_list heq
      have HN : Hid (∀ t, termOk t = true → termL 4 t ≠ s.data.toList) := Lib.hid (fun t h1 h2 => heq (by rw [← HTX.out, (HX.out t h1 h2).2.1, tText_of h1]; exact h2))
      clear heq
      go_wp2_with fail
      exact bodyPost_ret (v := .tuple #[.agg #[.string ⟨#[]⟩, .slice none 0 0], .bool false]) (by simp only [results, Try.results34]; go_simp) rfl ⟨_, _, 0, [], [], w.heap.size, _, rfl, ⟨TermG.nil _ _ _, Nat.le_refl _, by omega, Nat.zero_le _⟩, Lib.hid ⟨(fun h => by cases h), fun _ => ⟨rfl, rfl, HN.out⟩⟩, by (repeat (first | with_reducible exact Below.refl _ _ | with_reducible assumption | (with_reducible refine below_drewN ?_ _) | (with_reducible refine Below.drew ?_) | (with_reducible refine Below.setCell ?_ (by first | omega | (simp; done) | (simp; omega)) _) | (with_reducible refine Below.alloc ?_ (by first | omega | (simp; done) | (simp; omega)) _) | refine Below.trans ?_ (Below.mono (by with_reducible assumption) (by first | omega | (simp; done) | (simp; omega)))))⟩
  · have hji : ((j2 : Int) != (s.size : Int)) = true := by first | (simp; done) | (simp; omega)
    have HN : Hid (∀ t, termOk t = true → termL 4 t ≠ s.data.toList) := Lib.hid (fun t h1 h2 => by
      have h3 := (HX.out t h1 h2).2.2
      rw [Int.toNat_natCast] at h3
      have h4 := congrArg List.length h3
      rw [List.length_drop, HL.out, List.length_nil] at h4
      omega)
    go_wp2_with fail
    exact bodyPost_ret (v := .tuple #[.agg #[.string ⟨#[]⟩, .slice none 0 0], .bool false]) (by simp only [results, Try.results34]; go_simp) rfl ⟨_, _, 0, [], [], w.heap.size, _, rfl, ⟨TermG.nil _ _ _, Nat.le_refl _, by omega, Nat.zero_le _⟩, Lib.hid ⟨(fun h => by cases h), fun _ => ⟨rfl, rfl, HN.out⟩⟩, by (repeat (first | with_reducible exact Below.refl _ _ | with_reducible assumption | (with_reducible refine below_drewN ?_ _) | (with_reducible refine Below.drew ?_) | (with_reducible refine Below.setCell ?_ (by first | omega | (simp; done) | (simp; omega)) _) | (with_reducible refine Below.alloc ?_ (by first | omega | (simp; done) | (simp; omega)) _) | refine Below.trans ?_ (Below.mono (by with_reducible assumption) (by first | omega | (simp; done) | (simp; omega)))))⟩
end Go.Proofs.Ytgmeoblapnmpiaa

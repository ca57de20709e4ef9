/- Terms are read (the program's TermRead). -/
import Derived.Test.YtgmeoblapnmpiaaTe
namespace Go.Proofs.Ytgmeoblapnmpiaa
set_option maxRecDepth 100000
open Go.RowKit Go.ChangeShapes Go.WideShapes Go.ChangeAt
set_option linter.unusedSimpArgs false
set_option linter.unusedVariables false

theorem eq_list {l : List UInt8} {s : ByteArray} (h : l = s.data.toList) : (l == s.toList) = true := by
  rw [beq_iff_eq, ByteArray.toList_eq]; exact h
theorem ne_list {l : List UInt8} {s : ByteArray} (h : l ≠ s.data.toList) : (l == s.toList) = false := by
  rw [beq_eq_false_iff_ne, ByteArray.toList_eq]; exact h
/-- What reading a text gives: the right term with this text, or none where there is none. -/
def TermRB (s : ByteArray) (w : World) (e : Ending) (w' : World) : Prop :=
  ∃ (nm : ByteArray) (v : Value) (m : Nat) (ts : List TermV) (zs : List Value) (B : Nat) (ok : Bool), e = .returned (.tuple #[.agg #[.string nm, v], .bool ok]) ∧
    (TermG w' B v m ts zs 4 ∧ w.heap.size ≤ B ∧ m ≤ 2 ∧ nm.size ≤ s.size) ∧
    Hid ((ok = true → termOk (.mk nm ts) = true ∧ termL 4 (.mk nm ts) = s.data.toList) ∧ (ok = false → nm = ⟨#[]⟩ ∧ ts = [] ∧ ∀ t, termOk t = true → termL 4 t ≠ s.data.toList)) ∧ Below w.heap.size w w'
/-- The same, and all blocks of the term are apart. -/
def TermRS (s : ByteArray) (w : World) (e : Ending) (w' : World) : Prop :=
  ∃ (nm : ByteArray) (v : Value) (m : Nat) (ts : List TermV) (zs : List Value) (B : Nat) (ok : Bool), e = .returned (.tuple #[.agg #[.string nm, v], .bool ok]) ∧
    (TermR w' B w'.heap.size v m ts zs 4 ∧ w.heap.size ≤ B ∧ m ≤ 2 ∧ nm.size ≤ s.size) ∧
    Hid ((ok = true → termOk (.mk nm ts) = true ∧ termL 4 (.mk nm ts) = s.data.toList) ∧ (ok = false → nm = ⟨#[]⟩ ∧ ts = [] ∧ ∀ t, termOk t = true → termL 4 t ≠ s.data.toList)) ∧ Below w.heap.size w w'
theorem TermRS.rb {s : ByteArray} {w w' : World} {e : Ending} (h : TermRS s w e w') : TermRB s w e w' := by
  obtain ⟨nm, v, m, ts, zs, B, ok, h1, ⟨h2, h3⟩, h4⟩ := h
  exact ⟨nm, v, m, ts, zs, B, ok, h1, ⟨h2.g, h3⟩, h4⟩

set_option maxRecDepth 100000 in
set_option maxHeartbeats 4000000 in
theorem iTermReadS_any (s : ByteArray) (hs : s.size ≤ 1048576) (w : World) : Calls Try.prog 35 #[.string s] w (TermRS s w) := by
  go_enter Try.func35, Try.ntmps35
  go_wp2_with fail
  refine (ReadCall.at (readTerm_any 4) s 1 hs (by omega) (by omega)).mono ?_
  rintro e w1 ⟨nm, v, m, ts, zs, B, r, ok, rfl, ⟨hG, ⟨hB1, hB2⟩, hm, hnm, hr⟩, HC, hb1⟩
  obtain ⟨A, c, rfl⟩ := hG.form
  have hz1 := hb1.size
  (try simp at hz1 hB1)
  have hBb : Below w.heap.size w w1 := Below.trans (by (repeat (first | with_reducible exact Below.refl _ _ | with_reducible assumption | (with_reducible refine below_drewN ?_ _) | (with_reducible refine Below.drew ?_) | (with_reducible refine Below.setCell ?_ (by first | omega | (simp; done) | (simp; omega)) _) | (with_reducible refine Below.alloc ?_ (by first | omega | (simp; done) | (simp; omega)) _) | refine Below.trans ?_ (Below.mono (by with_reducible assumption) (by first | omega | (simp; done) | (simp; omega)))))) (hb1.mono (by first | omega | (simp; done) | (simp; omega)))
  obtain ⟨d0, d1, d2, d3⟩ := (T2c.new w ⟨#[]⟩ (.slice none 0 0) 30).later hb1
  have HX : Hid (∀ t, termOk t = true → termL 4 t = s.data.toList → ok = true ∧ TermV.mk nm ts = t ∧ r.data.toList = []) := Lib.hid (fun t h1 h2 => HC.out t [] (termOk_shape h1) stops_nil (by rw [List.append_nil]; exact h2.symm))
  have hww : w.heap.size < w1.heap.size := by omega
  clear hb1 HC
  cases ok
  · go_wp2_with fail
    exact bodyPost_ret (v := .tuple #[.agg #[.string ⟨#[]⟩, .slice none 0 0], .bool false]) (by simp only [results, Try.results35]; go_simp) rfl ⟨_, _, 0, [], [], w.heap.size, _, rfl, ⟨TermR.nil _ _ _ (Nat.le_refl _), Nat.le_refl _, by omega, Nat.zero_le _⟩, Lib.hid ⟨(fun h => by cases h), fun _ => ⟨rfl, rfl, (fun t h1 h2 => by have := (HX.out t h1 h2).1; cases this)⟩⟩, by (repeat (first | with_reducible exact Below.refl _ _ | with_reducible assumption | (with_reducible refine below_drewN ?_ _) | (with_reducible refine Below.drew ?_) | (with_reducible refine Below.setCell ?_ (by first | omega | (simp; done) | (simp; omega)) _) | (with_reducible refine Below.alloc ?_ (by first | omega | (simp; done) | (simp; omega)) _) | refine Below.trans ?_ (Below.mono (by with_reducible assumption) (by first | omega | (simp; done) | (simp; omega)))))⟩
  by_cases hre : r.size = 0
  · have hrr : r = ⟨#[]⟩ := by
      apply ByteArray.ext
      exact Array.eq_empty_of_size_eq_zero hre
    subst hrr
    have hK : Kids (w1.alloc (.cells #[.string nm, .slice A m c] 30)) 0 5 A m ts := ((hG.g.kids (by omega)).step (Same.below ((Below.refl _ _).alloc (Nat.le_refl _) _))).here
    obtain ⟨ko, hko⟩ : ∃ b, termOk (.mk nm ts) = b := ⟨_, rfl⟩
    have HKO := Lib.hid hko
    clear hko
    go_wp2_with fail
    refine (isTerm_any nm hK (by omega)).mono ?_
    rw [HKO.out]
    rintro e w2 ⟨rfl, hb2⟩
    have hz2 := hb2.size
    (try simp at hz2)
    have hBc : Below w.heap.size w w2 := Below.trans (by (repeat (first | with_reducible exact Below.refl _ _ | with_reducible assumption | (with_reducible refine below_drewN ?_ _) | (with_reducible refine Below.drew ?_) | (with_reducible refine Below.setCell ?_ (by first | omega | (simp; done) | (simp; omega)) _) | (with_reducible refine Below.alloc ?_ (by first | omega | (simp; done) | (simp; omega)) _) | refine Below.trans ?_ (Below.mono (by with_reducible assumption) (by first | omega | (simp; done) | (simp; omega)))))) (hb2.mono (by first | omega | (simp; done) | (simp; omega)))
    have hbW : Below w1.heap.size w1 w2 := Below.trans ((Below.refl _ _).alloc (Nat.le_refl _) _) (hb2.mono (by simp))
    obtain ⟨e0, e1, e2, e3⟩ := (⟨d0, d1, d2, d3⟩ : T2c w1 w.heap.size ⟨#[]⟩ (.slice none 0 0)).later hbW
    obtain ⟨f0, f1, f2, f3⟩ := (T2c.new w1 nm (.slice A m c) 30).later hb2
    have hG2 := hG.later hbW
    have hww2 : w.heap.size < w2.heap.size := by omega
    have hww3 : w1.heap.size < w2.heap.size := by omega
    clear d0 d1 d2 d3 hb2
    cases ko
    · go_wp2_with fail
      exact bodyPost_ret (v := .tuple #[.agg #[.string ⟨#[]⟩, .slice none 0 0], .bool false]) (by simp only [results, Try.results35]; go_simp) rfl ⟨_, _, 0, [], [], w.heap.size, _, rfl, ⟨TermR.nil _ _ _ (Nat.le_refl _), Nat.le_refl _, by omega, Nat.zero_le _⟩, Lib.hid ⟨(fun h => by cases h), fun _ => ⟨rfl, rfl, (fun t h1 h2 => by rw [← (HX.out t h1 h2).2.1, HKO.out] at h1; cases h1)⟩⟩, by (repeat (first | with_reducible exact Below.refl _ _ | with_reducible assumption | (with_reducible refine below_drewN ?_ _) | (with_reducible refine Below.drew ?_) | (with_reducible refine Below.setCell ?_ (by first | omega | (simp; done) | (simp; omega)) _) | (with_reducible refine Below.alloc ?_ (by first | omega | (simp; done) | (simp; omega)) _) | refine Below.trans ?_ (Below.mono (by with_reducible assumption) (by first | omega | (simp; done) | (simp; omega)))))⟩
    obtain ⟨nl, rfl⟩ := strB_eta nm
    have HS := Lib.hid (termOk_shape HKO.out)
    go_wp2_with fail
    refine (termText_any 4 nl ((hG2.g.kids (by omega)).here) HS (by omega)).mono ?_
    rintro e w3 ⟨rfl, hb3⟩
    have hz3 := hb3.size
    have hBd : Below w.heap.size w w3 := hBc.trans (hb3.mono (by omega))
    obtain ⟨x0, x1, x2, x3⟩ := (⟨e0, e1, e2, e3⟩ : T2c w2 w.heap.size ⟨#[]⟩ (.slice none 0 0)).later hb3
    obtain ⟨y0, y1, y2, y3⟩ := (⟨f0, f1, f2, f3⟩ : T2c w2 w1.heap.size (strB nl) (.slice A m c)).later hb3
    have hG3 := hG2.later hb3
    clear e0 e1 e2 e3 f0 f1 f2 f3 hb3
    obtain ⟨tl, htl⟩ : ∃ l, termL 4 (.mk (strB nl) ts) = l := ⟨_, rfl⟩
    have HTL := Lib.hid htl
    rw [htl]
    clear htl
    by_cases heq : tl = s.data.toList
    · have h1 := eq_list heq
      have HEQ := Lib.hid heq
      clear heq
      go_wp2_with fail
      exact bodyPost_ret (v := .tuple #[.agg #[.string (strB nl), .slice A m c], .bool true]) (by simp only [results, Try.results35]; go_simp) rfl ⟨_, _, m, ts, zs, B, _, rfl, ⟨((hG3.set (p := ⟨w.heap.size, 0, none⟩) (by dsimp only; omega) _).set (p := ⟨w.heap.size, 1, none⟩) (by dsimp only; omega) _).up (by first | omega | (simp; done) | (simp; omega)) (Nat.le_refl _), by omega, hm, hnm⟩, Lib.hid ⟨(fun _ => ⟨HKO.out, by rw [HTL.out, HEQ.out]⟩), fun h => by cases h⟩, by (repeat (first | with_reducible exact Below.refl _ _ | with_reducible assumption | (with_reducible refine below_drewN ?_ _) | (with_reducible refine Below.drew ?_) | (with_reducible refine Below.setCell ?_ (by first | omega | (simp; done) | (simp; omega)) _) | (with_reducible refine Below.alloc ?_ (by first | omega | (simp; done) | (simp; omega)) _) | refine Below.trans ?_ (Below.mono (by with_reducible assumption) (by first | omega | (simp; done) | (simp; omega)))))⟩
    · have h1 := ne_list heq
      have HEQ := Lib.hid heq
      clear heq
      go_wp2_with fail
      exact bodyPost_ret (v := .tuple #[.agg #[.string ⟨#[]⟩, .slice none 0 0], .bool false]) (by simp only [results, Try.results35]; go_simp) rfl ⟨_, _, 0, [], [], w.heap.size, _, rfl, ⟨TermR.nil _ _ _ (Nat.le_refl _), Nat.le_refl _, by omega, Nat.zero_le _⟩, Lib.hid ⟨(fun h => by cases h), fun _ => ⟨rfl, rfl, (fun t h1 h2 => HEQ.out (by rw [← HTL.out, (HX.out t h1 h2).2.1]; exact h2))⟩⟩, by (repeat (first | with_reducible exact Below.refl _ _ | with_reducible assumption | (with_reducible refine below_drewN ?_ _) | (with_reducible refine Below.drew ?_) | (with_reducible refine Below.setCell ?_ (by first | omega | (simp; done) | (simp; omega)) _) | (with_reducible refine Below.alloc ?_ (by first | omega | (simp; done) | (simp; omega)) _) | refine Below.trans ?_ (Below.mono (by with_reducible assumption) (by first | omega | (simp; done) | (simp; omega)))))⟩
  · have hrl : ¬ r.toList = [] := by
      rw [ByteArray.toList_eq]
      intro e
      have := congrArg List.length e
      rw [Array.length_toList] at this
      exact hre this
    have hem : r.toList.isEmpty = false := by rw [List.isEmpty_eq_false_iff]; exact hrl
    have HRL : Hid (r.data.toList ≠ []) := Lib.hid (by rw [← ByteArray.toList_eq]; exact hrl)
    go_wp2_with fail
    exact bodyPost_ret (v := .tuple #[.agg #[.string ⟨#[]⟩, .slice none 0 0], .bool false]) (by simp only [results, Try.results35]; go_simp) rfl ⟨_, _, 0, [], [], w.heap.size, _, rfl, ⟨TermR.nil _ _ _ (Nat.le_refl _), Nat.le_refl _, by omega, Nat.zero_le _⟩, Lib.hid ⟨(fun h => by cases h), fun _ => ⟨rfl, rfl, (fun t h1 h2 => HRL.out (HX.out t h1 h2).2.2)⟩⟩, by (repeat (first | with_reducible exact Below.refl _ _ | with_reducible assumption | (with_reducible refine below_drewN ?_ _) | (with_reducible refine Below.drew ?_) | (with_reducible refine Below.setCell ?_ (by first | omega | (simp; done) | (simp; omega)) _) | (with_reducible refine Below.alloc ?_ (by first | omega | (simp; done) | (simp; omega)) _) | refine Below.trans ?_ (Below.mono (by with_reducible assumption) (by first | omega | (simp; done) | (simp; omega)))))⟩
theorem iTermRead_any (s : ByteArray) (hs : s.size ≤ 1048576) (w : World) : Calls Try.prog 35 #[.string s] w (TermRB s w) := (iTermReadS_any s hs w).mono fun _ _ h => h.rb
end Go.Proofs.Ytgmeoblapnmpiaa

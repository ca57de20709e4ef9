/- Terms and their texts: what has one text is one term. -/
import Derived.Test.YtgmeoblapnmpiaaTs
import Derived.Test.YtgmeoblapnmpiaaTy
namespace Go.Proofs.Ytgmeoblapnmpiaa
set_option maxRecDepth 100000
open Go.RowKit Go.ChangeShapes Go.WideShapes Go.ChangeAt
set_option linter.unusedSimpArgs false
set_option linter.unusedVariables false

theorem bytes_eq {s s' : ByteArray} (h : s.data.toList = s'.data.toList) : s = s' := by
  apply ByteArray.ext
  exact Array.toList_inj.1 h
theorem nameSame_iff {s s' : ByteArray} : nameSame s s' = true ↔ s = s' := by
  unfold nameSame
  rw [decide_eq_true_eq, ByteArray.toList_eq, ByteArray.toList_eq]
  exact ⟨bytes_eq, fun h => by rw [h]⟩
theorem sameTerms_refl : ∀ (d : Nat) (ks : List TermV), sameTerms d ks ks = true
  | 0, ks => by simp [sameTerms]
  | d + 1, ks => by
    unfold sameTerms
    rw [decide_eq_true rfl, Bool.true_and, decide_eq_true_eq]
    intro j hj
    rw [nameSame_iff.2 rfl, sameTerms_refl d]; rfl
theorem sameTerms_eq : ∀ {d : Nat} {w w' : World} {lo lo' n n' : Nat} {A A' : Option Addr} {ks ks' : List TermV}, Kids w lo d A n ks → Kids w' lo' d A' n' ks' → sameTerms d ks ks' = true → ks = ks'
  | 0, _, _, _, _, _, _, _, _, _, _, h, h', _ => by rw [h.2, h'.2]
  | d + 1, w, w', lo, lo', n, n', A, A', ks, ks', h, h', hs => by
    unfold sameTerms at hs
    rw [Bool.and_eq_true, decide_eq_true_eq, decide_eq_true_eq] at hs
    obtain ⟨hl, hj⟩ := hs
    have hlen := h.len
    have hlen' := h'.len
    refine List.ext_getElem hl (fun j h1 h2 => ?_)
    have h0 := hj j h1
    rw [Bool.and_eq_true, nameSame_iff] at h0
    obtain ⟨d1, b1, o1, e1, _, _, _, c1⟩ := h.cells (by omega)
    obtain ⟨d2, b2, o2, e2, _, _, _, c2⟩ := h'.cells (by omega)
    obtain rfl : d = d1 := by omega
    obtain rfl : d = d2 := by omega
    obtain ⟨_, _, _, _, _, k1, _⟩ := c1 j (by omega)
    obtain ⟨_, _, _, _, _, k2, _⟩ := c2 j (by omega)
    have h3 := sameTerms_eq k1 k2 h0.2
    have g1 : ks.getD j tm0 = ks[j] := by rw [List.getD_eq_getElem?_getD, List.getElem?_eq_getElem h1]; rfl
    have g2 : ks'.getD j tm0 = ks'[j] := by rw [List.getD_eq_getElem?_getD, List.getElem?_eq_getElem h2]; rfl
    rw [← g1, ← g2, term_eta (ks.getD j tm0), term_eta (ks'.getD j tm0), h0.1, h3]
theorem same_iff {d : Nat} {w w' : World} {lo lo' n n' : Nat} {A A' : Option Addr} {s s' : ByteArray} {ks ks' : List TermV} (h : Kids w lo d A n ks) (h' : Kids w' lo' d A' n' ks') : (nameSame s s' && sameTerms d ks ks') = true ↔ TermV.mk s ks = TermV.mk s' ks' := by
  rw [Bool.and_eq_true, nameSame_iff]
  constructor
  · rintro ⟨rfl, h2⟩
    rw [sameTerms_eq h h' h2]
  · intro e
    injection e with e1 e2
    subst e1 e2
    exact ⟨rfl, sameTerms_refl _ _⟩
/-- a small letter -/
def letter (c : UInt8) : Prop := 97 ≤ (c.toNat : Int) ∧ (c.toNat : Int) ≤ 122
theorem name_letters {s : ByteArray} (h : nameOk s = true) : ∀ c ∈ s.data.toList, letter c := by
  unfold nameOk at h
  rw [Bool.and_eq_true, decide_eq_true_eq] at h
  intro c hc
  obtain ⟨j, hj, rfl⟩ := List.mem_iff_getElem.1 hc
  have := h.1 ⟨j, by rw [Array.length_toList] at hj; exact hj⟩
  exact this
/-- nothing, or no letter in front -/
def nolet (x : List UInt8) : Prop := ∀ c r, x = c :: r → ¬ letter c
theorem names_split : ∀ {l m x y : List UInt8}, (∀ c ∈ l, letter c) → (∀ c ∈ m, letter c) → nolet x → nolet y → l ++ x = m ++ y → l = m ∧ x = y
  | [], [], _, _, _, _, _, _, e => ⟨rfl, e⟩
  | [], c :: m, x, y, _, hm, hx, _, e => absurd (hm c (by simp)) (hx c (m ++ y) e)
  | c :: l, [], x, y, hl, _, _, hy, e => absurd (hl c (by simp)) (hy c (l ++ x) e.symm)
  | c :: l, d :: m, x, y, hl, hm, hx, hy, e => by
    injection e with e1 e2
    obtain ⟨h1, h2⟩ := names_split (fun a ha => hl a (by simp [ha])) (fun a ha => hm a (by simp [ha])) hx hy e2
    exact ⟨by rw [e1, h1], h2⟩
def stops (x : List UInt8) : Prop := ∀ c r, x = c :: r → ¬ letter c ∧ c ≠ 40
theorem stops.nl {x : List UInt8} (h : stops x) : nolet x := fun c r e => (h c r e).1
theorem nolet_40 (x : List UInt8) : nolet (40 :: x) := fun c r e => by
  injection e with e1 _; subst e1; unfold letter; decide
theorem stops_41 (x : List UInt8) : stops (41 :: x) := fun c r e => by
  injection e with e1 _; subst e1; unfold letter; decide
theorem stops_44 (x : List UInt8) : stops (44 :: x) := fun c r e => by
  injection e with e1 _; subst e1; unfold letter; decide
theorem stops_nil : stops [] := fun c r e => by cases e
theorem termL_inj : ∀ {f : Nat} {a b : TermV} {x y : List UInt8}, tshape f a = true → tshape f b = true → stops x → stops y → termL f a ++ x = termL f b ++ y → a = b ∧ x = y
  | 0, _, _, _, _, h, _, _, _, _ => by cases h
  | f + 1, .mk s ks, .mk s' ks', x, y, ha, hb, hx, hy, e => by
    obtain ⟨a1, a2, a3⟩ := tshape_iff.1 ha
    obtain ⟨b1, b2, b3⟩ := tshape_iff.1 hb
    have la := name_letters a1
    have lb := name_letters b1
    replace la : ∀ c ∈ s.data.toList, letter c := la
    replace lb : ∀ c ∈ s'.data.toList, letter c := lb
    match ks, a2, a3, ks', b2, b3 with
    | [], _, _, [], _, _ =>
      rw [termL_none, termL_none] at e
      obtain ⟨e1, e2⟩ := names_split la lb hx.nl hy.nl e
      exact ⟨by rw [bytes_eq e1], e2⟩
    | [], _, _, [q], _, _ =>
      rw [termL_none, termL_one, List.append_assoc, List.cons_append] at e
      obtain ⟨_, e2⟩ := names_split la lb hx.nl (nolet_40 _) e
      exact absurd rfl (hx _ _ e2).2
    | [], _, _, [q, r], _, _ =>
      rw [termL_none, termL_two, List.append_assoc, List.cons_append] at e
      obtain ⟨_, e2⟩ := names_split la lb hx.nl (nolet_40 _) e
      exact absurd rfl (hx _ _ e2).2
    | [p], _, _, [], _, _ =>
      rw [termL_none, termL_one, List.append_assoc, List.cons_append] at e
      obtain ⟨_, e2⟩ := names_split la lb (nolet_40 _) hy.nl e
      exact absurd rfl (hy _ _ e2.symm).2
    | [p], _, a3, [q], _, b3 =>
      rw [termL_one, termL_one, List.append_assoc, List.append_assoc, List.cons_append, List.cons_append] at e
      obtain ⟨e1, e2⟩ := names_split la lb (nolet_40 _) (nolet_40 _) e
      injection e2 with _ e2
      rw [List.append_assoc, List.append_assoc] at e2
      obtain ⟨e3, e4⟩ := termL_inj (a3 0 (by show 0 < 1; omega)) (b3 0 (by show 0 < 1; omega)) (stops_41 x) (stops_41 y) e2
      injection e4 with _ e4
      replace e3 : p = q := e3
      exact ⟨by rw [bytes_eq e1, e3], e4⟩
    | [p], _, a3, [q, r], _, b3 =>
      rw [termL_one, termL_two, List.append_assoc, List.append_assoc, List.cons_append, List.cons_append] at e
      obtain ⟨_, e2⟩ := names_split la lb (nolet_40 _) (nolet_40 _) e
      injection e2 with _ e2
      rw [List.append_assoc, List.append_assoc, List.cons_append] at e2
      obtain ⟨_, e4⟩ := termL_inj (a3 0 (by show 0 < 1; omega)) (b3 0 (by show 0 < 2; omega)) (stops_41 x) (stops_44 _) e2
      injection e4 with e4 _
      exact absurd e4 (by decide)
    | [p, t], _, _, [], _, _ =>
      rw [termL_none, termL_two, List.append_assoc, List.cons_append] at e
      obtain ⟨_, e2⟩ := names_split la lb (nolet_40 _) hy.nl e
      exact absurd rfl (hy _ _ e2.symm).2
    | [p, t], _, a3, [q], _, b3 =>
      rw [termL_two, termL_one, List.append_assoc, List.append_assoc, List.cons_append, List.cons_append] at e
      obtain ⟨_, e2⟩ := names_split la lb (nolet_40 _) (nolet_40 _) e
      injection e2 with _ e2
      rw [List.append_assoc, List.append_assoc, List.cons_append] at e2
      obtain ⟨_, e4⟩ := termL_inj (a3 0 (by show 0 < 2; omega)) (b3 0 (by show 0 < 1; omega)) (stops_44 _) (stops_41 y) e2
      injection e4 with e4 _
      exact absurd e4 (by decide)
    | [p, t], _, a3, [q, r], _, b3 =>
      rw [termL_two, termL_two, List.append_assoc, List.append_assoc, List.cons_append, List.cons_append] at e
      obtain ⟨e1, e2⟩ := names_split la lb (nolet_40 _) (nolet_40 _) e
      injection e2 with _ e2
      rw [List.append_assoc, List.append_assoc, List.cons_append, List.cons_append] at e2
      obtain ⟨e3, e4⟩ := termL_inj (a3 0 (by show 0 < 2; omega)) (b3 0 (by show 0 < 2; omega)) (stops_44 _) (stops_44 _) e2
      injection e4 with _ e4
      rw [List.append_assoc, List.append_assoc] at e4
      obtain ⟨e5, e6⟩ := termL_inj (a3 1 (by show 1 < 2; omega)) (b3 1 (by show 1 < 2; omega)) (stops_41 x) (stops_41 y) e4
      injection e6 with _ e6
      replace e3 : p = q := e3
      replace e5 : t = r := e5
      exact ⟨by rw [bytes_eq e1, e3, e5], e6⟩
theorem tText_ok {t : TermV} (h : tText t ≠ []) : termOk t = true := by
  unfold tText at h
  split at h
  · next hh => exact hh
  · exact absurd rfl h
theorem tText_inj {a b : TermV} (ha : tText a ≠ []) (hb : tText b ≠ []) (h : tText a = tText b) : a = b := by
  have oa := tText_ok ha
  have ob := tText_ok hb
  unfold tText at h
  rw [if_pos oa, if_pos ob] at h
  exact (termL_inj (x := []) (y := []) (termOk_shape oa) (termOk_shape ob) stops_nil stops_nil (by rw [List.append_nil, List.append_nil]; exact h)).1
end Go.Proofs.Ytgmeoblapnmpiaa

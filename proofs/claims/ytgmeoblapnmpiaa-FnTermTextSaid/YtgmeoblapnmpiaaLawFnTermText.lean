/- 'laws.FnTermText': for every input the call returns true and leaves its arguments as they were. No condition. -/
import Derived.Test.YtgmeoblapnmpiaaDm
import Derived.Test.YtgmeoblapnmpiaaDh
import Derived.Test.YtgmeoblapnmpiaaTk
import Derived.Test.YtgmeoblapnmpiaaL
namespace Go.Proofs.Ytgmeoblapnmpiaa
set_option maxRecDepth 100000
open Go.ChangeShapes Go.WideShapes Go.ChangeAt Go.RowKit
set_option linter.unusedSimpArgs false
set_option linter.unusedVariables false

/-- what reading gives -/
def ReadRes (s nm : ByteArray) (ts : List TermV) (ok : Bool) : Prop := (ok = true → termOk (.mk nm ts) = true ∧ termL 4 (.mk nm ts) = s.data.toList) ∧ (ok = false → nm = ⟨#[]⟩ ∧ ts = [] ∧ ∀ t, termOk t = true → termL 4 t ≠ s.data.toList)
theorem ReadRes.one {s nm nm' : ByteArray} {ts ts' : List TermV} {ok ok' : Bool} (h : ReadRes s nm ts ok) (h' : ReadRes s nm' ts' ok') : nm' = nm ∧ ts' = ts ∧ ok' = ok := by
  cases ok <;> cases ok'
  · obtain ⟨a, b, _⟩ := h.2 rfl
    obtain ⟨a', b', _⟩ := h'.2 rfl
    exact ⟨by rw [a, a'], by rw [b, b'], rfl⟩
  · obtain ⟨a', b'⟩ := h'.1 rfl
    exact absurd b' ((h.2 rfl).2.2 _ a')
  · obtain ⟨a', b'⟩ := h.1 rfl
    exact absurd b' ((h'.2 rfl).2.2 _ a')
  · obtain ⟨a, b⟩ := h.1 rfl
    obtain ⟨a', b'⟩ := h'.1 rfl
    have h1 := (termL_inj (x := []) (y := []) (termOk_shape a') (termOk_shape a) stops_nil stops_nil (by rw [b, b'])).1
    injection h1 with h2 h3
    exact ⟨h2, h3, rfl⟩

/-- a term that is read from the text of a term is this term -/
theorem ReadRes.back {s nm : ByteArray} {ts ks : List TermV} {tx : List UInt8} {ok : Bool} {s0 : ByteArray} (h : ReadRes s0 nm ts ok) (hs : s0.data.toList = tx) (ht : tText (.mk s ks) = tx) : (tx = [] → ok = false) ∧ (tx ≠ [] → ok = true ∧ nm = s ∧ ts = ks) := by
  constructor
  · intro e
    cases ok with
    | false => rfl
    | true =>
      exfalso
      obtain ⟨a, b⟩ := h.1 rfl
      have h1 := (tshape_iff.1 (termOk_shape a)).1
      have h2 := name_len h1
      have h3 : (termL 4 (.mk nm ts)).length = 0 := by rw [b, hs, e]; rfl
      have h4 : nm.data.toList.length = nm.size := Array.length_toList
      replace h2 : 1 ≤ nm.size ∧ nm.size ≤ 2 := h2
      unfold termL at h3
      split at h3
      · rw [show TermV.name (.mk nm ts) = nm from rfl] at h3; omega
      · rw [show TermV.name (.mk nm ts) = nm from rfl, List.length_append] at h3; simp at h3
  · intro e
    have h1 := tText_ok (t := .mk s ks) (by rw [ht]; exact e)
    have h2 := tText_of h1
    rw [ht] at h2
    cases ok with
    | false => exact absurd (h2.symm.trans hs.symm) ((h.2 rfl).2.2 _ h1)
    | true =>
      obtain ⟨a, b⟩ := h.1 rfl
      have h3 := (termL_inj (x := []) (y := []) (termOk_shape a) (termOk_shape h1) stops_nil stops_nil (by rw [b, hs, ← h2])).1
      injection h3 with h4 h5
      exact ⟨rfl, h4, h5⟩
theorem ReadRes.text {s nm : ByteArray} {ts : List TermV} (h : ReadRes s nm ts true) : tText (.mk nm ts) = s.data.toList := by
  obtain ⟨a, b⟩ := h.1 rfl
  rw [tText_of a, b]
theorem termSame_self {d n n' c c' : Nat} {A A' : Option Addr} {ks : List TermV} (s : ByteArray) {w : World} (h : Kids w 0 d A n ks) (h' : Kids w 0 d A' n' ks) :
    Calls Try.prog 17 #[.agg #[.string s, .slice A n c], .agg #[.string s, .slice A' n' c']] w fun e w' => e = .returned (.bool true) ∧ Below w.heap.size w w' := SameCall.at (iTermSame_any d) h h' ((same_iff h h').2 rfl)
set_option maxRecDepth 100000 in
theorem fnTermText_long {A : Option Addr} {cap : Nat} {bs : List UInt8} {A' : Option Addr} {cap' : Nat} {bs' : List UInt8} {w : World} (hl : ¬ (bs.length ≤ 1048576 ∧ bs'.length ≤ 1048576)) :
    Calls Try.prog 11 #[.slice A bs.length cap, .slice A' bs'.length cap'] w fun e w' => e = .returned (.bool true) ∧ Below w.heap.size w w' := by
  by_cases h1 : bs.length ≤ 1048576
  · have h2 : ¬ bs'.length ≤ 1048576 := fun h => hl ⟨h1, h⟩
    clear hl
    go_enter Try.func11, Try.ntmps11
    go_wp2
    go_ret
    exact ⟨rfl, Below.refl _ _⟩
  · clear hl
    go_enter Try.func11, Try.ntmps11
    go_wp2
    go_ret
    exact ⟨rfl, Below.refl _ _⟩
set_option maxRecDepth 100000 in
set_option maxHeartbeats 8000000 in
theorem fnTermText_walk {A : Option Addr} {cap : Nat} {bs : List UInt8} {A' : Option Addr} {cap' : Nat} {bs' : List UInt8} {w : World} (h : Code8 w A cap bs) (h' : Code8 w A' cap' bs') :
    Calls Try.prog 11 #[.slice A bs.length cap, .slice A' bs'.length cap'] w fun e w' => e = .returned (.bool true) ∧ Below w.heap.size w w' := by
  by_cases hl0 : ¬ (bs.length ≤ 1048576 ∧ bs'.length ≤ 1048576)
  · exact fnTermText_long hl0
  have hl : bs.length ≤ 1048576 := by omega
  have hl' : bs'.length ≤ 1048576 := by omega
  clear hl0
  go_enter Try.func11, Try.ntmps11
  go_wp2_with fail
  refine (DrawTermText_any h hl).mono ?_
  rintro e w1 ⟨s, Z, m, c, ts, d, rfl, ⟨hK, hsz⟩, hb1⟩
  have hz1 := hb1.size
  have hB1 : Below w.heap.size w w1 := hb1
  have hc1 := h'.later hb1
  clear hb1
  have hK5 : Kids w1 0 (max d 5) Z m ts := hK.le (by omega)
  obtain ⟨tx, htx⟩ : ∃ t, tText (.mk s ts) = t := ⟨_, rfl⟩
  have htl : tx.length ≤ 567 := by rw [← htx]; exact tText_len _
  have HTX := Lib.hid htx
  clear htx
  go_wp2_with fail
  refine (iTermText_any s HTX (Kids.later (by (repeat (first | with_reducible exact Below.refl _ _ | with_reducible assumption | (with_reducible refine below_drewN ?_ _) | (with_reducible refine Below.drew ?_) | (with_reducible refine Below.setCell ?_ (by first | omega | (simp; done) | (simp; omega)) _) | (with_reducible refine Below.alloc ?_ (by first | omega | (simp; done) | (simp; omega)) _) | refine Below.trans ?_ (Below.mono (by with_reducible assumption) (by first | omega | (simp; done) | (simp; omega)))))) hK) (by omega)).mono ?_
  rintro e w2 ⟨rfl, hb1⟩
  have hz1 := hb1.size; (try simp at hz1); have hB1 : Below w.heap.size w w2 := (by refine Below.trans ?_ (Below.mono hb1 (by first | omega | (simp; done) | (simp; omega))); (repeat (first | with_reducible exact Below.refl _ _ | with_reducible assumption | (with_reducible refine below_drewN ?_ _) | (with_reducible refine Below.drew ?_) | (with_reducible refine Below.setCell ?_ (by first | omega | (simp; done) | (simp; omega)) _) | (with_reducible refine Below.alloc ?_ (by first | omega | (simp; done) | (simp; omega)) _) | refine Below.trans ?_ (Below.mono (by with_reducible assumption) (by first | omega | (simp; done) | (simp; omega)))))); obtain ⟨kc_, fc_, lc_⟩ := keep_later (a := ⟨w1.heap.size, 0, none⟩) (v := .string s) hb1 (by go_simp) (by go_simp); obtain ⟨kc_, fc_, lc_⟩ := keep_later (a := ⟨w1.heap.size, 1, none⟩) (v := .slice Z m c) hb1 (by go_simp) (by go_simp)
  have hb12 : Below w1.heap.size w1 w2 := Below.trans (by (repeat (first | with_reducible exact Below.refl _ _ | with_reducible assumption | (with_reducible refine below_drewN ?_ _) | (with_reducible refine Below.drew ?_) | (with_reducible refine Below.setCell ?_ (by first | omega | (simp; done) | (simp; omega)) _) | (with_reducible refine Below.alloc ?_ (by first | omega | (simp; done) | (simp; omega)) _) | refine Below.trans ?_ (Below.mono (by with_reducible assumption) (by first | omega | (simp; done) | (simp; omega)))))) (hb1.mono (by first | omega | (simp; done) | (simp; omega)))
  clear hb1
  go_wp2_with fail
  refine (iTermRead_any (strB tx) (by rw [strB_size]; omega) _).mono ?_
  rintro e w3 ⟨nm, v, k, us, zs, B, ok, rfl, ⟨hG, hBB, hk, hnm⟩, HR, hb1⟩
  obtain ⟨Y, cy, rfl⟩ := hG.form
  have hz1 := hb1.size; (try simp at hz1); have hB1 : Below w.heap.size w w3 := (by refine Below.trans ?_ (Below.mono hb1 (by first | omega | (simp; done) | (simp; omega))); (repeat (first | with_reducible exact Below.refl _ _ | with_reducible assumption | (with_reducible refine below_drewN ?_ _) | (with_reducible refine Below.drew ?_) | (with_reducible refine Below.setCell ?_ (by first | omega | (simp; done) | (simp; omega)) _) | (with_reducible refine Below.alloc ?_ (by first | omega | (simp; done) | (simp; omega)) _) | refine Below.trans ?_ (Below.mono (by with_reducible assumption) (by first | omega | (simp; done) | (simp; omega)))))); obtain ⟨kc_, fc_, lc_⟩ := keep_later (a := ⟨w1.heap.size, 0, none⟩) (v := .string s) hb1 (by go_simp) (by go_simp); obtain ⟨kc_, fc_, lc_⟩ := keep_later (a := ⟨w1.heap.size, 1, none⟩) (v := .slice Z m c) hb1 (by go_simp) (by go_simp)
  have hb13 : Below w1.heap.size w1 w3 := hb12.trans (hb1.mono hb12.size)
  have HY := Lib.hid (hG.kids (by omega))
  have HRB := Lib.hid (ReadRes.back HR.out (tx := tx) (s := s) (ks := ts) (by simp [strB]) HTX.out)
  clear hb1 hG HR hb12
  have hK3 := hK.later hb13
  have hxx : (tx != tx) = false := by simp
  go_wp2_with fail
  refine (sTermText_any s HTX (Kids.later (by (repeat (first | with_reducible exact Below.refl _ _ | with_reducible assumption | (with_reducible refine below_drewN ?_ _) | (with_reducible refine Below.drew ?_) | (with_reducible refine Below.setCell ?_ (by first | omega | (simp; done) | (simp; omega)) _) | (with_reducible refine Below.alloc ?_ (by first | omega | (simp; done) | (simp; omega)) _) | refine Below.trans ?_ (Below.mono (by with_reducible assumption) (by first | omega | (simp; done) | (simp; omega)))))) hK3) (by omega)).mono ?_
  rintro e w4 ⟨rfl, hb1⟩
  have hz1 := hb1.size; (try simp at hz1); have hB1 : Below w.heap.size w w4 := (by refine Below.trans ?_ (Below.mono hb1 (by first | omega | (simp; done) | (simp; omega))); (repeat (first | with_reducible exact Below.refl _ _ | with_reducible assumption | (with_reducible refine below_drewN ?_ _) | (with_reducible refine Below.drew ?_) | (with_reducible refine Below.setCell ?_ (by first | omega | (simp; done) | (simp; omega)) _) | (with_reducible refine Below.alloc ?_ (by first | omega | (simp; done) | (simp; omega)) _) | refine Below.trans ?_ (Below.mono (by with_reducible assumption) (by first | omega | (simp; done) | (simp; omega)))))); obtain ⟨kc_, fc_, lc_⟩ := keep_later (a := ⟨w1.heap.size, 0, none⟩) (v := .string s) hb1 (by go_simp) (by go_simp); obtain ⟨kc_, fc_, lc_⟩ := keep_later (a := ⟨w1.heap.size, 1, none⟩) (v := .slice Z m c) hb1 (by go_simp) (by go_simp); obtain ⟨kc_, fc_, lc_⟩ := keep_later (a := ⟨w3.heap.size, 0, none⟩) (v := .string nm) hb1 (by go_simp) (by go_simp); obtain ⟨kc_, fc_, lc_⟩ := keep_later (a := ⟨w3.heap.size, 1, none⟩) (v := .slice Y k cy) hb1 (by go_simp) (by go_simp)
  have hb14 : Below w1.heap.size w1 w4 := hb13.trans (Below.trans (by (repeat (first | with_reducible exact Below.refl _ _ | with_reducible assumption | (with_reducible refine below_drewN ?_ _) | (with_reducible refine Below.drew ?_) | (with_reducible refine Below.setCell ?_ (by first | omega | (simp; done) | (simp; omega)) _) | (with_reducible refine Below.alloc ?_ (by first | omega | (simp; done) | (simp; omega)) _) | refine Below.trans ?_ (Below.mono (by with_reducible assumption) (by first | omega | (simp; done) | (simp; omega)))))) (hb1.mono (by first | omega | (simp; done) | (simp; omega))))
  have HY4 := Lib.hid (HY.out.step (Same.below (w' := w4) (Below.trans (by (repeat (first | with_reducible exact Below.refl _ _ | with_reducible assumption | (with_reducible refine below_drewN ?_ _) | (with_reducible refine Below.drew ?_) | (with_reducible refine Below.setCell ?_ (by first | omega | (simp; done) | (simp; omega)) _) | (with_reducible refine Below.alloc ?_ (by first | omega | (simp; done) | (simp; omega)) _) | refine Below.trans ?_ (Below.mono (by with_reducible assumption) (by first | omega | (simp; done) | (simp; omega)))))) (hb1.mono (by first | omega | (simp; done) | (simp; omega))))))
  have hc4 := hc1.later hb14
  clear hb1 hb13 hK3 HY hc1
  by_cases ht0 : tx = []
  · subst ht0
    obtain rfl : ok = false := HRB.out.1 rfl
    go_wp2_with fail
    refine (DrawTermRead_any hc4 hl').mono ?_
    rintro e w6 ⟨u, rfl, hu, hb1⟩
    have hz1 := hb1.size; (try simp at hz1); have hB1 : Below w.heap.size w w6 := (by refine Below.trans ?_ (Below.mono hb1 (by first | omega | (simp; done) | (simp; omega))); (repeat (first | with_reducible exact Below.refl _ _ | with_reducible assumption | (with_reducible refine below_drewN ?_ _) | (with_reducible refine Below.drew ?_) | (with_reducible refine Below.setCell ?_ (by first | omega | (simp; done) | (simp; omega)) _) | (with_reducible refine Below.alloc ?_ (by first | omega | (simp; done) | (simp; omega)) _) | refine Below.trans ?_ (Below.mono (by with_reducible assumption) (by first | omega | (simp; done) | (simp; omega))))))
    clear hb1
    go_wp2_with fail
    refine (iTermRead_any u hu _).mono ?_
    rintro e w7 ⟨nm1, v1, k1, us1, zs1, B1, ok1, rfl, ⟨hG1, hBB1, hk1, hnm1⟩, HR1, hb1⟩
    obtain ⟨Y1, cy1, rfl⟩ := hG1.form
    have hz1 := hb1.size; (try simp at hz1); have hB1 : Below w.heap.size w w7 := (by refine Below.trans ?_ (Below.mono hb1 (by first | omega | (simp; done) | (simp; omega))); (repeat (first | with_reducible exact Below.refl _ _ | with_reducible assumption | (with_reducible refine below_drewN ?_ _) | (with_reducible refine Below.drew ?_) | (with_reducible refine Below.setCell ?_ (by first | omega | (simp; done) | (simp; omega)) _) | (with_reducible refine Below.alloc ?_ (by first | omega | (simp; done) | (simp; omega)) _) | refine Below.trans ?_ (Below.mono (by with_reducible assumption) (by first | omega | (simp; done) | (simp; omega))))))
    have HY1 := Lib.hid (hG1.kids (by omega))
    clear hb1 hG1
    go_wp2_with fail
    refine (sTermRead_any u hu _).mono ?_
    rintro e w8 ⟨nm2, v2, k2, us2, zs2, B2, ok2, rfl, ⟨hG2, hBB2, hk2, hnm2⟩, HR2, hb1⟩
    obtain ⟨Y2, cy2, rfl⟩ := hG2.form
    obtain ⟨rfl, rfl, rfl⟩ := ReadRes.one HR1.out HR2.out
    have hz1 := hb1.size; (try simp at hz1); have hB1 : Below w.heap.size w w8 := (by refine Below.trans ?_ (Below.mono hb1 (by first | omega | (simp; done) | (simp; omega))); (repeat (first | with_reducible exact Below.refl _ _ | with_reducible assumption | (with_reducible refine below_drewN ?_ _) | (with_reducible refine Below.drew ?_) | (with_reducible refine Below.setCell ?_ (by first | omega | (simp; done) | (simp; omega)) _) | (with_reducible refine Below.alloc ?_ (by first | omega | (simp; done) | (simp; omega)) _) | refine Below.trans ?_ (Below.mono (by with_reducible assumption) (by first | omega | (simp; done) | (simp; omega)))))); obtain ⟨kc_, fc_, lc_⟩ := keep_later (a := ⟨w7.heap.size, 0, none⟩) (v := .string nm2) hb1 (by go_simp) (by go_simp); obtain ⟨kc_, fc_, lc_⟩ := keep_later (a := ⟨w7.heap.size, 1, none⟩) (v := .slice Y1 k1 cy1) hb1 (by go_simp) (by go_simp)
    have HY2 := Lib.hid (hG2.kids (by omega))
    have HY3 := Lib.hid (HY1.out.step (Same.below (w' := w8) (Below.trans (by (repeat (first | with_reducible exact Below.refl _ _ | with_reducible assumption | (with_reducible refine below_drewN ?_ _) | (with_reducible refine Below.drew ?_) | (with_reducible refine Below.setCell ?_ (by first | omega | (simp; done) | (simp; omega)) _) | (with_reducible refine Below.alloc ?_ (by first | omega | (simp; done) | (simp; omega)) _) | refine Below.trans ?_ (Below.mono (by with_reducible assumption) (by first | omega | (simp; done) | (simp; omega)))))) (hb1.mono (by first | omega | (simp; done) | (simp; omega))))))
    clear hb1 hG2 HR2 HY1
    have hoo : (ok2 == ok2) = true := by simp
    go_wp2_with fail
    refine (termSame_self (d := 5) nm2 (Kids.later (by (repeat (first | with_reducible exact Below.refl _ _ | with_reducible assumption | (with_reducible refine below_drewN ?_ _) | (with_reducible refine Below.drew ?_) | (with_reducible refine Below.setCell ?_ (by first | omega | (simp; done) | (simp; omega)) _) | (with_reducible refine Below.alloc ?_ (by first | omega | (simp; done) | (simp; omega)) _) | refine Below.trans ?_ (Below.mono (by with_reducible assumption) (by first | omega | (simp; done) | (simp; omega)))))) HY3.out.here) (Kids.later (by (repeat (first | with_reducible exact Below.refl _ _ | with_reducible assumption | (with_reducible refine below_drewN ?_ _) | (with_reducible refine Below.drew ?_) | (with_reducible refine Below.setCell ?_ (by first | omega | (simp; done) | (simp; omega)) _) | (with_reducible refine Below.alloc ?_ (by first | omega | (simp; done) | (simp; omega)) _) | refine Below.trans ?_ (Below.mono (by with_reducible assumption) (by first | omega | (simp; done) | (simp; omega)))))) HY2.out.here)).mono ?_
    rintro e w9 ⟨rfl, hb1⟩
    have hz1 := hb1.size; (try simp at hz1); have hB1 : Below w.heap.size w w9 := (by refine Below.trans ?_ (Below.mono hb1 (by first | omega | (simp; done) | (simp; omega))); (repeat (first | with_reducible exact Below.refl _ _ | with_reducible assumption | (with_reducible refine below_drewN ?_ _) | (with_reducible refine Below.drew ?_) | (with_reducible refine Below.setCell ?_ (by first | omega | (simp; done) | (simp; omega)) _) | (with_reducible refine Below.alloc ?_ (by first | omega | (simp; done) | (simp; omega)) _) | refine Below.trans ?_ (Below.mono (by with_reducible assumption) (by first | omega | (simp; done) | (simp; omega)))))); obtain ⟨kc_, fc_, lc_⟩ := keep_later (a := ⟨w7.heap.size, 0, none⟩) (v := .string nm2) hb1 (by go_simp) (by go_simp); obtain ⟨kc_, fc_, lc_⟩ := keep_later (a := ⟨w7.heap.size, 1, none⟩) (v := .slice Y1 k1 cy1) hb1 (by go_simp) (by go_simp)
    have HY4 := Lib.hid (HY3.out.step (Same.below (w' := w9) (Below.trans (by (repeat (first | with_reducible exact Below.refl _ _ | with_reducible assumption | (with_reducible refine below_drewN ?_ _) | (with_reducible refine Below.drew ?_) | (with_reducible refine Below.setCell ?_ (by first | omega | (simp; done) | (simp; omega)) _) | (with_reducible refine Below.alloc ?_ (by first | omega | (simp; done) | (simp; omega)) _) | refine Below.trans ?_ (Below.mono (by with_reducible assumption) (by first | omega | (simp; done) | (simp; omega)))))) (hb1.mono (by first | omega | (simp; done) | (simp; omega))))))
    clear hb1 HY3 HY2
    cases ok2
    · go_wp2
      go_ret
      exact ⟨rfl, by (repeat (first | with_reducible exact Below.refl _ _ | with_reducible assumption | (with_reducible refine below_drewN ?_ _) | (with_reducible refine Below.drew ?_) | (with_reducible refine Below.setCell ?_ (by first | omega | (simp; done) | (simp; omega)) _) | (with_reducible refine Below.alloc ?_ (by first | omega | (simp; done) | (simp; omega)) _) | refine Below.trans ?_ (Below.mono (by with_reducible assumption) (by first | omega | (simp; done) | (simp; omega)))))⟩
    · have htx := ReadRes.text HR1.out
      obtain ⟨tu, htu⟩ : ∃ t, tText (.mk nm2 us2) = t := ⟨_, rfl⟩
      have hel := eq_list (htu.symm.trans htx)
      have HTU := Lib.hid htu
      clear htu htx
      go_wp2_with fail
      refine (iTermText_any nm2 HTU HY4.out.here (by omega)).mono ?_
      rintro e w10 ⟨rfl, hb1⟩
      have hz1 := hb1.size; (try simp at hz1); have hB1 : Below w.heap.size w w10 := (by refine Below.trans ?_ (Below.mono hb1 (by first | omega | (simp; done) | (simp; omega))); (repeat (first | with_reducible exact Below.refl _ _ | with_reducible assumption | (with_reducible refine below_drewN ?_ _) | (with_reducible refine Below.drew ?_) | (with_reducible refine Below.setCell ?_ (by first | omega | (simp; done) | (simp; omega)) _) | (with_reducible refine Below.alloc ?_ (by first | omega | (simp; done) | (simp; omega)) _) | refine Below.trans ?_ (Below.mono (by with_reducible assumption) (by first | omega | (simp; done) | (simp; omega))))))
      clear hb1
      go_wp2
      go_ret
      exact ⟨rfl, by (repeat (first | with_reducible exact Below.refl _ _ | with_reducible assumption | (with_reducible refine below_drewN ?_ _) | (with_reducible refine Below.drew ?_) | (with_reducible refine Below.setCell ?_ (by first | omega | (simp; done) | (simp; omega)) _) | (with_reducible refine Below.alloc ?_ (by first | omega | (simp; done) | (simp; omega)) _) | refine Below.trans ?_ (Below.mono (by with_reducible assumption) (by first | omega | (simp; done) | (simp; omega)))))⟩
  · obtain ⟨rfl, rfl, rfl⟩ := HRB.out.2 ht0
    have ht1 : tx.isEmpty = false := by rw [List.isEmpty_eq_false_iff]; exact ht0
    go_wp2_with fail
    refine (termSame_self (d := max d 5) nm (HY4.out.here.le (by omega)) (hK5.later hb14)).mono ?_
    rintro e w5 ⟨rfl, hb1⟩
    have hz1 := hb1.size; (try simp at hz1); have hB1 : Below w.heap.size w w5 := (by refine Below.trans ?_ (Below.mono hb1 (by first | omega | (simp; done) | (simp; omega))); (repeat (first | with_reducible exact Below.refl _ _ | with_reducible assumption | (with_reducible refine below_drewN ?_ _) | (with_reducible refine Below.drew ?_) | (with_reducible refine Below.setCell ?_ (by first | omega | (simp; done) | (simp; omega)) _) | (with_reducible refine Below.alloc ?_ (by first | omega | (simp; done) | (simp; omega)) _) | refine Below.trans ?_ (Below.mono (by with_reducible assumption) (by first | omega | (simp; done) | (simp; omega))))))
    have hc5 := hc4.later hb1
    clear hb1
    go_wp2_with fail
    refine (DrawTermRead_any hc5 hl').mono ?_
    rintro e w6 ⟨u, rfl, hu, hb1⟩
    have hz1 := hb1.size; (try simp at hz1); have hB1 : Below w.heap.size w w6 := (by refine Below.trans ?_ (Below.mono hb1 (by first | omega | (simp; done) | (simp; omega))); (repeat (first | with_reducible exact Below.refl _ _ | with_reducible assumption | (with_reducible refine below_drewN ?_ _) | (with_reducible refine Below.drew ?_) | (with_reducible refine Below.setCell ?_ (by first | omega | (simp; done) | (simp; omega)) _) | (with_reducible refine Below.alloc ?_ (by first | omega | (simp; done) | (simp; omega)) _) | refine Below.trans ?_ (Below.mono (by with_reducible assumption) (by first | omega | (simp; done) | (simp; omega))))))
    clear hb1
    go_wp2_with fail
    refine (iTermRead_any u hu _).mono ?_
    rintro e w7 ⟨nm1, v1, k1, us1, zs1, B1, ok1, rfl, ⟨hG1, hBB1, hk1, hnm1⟩, HR1, hb1⟩
    obtain ⟨Y1, cy1, rfl⟩ := hG1.form
    have hz1 := hb1.size; (try simp at hz1); have hB1 : Below w.heap.size w w7 := (by refine Below.trans ?_ (Below.mono hb1 (by first | omega | (simp; done) | (simp; omega))); (repeat (first | with_reducible exact Below.refl _ _ | with_reducible assumption | (with_reducible refine below_drewN ?_ _) | (with_reducible refine Below.drew ?_) | (with_reducible refine Below.setCell ?_ (by first | omega | (simp; done) | (simp; omega)) _) | (with_reducible refine Below.alloc ?_ (by first | omega | (simp; done) | (simp; omega)) _) | refine Below.trans ?_ (Below.mono (by with_reducible assumption) (by first | omega | (simp; done) | (simp; omega))))))
    have HY1 := Lib.hid (hG1.kids (by omega))
    clear hb1 hG1
    go_wp2_with fail
    refine (sTermRead_any u hu _).mono ?_
    rintro e w8 ⟨nm2, v2, k2, us2, zs2, B2, ok2, rfl, ⟨hG2, hBB2, hk2, hnm2⟩, HR2, hb1⟩
    obtain ⟨Y2, cy2, rfl⟩ := hG2.form
    obtain ⟨rfl, rfl, rfl⟩ := ReadRes.one HR1.out HR2.out
    have hz1 := hb1.size; (try simp at hz1); have hB1 : Below w.heap.size w w8 := (by refine Below.trans ?_ (Below.mono hb1 (by first | omega | (simp; done) | (simp; omega))); (repeat (first | with_reducible exact Below.refl _ _ | with_reducible assumption | (with_reducible refine below_drewN ?_ _) | (with_reducible refine Below.drew ?_) | (with_reducible refine Below.setCell ?_ (by first | omega | (simp; done) | (simp; omega)) _) | (with_reducible refine Below.alloc ?_ (by first | omega | (simp; done) | (simp; omega)) _) | refine Below.trans ?_ (Below.mono (by with_reducible assumption) (by first | omega | (simp; done) | (simp; omega)))))); obtain ⟨kc_, fc_, lc_⟩ := keep_later (a := ⟨w7.heap.size, 0, none⟩) (v := .string nm2) hb1 (by go_simp) (by go_simp); obtain ⟨kc_, fc_, lc_⟩ := keep_later (a := ⟨w7.heap.size, 1, none⟩) (v := .slice Y1 k1 cy1) hb1 (by go_simp) (by go_simp)
    have HY2 := Lib.hid (hG2.kids (by omega))
    have HY3 := Lib.hid (HY1.out.step (Same.below (w' := w8) (Below.trans (by (repeat (first | with_reducible exact Below.refl _ _ | with_reducible assumption | (with_reducible refine below_drewN ?_ _) | (with_reducible refine Below.drew ?_) | (with_reducible refine Below.setCell ?_ (by first | omega | (simp; done) | (simp; omega)) _) | (with_reducible refine Below.alloc ?_ (by first | omega | (simp; done) | (simp; omega)) _) | refine Below.trans ?_ (Below.mono (by with_reducible assumption) (by first | omega | (simp; done) | (simp; omega)))))) (hb1.mono (by first | omega | (simp; done) | (simp; omega))))))
    clear hb1 hG2 HR2 HY1
    have hoo : (ok2 == ok2) = true := by simp
    go_wp2_with fail
    refine (termSame_self (d := 5) nm2 (Kids.later (by (repeat (first | with_reducible exact Below.refl _ _ | with_reducible assumption | (with_reducible refine below_drewN ?_ _) | (with_reducible refine Below.drew ?_) | (with_reducible refine Below.setCell ?_ (by first | omega | (simp; done) | (simp; omega)) _) | (with_reducible refine Below.alloc ?_ (by first | omega | (simp; done) | (simp; omega)) _) | refine Below.trans ?_ (Below.mono (by with_reducible assumption) (by first | omega | (simp; done) | (simp; omega)))))) HY3.out.here) (Kids.later (by (repeat (first | with_reducible exact Below.refl _ _ | with_reducible assumption | (with_reducible refine below_drewN ?_ _) | (with_reducible refine Below.drew ?_) | (with_reducible refine Below.setCell ?_ (by first | omega | (simp; done) | (simp; omega)) _) | (with_reducible refine Below.alloc ?_ (by first | omega | (simp; done) | (simp; omega)) _) | refine Below.trans ?_ (Below.mono (by with_reducible assumption) (by first | omega | (simp; done) | (simp; omega)))))) HY2.out.here)).mono ?_
    rintro e w9 ⟨rfl, hb1⟩
    have hz1 := hb1.size; (try simp at hz1); have hB1 : Below w.heap.size w w9 := (by refine Below.trans ?_ (Below.mono hb1 (by first | omega | (simp; done) | (simp; omega))); (repeat (first | with_reducible exact Below.refl _ _ | with_reducible assumption | (with_reducible refine below_drewN ?_ _) | (with_reducible refine Below.drew ?_) | (with_reducible refine Below.setCell ?_ (by first | omega | (simp; done) | (simp; omega)) _) | (with_reducible refine Below.alloc ?_ (by first | omega | (simp; done) | (simp; omega)) _) | refine Below.trans ?_ (Below.mono (by with_reducible assumption) (by first | omega | (simp; done) | (simp; omega)))))); obtain ⟨kc_, fc_, lc_⟩ := keep_later (a := ⟨w7.heap.size, 0, none⟩) (v := .string nm2) hb1 (by go_simp) (by go_simp); obtain ⟨kc_, fc_, lc_⟩ := keep_later (a := ⟨w7.heap.size, 1, none⟩) (v := .slice Y1 k1 cy1) hb1 (by go_simp) (by go_simp)
    have HY4 := Lib.hid (HY3.out.step (Same.below (w' := w9) (Below.trans (by (repeat (first | with_reducible exact Below.refl _ _ | with_reducible assumption | (with_reducible refine below_drewN ?_ _) | (with_reducible refine Below.drew ?_) | (with_reducible refine Below.setCell ?_ (by first | omega | (simp; done) | (simp; omega)) _) | (with_reducible refine Below.alloc ?_ (by first | omega | (simp; done) | (simp; omega)) _) | refine Below.trans ?_ (Below.mono (by with_reducible assumption) (by first | omega | (simp; done) | (simp; omega)))))) (hb1.mono (by first | omega | (simp; done) | (simp; omega))))))
    clear hb1 HY3 HY2
    cases ok2
    · go_wp2
      go_ret
      exact ⟨rfl, by (repeat (first | with_reducible exact Below.refl _ _ | with_reducible assumption | (with_reducible refine below_drewN ?_ _) | (with_reducible refine Below.drew ?_) | (with_reducible refine Below.setCell ?_ (by first | omega | (simp; done) | (simp; omega)) _) | (with_reducible refine Below.alloc ?_ (by first | omega | (simp; done) | (simp; omega)) _) | refine Below.trans ?_ (Below.mono (by with_reducible assumption) (by first | omega | (simp; done) | (simp; omega)))))⟩
    · have htx := ReadRes.text HR1.out
      obtain ⟨tu, htu⟩ : ∃ t, tText (.mk nm2 us2) = t := ⟨_, rfl⟩
      have hel := eq_list (htu.symm.trans htx)
      have HTU := Lib.hid htu
      clear htu htx
      go_wp2_with fail
      refine (iTermText_any nm2 HTU HY4.out.here (by omega)).mono ?_
      rintro e w10 ⟨rfl, hb1⟩
      have hz1 := hb1.size; (try simp at hz1); have hB1 : Below w.heap.size w w10 := (by refine Below.trans ?_ (Below.mono hb1 (by first | omega | (simp; done) | (simp; omega))); (repeat (first | with_reducible exact Below.refl _ _ | with_reducible assumption | (with_reducible refine below_drewN ?_ _) | (with_reducible refine Below.drew ?_) | (with_reducible refine Below.setCell ?_ (by first | omega | (simp; done) | (simp; omega)) _) | (with_reducible refine Below.alloc ?_ (by first | omega | (simp; done) | (simp; omega)) _) | refine Below.trans ?_ (Below.mono (by with_reducible assumption) (by first | omega | (simp; done) | (simp; omega))))))
      clear hb1
      go_wp2
      go_ret
      exact ⟨rfl, by (repeat (first | with_reducible exact Below.refl _ _ | with_reducible assumption | (with_reducible refine below_drewN ?_ _) | (with_reducible refine Below.drew ?_) | (with_reducible refine Below.setCell ?_ (by first | omega | (simp; done) | (simp; omega)) _) | (with_reducible refine Below.alloc ?_ (by first | omega | (simp; done) | (simp; omega)) _) | refine Below.trans ?_ (Below.mono (by with_reducible assumption) (by first | omega | (simp; done) | (simp; omega)))))⟩

theorem fnTermText_open {H : Type} {enc : TypeId × Value → H} {W : World} {base : Nat} {args : Array Value} {ds : List (DataW H)} {p : List MemPlace}
    (hval : ∀ (j : Nat) t v, #[33, 33][j]? = some t → args[j]? = some v → Value.okWide Try.prog W .any base t v)
    (hA : DataW.TrodAll enc Try.prog W 0 (fun _ => true) true #[33, 33].toList args.toList ds p) :
    Calls Try.prog 11 args W fun e w' => e = .returned (.bool true) ∧ Below W.heap.size W w' := by
  obtain ⟨v0, v1, d0, d1, p0, p1, rfl, rfl, rfl, h0, h1⟩ := trodAll_two hA
  obtain ⟨A, cap, bs, rfl, hc⟩ := open_bytes (hval 0 _ v0 rfl rfl) h0
  obtain ⟨A', cap', bs', rfl, hc'⟩ := open_bytes (hval 1 _ v1 rfl rfl) h1
  exact fnTermText_walk hc hc'
set_option maxRecDepth 100000 in
theorem fnTermText_lifted (os : Os) (started : os.Started) (H : Type) (enc : TypeId × Value → H) :
    ReturnsInHanded {} Try.checked os 11 .any (Rows.fnTermTextSpec.pre6 enc Try.prog Try.f11 Rows.fnTermTextRow.domain false) (Rows.fnTermTextSpec.post enc Try.prog Try.f11 false true false false) := by
  refine returnsInHanded_of_change (C := Try.checked) own started (by kernel_rfl) Try.func11
    (ChangeSpec.witness6 (enc := enc) (C := Try.checked) false ⟨#[], #[.slice none 0 0, .slice none 0 0], []⟩ 8 (by kernel_rfl) (by kernel_rfl) (by kernel_rfl) (by kernel_rfl)) ?_
  intro W base args ds gs before hval0 hW hcnd _
  have hval : ∀ (j : Nat) t v, Try.f11.params[j]? = some t → args[j]? = some v → Value.okWide Try.prog W .any base t v := hval0
  refine law_post hW rfl rfl ?_ ?_ ?_
  · have hr : (Try.f11.params.toList.all fun t => Try.prog.readableRec t && decide (t < Try.prog.types.size)) = true := by kernel_rfl
    intro t ht
    have := List.all_eq_true.1 hr t ht
    simpa using this
  · intro ds hl
    match ds, hl with
    | [d, e], _ => rfl
  · obtain ⟨p, q, hA0, _⟩ := hW
    have hA : DataW.TrodAll enc Try.prog W 0 (fun _ => true) true Try.f11.params.toList args.toList ds p := hA0
    clear hA0 hval0
    rw [Try.params11] at hA hval
    exact fnTermText_open hval hA

theorem fnTermText_facts : joinedFacts Try.prog 11 Try.f11 Rows.fnTermTextSpec Rows.fnTermTextRow = true :=
  joined_of _ _ _ _ _ (by kernel_rfl) laidOut mapsRowed_ok (by kernel_rfl) (by kernel_rfl) (by kernel_rfl) stops_eq (by kernel_rfl) stopKnobs_eq (by kernel_rfl) (by kernel_rfl) (by kernel_rfl) (by kernel_rfl) (by kernel_rfl) (by kernel_rfl) (by kernel_rfl) (by kernel_rfl) (by kernel_rfl) (by kernel_rfl) (by kernel_rfl) (by kernel_rfl) (by kernel_rfl) (plainKeys_eq _ rfl) (by kernel_rfl) heard_ok mayEnter_ok (lifted_eq _ rfl) (make_eq _ rfl) (by kernel_rfl) (by kernel_rfl) (by kernel_rfl) (by kernel_rfl)

theorem fnTermText_holds : Rows.FnTermTextSaid :=
  OpenClaim.holds_of_wide 11 Try.f11 rfl rfl rfl rfl rfl rfl rfl ⟨rfl, rfl, rfl, rfl, rfl⟩ rfl rfl rfl rfl rfl (by kernel_rfl) Try.func11 fnTermText_facts
    (of_decide_eq_true (by kernel_rfl)) (by unfold Func.isWrapper; first | (rw [if_pos (by decide +kernel)]; kernel_rfl) | (rw [if_neg (by decide +kernel)]; exact ⟨rfl, rfl⟩))
    (fun os started H enc _ => fnTermText_lifted os started H enc)
#print axioms fnTermText_holds
end Go.Proofs.Ytgmeoblapnmpiaa

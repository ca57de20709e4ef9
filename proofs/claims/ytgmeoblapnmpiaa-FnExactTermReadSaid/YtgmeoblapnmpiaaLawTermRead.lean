/- 'laws.FnExactTermRead': for every input the call returns true and leaves its arguments as they were. No condition. -/
import Derived.Test.YtgmeoblapnmpiaaTk
import Derived.Test.YtgmeoblapnmpiaaTq
import Derived.Test.YtgmeoblapnmpiaaL
import Derived.ChangeMaps5
namespace Go.Proofs.Ytgmeoblapnmpiaa
set_option maxRecDepth 100000
open Go.ChangeShapes Go.WideShapes Go.ChangeAt Go.RowKit
set_option linter.unusedSimpArgs false
set_option linter.unusedVariables false

theorem tmany_up : ∀ {f : Nat} {t : TermV}, tshape f t = true → tmany (f + 1) t = tmany f t
  | 0, _, h => by cases h
  | f + 1, t, h => by
    show 1 + psum (tmany (f + 1)) t.kids t.kids.length = 1 + psum (tmany f) t.kids t.kids.length
    rw [psum_congr (fun j hj => tmany_up ((tshape_iff.1 h).2.2 j hj))]
theorem lcnt_few {s : ByteArray} {ts : List TermV} (h : termOk (.mk s ts) = true) : 1 + lcnt 5 ts ≤ 12 := by
  have h1 := tshape_iff.1 (termOk_shape h)
  rw [termOk_both, Bool.and_eq_true, decide_eq_true_eq] at h
  have h2 := h.2
  rw [tmany_lcnt] at h2
  have h3 : lcnt 5 ts = lcnt 4 ts := psum_congr (fun j hj => tmany_up (h1.2.2 j hj))
  rw [h3]; exact h2
/-- what reading gives -/
def ReadRes (s nm : ByteArray) (ts : List TermV) (ok : Bool) : Prop := (ok = true → termOk (.mk nm ts) = true ∧ termL 4 (.mk nm ts) = s.data.toList) ∧ (ok = false → nm = ⟨#[]⟩ ∧ ts = [] ∧ ∀ t, termOk t = true → termL 4 t ≠ s.data.toList)
theorem ReadRes.one {s nm nm' : ByteArray} {ts ts' : List TermV} {ok ok' : Bool} (h : ReadRes s nm ts ok) (h' : ReadRes s nm' ts' ok') : nm' = nm ∧ ts' = ts ∧ ok' = ok := by
  cases ok <;> cases ok'
  · obtain ⟨a, b, _⟩ := h.2 rfl
    obtain ⟨a', b', _⟩ := h'.2 rfl
    exact ⟨by rw [a, a'], by rw [b, b'], rfl⟩
  · obtain ⟨a', b'⟩ := h'.1 rfl
    exact absurd b' ((h.2 rfl).2.2 _ a')
  · obtain ⟨a', b'⟩ := h.1 rfl
    exact absurd b' ((h'.2 rfl).2.2 _ a')
  · obtain ⟨a, b⟩ := h.1 rfl
    obtain ⟨a', b'⟩ := h'.1 rfl
    have h1 := (termL_inj (x := []) (y := []) (termOk_shape a') (termOk_shape a) stops_nil stops_nil (by rw [b, b'])).1
    injection h1 with h2 h3
    exact ⟨h2, h3, rfl⟩
theorem ReadRes.few {s nm : ByteArray} {ts : List TermV} {ok : Bool} (h : ReadRes s nm ts ok) : 1 + lcnt 5 ts ≤ 12 := by
  cases ok
  · rw [(h.2 rfl).2.1]; exact (by decide : 1 + 0 ≤ 12)
  · exact lcnt_few (h.1 rfl).1
set_option maxRecDepth 100000 in
set_option maxHeartbeats 8000000 in
theorem fnExactTermRead_walk (s : ByteArray) (w : World) :
    Calls Try.prog 10 #[.string s] w fun e w' => e = .returned (.bool true) ∧ Below w.heap.size w w' := by
  by_cases hl : ¬ s.size ≤ 1048576
  · go_enter Try.func10, Try.ntmps10
    go_wp2
    go_ret
    exact ⟨rfl, Below.refl _ _⟩
  have hl2 : s.size ≤ 1048576 := by omega
  clear hl
  go_enter Try.func10, Try.ntmps10
  go_wp2_with fail
  refine (sTermRead_any s hl2 _).mono ?_
  rintro e w1 ⟨nm, v0, m, ts, zs0, B0, ok, rfl, ⟨hG0, hB0, hm0, hn0⟩, HR0, hb1⟩
  obtain ⟨A0, c0, rfl⟩ := hG0.form
  have HX0 := Lib.hid (hG0.kids (by omega))
  have hzb := hb1.size
  have hB1 : Below w.heap.size w w1 := hb1
  clear hb1 hG0
  go_wp2_with fail
  refine (iTermReadS_any s hl2 _).mono ?_
  rintro e w2 ⟨nm1, v1, m1, ts1, zs1, B1, ok1, rfl, ⟨hG1, hBB, hm1, hn1⟩, HR1, hb1⟩
  obtain ⟨A1, c1, rfl⟩ := hG1.form
  obtain ⟨rfl, rfl, rfl⟩ := ReadRes.one HR0.out HR1.out
  obtain rfl : m = m1 := by have h1 := HX0.out.here.len; have h2 := hG1.len; omega
  have hfew : 1 + lcnt 5 ts1 ≤ 12 := ReadRes.few HR1.out
  have hT := hG1.tree (by omega)
  clear hG1 HR0
  have hz1 := hb1.size; (try simp at hz1); have hB1 : Below w.heap.size w w2 := (by refine Below.trans ?_ (Below.mono hb1 (by first | omega | (simp; done) | (simp; omega))); (repeat (first | with_reducible exact Below.refl _ _ | with_reducible assumption | (with_reducible refine below_drewN ?_ _) | (with_reducible refine Below.drew ?_) | (with_reducible refine Below.setCell ?_ (by first | omega | (simp; done) | (simp; omega)) _) | (with_reducible refine Below.alloc ?_ (by first | omega | (simp; done) | (simp; omega)) _) | refine Below.trans ?_ (Below.mono (by with_reducible assumption) (by first | omega | (simp; done) | (simp; omega)))))); obtain ⟨kc_, fc_, lc_⟩ := keep_later (a := ⟨w1.heap.size, 0, none⟩) (v := .string nm1) hb1 (by go_simp) (by go_simp); obtain ⟨kc_, fc_, lc_⟩ := keep_later (a := ⟨w1.heap.size, 1, none⟩) (v := .slice A0 m c0) hb1 (by go_simp) (by go_simp)
  have hb12 : Below w1.heap.size w1 w2 := Below.trans ((Below.refl _ _).alloc (Nat.le_refl _) _) (hb1.mono (by simp))
  have hs12 : Same B0 none w1 w2 := Same.below hb12
  have hBB1 : w1.heap.size + 1 ≤ B1 := by simpa using hBB
  clear hb1 hBB
  have HT := Lib.hid hT
  clear hT
  have hxx : (ok1 != ok1) = false := by simp
  go_wp2_with fail
  refine (eqTerm0 5 nm1 (HT.out.later (by (repeat (first | with_reducible exact Below.refl _ _ | with_reducible assumption | (with_reducible refine below_drewN ?_ _) | (with_reducible refine Below.drew ?_) | (with_reducible refine Below.setCell ?_ (by first | omega | (simp; done) | (simp; omega)) _) | (with_reducible refine Below.alloc ?_ (by first | omega | (simp; done) | (simp; omega)) _) | refine Below.trans ?_ (Below.mono (by with_reducible assumption) (by first | omega | (simp; done) | (simp; omega))))))).kids ((HX0.out.step hs12).step (Same.below (by (repeat (first | with_reducible exact Below.refl _ _ | with_reducible assumption | (with_reducible refine below_drewN ?_ _) | (with_reducible refine Below.drew ?_) | (with_reducible refine Below.setCell ?_ (by first | omega | (simp; done) | (simp; omega)) _) | (with_reducible refine Below.alloc ?_ (by first | omega | (simp; done) | (simp; omega)) _) | refine Below.trans ?_ (Below.mono (by with_reducible assumption) (by first | omega | (simp; done) | (simp; omega)))))))).here).mono ?_
  rintro e w3 ⟨rfl, hb1⟩
  have hz1 := hb1.size; (try simp at hz1); have hB1 : Below w.heap.size w w3 := (by refine Below.trans ?_ (Below.mono hb1 (by first | omega | (simp; done) | (simp; omega))); (repeat (first | with_reducible exact Below.refl _ _ | with_reducible assumption | (with_reducible refine below_drewN ?_ _) | (with_reducible refine Below.drew ?_) | (with_reducible refine Below.setCell ?_ (by first | omega | (simp; done) | (simp; omega)) _) | (with_reducible refine Below.alloc ?_ (by first | omega | (simp; done) | (simp; omega)) _) | refine Below.trans ?_ (Below.mono (by with_reducible assumption) (by first | omega | (simp; done) | (simp; omega)))))); obtain ⟨kc_, fc_, lc_⟩ := keep_later (a := ⟨w1.heap.size, 0, none⟩) (v := .string nm1) hb1 (by go_simp) (by go_simp); obtain ⟨kc_, fc_, lc_⟩ := keep_later (a := ⟨w1.heap.size, 1, none⟩) (v := .slice A0 m c0) hb1 (by go_simp) (by go_simp); obtain ⟨kc_, fc_, lc_⟩ := keep_later (a := ⟨w2.heap.size, 0, none⟩) (v := .string nm1) hb1 (by go_simp) (by go_simp); obtain ⟨kc_, fc_, lc_⟩ := keep_later (a := ⟨w2.heap.size, 1, none⟩) (v := .slice A1 m c1) hb1 (by go_simp) (by go_simp)
  have hb23 : Below w2.heap.size w2 w3 := Below.trans ((Below.refl _ _).alloc (Nat.le_refl _) _) (hb1.mono (by simp))
  have HT3 := Lib.hid (HT.out.later hb23)
  have HX2 := HX0
  have hb13 : Below w1.heap.size w1 w3 := (Below.trans hb12 (hb23.mono (by omega)))
  clear hb1 hs12 HT HX0
  obtain ⟨r, hr⟩ : ∃ r, 1 + lcnt 5 ts1 = r := ⟨_, rfl⟩
  have HRR := Lib.hid hr
  have hr12 : r ≤ 12 := by omega
  have hr1 : 1 ≤ r := by omega
  clear hr hfew
  go_wp2_with fail
  refine (markTerm_any nm1 1 HT3.out (Nat.le_refl 1) (by rw [HRR.out]; omega) (fun x hx => by omega)).mono ?_
  rw [HRR.out]
  rintro e w4 ⟨rfl, hH, hTu⟩
  have hb1 : Below (w1.heap.size + 1) w3 w4 := hTu.below (by omega) (fun x hx => by omega)
  have hb4 : Below w1.heap.size w3 w4 := hb1.mono (by omega)
  have hz4 := hTu.size
  have hB4 : Below w.heap.size w w4 := hB1.trans (hb4.mono hzb)
  obtain ⟨x0, x1, x2, x3⟩ : T2c w4 w1.heap.size nm1 (.slice A0 m c0) := (⟨by go_simp, by go_simp, by go_simp, by go_simp⟩ : T2c w3 w1.heap.size nm1 (.slice A0 m c0)).of_block (hb1.block _ (by omega))
  obtain ⟨y0, y1, y2, y3⟩ : T2c w4 w2.heap.size nm1 (.slice A1 m c1) := (⟨by go_simp, by go_simp, by go_simp, by go_simp⟩ : T2c w3 w2.heap.size nm1 (.slice A1 m c1)).of_block (hTu.block _ (by omega) (fun e => by omega))
  have HX4 : Hid (Kids w4 0 5 A0 m ts1) := Lib.hid (HX2.out w4 ⟨by omega, fun i h0 h1 _ => (hb4.block i h1).trans (hb13.block i h1)⟩)
  have HX5 : Hid (∀ W : World, Below w1.heap.size w4 W → Kids W 0 5 A0 m ts1) := Lib.hid (fun W hW => HX2.out W ⟨by have := hW.size; omega, fun i h0 h1 _ => (hW.block i h1).trans ((hb4.block i h1).trans (hb13.block i h1))⟩)
  have HH := Lib.hid hH
  have hz14 : w1.heap.size < w4.heap.size := by omega
  have hz24 : w2.heap.size < w4.heap.size := by omega
  clear hb1 hTu hH HT3
  have hr0 : ¬ ((r : Int) < 0) := by omega
  have hrr : ((r : Int) != (r : Int)) = false := by simp
  go_wp2_with fail
  refine (heldTerm_any nm1 1 r HH.out (Nat.le_refl 1) (by omega)).mono ?_
  rintro e w5 ⟨rfl, hb1⟩
  have hz1 := hb1.size; (try simp at hz1); have hB1 : Below w.heap.size w w5 := (by refine Below.trans ?_ (Below.mono hb1 (by first | omega | (simp; done) | (simp; omega))); (repeat (first | with_reducible exact Below.refl _ _ | with_reducible assumption | (with_reducible refine below_drewN ?_ _) | (with_reducible refine Below.drew ?_) | (with_reducible refine Below.setCell ?_ (by first | omega | (simp; done) | (simp; omega)) _) | (with_reducible refine Below.alloc ?_ (by first | omega | (simp; done) | (simp; omega)) _) | refine Below.trans ?_ (Below.mono (by with_reducible assumption) (by first | omega | (simp; done) | (simp; omega)))))); obtain ⟨kc_, fc_, lc_⟩ := keep_later (a := ⟨w1.heap.size, 0, none⟩) (v := .string nm1) hb1 (by go_simp) (by go_simp); obtain ⟨kc_, fc_, lc_⟩ := keep_later (a := ⟨w1.heap.size, 1, none⟩) (v := .slice A0 m c0) hb1 (by go_simp) (by go_simp); obtain ⟨kc_, fc_, lc_⟩ := keep_later (a := ⟨w2.heap.size, 0, none⟩) (v := .string nm1) hb1 (by go_simp) (by go_simp); obtain ⟨kc_, fc_, lc_⟩ := keep_later (a := ⟨w2.heap.size, 1, none⟩) (v := .slice A1 m c1) hb1 (by go_simp) (by go_simp)
  have HH5 := Lib.hid (HH.out.later hb1)
  have hb45 : Below w4.heap.size w4 w5 := hb1
  clear hb1 HH
  go_wp2_with fail
  refine (iTermRead_any s hl2 _).mono ?_
  rintro e w6 ⟨nm2, v2, m2, ts2, zs2, B2, ok2, rfl, ⟨hG2, hBB2, hm2, hn2⟩, HR2, hb1⟩
  obtain ⟨A2, c2, rfl⟩ := hG2.form
  obtain ⟨rfl, rfl, rfl⟩ := ReadRes.one HR1.out HR2.out
  obtain rfl : m = m2 := by have h1 := HX4.out.len; have h2 := hG2.len; omega
  have hz1 := hb1.size; (try simp at hz1); have hB1 : Below w.heap.size w w6 := (by refine Below.trans ?_ (Below.mono hb1 (by first | omega | (simp; done) | (simp; omega))); (repeat (first | with_reducible exact Below.refl _ _ | with_reducible assumption | (with_reducible refine below_drewN ?_ _) | (with_reducible refine Below.drew ?_) | (with_reducible refine Below.setCell ?_ (by first | omega | (simp; done) | (simp; omega)) _) | (with_reducible refine Below.alloc ?_ (by first | omega | (simp; done) | (simp; omega)) _) | refine Below.trans ?_ (Below.mono (by with_reducible assumption) (by first | omega | (simp; done) | (simp; omega)))))); obtain ⟨kc_, fc_, lc_⟩ := keep_later (a := ⟨w1.heap.size, 0, none⟩) (v := .string nm2) hb1 (by go_simp) (by go_simp); obtain ⟨kc_, fc_, lc_⟩ := keep_later (a := ⟨w1.heap.size, 1, none⟩) (v := .slice A0 m c0) hb1 (by go_simp) (by go_simp); obtain ⟨kc_, fc_, lc_⟩ := keep_later (a := ⟨w2.heap.size, 0, none⟩) (v := .string nm2) hb1 (by go_simp) (by go_simp); obtain ⟨kc_, fc_, lc_⟩ := keep_later (a := ⟨w2.heap.size, 1, none⟩) (v := .slice A1 m c1) hb1 (by go_simp) (by go_simp)
  have HH6 := Lib.hid (HH5.out.later hb1)
  have HG2 := Lib.hid (hG2.kids (by omega))
  have hb46 : Below w4.heap.size w4 w6 := hb45.trans (hb1.mono hb45.size)
  clear hb1 HH5 hG2 HR2
  have hxx2 : (ok2 != ok2) = false := by simp
  go_wp2_with fail
  refine (eqTerm0 5 nm2 (HG2.out.step (Same.below (by (repeat (first | with_reducible exact Below.refl _ _ | with_reducible assumption | (with_reducible refine below_drewN ?_ _) | (with_reducible refine Below.drew ?_) | (with_reducible refine Below.setCell ?_ (by first | omega | (simp; done) | (simp; omega)) _) | (with_reducible refine Below.alloc ?_ (by first | omega | (simp; done) | (simp; omega)) _) | refine Below.trans ?_ (Below.mono (by with_reducible assumption) (by first | omega | (simp; done) | (simp; omega)))))))).here (HX5.out _ (Below.trans (hb46.mono (by omega)) (by (repeat (first | with_reducible exact Below.refl _ _ | with_reducible assumption | (with_reducible refine below_drewN ?_ _) | (with_reducible refine Below.drew ?_) | (with_reducible refine Below.setCell ?_ (by first | omega | (simp; done) | (simp; omega)) _) | (with_reducible refine Below.alloc ?_ (by first | omega | (simp; done) | (simp; omega)) _) | refine Below.trans ?_ (Below.mono (by with_reducible assumption) (by first | omega | (simp; done) | (simp; omega))))))))).mono ?_
  rintro e w7 ⟨rfl, hb1⟩
  have hz1 := hb1.size; (try simp at hz1); have hB1 : Below w.heap.size w w7 := (by refine Below.trans ?_ (Below.mono hb1 (by first | omega | (simp; done) | (simp; omega))); (repeat (first | with_reducible exact Below.refl _ _ | with_reducible assumption | (with_reducible refine below_drewN ?_ _) | (with_reducible refine Below.drew ?_) | (with_reducible refine Below.setCell ?_ (by first | omega | (simp; done) | (simp; omega)) _) | (with_reducible refine Below.alloc ?_ (by first | omega | (simp; done) | (simp; omega)) _) | refine Below.trans ?_ (Below.mono (by with_reducible assumption) (by first | omega | (simp; done) | (simp; omega)))))); obtain ⟨kc_, fc_, lc_⟩ := keep_later (a := ⟨w2.heap.size, 0, none⟩) (v := .string nm2) hb1 (by go_simp) (by go_simp); obtain ⟨kc_, fc_, lc_⟩ := keep_later (a := ⟨w2.heap.size, 1, none⟩) (v := .slice A1 m c1) hb1 (by go_simp) (by go_simp)
  have HH7 := Lib.hid (HH6.out.later (Below.trans ((Below.refl _ _).alloc (Nat.le_refl _) _) (hb1.mono (by simp))))
  clear hb1 HH6
  go_wp2_with fail
  refine (heldTerm_any nm2 1 r HH7.out (Nat.le_refl 1) (by omega)).mono ?_
  rintro e w8 ⟨rfl, hb1⟩
  have hz1 := hb1.size; (try simp at hz1); have hB1 : Below w.heap.size w w8 := (by refine Below.trans ?_ (Below.mono hb1 (by first | omega | (simp; done) | (simp; omega))); (repeat (first | with_reducible exact Below.refl _ _ | with_reducible assumption | (with_reducible refine below_drewN ?_ _) | (with_reducible refine Below.drew ?_) | (with_reducible refine Below.setCell ?_ (by first | omega | (simp; done) | (simp; omega)) _) | (with_reducible refine Below.alloc ?_ (by first | omega | (simp; done) | (simp; omega)) _) | refine Below.trans ?_ (Below.mono (by with_reducible assumption) (by first | omega | (simp; done) | (simp; omega))))))
  clear hb1
  go_wp2
  go_ret
  exact ⟨rfl, by (repeat (first | with_reducible exact Below.refl _ _ | with_reducible assumption | (with_reducible refine below_drewN ?_ _) | (with_reducible refine Below.drew ?_) | (with_reducible refine Below.setCell ?_ (by first | omega | (simp; done) | (simp; omega)) _) | (with_reducible refine Below.alloc ?_ (by first | omega | (simp; done) | (simp; omega)) _) | refine Below.trans ?_ (Below.mono (by with_reducible assumption) (by first | omega | (simp; done) | (simp; omega)))))⟩

theorem fnExactTermRead_open {H : Type} {enc : TypeId × Value → H} {W : World} {base : Nat} {args : Array Value} {ds : List (DataW H)} {p : List MemPlace}
    (hval : ∀ (j : Nat) t v, #[9][j]? = some t → args[j]? = some v → Value.okWide Try.prog W .any base t v)
    (hA : DataW.TrodAll enc Try.prog W 0 (fun _ => true) true #[9].toList args.toList ds p) :
    Calls Try.prog 10 args W fun e w' => e = .returned (.bool true) ∧ Below W.heap.size W w' := by
  obtain ⟨v0, d0, rfl, rfl, h0⟩ := trodAll_one hA
  obtain ⟨s, rfl, _, _, hs⟩ := Go.ChangeMaps.open_string Try.underlying9 (hval 0 _ v0 rfl rfl) h0
  exact fnExactTermRead_walk s W
set_option maxRecDepth 100000 in
theorem fnExactTermRead_lifted (os : Os) (started : os.Started) (H : Type) (enc : TypeId × Value → H) :
    ReturnsInHanded {} Try.checked os 10 .any (Rows.fnExactTermReadSpec.pre6 enc Try.prog Try.f10 Rows.fnExactTermReadRow.domain false) (Rows.fnExactTermReadSpec.post enc Try.prog Try.f10 false true false false) := by
  refine returnsInHanded_of_change (C := Try.checked) own started (by kernel_rfl) Try.func10
    (ChangeSpec.witness6 (enc := enc) (C := Try.checked) false ⟨#[], #[.string ⟨#[]⟩], []⟩ 8 (by kernel_rfl) (by kernel_rfl) (by kernel_rfl) (by kernel_rfl)) ?_
  intro W base args ds gs before hval0 hW hcnd _
  have hval : ∀ (j : Nat) t v, Try.f10.params[j]? = some t → args[j]? = some v → Value.okWide Try.prog W .any base t v := hval0
  refine law_post hW rfl rfl ?_ ?_ ?_
  · have hr : (Try.f10.params.toList.all fun t => Try.prog.readableRec t && decide (t < Try.prog.types.size)) = true := by kernel_rfl
    intro t ht
    have := List.all_eq_true.1 hr t ht
    simpa using this
  · intro ds hl
    match ds, hl with
    | [d], _ => rfl
  · obtain ⟨p, q, hA0, _⟩ := hW
    have hA : DataW.TrodAll enc Try.prog W 0 (fun _ => true) true Try.f10.params.toList args.toList ds p := hA0
    clear hA0 hval0
    rw [Try.params10] at hA hval
    exact fnExactTermRead_open hval hA

theorem fnExactTermRead_facts : joinedFacts Try.prog 10 Try.f10 Rows.fnExactTermReadSpec Rows.fnExactTermReadRow = true :=
  joined_of _ _ _ _ _ (by kernel_rfl) laidOut mapsRowed_ok (by kernel_rfl) (by kernel_rfl) (by kernel_rfl) stops_eq (by kernel_rfl) stopKnobs_eq (by kernel_rfl) (by kernel_rfl) (by kernel_rfl) (by kernel_rfl) (by kernel_rfl) (by kernel_rfl) (by kernel_rfl) (by kernel_rfl) (by kernel_rfl) (by kernel_rfl) (by kernel_rfl) (by kernel_rfl) (by kernel_rfl) (plainKeys_eq _ rfl) (by kernel_rfl) heard_ok mayEnter_ok (lifted_eq _ rfl) (make_eq _ rfl) (by kernel_rfl) (by kernel_rfl) (by kernel_rfl) (by kernel_rfl)

theorem fnExactTermRead_holds : Rows.FnExactTermReadSaid :=
  OpenClaim.holds_of_wide 10 Try.f10 rfl rfl rfl rfl rfl rfl rfl ⟨rfl, rfl, rfl, rfl, rfl⟩ rfl rfl rfl rfl rfl (by kernel_rfl) Try.func10 fnExactTermRead_facts
    (of_decide_eq_true (by kernel_rfl)) (by unfold Func.isWrapper; first | (rw [if_pos (by decide +kernel)]; kernel_rfl) | (rw [if_neg (by decide +kernel)]; exact ⟨rfl, rfl⟩))
    (fun os started H enc _ => fnExactTermRead_lifted os started H enc)
#print axioms fnExactTermRead_holds
end Go.Proofs.Ytgmeoblapnmpiaa

/- 'laws.FnExactRatMid': for every input the call returns true and leaves its arguments as they were. No condition. -/
import Derived.Test.YtpefkhcmfapmnaaB
import Derived.Test.YtpefkhcmfapmnaaL
namespace Go.Proofs.Ytpefkhcmfapmnaa
open Go.ChangeShapes Go.WideShapes Go.ChangeAt Go.RowKit
set_option linter.unusedSimpArgs false
set_option linter.unusedVariables false

theorem fnExactRatMid_walk (a b c d : Int) (w : World) :
    Calls Try.prog 10 #[.agg #[.int .i64 a, .int .i64 b], .agg #[.int .i64 c, .int .i64 d]] w fun e w' => e = .returned (.bool true) ∧ Below w.heap.size w w' := by
  obtain ⟨x, y, t, h⟩ : ∃ x y t, midR a b c d = (x, y, t) := ⟨_, _, _, rfl⟩
  have H := Lib.hid h
  clear h
  obtain ⟨w1, hw1⟩ : ∃ x : World, x = w := ⟨w, rfl⟩
  clear hw1
  go_enter Try.func10, Try.ntmps10
  go_upto_region 1 with fail
  go_cut [5, 6] (fun s5 s6 wx => ∃ g : Nat, s5 = .pointer (some ⟨g, 0, none⟩) ∧ s6 = .bool t ∧ Lv wx g x y ∧ Lv wx w.heap.size a b ∧ Lv wx (w.heap.size + 1) c d ∧ Below w.heap.size w wx)
  case first =>
    go_region_held3 (fun w' => w'.cell? ⟨w.heap.size, 0, none⟩ = some (.int .i64 a) ∧ w'.cell? ⟨w.heap.size, 1, none⟩ = some (.int .i64 b) ∧ w'.cell? ⟨w.heap.size + 1, 0, none⟩ = some (.int .i64 c) ∧ w'.cell? ⟨w.heap.size + 1, 1, none⟩ = some (.int .i64 d)) (simp [go_sem, World.cell?_alloc_past, *])
      (first
        | (go_at_call 16; rename World => wp; refine (toRat_any _ _ _).mono ?_; rintro e w1 ⟨rfl, hb1⟩; have hz1 := hb1.size; (try simp at hz1); have hB1 : Below w.heap.size w w1 := (by refine Below.trans ?_ (Below.mono hb1 (by first | omega | (simp; done) | (simp; omega))); (repeat (first | exact Below.refl _ _ | assumption | refine below_drewN ?_ _ | refine Below.drew ?_ | refine Below.setCell ?_ (by first | omega | (simp; done) | (simp; omega)) _ | refine Below.alloc ?_ (by first | omega | (simp; done) | (simp; omega)) _ | refine Below.trans ?_ (Below.mono (by assumption) (by first | omega | (simp; done) | (simp; omega)))))); obtain ⟨k, f, l⟩ := keep_later (a := ⟨w.heap.size, 0, none⟩) (v := .int .i64 a) hb1 (by go_simp) (by go_simp); obtain ⟨k, f, l⟩ := keep_later (a := ⟨w.heap.size, 1, none⟩) (v := .int .i64 b) hb1 (by go_simp) (by go_simp); obtain ⟨k, f, l⟩ := keep_later (a := ⟨w.heap.size+1, 0, none⟩) (v := .int .i64 c) hb1 (by go_simp) (by go_simp); obtain ⟨k, f, l⟩ := keep_later (a := ⟨w.heap.size+1, 1, none⟩) (v := .int .i64 d) hb1 (by go_simp) (by go_simp); (first | (refine with_keep hb1 kn0 fn0 ?_; refine with_keep hb1 kn1 fn1 ?_; clear kn0 fn0 kn1 fn1; intro kn1 fn1 ln1 kn0 fn0 ln0) | (refine with_new (wp := wp) (v0 := .int .i64 0) (v1 := .int .i64 0) (t := 26) hb1 ?_; intro kn0 fn0 kn1 fn1 ln0) | (refine with_newd (wp := (w.alloc (.cells #[.int .i64 a, .int .i64 b] 24)).alloc (.cells #[.int .i64 c, .int .i64 d] 24)) (v0 := .int .i64 0) (v1 := .int .i64 0) (t := 26) hb1 ?_; intro kn0 fn0 kn1 fn1 ln0; (try simp only [World.size_alloc] at kn0 fn0 kn1 fn1 ln0)) | skip); clear hb1)
        | (go_at_call 28; rename World => wp; refine (sRatMid_any a b c d x y t H _).mono ?_; rintro e w1 ⟨rfl, hb1⟩; have hz1 := hb1.size; (try simp at hz1); have hB1 : Below w.heap.size w w1 := (by refine Below.trans ?_ (Below.mono hb1 (by first | omega | (simp; done) | (simp; omega))); (repeat (first | exact Below.refl _ _ | assumption | refine below_drewN ?_ _ | refine Below.drew ?_ | refine Below.setCell ?_ (by first | omega | (simp; done) | (simp; omega)) _ | refine Below.alloc ?_ (by first | omega | (simp; done) | (simp; omega)) _ | refine Below.trans ?_ (Below.mono (by assumption) (by first | omega | (simp; done) | (simp; omega)))))); obtain ⟨k, f, l⟩ := keep_later (a := ⟨w.heap.size, 0, none⟩) (v := .int .i64 a) hb1 (by go_simp) (by go_simp); obtain ⟨k, f, l⟩ := keep_later (a := ⟨w.heap.size, 1, none⟩) (v := .int .i64 b) hb1 (by go_simp) (by go_simp); obtain ⟨k, f, l⟩ := keep_later (a := ⟨w.heap.size+1, 0, none⟩) (v := .int .i64 c) hb1 (by go_simp) (by go_simp); obtain ⟨k, f, l⟩ := keep_later (a := ⟨w.heap.size+1, 1, none⟩) (v := .int .i64 d) hb1 (by go_simp) (by go_simp); (first | (refine with_keep hb1 kn0 fn0 ?_; refine with_keep hb1 kn1 fn1 ?_; clear kn0 fn0 kn1 fn1; intro kn1 fn1 ln1 kn0 fn0 ln0) | (refine with_new (wp := wp) (v0 := .int .i64 0) (v1 := .int .i64 0) (t := 26) hb1 ?_; intro kn0 fn0 kn1 fn1 ln0) | (refine with_newd (wp := (w.alloc (.cells #[.int .i64 a, .int .i64 b] 24)).alloc (.cells #[.int .i64 c, .int .i64 d] 24)) (v0 := .int .i64 0) (v1 := .int .i64 0) (t := 26) hb1 ?_; intro kn0 fn0 kn1 fn1 ln0; (try simp only [World.size_alloc] at kn0 fn0 kn1 fn1 ln0)) | skip); clear hb1))
    all_goals (go_wp2_with fail; go_meet; exact ⟨_, rfl, rfl, ⟨by go_simp, by go_simp, by go_simp, by go_simp, (by first | omega | (simp; done) | (simp; omega))⟩, ⟨by go_simp, by go_simp, by go_simp, by go_simp, (by first | omega | (simp; done) | (simp; omega))⟩, ⟨by go_simp, by go_simp, by go_simp, by go_simp, (by first | omega | (simp; done) | (simp; omega))⟩, by (repeat (first | exact Below.refl _ _ | assumption | refine below_drewN ?_ _ | refine Below.drew ?_ | refine Below.setCell ?_ (by first | omega | (simp; done) | (simp; omega)) _ | refine Below.alloc ?_ (by first | omega | (simp; done) | (simp; omega)) _ | refine Below.trans ?_ (Below.mono (by assumption) (by first | omega | (simp; done) | (simp; omega)))))⟩)
  case rest =>
    obtain ⟨g, rfl, rfl, ⟨k1, k2, k3, k4, k5⟩, ⟨k6, k7, k8, k9, k10⟩, ⟨k11, k12, k13, k14, k15⟩, hBc⟩ := hcut
    have hzc := hBc.size
    go_upto_region 2 with fail
    obtain ⟨w1, hw1⟩ : ∃ x : World, x = w := ⟨w, rfl⟩
    clear hw1
    go_cut [7, 8] (fun s7 s8 wx => ∃ g' : Nat, s7 = .pointer (some ⟨g', 0, none⟩) ∧ s8 = .bool t ∧ Lv wx g' x y ∧ Lv wx g x y ∧ Below w.heap.size w wx)
    case first =>
      go_region_held3 (fun w' => w'.cell? ⟨w.heap.size, 0, none⟩ = some (.int .i64 a) ∧ w'.cell? ⟨w.heap.size, 1, none⟩ = some (.int .i64 b) ∧ w'.cell? ⟨w.heap.size + 1, 0, none⟩ = some (.int .i64 c) ∧ w'.cell? ⟨w.heap.size + 1, 1, none⟩ = some (.int .i64 d)) (simp [go_sem, World.cell?_alloc_past, *])
        (first
          | (go_at_call 16; rename World => wp; refine (toRat_any _ _ _).mono ?_; rintro e w1 ⟨rfl, hb1⟩; have hz1 := hb1.size; (try simp at hz1); have hB1 : Below w.heap.size w w1 := (by refine Below.trans ?_ (Below.mono hb1 (by first | omega | (simp; done) | (simp; omega))); (repeat (first | exact Below.refl _ _ | assumption | refine below_drewN ?_ _ | refine Below.drew ?_ | refine Below.setCell ?_ (by first | omega | (simp; done) | (simp; omega)) _ | refine Below.alloc ?_ (by first | omega | (simp; done) | (simp; omega)) _ | refine Below.trans ?_ (Below.mono (by assumption) (by first | omega | (simp; done) | (simp; omega)))))); obtain ⟨k, f, l⟩ := keep_later (a := ⟨w.heap.size, 0, none⟩) (v := .int .i64 a) hb1 (by go_simp) (by go_simp); obtain ⟨k, f, l⟩ := keep_later (a := ⟨w.heap.size, 1, none⟩) (v := .int .i64 b) hb1 (by go_simp) (by go_simp); obtain ⟨k, f, l⟩ := keep_later (a := ⟨w.heap.size+1, 0, none⟩) (v := .int .i64 c) hb1 (by go_simp) (by go_simp); obtain ⟨k, f, l⟩ := keep_later (a := ⟨w.heap.size+1, 1, none⟩) (v := .int .i64 d) hb1 (by go_simp) (by go_simp); obtain ⟨k, f, l⟩ := keep_later (a := ⟨g, 0, none⟩) (v := .int .i64 x) hb1 (by go_simp) (by go_simp); obtain ⟨k, f, l⟩ := keep_later (a := ⟨g, 1, none⟩) (v := .int .i64 y) hb1 (by go_simp) (by go_simp); (first | (refine with_keep hb1 kn0 fn0 ?_; refine with_keep hb1 kn1 fn1 ?_; clear kn0 fn0 kn1 fn1; intro kn1 fn1 ln1 kn0 fn0 ln0) | (refine with_new (wp := wp) (v0 := .int .i64 0) (v1 := .int .i64 0) (t := 26) hb1 ?_; intro kn0 fn0 kn1 fn1 ln0) | (refine with_newd (wp := wc) (v0 := .int .i64 0) (v1 := .int .i64 0) (t := 26) hb1 ?_; intro kn0 fn0 kn1 fn1 ln0; (try simp only [World.size_alloc] at kn0 fn0 kn1 fn1 ln0)) | skip); clear hb1)
          | (go_at_call 29; rename World => wp; refine (iRatMid_any a b c d x y t H _).mono ?_; rintro e w1 ⟨rfl, hb1⟩; have hz1 := hb1.size; (try simp at hz1); have hB1 : Below w.heap.size w w1 := (by refine Below.trans ?_ (Below.mono hb1 (by first | omega | (simp; done) | (simp; omega))); (repeat (first | exact Below.refl _ _ | assumption | refine below_drewN ?_ _ | refine Below.drew ?_ | refine Below.setCell ?_ (by first | omega | (simp; done) | (simp; omega)) _ | refine Below.alloc ?_ (by first | omega | (simp; done) | (simp; omega)) _ | refine Below.trans ?_ (Below.mono (by assumption) (by first | omega | (simp; done) | (simp; omega)))))); obtain ⟨k, f, l⟩ := keep_later (a := ⟨w.heap.size, 0, none⟩) (v := .int .i64 a) hb1 (by go_simp) (by go_simp); obtain ⟨k, f, l⟩ := keep_later (a := ⟨w.heap.size, 1, none⟩) (v := .int .i64 b) hb1 (by go_simp) (by go_simp); obtain ⟨k, f, l⟩ := keep_later (a := ⟨w.heap.size+1, 0, none⟩) (v := .int .i64 c) hb1 (by go_simp) (by go_simp); obtain ⟨k, f, l⟩ := keep_later (a := ⟨w.heap.size+1, 1, none⟩) (v := .int .i64 d) hb1 (by go_simp) (by go_simp); obtain ⟨k, f, l⟩ := keep_later (a := ⟨g, 0, none⟩) (v := .int .i64 x) hb1 (by go_simp) (by go_simp); obtain ⟨k, f, l⟩ := keep_later (a := ⟨g, 1, none⟩) (v := .int .i64 y) hb1 (by go_simp) (by go_simp); (first | (refine with_keep hb1 kn0 fn0 ?_; refine with_keep hb1 kn1 fn1 ?_; clear kn0 fn0 kn1 fn1; intro kn1 fn1 ln1 kn0 fn0 ln0) | (refine with_new (wp := wp) (v0 := .int .i64 0) (v1 := .int .i64 0) (t := 26) hb1 ?_; intro kn0 fn0 kn1 fn1 ln0) | (refine with_newd (wp := wc) (v0 := .int .i64 0) (v1 := .int .i64 0) (t := 26) hb1 ?_; intro kn0 fn0 kn1 fn1 ln0; (try simp only [World.size_alloc] at kn0 fn0 kn1 fn1 ln0)) | skip); clear hb1))
      all_goals (go_wp2_with fail; go_meet; exact ⟨_, rfl, rfl, ⟨by go_simp, by go_simp, by go_simp, by go_simp, (by first | omega | (simp; done) | (simp; omega))⟩, ⟨by go_simp, by go_simp, by go_simp, by go_simp, (by first | omega | (simp; done) | (simp; omega))⟩, by (repeat (first | exact Below.refl _ _ | assumption | refine below_drewN ?_ _ | refine Below.drew ?_ | refine Below.setCell ?_ (by first | omega | (simp; done) | (simp; omega)) _ | refine Below.alloc ?_ (by first | omega | (simp; done) | (simp; omega)) _ | refine Below.trans ?_ (Below.mono (by assumption) (by first | omega | (simp; done) | (simp; omega)))))⟩)
    case rest =>
      clear k1 k2 k3 k4 k5 k6 k7 k8 k9 k10 k11 k12 k13 k14 k15
      obtain ⟨g', rfl, rfl, ⟨k1, k2, k3, k4, k5⟩, ⟨k6, k7, k8, k9, k10⟩, hBd⟩ := hcut
      have hzd := hBd.size
      go_wp2_with fail
      refine (eqRat_any _ _ _ _ _).mono ?_
      rintro e w3 ⟨rfl, hb1⟩
      have hz1 := hb1.size; (try simp at hz1); have hB1 : Below w.heap.size w w3 := (by refine Below.trans ?_ (Below.mono hb1 (by first | omega | (simp; done) | (simp; omega))); (repeat (first | exact Below.refl _ _ | assumption | refine below_drewN ?_ _ | refine Below.drew ?_ | refine Below.setCell ?_ (by first | omega | (simp; done) | (simp; omega)) _ | refine Below.alloc ?_ (by first | omega | (simp; done) | (simp; omega)) _ | refine Below.trans ?_ (Below.mono (by assumption) (by first | omega | (simp; done) | (simp; omega)))))); skip; clear hb1
      go_wp2
      go_ret
      exact ⟨rfl, by (repeat (first | exact Below.refl _ _ | assumption | refine below_drewN ?_ _ | refine Below.drew ?_ | refine Below.setCell ?_ (by first | omega | (simp; done) | (simp; omega)) _ | refine Below.alloc ?_ (by first | omega | (simp; done) | (simp; omega)) _ | refine Below.trans ?_ (Below.mono (by assumption) (by first | omega | (simp; done) | (simp; omega)))))⟩

theorem fnExactRatMid_open {H : Type} {enc : TypeId × Value → H} {W : World} {base : Nat} {args : Array Value} {ds : List (DataW H)} {p : List MemPlace}
    (hval : ∀ (j : Nat) t v, #[24, 24][j]? = some t → args[j]? = some v → Value.okWide Try.prog W .any base t v)
    (hA : DataW.TrodAll enc Try.prog W 0 (fun _ => true) true #[24, 24].toList args.toList ds p) :
    Calls Try.prog 10 args W fun e w' => e = .returned (.bool true) ∧ Below W.heap.size W w' := by
  obtain ⟨v0, v1, d0, d1, p0, p1, rfl, rfl, rfl, h0, h1⟩ := trodAll_two hA
  obtain ⟨a, b, rfl, _, _⟩ := open_rat24 (hval 0 _ v0 rfl rfl) h0
  obtain ⟨c, d, rfl, _, _⟩ := open_rat24 (hval 1 _ v1 rfl rfl) h1
  exact fnExactRatMid_walk a b c d W
set_option maxRecDepth 100000 in
theorem fnExactRatMid_lifted (os : Os) (started : os.Started) (H : Type) (enc : TypeId × Value → H) :
    ReturnsInHanded {} Try.checked os 10 .any (Rows.fnExactRatMidSpec.pre6 enc Try.prog Try.f10 Rows.fnExactRatMidRow.domain false) (Rows.fnExactRatMidSpec.post enc Try.prog Try.f10 false true false false) := by
  refine returnsInHanded_of_change (C := Try.checked) own started (by kernel_rfl) Try.func10
    (ChangeSpec.witness6 (enc := enc) (C := Try.checked) false ⟨#[], #[.agg #[.int .i64 0, .int .i64 0], .agg #[.int .i64 0, .int .i64 0]], []⟩ 8 (by kernel_rfl) (by kernel_rfl) (by kernel_rfl) (by kernel_rfl)) ?_
  intro W base args ds gs before hval0 hW hcnd _
  have hval : ∀ (j : Nat) t v, Try.f10.params[j]? = some t → args[j]? = some v → Value.okWide Try.prog W .any base t v := hval0
  refine law_post hW rfl rfl ?_ ?_ ?_
  · have hr : (Try.f10.params.toList.all fun t => Try.prog.readableRec t && decide (t < Try.prog.types.size)) = true := by kernel_rfl
    intro t ht
    have := List.all_eq_true.1 hr t ht
    simpa using this
  · intro ds hl
    match ds, hl with
    | [d, e], _ => rfl
  · obtain ⟨p, q, hA0, _⟩ := hW
    have hA : DataW.TrodAll enc Try.prog W 0 (fun _ => true) true Try.f10.params.toList args.toList ds p := hA0
    clear hA0 hval0
    rw [Try.params10] at hA hval
    exact fnExactRatMid_open hval hA

theorem fnExactRatMid_facts : joinedFacts Try.prog 10 Try.f10 Rows.fnExactRatMidSpec Rows.fnExactRatMidRow = true :=
  joined_of _ _ _ _ _ (by kernel_rfl) laidOut mapsRowed_ok (by kernel_rfl) (by kernel_rfl) (by kernel_rfl) stops_eq (by kernel_rfl) stopKnobs_eq (by kernel_rfl) (by kernel_rfl) (by kernel_rfl) (by kernel_rfl) (by kernel_rfl) (by kernel_rfl) (by kernel_rfl) (by kernel_rfl) (by kernel_rfl) (by kernel_rfl) (by kernel_rfl) (by kernel_rfl) (by kernel_rfl) (plainKeys_eq _ rfl) (by kernel_rfl) heard_ok mayEnter_ok (lifted_eq _ rfl) (make_eq _ rfl) (by kernel_rfl) (by kernel_rfl) (by kernel_rfl) (by kernel_rfl)

theorem fnExactRatMid_holds : Rows.FnExactRatMidSaid :=
  OpenClaim.holds_of_wide 10 Try.f10 rfl rfl rfl rfl rfl rfl rfl ⟨rfl, rfl, rfl, rfl, rfl⟩ rfl rfl rfl rfl rfl (by kernel_rfl) Try.func10 fnExactRatMid_facts
    (of_decide_eq_true (by kernel_rfl)) (by unfold Func.isWrapper; first | (rw [if_pos (by decide +kernel)]; kernel_rfl) | (rw [if_neg (by decide +kernel)]; exact ⟨rfl, rfl⟩))
    (fun os started H enc _ => fnExactRatMid_lifted os started H enc)
#print axioms fnExactRatMid_holds
end Go.Proofs.Ytpefkhcmfapmnaa

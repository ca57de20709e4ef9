/- 'laws.FnFarNone': for every input the call returns true and leaves its arguments as they were. No condition. -/
import Derived.Test.YtccjbipmlpnhkaaWq
import Derived.Test.YtccjbipmlpnhkaaWn
import Derived.Test.YtccjbipmlpnhkaaL
namespace Go.Proofs.Ytccjbipmlpnhkaa
set_option maxRecDepth 100000
open Go.ChangeShapes Go.WideShapes Go.ChangeAt Go.RowKit
set_option linter.unusedSimpArgs false
set_option linter.unusedVariables false

theorem lins_nil (w : World) : Lins w none 0 [] := ⟨rfl, fun h => absurd h (by omega), by omega⟩
theorem allI0 {A' : Option Addr} {n' c' : Nat} {vs : List (Int × Int)} {v : Bool} (hv : Hid (farAll [] vs = v)) {w : World} (h' : Rats w A' n' vs) :
    Calls Try.prog 20 #[.slice none 0 0, .slice A' n' c'] w fun e w' => e = .returned (.bool v) ∧ Below w.heap.size w w' := by
  rw [← hv.out]; exact iFarAll_any (lins_nil w) h'
theorem allS0 {A' : Option Addr} {n' c' : Nat} {vs : List (Int × Int)} {v : Bool} (hv : Hid (farAll [] vs = v)) {w : World} (h' : Rats w A' n' vs) :
    Calls Try.prog 30 #[.slice none 0 0, .slice A' n' c'] w fun e w' => e = .returned (.bool v) ∧ Below w.heap.size w w' := by
  rw [← hv.out]; exact sFarAll_any (lins_nil w) h'
theorem okI0 (w : World) :
    Calls Try.prog 21 #[.slice none 0 0, .slice none 0 0] w fun e w' => e = .returned (.bool false) ∧ Below w.heap.size w w' := by
  have h := iFarOk_any (c := 0) (c' := 0) (lins_nil w) (Ints.nil w)
  rw [farOk_nil] at h
  exact h
theorem runI0 (w : World) :
    Calls Try.prog 15 #[.slice none 0 0] w fun e w' => ∃ g cap B d, e = .returned (.tuple #[.slice (some ⟨g, 0, none⟩) 4 cap, .slice B 0 d, .int .i64 0]) ∧ Rats w' (some ⟨g, 0, none⟩) 4 [(0, 1), (0, 1), (0, 1), (0, 1)] ∧ Below w.heap.size w w' := by
  have h := iFarRun_any (c := 0) (lins_nil w)
  rw [run_nil] at h
  refine h.mono fun e w' => ?_
  rintro ⟨g, cap, B, d, he, ⟨hV, _⟩, hb⟩
  exact ⟨g, cap, B, d, he, hV, hb⟩
set_option maxRecDepth 100000 in
theorem fnFarNone_long {A : Option Addr} {cap : Nat} {bs : List UInt8} {w : World} (hl : ¬ bs.length ≤ 1048576) :
    Calls Try.prog 9 #[.slice A bs.length cap] w fun e w' => e = .returned (.bool true) ∧ Below w.heap.size w w' := by
  go_enter Try.func9, Try.ntmps9
  go_wp2
  go_ret
  exact ⟨rfl, Below.refl _ _⟩
set_option maxRecDepth 100000 in
set_option maxHeartbeats 8000000 in
theorem fnFarNone_walk {A : Option Addr} {cap : Nat} {bs : List UInt8} {w : World} (h : Code8 w A cap bs) :
    Calls Try.prog 9 #[.slice A bs.length cap] w fun e w' => e = .returned (.bool true) ∧ Below w.heap.size w w' := by
  by_cases hl0 : ¬ bs.length ≤ 1048576
  · exact fnFarNone_long hl0
  have hl : bs.length ≤ 1048576 := by omega
  go_enter Try.func9, Try.ntmps9
  go_wp2_with fail
  refine (DrawFarAll_any h hl).mono ?_
  rintro e w1 ⟨ls, A1, n, c, vs, B, m, d, rfl, ⟨_, hV, hm⟩, hb1⟩
  have hz1 := hb1.size
  have hB1 : Below w.heap.size w w1 := hb1
  clear hb1
  obtain ⟨v, hv⟩ : ∃ v, farAll [] vs = v := ⟨_, rfl⟩
  have HV := Lib.hid hv
  have HZ : Hid (farAll [] [(0, 1), (0, 1), (0, 1), (0, 1)] = true) := Lib.hid (by decide)
  clear hv
  go_wp2_with fail
  refine (allI0 HV (by (repeat (first | with_reducible exact hV | (with_reducible refine Rats.far ?_ (by first | omega | (simp; done) | (simp; omega)) _) | (with_reducible refine Rats.alloc ?_ _) | (with_reducible refine Rats.drewN ?_ _) | (with_reducible refine Rats.drew ?_))))).mono ?_
  rintro e w2 ⟨rfl, hb1⟩
  have hz1 := hb1.size; (try simp at hz1); have hB1 : Below w.heap.size w w2 := (by refine Below.trans ?_ (Below.mono hb1 (by first | omega | (simp; done) | (simp; omega))); (repeat (first | with_reducible exact Below.refl _ _ | with_reducible assumption | (with_reducible refine below_drewN ?_ _) | (with_reducible refine Below.drew ?_) | (with_reducible refine Below.setCell ?_ (by first | omega | (simp; done) | (simp; omega)) _) | (with_reducible refine Below.alloc ?_ (by first | omega | (simp; done) | (simp; omega)) _) | refine Below.trans ?_ (Below.mono (by with_reducible assumption) (by first | omega | (simp; done) | (simp; omega)))))); (replace hV : Rats _ B m vs := Rats.later (by (repeat (first | with_reducible exact hV | (with_reducible refine Rats.far ?_ (by first | omega | (simp; done) | (simp; omega)) _) | (with_reducible refine Rats.alloc ?_ _) | (with_reducible refine Rats.drewN ?_ _) | (with_reducible refine Rats.drew ?_)))) hb1); clear hb1
  go_wp2_with fail
  refine (runI0 _).mono ?_
  rintro e w3 ⟨g3, c3, B3, d3, rfl, hW, hb1⟩
  have hz1 := hb1.size; (try simp at hz1); have hB1 : Below w.heap.size w w3 := (by refine Below.trans ?_ (Below.mono hb1 (by first | omega | (simp; done) | (simp; omega))); (repeat (first | with_reducible exact Below.refl _ _ | with_reducible assumption | (with_reducible refine below_drewN ?_ _) | (with_reducible refine Below.drew ?_) | (with_reducible refine Below.setCell ?_ (by first | omega | (simp; done) | (simp; omega)) _) | (with_reducible refine Below.alloc ?_ (by first | omega | (simp; done) | (simp; omega)) _) | refine Below.trans ?_ (Below.mono (by with_reducible assumption) (by first | omega | (simp; done) | (simp; omega)))))); (replace hV : Rats _ B m vs := Rats.later (by (repeat (first | with_reducible exact hV | (with_reducible refine Rats.far ?_ (by first | omega | (simp; done) | (simp; omega)) _) | (with_reducible refine Rats.alloc ?_ _) | (with_reducible refine Rats.drewN ?_ _) | (with_reducible refine Rats.drew ?_)))) hb1); clear hb1
  go_wp2_with fail
  refine (allS0 HV (by (repeat (first | with_reducible exact hV | (with_reducible refine Rats.far ?_ (by first | omega | (simp; done) | (simp; omega)) _) | (with_reducible refine Rats.alloc ?_ _) | (with_reducible refine Rats.drewN ?_ _) | (with_reducible refine Rats.drew ?_))))).mono ?_
  rintro e w4 ⟨rfl, hb1⟩
  have hz1 := hb1.size; (try simp at hz1); have hB1 : Below w.heap.size w w4 := (by refine Below.trans ?_ (Below.mono hb1 (by first | omega | (simp; done) | (simp; omega))); (repeat (first | with_reducible exact Below.refl _ _ | with_reducible assumption | (with_reducible refine below_drewN ?_ _) | (with_reducible refine Below.drew ?_) | (with_reducible refine Below.setCell ?_ (by first | omega | (simp; done) | (simp; omega)) _) | (with_reducible refine Below.alloc ?_ (by first | omega | (simp; done) | (simp; omega)) _) | refine Below.trans ?_ (Below.mono (by with_reducible assumption) (by first | omega | (simp; done) | (simp; omega)))))); (replace hV : Rats _ B m vs := Rats.later (by (repeat (first | with_reducible exact hV | (with_reducible refine Rats.far ?_ (by first | omega | (simp; done) | (simp; omega)) _) | (with_reducible refine Rats.alloc ?_ _) | (with_reducible refine Rats.drewN ?_ _) | (with_reducible refine Rats.drew ?_)))) hb1; replace hW : Rats _ (some ⟨g3, 0, none⟩) 4 [(0, 1), (0, 1), (0, 1), (0, 1)] := Rats.later (by (repeat (first | with_reducible exact hW | (with_reducible refine Rats.far ?_ (by first | omega | (simp; done) | (simp; omega)) _) | (with_reducible refine Rats.alloc ?_ _) | (with_reducible refine Rats.drewN ?_ _) | (with_reducible refine Rats.drew ?_)))) hb1); clear hb1
  go_wp2_with fail
  refine (allI0 HZ (by (repeat (first | with_reducible exact hW | (with_reducible refine Rats.far ?_ (by first | omega | (simp; done) | (simp; omega)) _) | (with_reducible refine Rats.alloc ?_ _) | (with_reducible refine Rats.drewN ?_ _) | (with_reducible refine Rats.drew ?_))))).mono ?_
  rintro e w5 ⟨rfl, hb1⟩
  have hz1 := hb1.size; (try simp at hz1); have hB1 : Below w.heap.size w w5 := (by refine Below.trans ?_ (Below.mono hb1 (by first | omega | (simp; done) | (simp; omega))); (repeat (first | with_reducible exact Below.refl _ _ | with_reducible assumption | (with_reducible refine below_drewN ?_ _) | (with_reducible refine Below.drew ?_) | (with_reducible refine Below.setCell ?_ (by first | omega | (simp; done) | (simp; omega)) _) | (with_reducible refine Below.alloc ?_ (by first | omega | (simp; done) | (simp; omega)) _) | refine Below.trans ?_ (Below.mono (by with_reducible assumption) (by first | omega | (simp; done) | (simp; omega)))))); (replace hV : Rats _ B m vs := Rats.later (by (repeat (first | with_reducible exact hV | (with_reducible refine Rats.far ?_ (by first | omega | (simp; done) | (simp; omega)) _) | (with_reducible refine Rats.alloc ?_ _) | (with_reducible refine Rats.drewN ?_ _) | (with_reducible refine Rats.drew ?_)))) hb1; replace hW : Rats _ (some ⟨g3, 0, none⟩) 4 [(0, 1), (0, 1), (0, 1), (0, 1)] := Rats.later (by (repeat (first | with_reducible exact hW | (with_reducible refine Rats.far ?_ (by first | omega | (simp; done) | (simp; omega)) _) | (with_reducible refine Rats.alloc ?_ _) | (with_reducible refine Rats.drewN ?_ _) | (with_reducible refine Rats.drew ?_)))) hb1); clear hb1
  go_wp2_with fail
  refine (okI0 _).mono ?_
  rintro e w6 ⟨rfl, hb1⟩
  have hz1 := hb1.size; (try simp at hz1); have hB1 : Below w.heap.size w w6 := (by refine Below.trans ?_ (Below.mono hb1 (by first | omega | (simp; done) | (simp; omega))); (repeat (first | with_reducible exact Below.refl _ _ | with_reducible assumption | (with_reducible refine below_drewN ?_ _) | (with_reducible refine Below.drew ?_) | (with_reducible refine Below.setCell ?_ (by first | omega | (simp; done) | (simp; omega)) _) | (with_reducible refine Below.alloc ?_ (by first | omega | (simp; done) | (simp; omega)) _) | refine Below.trans ?_ (Below.mono (by with_reducible assumption) (by first | omega | (simp; done) | (simp; omega)))))); (replace hV : Rats _ B m vs := Rats.later (by (repeat (first | with_reducible exact hV | (with_reducible refine Rats.far ?_ (by first | omega | (simp; done) | (simp; omega)) _) | (with_reducible refine Rats.alloc ?_ _) | (with_reducible refine Rats.drewN ?_ _) | (with_reducible refine Rats.drew ?_)))) hb1; replace hW : Rats _ (some ⟨g3, 0, none⟩) 4 [(0, 1), (0, 1), (0, 1), (0, 1)] := Rats.later (by (repeat (first | with_reducible exact hW | (with_reducible refine Rats.far ?_ (by first | omega | (simp; done) | (simp; omega)) _) | (with_reducible refine Rats.alloc ?_ _) | (with_reducible refine Rats.drewN ?_ _) | (with_reducible refine Rats.drew ?_)))) hb1); clear hb1
  go_wp2
  go_ret
  exact ⟨rfl, by (repeat (first | with_reducible exact Below.refl _ _ | with_reducible assumption | (with_reducible refine below_drewN ?_ _) | (with_reducible refine Below.drew ?_) | (with_reducible refine Below.setCell ?_ (by first | omega | (simp; done) | (simp; omega)) _) | (with_reducible refine Below.alloc ?_ (by first | omega | (simp; done) | (simp; omega)) _) | refine Below.trans ?_ (Below.mono (by with_reducible assumption) (by first | omega | (simp; done) | (simp; omega)))))⟩

theorem fnFarNone_open {H : Type} {enc : TypeId × Value → H} {W : World} {base : Nat} {args : Array Value} {ds : List (DataW H)} {p : List MemPlace}
    (hval : ∀ (j : Nat) t v, #[22][j]? = some t → args[j]? = some v → Value.okWide Try.prog W .any base t v)
    (hA : DataW.TrodAll enc Try.prog W 0 (fun _ => true) true #[22].toList args.toList ds p) :
    Calls Try.prog 9 args W fun e w' => e = .returned (.bool true) ∧ Below W.heap.size W w' := by
  obtain ⟨v0, d0, rfl, rfl, h0⟩ := trodAll_one hA
  obtain ⟨A, cap, bs, rfl, hc⟩ := open_bytes (hval 0 _ v0 rfl rfl) h0
  exact fnFarNone_walk hc
set_option maxRecDepth 100000 in
theorem fnFarNone_lifted (os : Os) (started : os.Started) (H : Type) (enc : TypeId × Value → H) :
    ReturnsInHanded {} Try.checked os 9 .any (Rows.fnFarNoneSpec.pre6 enc Try.prog Try.f9 Rows.fnFarNoneRow.domain false) (Rows.fnFarNoneSpec.post enc Try.prog Try.f9 false true false false) := by
  refine returnsInHanded_of_change (C := Try.checked) own started (by kernel_rfl) Try.func9
    (ChangeSpec.witness6 (enc := enc) (C := Try.checked) false ⟨#[], #[.slice none 0 0], []⟩ 8 (by kernel_rfl) (by kernel_rfl) (by kernel_rfl) (by kernel_rfl)) ?_
  intro W base args ds gs before hval0 hW hcnd _
  have hval : ∀ (j : Nat) t v, Try.f9.params[j]? = some t → args[j]? = some v → Value.okWide Try.prog W .any base t v := hval0
  refine law_post hW rfl rfl ?_ ?_ ?_
  · have hr : (Try.f9.params.toList.all fun t => Try.prog.readableRec t && decide (t < Try.prog.types.size)) = true := by kernel_rfl
    intro t ht
    have := List.all_eq_true.1 hr t ht
    simpa using this
  · intro ds hl
    match ds, hl with
    | [d], _ => rfl
  · obtain ⟨p, q, hA0, _⟩ := hW
    have hA : DataW.TrodAll enc Try.prog W 0 (fun _ => true) true Try.f9.params.toList args.toList ds p := hA0
    clear hA0 hval0
    rw [Try.params9] at hA hval
    exact fnFarNone_open hval hA

theorem fnFarNone_facts : joinedFacts Try.prog 9 Try.f9 Rows.fnFarNoneSpec Rows.fnFarNoneRow = true :=
  joined_of _ _ _ _ _ (by kernel_rfl) laidOut mapsRowed_ok (by kernel_rfl) (by kernel_rfl) (by kernel_rfl) stops_eq (by kernel_rfl) stopKnobs_eq (by kernel_rfl) (by kernel_rfl) (by kernel_rfl) (by kernel_rfl) (by kernel_rfl) (by kernel_rfl) (by kernel_rfl) (by kernel_rfl) (by kernel_rfl) (by kernel_rfl) (by kernel_rfl) (by kernel_rfl) (by kernel_rfl) (plainKeys_eq _ rfl) (by kernel_rfl) heard_ok mayEnter_ok (lifted_eq _ rfl) (make_eq _ rfl) (by kernel_rfl) (by kernel_rfl) (by kernel_rfl) (by kernel_rfl)

theorem fnFarNone_holds : Rows.FnFarNoneSaid :=
  OpenClaim.holds_of_wide 9 Try.f9 rfl rfl rfl rfl rfl rfl rfl ⟨rfl, rfl, rfl, rfl, rfl⟩ rfl rfl rfl rfl rfl (by kernel_rfl) Try.func9 fnFarNone_facts
    (of_decide_eq_true (by kernel_rfl)) (by unfold Func.isWrapper; first | (rw [if_pos (by decide +kernel)]; kernel_rfl) | (rw [if_neg (by decide +kernel)]; exact ⟨rfl, rfl⟩))
    (fun os started H enc _ => fnFarNone_lifted os started H enc)
#print axioms fnFarNone_holds
end Go.Proofs.Ytccjbipmlpnhkaa

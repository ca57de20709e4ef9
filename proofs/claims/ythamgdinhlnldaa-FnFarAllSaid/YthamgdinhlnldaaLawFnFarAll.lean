/- 'laws.FnFarAll': for every input the call returns true and leaves its arguments as they were. No condition. -/
import Derived.Test.YthamgdinhlnldaaDu
import Derived.Test.YthamgdinhlnldaaL
namespace Go.Proofs.Ythamgdinhlnldaa
set_option maxRecDepth 100000
open Go.ChangeShapes Go.WideShapes Go.ChangeAt Go.RowKit
set_option linter.unusedSimpArgs false
set_option linter.unusedVariables false

theorem allI {A A' : Option Addr} {n n' c c' : Nat} {ls : List LinV} {vs : List (Int × Int)} {v : Bool} (hv : Hid (farAll ls vs = v)) {w : World} (h : Lins w A n ls) (h' : Rats w A' n' vs) :
    Calls Try.prog 55 #[.slice A n c, .slice A' n' c'] w fun e w' => e = .returned (.bool v) ∧ Below w.heap.size w w' := by
  rw [← hv.out]; exact iFarAll_any h h'
theorem allS {A A' : Option Addr} {n n' c c' : Nat} {ls : List LinV} {vs : List (Int × Int)} {v : Bool} (hv : Hid (farAll ls vs = v)) {w : World} (h : Lins w A n ls) (h' : Rats w A' n' vs) :
    Calls Try.prog 54 #[.slice A n c, .slice A' n' c'] w fun e w' => e = .returned (.bool v) ∧ Below w.heap.size w w' := by
  rw [← hv.out]; exact sFarAll_any h h'
/-- the first k fractions are right -/
def eachV (n m : Nat) (vs : List (Int × Int)) (k : Nat) : Bool := (decide (n ≤ 20) && decide (m = 4)) && (vs.take k).all (fun v => ratOk v.1 v.2)
def eachL (ls : List LinV) (vs : List (Int × Int)) (k : Nat) : Bool := (ls.take k).all (fun l => (linAt l.1 l.2.1 l.2.2 vs).2 && (linAt l.1 l.2.1 l.2.2 vs).1)
theorem eachV_zero (n m : Nat) (vs : List (Int × Int)) : eachV n m vs 0 = (decide (n ≤ 20) && decide (m = 4)) := by simp [eachV]
theorem eachV_succ {n m : Nat} {vs : List (Int × Int)} {k : Nat} (hk : k < vs.length) : eachV n m vs (k + 1) = (eachV n m vs k && ratOk (vs.getD k (0, 0)).1 (vs.getD k (0, 0)).2) := by
  unfold eachV
  rw [List.take_add_one, List.getElem?_eq_getElem hk, List.getD_eq_getElem?_getD, List.getElem?_eq_getElem hk]
  simp only [Option.toList, List.all_append, List.all_cons, List.all_nil, Bool.and_true, Bool.and_assoc, Option.getD_some]
theorem eachL_succ {ls : List LinV} {vs : List (Int × Int)} {k : Nat} (hk : k < ls.length) : eachL ls vs (k + 1) = (eachL ls vs k && ((linAt (ls.getD k lin0).1 (ls.getD k lin0).2.1 (ls.getD k lin0).2.2 vs).2 && (linAt (ls.getD k lin0).1 (ls.getD k lin0).2.1 (ls.getD k lin0).2.2 vs).1)) := by
  unfold eachL
  rw [List.take_add_one, List.getElem?_eq_getElem hk, List.getD_eq_getElem?_getD, List.getElem?_eq_getElem hk]
  simp only [Option.toList, List.all_append, List.all_cons, List.all_nil, Bool.and_true, Bool.and_assoc, Option.getD_some]
theorem each_all (ls : List LinV) (vs : List (Int × Int)) : (eachV ls.length vs.length vs vs.length && eachL ls vs ls.length) = farAll ls vs := by
  rw [farAll_each, eachV, eachL, List.take_length, List.take_length]
set_option maxRecDepth 100000 in
theorem fnFarAll_long {A : Option Addr} {cap : Nat} {bs : List UInt8} {w : World} (hl : ¬ bs.length ≤ 1048576) :
    Calls Try.prog 14 #[.slice A bs.length cap] w fun e w' => e = .returned (.bool true) ∧ Below w.heap.size w w' := by
  go_enter Try.func14, Try.ntmps14
  go_wp2
  go_ret
  exact ⟨rfl, Below.refl _ _⟩
set_option maxRecDepth 100000 in
set_option maxHeartbeats 8000000 in
theorem fnFarAll_walk {A : Option Addr} {cap : Nat} {bs : List UInt8} {w : World} (h : Code8 w A cap bs) :
    Calls Try.prog 14 #[.slice A bs.length cap] w fun e w' => e = .returned (.bool true) ∧ Below w.heap.size w w' := by
  by_cases hl0 : ¬ bs.length ≤ 1048576
  · exact fnFarAll_long hl0
  have hl : bs.length ≤ 1048576 := by omega
  go_enter Try.func14, Try.ntmps14
  go_wp2_with fail
  refine (DrawFarAll_any h hl).mono ?_
  rintro e w1 ⟨ls, A1, n, c, vs, B, m, d, rfl, ⟨⟨hL, hn⟩, hV, hm⟩, hb1⟩
  have hz1 := hb1.size
  have hB1 : Below w.heap.size w w1 := hb1
  clear hb1
  obtain ⟨v, hv⟩ : ∃ v, farAll ls vs = v := ⟨_, rfl⟩
  have HV := Lib.hid hv
  clear hv
  go_wp2_with fail
  refine (allI HV (by (repeat (first | with_reducible exact hL | (with_reducible refine Lins.alloc ?_ _) | (with_reducible refine Lins.drewN ?_ _) | (with_reducible refine Lins.drew ?_)))) (by (repeat (first | with_reducible exact hV | (with_reducible refine Rats.far ?_ (by first | omega | (simp; done) | (simp; omega)) _) | (with_reducible refine Rats.alloc ?_ _) | (with_reducible refine Rats.drewN ?_ _) | (with_reducible refine Rats.drew ?_))))).mono ?_
  rintro e w2 ⟨rfl, hb1⟩
  have hz1 := hb1.size; (try simp at hz1); have hB1 : Below w.heap.size w w2 := (by refine Below.trans ?_ (Below.mono hb1 (by first | omega | (simp; done) | (simp; omega))); (repeat (first | with_reducible exact Below.refl _ _ | with_reducible assumption | (with_reducible refine below_drewN ?_ _) | (with_reducible refine Below.drew ?_) | (with_reducible refine Below.setCell ?_ (by first | omega | (simp; done) | (simp; omega)) _) | (with_reducible refine Below.alloc ?_ (by first | omega | (simp; done) | (simp; omega)) _) | refine Below.trans ?_ (Below.mono (by with_reducible assumption) (by first | omega | (simp; done) | (simp; omega)))))); (replace hL : Lins _ A1 n ls := Lins.later (by (repeat (first | with_reducible exact hL | (with_reducible refine Lins.alloc ?_ _) | (with_reducible refine Lins.drewN ?_ _) | (with_reducible refine Lins.drew ?_)))) hb1; replace hV : Rats _ B m vs := Rats.later (by (repeat (first | with_reducible exact hV | (with_reducible refine Rats.far ?_ (by first | omega | (simp; done) | (simp; omega)) _) | (with_reducible refine Rats.alloc ?_ _) | (with_reducible refine Rats.drewN ?_ _) | (with_reducible refine Rats.drew ?_)))) hb1); clear hb1
  go_wp2_with fail
  refine (allS HV (by (repeat (first | with_reducible exact hL | (with_reducible refine Lins.alloc ?_ _) | (with_reducible refine Lins.drewN ?_ _) | (with_reducible refine Lins.drew ?_)))) (by (repeat (first | with_reducible exact hV | (with_reducible refine Rats.far ?_ (by first | omega | (simp; done) | (simp; omega)) _) | (with_reducible refine Rats.alloc ?_ _) | (with_reducible refine Rats.drewN ?_ _) | (with_reducible refine Rats.drew ?_))))).mono ?_
  rintro e w3 ⟨rfl, hb1⟩
  have hz1 := hb1.size; (try simp at hz1); have hB1 : Below w.heap.size w w3 := (by refine Below.trans ?_ (Below.mono hb1 (by first | omega | (simp; done) | (simp; omega))); (repeat (first | with_reducible exact Below.refl _ _ | with_reducible assumption | (with_reducible refine below_drewN ?_ _) | (with_reducible refine Below.drew ?_) | (with_reducible refine Below.setCell ?_ (by first | omega | (simp; done) | (simp; omega)) _) | (with_reducible refine Below.alloc ?_ (by first | omega | (simp; done) | (simp; omega)) _) | refine Below.trans ?_ (Below.mono (by with_reducible assumption) (by first | omega | (simp; done) | (simp; omega)))))); (replace hL : Lins _ A1 n ls := Lins.later (by (repeat (first | with_reducible exact hL | (with_reducible refine Lins.alloc ?_ _) | (with_reducible refine Lins.drewN ?_ _) | (with_reducible refine Lins.drew ?_)))) hb1; replace hV : Rats _ B m vs := Rats.later (by (repeat (first | with_reducible exact hV | (with_reducible refine Rats.far ?_ (by first | omega | (simp; done) | (simp; omega)) _) | (with_reducible refine Rats.alloc ?_ _) | (with_reducible refine Rats.drewN ?_ _) | (with_reducible refine Rats.drew ?_)))) hb1); clear hb1
  have HL1 := Lib.hid hL.len
  have HV1 := Lib.hid hV.len
  have hfour : decide ((m : Int) = 4) = decide (m = 4) := by rw [decide_eq_decide]; omega
  obtain ⟨e0, he0⟩ : ∃ e, decide (n ≤ 20) = e := ⟨_, rfl⟩
  have hle : decide ((n : Int) ≤ 20) = e0 := (twenty_eq n).trans he0
  obtain ⟨e1, he1⟩ : ∃ e, decide (m = 4) = e := ⟨_, rfl⟩
  have hme : ((m : Int) == 4) = e1 := by rw [← he1]; rw [Bool.eq_iff_iff]; simp; omega
  have HE : Hid (eachV n m vs 0 = (e0 && e1)) := Lib.hid (by rw [eachV_zero, he0, he1])
  clear he0 he1 hfour
  have HF : Hid ((eachV n m vs m && eachL ls vs n) = v) := Lib.hid (by rw [← HV.out, ← each_all, HL1.out, HV1.out])
  have HS1 := Lib.hid (fun k (hk : k < m) => eachV_succ (n := n) (m := m) (vs := vs) (k := k) (by rw [HV1.out]; exact hk))
  have HS2 := Lib.hid (fun k (hk : k < n) => eachL_succ (ls := ls) (vs := vs) (k := k) (by rw [HL1.out]; exact hk))
  cases e0
  · go_wp2_with fail
    go_loopw [6, 7] (fun s6 i wr => ∃ k : Nat, k ≤ m ∧ i = .int .i64 k ∧ s6 = .bool (eachV n m vs k) ∧ Below w3.heap.size w3 wr) (fun _ i _ => m - (intOf i).toNat)
    case atStart => exact ⟨0, by omega, rfl, by rw [HE.out]; rfl, Below.refl _ _⟩
    case round =>
      obtain ⟨k, hk, rfl, rfl, hbr⟩ := hrel
      have hsz := hbr.size
      by_cases hlt : k < m
      · obtain ⟨q, o, rfl, hq, hcs⟩ := (hV.later hbr).cells (by omega)
        obtain ⟨hc1, hc2⟩ := hcs k hlt
        have HN := Lib.hid (HS1.out k hlt)
        clear hcs
        generalize (vs.getD k (0, 0)).1 = x at *
        generalize (vs.getD k (0, 0)).2 = y at *
        generalize eachV n m vs k = b at *
        cases b
        · go_wp2_with fail
          go_roundw
          case rel => exact ⟨k + 1, by omega, by go_num, by rw [HN.out]; rfl, hbr⟩
          case measure => simp [intOf]; omega
        · go_wp2_with fail
          refine (iRatOk_any x y _).mono ?_
          rintro e w4 ⟨rfl, hb1⟩
          have hbr4 : Below w3.heap.size w3 w4 := hbr.trans (hb1.mono hsz)
          clear hb1
          go_wp2_with fail
          go_roundw
          case rel => exact ⟨k + 1, by omega, by go_num, by rw [HN.out]; rfl, hbr4⟩
          case measure => simp [intOf]; omega
      · obtain rfl : k = m := by omega
        generalize eachV n k vs k = b at *
        go_wp2_with fail
        obtain ⟨wo, rfl⟩ : ∃ x : World, x = wr := ⟨wr, rfl⟩
        go_loopw [6, 8] (fun s6 i wr => ∃ j : Nat, j ≤ n ∧ i = .int .i64 j ∧ s6 = .bool (b && eachL ls vs j) ∧ Below w3.heap.size w3 wr) (fun _ i _ => n - (intOf i).toNat)
        case atStart => exact ⟨0, by omega, rfl, by simp [eachL], hbr⟩
        case round =>
          clear hbr hsz
          obtain ⟨j, hj, rfl, rfl, hbr⟩ := hrel
          have hsz := hbr.size
          by_cases hlj : j < n
          · have hLr := hL.later hbr
            have hVr := hV.later hbr
            obtain ⟨q, o, rfl, hq, hcs⟩ := hLr.cells (by omega)
            obtain ⟨A5, m5, c5, hI5, hc1, hc2, hc3⟩ := (hcs j hlj).ex
            have HN := Lib.hid (HS2.out j hlj)
            clear hcs
            generalize (ls.getD j lin0).1 = ys at *
            generalize (ls.getD j lin0).2.1 = b5 at *
            generalize (ls.getD j lin0).2.2 = s5 at *
            go_wp2_with fail
            refine (iLinAt_any (xs := ys) (vs := vs) b5 s5 hI5 hVr).mono ?_
            obtain ⟨so, ok, hla⟩ : ∃ so ok, linAt ys b5 s5 vs = (so, ok) := ⟨_, _, rfl⟩
            rw [hla] at HN ⊢
            rintro e w4 ⟨rfl, hb1⟩
            have hbr4 : Below w3.heap.size w3 w4 := hbr.trans (hb1.mono hsz)
            clear hb1
            generalize eachL ls vs j = e at *
            cases b <;> cases e <;> cases ok <;> (
              go_wp2_with fail
              go_roundw
              case rel => exact ⟨j + 1, by omega, by go_num, by rw [HN.out]; simp, hbr4⟩
              case measure => simp [intOf]; omega)
          · obtain rfl : j = n := by omega
            rw [HF.out]
            have hBr : Below w.heap.size w wr := hB1.trans (hbr.mono (by omega))
            go_wp2
            go_ret
            exact ⟨by simp, hBr⟩
  · go_wp2_with fail
    go_loopw [6, 7] (fun s6 i wr => ∃ k : Nat, k ≤ m ∧ i = .int .i64 k ∧ s6 = .bool (eachV n m vs k) ∧ Below w3.heap.size w3 wr) (fun _ i _ => m - (intOf i).toNat)
    case atStart => exact ⟨0, by omega, rfl, by rw [HE.out]; rfl, Below.refl _ _⟩
    case round =>
      obtain ⟨k, hk, rfl, rfl, hbr⟩ := hrel
      have hsz := hbr.size
      by_cases hlt : k < m
      · obtain ⟨q, o, rfl, hq, hcs⟩ := (hV.later hbr).cells (by omega)
        obtain ⟨hc1, hc2⟩ := hcs k hlt
        have HN := Lib.hid (HS1.out k hlt)
        clear hcs
        generalize (vs.getD k (0, 0)).1 = x at *
        generalize (vs.getD k (0, 0)).2 = y at *
        generalize eachV n m vs k = b at *
        cases b
        · go_wp2_with fail
          go_roundw
          case rel => exact ⟨k + 1, by omega, by go_num, by rw [HN.out]; rfl, hbr⟩
          case measure => simp [intOf]; omega
        · go_wp2_with fail
          refine (iRatOk_any x y _).mono ?_
          rintro e w4 ⟨rfl, hb1⟩
          have hbr4 : Below w3.heap.size w3 w4 := hbr.trans (hb1.mono hsz)
          clear hb1
          go_wp2_with fail
          go_roundw
          case rel => exact ⟨k + 1, by omega, by go_num, by rw [HN.out]; rfl, hbr4⟩
          case measure => simp [intOf]; omega
      · obtain rfl : k = m := by omega
        generalize eachV n k vs k = b at *
        go_wp2_with fail
        obtain ⟨wo, rfl⟩ : ∃ x : World, x = wr := ⟨wr, rfl⟩
        go_loopw [6, 8] (fun s6 i wr => ∃ j : Nat, j ≤ n ∧ i = .int .i64 j ∧ s6 = .bool (b && eachL ls vs j) ∧ Below w3.heap.size w3 wr) (fun _ i _ => n - (intOf i).toNat)
        case atStart => exact ⟨0, by omega, rfl, by simp [eachL], hbr⟩
        case round =>
          clear hbr hsz
          obtain ⟨j, hj, rfl, rfl, hbr⟩ := hrel
          have hsz := hbr.size
          by_cases hlj : j < n
          · have hLr := hL.later hbr
            have hVr := hV.later hbr
            obtain ⟨q, o, rfl, hq, hcs⟩ := hLr.cells (by omega)
            obtain ⟨A5, m5, c5, hI5, hc1, hc2, hc3⟩ := (hcs j hlj).ex
            have HN := Lib.hid (HS2.out j hlj)
            clear hcs
            generalize (ls.getD j lin0).1 = ys at *
            generalize (ls.getD j lin0).2.1 = b5 at *
            generalize (ls.getD j lin0).2.2 = s5 at *
            go_wp2_with fail
            refine (iLinAt_any (xs := ys) (vs := vs) b5 s5 hI5 hVr).mono ?_
            obtain ⟨so, ok, hla⟩ : ∃ so ok, linAt ys b5 s5 vs = (so, ok) := ⟨_, _, rfl⟩
            rw [hla] at HN ⊢
            rintro e w4 ⟨rfl, hb1⟩
            have hbr4 : Below w3.heap.size w3 w4 := hbr.trans (hb1.mono hsz)
            clear hb1
            generalize eachL ls vs j = e at *
            cases b <;> cases e <;> cases ok <;> (
              go_wp2_with fail
              go_roundw
              case rel => exact ⟨j + 1, by omega, by go_num, by rw [HN.out]; simp, hbr4⟩
              case measure => simp [intOf]; omega)
          · obtain rfl : j = n := by omega
            rw [HF.out]
            have hBr : Below w.heap.size w wr := hB1.trans (hbr.mono (by omega))
            go_wp2
            go_ret
            exact ⟨by simp, hBr⟩

theorem fnFarAll_open {H : Type} {enc : TypeId × Value → H} {W : World} {base : Nat} {args : Array Value} {ds : List (DataW H)} {p : List MemPlace}
    (hval : ∀ (j : Nat) t v, #[40][j]? = some t → args[j]? = some v → Value.okWide Try.prog W .any base t v)
    (hA : DataW.TrodAll enc Try.prog W 0 (fun _ => true) true #[40].toList args.toList ds p) :
    Calls Try.prog 14 args W fun e w' => e = .returned (.bool true) ∧ Below W.heap.size W w' := by
  obtain ⟨v0, d0, rfl, rfl, h0⟩ := trodAll_one hA
  obtain ⟨A, cap, bs, rfl, hc⟩ := open_bytes (hval 0 _ v0 rfl rfl) h0
  exact fnFarAll_walk hc
set_option maxRecDepth 100000 in
theorem fnFarAll_lifted (os : Os) (started : os.Started) (H : Type) (enc : TypeId × Value → H) :
    ReturnsInHanded {} Try.checked os 14 .any (Rows.fnFarAllSpec.pre6 enc Try.prog Try.f14 Rows.fnFarAllRow.domain false) (Rows.fnFarAllSpec.post enc Try.prog Try.f14 false true false false) := by
  refine returnsInHanded_of_change (C := Try.checked) own started (by kernel_rfl) Try.func14
    (ChangeSpec.witness6 (enc := enc) (C := Try.checked) false ⟨#[], #[.slice none 0 0], []⟩ 8 (by kernel_rfl) (by kernel_rfl) (by kernel_rfl) (by kernel_rfl)) ?_
  intro W base args ds gs before hval0 hW hcnd _
  have hval : ∀ (j : Nat) t v, Try.f14.params[j]? = some t → args[j]? = some v → Value.okWide Try.prog W .any base t v := hval0
  refine law_post hW rfl rfl ?_ ?_ ?_
  · have hr : (Try.f14.params.toList.all fun t => Try.prog.readableRec t && decide (t < Try.prog.types.size)) = true := by kernel_rfl
    intro t ht
    have := List.all_eq_true.1 hr t ht
    simpa using this
  · intro ds hl
    match ds, hl with
    | [d], _ => rfl
  · obtain ⟨p, q, hA0, _⟩ := hW
    have hA : DataW.TrodAll enc Try.prog W 0 (fun _ => true) true Try.f14.params.toList args.toList ds p := hA0
    clear hA0 hval0
    rw [Try.params14] at hA hval
    exact fnFarAll_open hval hA

theorem fnFarAll_facts : joinedFacts Try.prog 14 Try.f14 Rows.fnFarAllSpec Rows.fnFarAllRow = true :=
  joined_of _ _ _ _ _ (by kernel_rfl) laidOut mapsRowed_ok (by kernel_rfl) (by kernel_rfl) (by kernel_rfl) stops_eq (by kernel_rfl) stopKnobs_eq (by kernel_rfl) (by kernel_rfl) (by kernel_rfl) (by kernel_rfl) (by kernel_rfl) (by kernel_rfl) (by kernel_rfl) (by kernel_rfl) (by kernel_rfl) (by kernel_rfl) (by kernel_rfl) (by kernel_rfl) (by kernel_rfl) (plainKeys_eq _ rfl) (by kernel_rfl) heard_ok mayEnter_ok (lifted_eq _ rfl) (make_eq _ rfl) (by kernel_rfl) (by kernel_rfl) (by kernel_rfl) (by kernel_rfl)

theorem fnFarAll_holds : Rows.FnFarAllSaid :=
  OpenClaim.holds_of_wide 14 Try.f14 rfl rfl rfl rfl rfl rfl rfl ⟨rfl, rfl, rfl, rfl, rfl⟩ rfl rfl rfl rfl rfl (by kernel_rfl) Try.func14 fnFarAll_facts
    (of_decide_eq_true (by kernel_rfl)) (by unfold Func.isWrapper; first | (rw [if_pos (by decide +kernel)]; kernel_rfl) | (rw [if_neg (by decide +kernel)]; exact ⟨rfl, rfl⟩))
    (fun os started H enc _ => fnFarAll_lifted os started H enc)
#print axioms fnFarAll_holds
end Go.Proofs.Ythamgdinhlnldaa

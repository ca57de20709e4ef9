/- 'laws.FnFarLess': for every input the call returns true and leaves its arguments as they were. No condition. -/
import Derived.Test.YtccjbipmlpnhkaaPe
import Derived.Test.YtccjbipmlpnhkaaDu
import Derived.Test.YtccjbipmlpnhkaaWn
import Derived.Test.YtccjbipmlpnhkaaFr
import Derived.Test.YtccjbipmlpnhkaaL
namespace Go.Proofs.Ytccjbipmlpnhkaa
set_option maxRecDepth 100000
open Go.ChangeShapes Go.WideShapes Go.ChangeAt Go.RowKit
set_option linter.unusedSimpArgs false
set_option linter.unusedVariables false

/-- what is left, and whether there is an answer -/
def Left (ls : List LinV) (u : Int) (xs : List LinV) (fl : Bool) : Prop := (farLess ls u).getD [] = xs ∧ (farLess ls u).isSome = fl
theorem left_some {ls : List LinV} {u : Int} {xs : List LinV} (h : Left ls u xs true) : farLess ls u = some xs := by
  obtain ⟨h1, h2⟩ := h
  cases ho : farLess ls u with
  | none => rw [ho] at h2; cases h2
  | some ys => rw [ho] at h1; exact congrArg some h1
theorem left_none {ls : List LinV} {u : Int} {xs : List LinV} (h : Left ls u xs false) : xs = [] := by
  obtain ⟨h1, h2⟩ := h
  cases ho : farLess ls u with
  | none => rw [ho] at h1; exact h1.symm
  | some ys => rw [ho] at h2; cases h2
theorem sLessK {ls : List LinV} {u : Int} {xs : List LinV} {fl : Bool} (hk : Left ls u xs fl) {A : Option Addr} {n c : Nat} {w : World} (h : Lins w A n ls) :
    Calls Try.prog 14 #[.slice A n c, .int .i64 u] w fun e w' => ∃ A1 c1 zs G, e = .returned (.tuple #[.slice A1 xs.length c1, .bool fl]) ∧ LinD w' w.heap.size (.slice A1 xs.length c1) xs.length xs zs G ∧ Below w.heap.size w w' := by
  obtain ⟨rfl, rfl⟩ := hk
  exact sFarLess_any u h
theorem iLessK {ls : List LinV} {u : Int} {xs : List LinV} {fl : Bool} (hk : Left ls u xs fl) {A : Option Addr} {n c : Nat} {w : World} (h : Lins w A n ls) :
    Calls Try.prog 13 #[.slice A n c, .int .i64 u] w fun e w' => ∃ A1 c1 zs G, e = .returned (.tuple #[.slice A1 xs.length c1, .bool fl]) ∧ LinD w' w.heap.size (.slice A1 xs.length c1) xs.length xs zs G ∧ Below w.heap.size w w' := by
  obtain ⟨rfl, rfl⟩ := hk
  exact iFarLess_any u h
/-- deciding, of which only a yes is told -/
theorem runSome {A : Option Addr} {n c : Nat} {ls : List LinV} {w : World} (h : Lins w A n ls) :
    Calls Try.prog 15 #[.slice A n c] w fun e w' => ∃ A n c B m d code vs, e = .returned (.tuple #[.slice A n c, .slice B m d, .int .i64 code]) ∧ Rats w' A n vs ∧ Hid (code = 0 → farAll ls vs = true) ∧ Below w.heap.size w w' := by
  refine (iFarRun_any h).mono fun e w' hr => ?_
  obtain ⟨r, hr0⟩ : ∃ r, farRun ls = r := ⟨_, rfl⟩
  rw [hr0] at hr
  obtain ⟨A, n, c, B, m, d, he, ⟨hV, _⟩, _, _, _, hb⟩ := run_all_kinds hr
  refine ⟨A, n, c, B, m, d, r.code, r.vals, he, hV, Lib.hid fun hc => ?_, hb⟩
  cases r with
  | yes vs => exact run_yes' hr0
  | form => cases hc
  | much => cases hc
  | no ts => cases hc
set_option maxRecDepth 100000 in
theorem fnFarLess_long {A : Option Addr} {cap : Nat} {bs : List UInt8} {w : World} (hl : ¬ bs.length ≤ 1048576) :
    Calls Try.prog 3 #[.slice A bs.length cap] w fun e w' => e = .returned (.bool true) ∧ Below w.heap.size w w' := by
  go_enter Try.func3, Try.ntmps3
  go_wp2
  go_ret
  exact ⟨rfl, Below.refl _ _⟩
set_option maxRecDepth 100000 in
set_option maxHeartbeats 8000000 in
theorem fnFarLess_walk {A : Option Addr} {cap : Nat} {bs : List UInt8} {w : World} (h : Code8 w A cap bs) :
    Calls Try.prog 3 #[.slice A bs.length cap] w fun e w' => e = .returned (.bool true) ∧ Below w.heap.size w w' := by
  by_cases hl0 : ¬ bs.length ≤ 1048576
  · exact fnFarLess_long hl0
  have hl : bs.length ≤ 1048576 := by omega
  go_enter Try.func3, Try.ntmps3
  go_wp2_with fail
  refine (DrawFarLess_any h hl).mono ?_
  rintro e w1 ⟨ls, A1, n, c, u, rfl, ⟨hL, hn, hu⟩, hb1⟩
  have hz1 := hb1.size
  have hB1 : Below w.heap.size w w1 := hb1
  clear hb1
  obtain ⟨xs, fl, hk⟩ : ∃ xs fl, Left ls u xs fl := ⟨_, _, rfl, rfl⟩
  have HK := Lib.hid hk
  clear hk
  have hff : (fl != fl) = false := by simp
  go_wp2_with fail
  refine (iLessK HK.out (by (repeat (first | with_reducible exact hL | (with_reducible refine Lins.alloc ?_ _) | (with_reducible refine Lins.drewN ?_ _) | (with_reducible refine Lins.drew ?_))))).mono ?_
  rintro e w2 ⟨Ax, cx, zx, Gx, rfl, hDx, hb1⟩
  have hz1 := hb1.size; (try simp at hz1); have hB1 : Below w.heap.size w w2 := (by refine Below.trans ?_ (Below.mono hb1 (by first | omega | (simp; done) | (simp; omega))); (repeat (first | with_reducible exact Below.refl _ _ | with_reducible assumption | (with_reducible refine below_drewN ?_ _) | (with_reducible refine Below.drew ?_) | (with_reducible refine Below.setCell ?_ (by first | omega | (simp; done) | (simp; omega)) _) | (with_reducible refine Below.alloc ?_ (by first | omega | (simp; done) | (simp; omega)) _) | refine Below.trans ?_ (Below.mono (by with_reducible assumption) (by first | omega | (simp; done) | (simp; omega))))))
  replace hL : Lins _ A1 n ls := Lins.later (by (repeat (first | with_reducible exact hL | (with_reducible refine Lins.alloc ?_ _) | (with_reducible refine Lins.drewN ?_ _) | (with_reducible refine Lins.drew ?_)))) hb1
  clear hb1
  go_wp2_with fail
  refine (sLessK HK.out (by (repeat (first | with_reducible exact hL | (with_reducible refine Lins.alloc ?_ _) | (with_reducible refine Lins.drewN ?_ _) | (with_reducible refine Lins.drew ?_))))).mono ?_
  rintro e w3 ⟨Ay, cy, zy, Gy, rfl, hDy, hb1⟩
  have hz1 := hb1.size; (try simp at hz1); have hB1 : Below w.heap.size w w3 := (by refine Below.trans ?_ (Below.mono hb1 (by first | omega | (simp; done) | (simp; omega))); (repeat (first | with_reducible exact Below.refl _ _ | with_reducible assumption | (with_reducible refine below_drewN ?_ _) | (with_reducible refine Below.drew ?_) | (with_reducible refine Below.setCell ?_ (by first | omega | (simp; done) | (simp; omega)) _) | (with_reducible refine Below.alloc ?_ (by first | omega | (simp; done) | (simp; omega)) _) | refine Below.trans ?_ (Below.mono (by with_reducible assumption) (by first | omega | (simp; done) | (simp; omega))))))
  replace hL : Lins _ A1 n ls := Lins.later (by (repeat (first | with_reducible exact hL | (with_reducible refine Lins.alloc ?_ _) | (with_reducible refine Lins.drewN ?_ _) | (with_reducible refine Lins.drew ?_)))) hb1
  generalize hgn : xs.length = N at *
  have HG := Lib.hid hgn
  clear hgn
  cases fl
  · clear hDx hDy hb1
    go_wp2
    go_ret
    exact ⟨rfl, by (repeat (first | with_reducible exact Below.refl _ _ | with_reducible assumption | (with_reducible refine below_drewN ?_ _) | (with_reducible refine Below.drew ?_) | (with_reducible refine Below.setCell ?_ (by first | omega | (simp; done) | (simp; omega)) _) | (with_reducible refine Below.alloc ?_ (by first | omega | (simp; done) | (simp; omega)) _) | refine Below.trans ?_ (Below.mono (by with_reducible assumption) (by first | omega | (simp; done) | (simp; omega)))))⟩
  have HS := Lib.hid (left_some HK.out)
  have hN : N ≤ 200 := by rw [← HG.out]; exact farLess_few HS.out
  have hX := (hDx.later hb1).lins (by omega)
  have hY := hDy.lins (by omega)
  clear hDx hDy hb1
  obtain ⟨_, hu2, _⟩ := farLess_rows HS.out
  obtain ⟨v, rfl⟩ : ∃ v : Nat, u = (v : Int) := ⟨u.toNat, by omega⟩
  have hv4 : v < 4 := by omega
  clear hu hu2
  have hvi0 : (0 : Int) ≤ (v : Int) := by omega
  have hvi4 : (v : Int) < 4 := by omega
  go_wp2_with fail
  refine (runSome (by (repeat (first | with_reducible exact hL | (with_reducible refine Lins.alloc ?_ _) | (with_reducible refine Lins.drewN ?_ _) | (with_reducible refine Lins.drew ?_))))).mono ?_
  rintro e w4 ⟨A5, n5, c5, B5, m5, d5, code, vs, rfl, hV, hyes, hb1⟩
  have hz1 := hb1.size; (try simp at hz1); have hB1 : Below w.heap.size w w4 := (by refine Below.trans ?_ (Below.mono hb1 (by first | omega | (simp; done) | (simp; omega))); (repeat (first | with_reducible exact Below.refl _ _ | with_reducible assumption | (with_reducible refine below_drewN ?_ _) | (with_reducible refine Below.drew ?_) | (with_reducible refine Below.setCell ?_ (by first | omega | (simp; done) | (simp; omega)) _) | (with_reducible refine Below.alloc ?_ (by first | omega | (simp; done) | (simp; omega)) _) | refine Below.trans ?_ (Below.mono (by with_reducible assumption) (by first | omega | (simp; done) | (simp; omega))))))
  replace hX : Lins _ Ax N xs := Lins.later (by (repeat (first | with_reducible exact hX | (with_reducible refine Lins.alloc ?_ _) | (with_reducible refine Lins.drewN ?_ _) | (with_reducible refine Lins.drew ?_)))) hb1
  replace hY : Lins _ Ay N xs := Lins.later (by (repeat (first | with_reducible exact hY | (with_reducible refine Lins.alloc ?_ _) | (with_reducible refine Lins.drewN ?_ _) | (with_reducible refine Lins.drew ?_)))) hb1
  clear hb1 hL
  go_wp2_with fail
  go_loopw [12] (fun i wr => ∃ k : Nat, k ≤ N ∧ i = .int .i64 k ∧ Below w4.heap.size w4 wr) (fun i _ => N - (intOf i).toNat)
  case atStart => exact ⟨0, by omega, rfl, Below.refl _ _⟩
  case round =>
    obtain ⟨k, hk, rfl, hbr⟩ := hrel
    have hsz := hbr.size
    by_cases hlt : k < N
    · have hXr := hX.later hbr
      have hYr := hY.later hbr
      have hVr := hV.later hbr
      obtain ⟨px, ox, rfl, hpx, hcx⟩ := hXr.cells (by omega)
      obtain ⟨py, oy, rfl, hpy, hcy⟩ := hYr.cells (by omega)
      obtain ⟨Bx, mx, dx, hIx, hx1, hx2, hx3⟩ := (hcx k hlt).ex
      obtain ⟨By, my, dy, hIy, hy1, hy2, hy3⟩ := (hcy k hlt).ex
      have hlin := farLess_lin HS.out (k := k) (by rw [HG.out]; exact hlt)
      have hzero := farLess_zero HS.out (k := k) (by rw [HG.out]; exact hlt)
      have HFO := Lib.hid (fun (hv : farAll ls vs = true) so (ha : linAt (xs.getD k lin0).1 (xs.getD k lin0).2.1 (xs.getD k lin0).2.2 vs = (so, true)) => farLess_follows HS.out hv (k := k) (by rw [HG.out]; exact hlt) ha)
      obtain rfl : 4 = mx := (linOk_len hlin).1.symm.trans hIx.len
      clear hlin hcx hcy
      generalize xs.getD k lin0 = x at *
      obtain ⟨es, b, s⟩ := x
      dsimp only at hIx hx2 hx3 hIy hy2 hy3 hzero HFO
      obtain ⟨q, o, rfl, hq, hcc⟩ := hIx.cells (by omega)
      have hc0 := hcc v hv4
      rw [hzero] at hc0
      clear hcc
      have HZ := Lib.hid hzero
      clear hzero
      have hsame : linSame es b s es b s = true := by simp [linSame]
      go_wp2_with fail
      go_region_held3 (fun w' => w'.cell? ⟨px, ox + k * 3, none⟩ = some (.slice (some ⟨q, o, none⟩) 4 dx) ∧ w'.cell? ⟨px, ox + k * 3 + 1, none⟩ = some (.int .i64 b) ∧ w'.cell? ⟨px, ox + k * 3 + 2, none⟩ = some (.bool s) ∧ w'.cell? ⟨py, oy + k * 3, none⟩ = some (.slice By my dy) ∧ w'.cell? ⟨py, oy + k * 3 + 1, none⟩ = some (.int .i64 b) ∧ w'.cell? ⟨py, oy + k * 3 + 2, none⟩ = some (.bool s) ∧ w'.cell? ⟨q, o + v, none⟩ = some (.int .i64 0)) (simp [go_sem, World.cell?_alloc_past, *])
        ((first | (go_at_call 16; refine (iLinSame_any (xs := es) (ys := es) b b s s (by (repeat (first | with_reducible exact hIx | (with_reducible refine Ints.far ?_ (by first | omega | (simp; done) | (simp; omega)) _) | (with_reducible refine Ints.alloc ?_ _) | (with_reducible refine Ints.drewN ?_ _) | (with_reducible refine Ints.drew ?_)))) (by (repeat (first | with_reducible exact hIy | (with_reducible refine Ints.far ?_ (by first | omega | (simp; done) | (simp; omega)) _) | (with_reducible refine Ints.alloc ?_ _) | (with_reducible refine Ints.drewN ?_ _) | (with_reducible refine Ints.drew ?_))))).mono ?_; rw [hsame]; rintro e w6 ⟨rfl, hb1⟩; have hbr6 : Below w4.heap.size w4 w6 := Below.trans (by (repeat (first | with_reducible exact Below.refl _ _ | with_reducible assumption | (with_reducible refine below_drewN ?_ _) | (with_reducible refine Below.drew ?_) | (with_reducible refine Below.setCell ?_ (by first | omega | (simp; done) | (simp; omega)) _) | (with_reducible refine Below.alloc ?_ (by first | omega | (simp; done) | (simp; omega)) _) | refine Below.trans ?_ (Below.mono (by with_reducible assumption) (by first | omega | (simp; done) | (simp; omega)))))) (hb1.mono (by first | omega | (simp; done) | (simp; omega))); have hs6 := hbr6.size; have kx1 := (hb1.cell (p := ⟨px, ox + k * 3, none⟩) hpx).trans hx1; have kx2 := (hb1.cell (p := ⟨px, ox + k * 3 + 1, none⟩) hpx).trans hx2; have kx3 := (hb1.cell (p := ⟨px, ox + k * 3 + 2, none⟩) hpx).trans hx3; have ky1 := (hb1.cell (p := ⟨py, oy + k * 3, none⟩) hpy).trans hy1; have ky2 := (hb1.cell (p := ⟨py, oy + k * 3 + 1, none⟩) hpy).trans hy2; have ky3 := (hb1.cell (p := ⟨py, oy + k * 3 + 2, none⟩) hpy).trans hy3; have kq := (hb1.cell (p := ⟨q, o + v, none⟩) hq).trans hc0; have hI6 : Ints w6 (some ⟨q, o, none⟩) 4 es := Ints.later (by (repeat (first | with_reducible exact hIx | (with_reducible refine Ints.far ?_ (by first | omega | (simp; done) | (simp; omega)) _) | (with_reducible refine Ints.alloc ?_ _) | (with_reducible refine Ints.drewN ?_ _) | (with_reducible refine Ints.drew ?_)))) hb1; have hV6 : Rats w6 A5 n5 vs := Rats.later (by (repeat (first | with_reducible exact hVr | (with_reducible refine Rats.far ?_ (by first | omega | (simp; done) | (simp; omega)) _) | (with_reducible refine Rats.alloc ?_ _) | (with_reducible refine Rats.drewN ?_ _) | (with_reducible refine Rats.drew ?_)))) hb1; clear hb1)))
      all_goals
        by_cases hcd : code = 0
        · subst hcd
          obtain ⟨so, ok, hla⟩ : ∃ so ok, linAt es b s vs = (so, ok) := ⟨_, _, rfl⟩
          have HSO : Hid (ok = true → so = true) := Lib.hid (fun e => by
            subst e
            exact HFO.out (hyes.out rfl) so hla)
          clear HFO
          go_wp2_with fail
          refine (iLinAt_any (xs := es) (vs := vs) b s hI6 hV6).mono ?_
          rw [hla]
          rintro e w7 ⟨rfl, hb1⟩
          have hbr7 : Below w4.heap.size w4 w7 := Below.trans hbr6 (hb1.mono (by omega))
          clear hb1
          cases ok
          · go_wp2_with fail
            go_roundw
            case rel => exact ⟨k + 1, by omega, by go_num, hbr7⟩
            case measure => simp [intOf]; omega
          · obtain rfl := HSO.out rfl
            go_wp2_with fail
            go_roundw
            case rel => exact ⟨k + 1, by omega, by go_num, hbr7⟩
            case measure => simp [intOf]; omega
        · have hcd' : (code == 0) = false := by simpa using hcd
          go_wp2_with fail
          go_roundw
          case rel => exact ⟨k + 1, by omega, by go_num, hbr6⟩
          case measure => simp [intOf]; omega
    · obtain rfl : k = N := by omega
      have hBr : Below w.heap.size w wr := hB1.trans (hbr.mono (by omega))
      go_wp2
      go_ret
      exact ⟨rfl, hBr⟩

theorem fnFarLess_open {H : Type} {enc : TypeId × Value → H} {W : World} {base : Nat} {args : Array Value} {ds : List (DataW H)} {p : List MemPlace}
    (hval : ∀ (j : Nat) t v, #[22][j]? = some t → args[j]? = some v → Value.okWide Try.prog W .any base t v)
    (hA : DataW.TrodAll enc Try.prog W 0 (fun _ => true) true #[22].toList args.toList ds p) :
    Calls Try.prog 3 args W fun e w' => e = .returned (.bool true) ∧ Below W.heap.size W w' := by
  obtain ⟨v0, d0, rfl, rfl, h0⟩ := trodAll_one hA
  obtain ⟨A, cap, bs, rfl, hc⟩ := open_bytes (hval 0 _ v0 rfl rfl) h0
  exact fnFarLess_walk hc
set_option maxRecDepth 100000 in
theorem fnFarLess_lifted (os : Os) (started : os.Started) (H : Type) (enc : TypeId × Value → H) :
    ReturnsInHanded {} Try.checked os 3 .any (Rows.fnFarLessSpec.pre6 enc Try.prog Try.f3 Rows.fnFarLessRow.domain false) (Rows.fnFarLessSpec.post enc Try.prog Try.f3 false true false false) := by
  refine returnsInHanded_of_change (C := Try.checked) own started (by kernel_rfl) Try.func3
    (ChangeSpec.witness6 (enc := enc) (C := Try.checked) false ⟨#[], #[.slice none 0 0], []⟩ 8 (by kernel_rfl) (by kernel_rfl) (by kernel_rfl) (by kernel_rfl)) ?_
  intro W base args ds gs before hval0 hW hcnd _
  have hval : ∀ (j : Nat) t v, Try.f3.params[j]? = some t → args[j]? = some v → Value.okWide Try.prog W .any base t v := hval0
  refine law_post hW rfl rfl ?_ ?_ ?_
  · have hr : (Try.f3.params.toList.all fun t => Try.prog.readableRec t && decide (t < Try.prog.types.size)) = true := by kernel_rfl
    intro t ht
    have := List.all_eq_true.1 hr t ht
    simpa using this
  · intro ds hl
    match ds, hl with
    | [d], _ => rfl
  · obtain ⟨p, q, hA0, _⟩ := hW
    have hA : DataW.TrodAll enc Try.prog W 0 (fun _ => true) true Try.f3.params.toList args.toList ds p := hA0
    clear hA0 hval0
    rw [Try.params3] at hA hval
    exact fnFarLess_open hval hA

theorem fnFarLess_facts : joinedFacts Try.prog 3 Try.f3 Rows.fnFarLessSpec Rows.fnFarLessRow = true :=
  joined_of _ _ _ _ _ (by kernel_rfl) laidOut mapsRowed_ok (by kernel_rfl) (by kernel_rfl) (by kernel_rfl) stops_eq (by kernel_rfl) stopKnobs_eq (by kernel_rfl) (by kernel_rfl) (by kernel_rfl) (by kernel_rfl) (by kernel_rfl) (by kernel_rfl) (by kernel_rfl) (by kernel_rfl) (by kernel_rfl) (by kernel_rfl) (by kernel_rfl) (by kernel_rfl) (by kernel_rfl) (plainKeys_eq _ rfl) (by kernel_rfl) heard_ok mayEnter_ok (lifted_eq _ rfl) (make_eq _ rfl) (by kernel_rfl) (by kernel_rfl) (by kernel_rfl) (by kernel_rfl)

theorem fnFarLess_holds : Rows.FnFarLessSaid :=
  OpenClaim.holds_of_wide 3 Try.f3 rfl rfl rfl rfl rfl rfl rfl ⟨rfl, rfl, rfl, rfl, rfl⟩ rfl rfl rfl rfl rfl (by kernel_rfl) Try.func3 fnFarLess_facts
    (of_decide_eq_true (by kernel_rfl)) (by unfold Func.isWrapper; first | (rw [if_pos (by decide +kernel)]; kernel_rfl) | (rw [if_neg (by decide +kernel)]; exact ⟨rfl, rfl⟩))
    (fun os started H enc _ => fnFarLess_lifted os started H enc)
#print axioms fnFarLess_holds
end Go.Proofs.Ytccjbipmlpnhkaa

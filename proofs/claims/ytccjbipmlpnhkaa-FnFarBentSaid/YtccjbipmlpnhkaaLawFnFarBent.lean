/- 'laws.FnFarBent': for every input the call returns true and leaves its arguments as they were. No condition. -/
import Derived.Test.YtccjbipmlpnhkaaLe
import Derived.Test.YtccjbipmlpnhkaaPl
import Derived.Test.YtccjbipmlpnhkaaDu
import Derived.Test.YtccjbipmlpnhkaaWn
import Derived.Test.YtccjbipmlpnhkaaFr
import Derived.Test.YtccjbipmlpnhkaaWo
import Derived.Test.YtccjbipmlpnhkaaL
namespace Go.Proofs.Ytccjbipmlpnhkaa
set_option maxRecDepth 100000
open Go.ChangeShapes Go.WideShapes Go.ChangeAt Go.RowKit
set_option linter.unusedSimpArgs false
set_option linter.unusedVariables false

/-- not too many, and the first k are right -/
def eachOk (n : Nat) (ls : List LinV) (k : Nat) : Bool := decide (n ≤ 20) && (ls.take k).all (fun l => linOk l.1 l.2.1)
theorem eachOk_zero (n : Nat) (ls : List LinV) : eachOk n ls 0 = decide (n ≤ 20) := by simp [eachOk]
theorem eachOk_succ {n : Nat} {ls : List LinV} {k : Nat} (hk : k < ls.length) : eachOk n ls (k + 1) = (eachOk n ls k && linOk (ls.getD k lin0).1 (ls.getD k lin0).2.1) := by
  unfold eachOk
  rw [List.take_add_one, List.getElem?_eq_getElem hk, List.getD_eq_getElem?_getD, List.getElem?_eq_getElem hk]
  simp only [Option.toList, List.all_append, List.all_cons, List.all_nil, Bool.and_true, Bool.and_assoc, Option.getD_some]
theorem eachOk_all (ls : List LinV) : eachOk ls.length ls ls.length = sysOk ls := by
  unfold eachOk sysOk allLin
  rw [List.take_length, Bool.and_comm]
theorem code_form (ls : List LinV) : ((farRun ls).code == 3) = !sysOk ls := by
  cases hs : sysOk ls
  · rw [run_form'.2 hs]; rfl
  · cases hr : farRun ls with
    | form => rw [run_form'.1 hr] at hs; cases hs
    | much => rfl
    | no ts => rfl
    | yes vs => rfl
theorem zero_ints {W : World} {n E : Nat} (hn : n ≤ 1000) (hE : W.heap.size = E) : Ints (W.alloc (.cells (zeroCells n) 3)) (some ⟨E, 0, none⟩) n (List.replicate n 0) := by
  subst hE
  have hg : ∀ j, (List.replicate n (0 : Int)).getD j 0 = 0 := fun j => by
    rw [List.getD_eq_getElem?_getD, List.getElem?_replicate]; split <;> rfl
  refine ⟨by simp, fun _ => ⟨W.heap.size, 0, rfl, by simp [go_sem], fun j hj => ?_⟩, fun j => by rw [hg]; unfold J64; omega, by omega⟩
  rw [Nat.zero_add, hg]
  have h0 := zeroCells_get hj
  simp [go_sem, h0]
theorem runI {A : Option Addr} {n c : Nat} {ls : List LinV} {code : Int} (hc : Hid ((farRun ls).code = code)) {w : World} (h : Lins w A n ls) :
    Calls Try.prog 15 #[.slice A n c] w fun e w' => ∃ A n c B m d, e = .returned (.tuple #[.slice A n c, .slice B m d, .int .i64 code]) ∧ Below w.heap.size w w' := by
  refine (iFarRun_any h).mono fun e w' hr => ?_
  obtain ⟨A, n, c, B, m, d, he, _, _, _, _, hb⟩ := run_all_kinds hr
  exact ⟨A, n, c, B, m, d, by rw [← hc.out]; exact he, hb⟩
theorem runS {A : Option Addr} {n c : Nat} {ls : List LinV} {code : Int} (hc : Hid ((farRun ls).code = code)) {w : World} (h : Lins w A n ls) :
    Calls Try.prog 19 #[.slice A n c] w fun e w' => ∃ A n c B m d, e = .returned (.tuple #[.slice A n c, .slice B m d, .int .i64 code]) ∧ Below w.heap.size w w' := by
  refine (sFarRun_any h).mono fun e w' hr => ?_
  obtain ⟨A, n, c, B, m, d, he, _, _, _, _, hb⟩ := run_all_kinds hr
  exact ⟨A, n, c, B, m, d, by rw [← hc.out]; exact he, hb⟩
/-- a sum is refused where the list is -/
theorem sumB {A A' : Option Addr} {n n' c c' : Nat} {ls : List LinV} {ts : List Int} {w : World} (h : Lins w A n ls) (h' : Ints w A' n' ts) :
    Calls Try.prog 23 #[.slice A n c, .slice A' n' c'] w fun e w' => ∃ A1 n1 c1 b s ok, e = .returned (.tuple #[.agg #[.slice A1 n1 c1, .int .i64 b, .bool s], .bool ok]) ∧ Hid (sysOk ls = false → ok = false) ∧ Below w.heap.size w w' := by
  refine (iFarSum_any (c := c) (c' := c') h h').mono fun e w' hr => ?_
  cases ho : farSum ls ts with
  | none => rw [ho] at hr; obtain ⟨he, hb⟩ := hr; exact ⟨none, 0, 0, 0, false, false, he, Lib.hid (fun _ => rfl), hb⟩
  | some x =>
    obtain ⟨zs, b, s⟩ := x
    rw [ho] at hr
    obtain ⟨g, cap, he, _, _, _, hb⟩ := hr
    refine ⟨_, _, _, _, _, true, he, Lib.hid (fun hs => ?_), hb⟩
    rw [farSum_inv (by rw [hs]; rfl)] at ho
    cases ho
theorem lessB {A : Option Addr} {n c : Nat} {ls : List LinV} (u : Int) {w : World} (h : Lins w A n ls) :
    Calls Try.prog 13 #[.slice A n c, .int .i64 u] w fun e w' => ∃ A1 n1 c1 ok, e = .returned (.tuple #[.slice A1 n1 c1, .bool ok]) ∧ Hid (sysOk ls = false → ok = false) ∧ Below w.heap.size w w' := by
  refine (iFarLess_any u h).mono fun e w' hr => ?_
  obtain ⟨A1, c1, zs, G, he, _, hb⟩ := hr
  exact ⟨A1, _, c1, _, he, Lib.hid (fun hs => by rw [farLess_sys hs]; rfl), hb⟩
set_option maxRecDepth 100000 in
theorem fnFarBent_long {A : Option Addr} {cap : Nat} {bs : List UInt8} {w : World} (hl : ¬ bs.length ≤ 1048576) :
    Calls Try.prog 5 #[.slice A bs.length cap] w fun e w' => e = .returned (.bool true) ∧ Below w.heap.size w w' := by
  go_enter Try.func5, Try.ntmps5
  go_wp2
  go_ret
  exact ⟨rfl, Below.refl _ _⟩
set_option maxRecDepth 100000 in
set_option maxHeartbeats 8000000 in
theorem fnFarBent_walk {A : Option Addr} {cap : Nat} {bs : List UInt8} {w : World} (h : Code8 w A cap bs) :
    Calls Try.prog 5 #[.slice A bs.length cap] w fun e w' => e = .returned (.bool true) ∧ Below w.heap.size w w' := by
  by_cases hl0 : ¬ bs.length ≤ 1048576
  · exact fnFarBent_long hl0
  have hl : bs.length ≤ 1048576 := by omega
  go_enter Try.func5, Try.ntmps5
  go_wp2_with fail
  refine (DrawFarRun_any h hl).mono ?_
  rintro e w1 ⟨ls, A1, n, c, rfl, ⟨hL, hn⟩, hb1⟩
  have hz1 := hb1.size
  have hB1 : Below w.heap.size w w1 := hb1
  clear hb1
  have HL := Lib.hid hL.len
  obtain ⟨e0, he0⟩ : ∃ e, decide (n ≤ 20) = e := ⟨_, rfl⟩
  have hle : decide ((n : Int) ≤ 20) = e0 := (twenty_eq n).trans he0
  have HE : Hid (eachOk n ls 0 = e0) := Lib.hid (by rw [eachOk_zero, he0])
  clear he0
  obtain ⟨so, hso⟩ : ∃ s, sysOk ls = s := ⟨_, rfl⟩
  have HF : Hid (eachOk n ls n = so) := Lib.hid (by rw [← hso, ← eachOk_all, HL.out])
  obtain ⟨code, hcode⟩ : ∃ c, (farRun ls).code = c := ⟨_, rfl⟩
  have HC := Lib.hid hcode
  have h3 : (code == 3) = !so := by rw [← hcode, ← hso]; exact code_form ls
  have HSO := Lib.hid hso
  clear hcode hso
  have HS1 := Lib.hid (fun k (hk : k < n) => eachOk_succ (n := n) (ls := ls) (k := k) (by rw [HL.out]; exact hk))
  go_wp2_with fail
  go_loopw [4, 5] (fun s4 i wr => ∃ k : Nat, k ≤ n ∧ i = .int .i64 k ∧ s4 = .bool (eachOk n ls k) ∧ Below w1.heap.size w1 wr) (fun _ i _ => n - (intOf i).toNat)
  case atStart => exact ⟨0, by omega, rfl, by rw [HE.out], Below.refl _ _⟩
  case round =>
    obtain ⟨k, hk, rfl, rfl, hbr⟩ := hrel
    have hsz := hbr.size
    by_cases hlt : k < n
    · have HN := Lib.hid (HS1.out k hlt)
      have hLr := hL.later hbr
      obtain ⟨q, o, rfl, hq, hcs⟩ := hLr.cells (by omega)
      obtain ⟨A5, m5, c5, hI5, hc1, hc2, hc3⟩ := (hcs k hlt).ex
      clear hcs
      generalize (ls.getD k lin0).1 = ys at *
      generalize (ls.getD k lin0).2.1 = b5 at *
      generalize (ls.getD k lin0).2.2 = s5 at *
      generalize eachOk n ls k = b at *
      cases b
      · go_wp2_with fail
        go_roundw
        case rel => exact ⟨k + 1, by omega, by go_num, by rw [HN.out]; rfl, hbr⟩
        case measure => simp [intOf]; omega
      · go_wp2_with fail
        refine (iLinOk_any (xs := ys) b5 s5 hI5).mono ?_
        rintro e w4 ⟨rfl, hb1⟩
        have hbr4 : Below w1.heap.size w1 w4 := hbr.trans (hb1.mono hsz)
        clear hb1
        go_wp2_with fail
        go_roundw
        case rel => exact ⟨k + 1, by omega, by go_num, by rw [HN.out]; rfl, hbr4⟩
        case measure => simp [intOf]; omega
    · obtain rfl : k = n := by omega
      rw [HF.out]
      replace hL := hL.later hbr
      have hBr : Below w.heap.size w wr := hB1.trans (hbr.mono (by omega))
      have hB1 := hBr
      have hmk := fun W => makeInts (n := k) (by omega) W
      have hcc : (code != code) = false := by simp
      have hzr := hBr.size
      clear hbr hsz hz1
      cases so
      · go_wp2_with fail
        refine (runI HC (by (repeat (first | with_reducible exact hL | (with_reducible refine Lins.alloc ?_ _) | (with_reducible refine Lins.drewN ?_ _) | (with_reducible refine Lins.drew ?_))))).mono ?_
        rintro e w5 ⟨A5, n5, c5, B5, m5, d5, rfl, hb1⟩
        have hz1 := hb1.size; (try simp at hz1); have hB1 : Below w.heap.size w w5 := (by refine Below.trans ?_ (Below.mono hb1 (by first | omega | (simp; done) | (simp; omega))); (repeat (first | with_reducible exact Below.refl _ _ | with_reducible assumption | (with_reducible refine below_drewN ?_ _) | (with_reducible refine Below.drew ?_) | (with_reducible refine Below.setCell ?_ (by first | omega | (simp; done) | (simp; omega)) _) | (with_reducible refine Below.alloc ?_ (by first | omega | (simp; done) | (simp; omega)) _) | refine Below.trans ?_ (Below.mono (by with_reducible assumption) (by first | omega | (simp; done) | (simp; omega)))))); (replace hL : Lins _ A1 k ls := Lins.later (by (repeat (first | with_reducible exact hL | (with_reducible refine Lins.alloc ?_ _) | (with_reducible refine Lins.drewN ?_ _) | (with_reducible refine Lins.drew ?_)))) hb1); clear hb1
        go_wp2_with fail
        refine (runS HC (by (repeat (first | with_reducible exact hL | (with_reducible refine Lins.alloc ?_ _) | (with_reducible refine Lins.drewN ?_ _) | (with_reducible refine Lins.drew ?_))))).mono ?_
        rintro e w6 ⟨A6, n6, c6, B6, m6, d6, rfl, hb1⟩
        have hz1 := hb1.size; (try simp at hz1); have hB1 : Below w.heap.size w w6 := (by refine Below.trans ?_ (Below.mono hb1 (by first | omega | (simp; done) | (simp; omega))); (repeat (first | with_reducible exact Below.refl _ _ | with_reducible assumption | (with_reducible refine below_drewN ?_ _) | (with_reducible refine Below.drew ?_) | (with_reducible refine Below.setCell ?_ (by first | omega | (simp; done) | (simp; omega)) _) | (with_reducible refine Below.alloc ?_ (by first | omega | (simp; done) | (simp; omega)) _) | refine Below.trans ?_ (Below.mono (by with_reducible assumption) (by first | omega | (simp; done) | (simp; omega)))))); (replace hL : Lins _ A1 k ls := Lins.later (by (repeat (first | with_reducible exact hL | (with_reducible refine Lins.alloc ?_ _) | (with_reducible refine Lins.drewN ?_ _) | (with_reducible refine Lins.drew ?_)))) hb1); clear hb1
        go_wp2_with fail
        refine (sumB (ls := ls) (ts := List.replicate k 0) (by (repeat (first | with_reducible exact hL | (with_reducible refine Lins.alloc ?_ _) | (with_reducible refine Lins.drewN ?_ _) | (with_reducible refine Lins.drew ?_)))) (zero_ints (by omega) (by first | omega | (simp; done) | (simp; omega)))).mono ?_
        rintro e w7 ⟨A7, n7, c7, b7, s7, ok7, rfl, hok7, hb1⟩
        have hz1 := hb1.size; (try simp at hz1); have hB1 : Below w.heap.size w w7 := (by refine Below.trans ?_ (Below.mono hb1 (by first | omega | (simp; done) | (simp; omega))); (repeat (first | with_reducible exact Below.refl _ _ | with_reducible assumption | (with_reducible refine below_drewN ?_ _) | (with_reducible refine Below.drew ?_) | (with_reducible refine Below.setCell ?_ (by first | omega | (simp; done) | (simp; omega)) _) | (with_reducible refine Below.alloc ?_ (by first | omega | (simp; done) | (simp; omega)) _) | refine Below.trans ?_ (Below.mono (by with_reducible assumption) (by first | omega | (simp; done) | (simp; omega)))))); (replace hL : Lins _ A1 k ls := Lins.later (by (repeat (first | with_reducible exact hL | (with_reducible refine Lins.alloc ?_ _) | (with_reducible refine Lins.drewN ?_ _) | (with_reducible refine Lins.drew ?_)))) hb1); clear hb1
        go_wp2_with fail
        refine (lessB (ls := ls) 0 (by (repeat (first | with_reducible exact hL | (with_reducible refine Lins.alloc ?_ _) | (with_reducible refine Lins.drewN ?_ _) | (with_reducible refine Lins.drew ?_))))).mono ?_
        rintro e w8 ⟨A8, n8, c8, ok8, rfl, hok8, hb1⟩
        have hz1 := hb1.size; (try simp at hz1); have hB1 : Below w.heap.size w w8 := (by refine Below.trans ?_ (Below.mono hb1 (by first | omega | (simp; done) | (simp; omega))); (repeat (first | with_reducible exact Below.refl _ _ | with_reducible assumption | (with_reducible refine below_drewN ?_ _) | (with_reducible refine Below.drew ?_) | (with_reducible refine Below.setCell ?_ (by first | omega | (simp; done) | (simp; omega)) _) | (with_reducible refine Below.alloc ?_ (by first | omega | (simp; done) | (simp; omega)) _) | refine Below.trans ?_ (Below.mono (by with_reducible assumption) (by first | omega | (simp; done) | (simp; omega)))))); (replace hL : Lins _ A1 k ls := Lins.later (by (repeat (first | with_reducible exact hL | (with_reducible refine Lins.alloc ?_ _) | (with_reducible refine Lins.drewN ?_ _) | (with_reducible refine Lins.drew ?_)))) hb1); clear hb1
        obtain rfl := hok7.out HSO.out
        obtain rfl := hok8.out HSO.out
        go_wp2
        go_ret
        exact ⟨rfl, by (repeat (first | with_reducible exact Below.refl _ _ | with_reducible assumption | (with_reducible refine below_drewN ?_ _) | (with_reducible refine Below.drew ?_) | (with_reducible refine Below.setCell ?_ (by first | omega | (simp; done) | (simp; omega)) _) | (with_reducible refine Below.alloc ?_ (by first | omega | (simp; done) | (simp; omega)) _) | refine Below.trans ?_ (Below.mono (by with_reducible assumption) (by first | omega | (simp; done) | (simp; omega)))))⟩
      · go_wp2_with fail
        refine (runI HC (by (repeat (first | with_reducible exact hL | (with_reducible refine Lins.alloc ?_ _) | (with_reducible refine Lins.drewN ?_ _) | (with_reducible refine Lins.drew ?_))))).mono ?_
        rintro e w5 ⟨A5, n5, c5, B5, m5, d5, rfl, hb1⟩
        have hz1 := hb1.size; (try simp at hz1); have hB1 : Below w.heap.size w w5 := (by refine Below.trans ?_ (Below.mono hb1 (by first | omega | (simp; done) | (simp; omega))); (repeat (first | with_reducible exact Below.refl _ _ | with_reducible assumption | (with_reducible refine below_drewN ?_ _) | (with_reducible refine Below.drew ?_) | (with_reducible refine Below.setCell ?_ (by first | omega | (simp; done) | (simp; omega)) _) | (with_reducible refine Below.alloc ?_ (by first | omega | (simp; done) | (simp; omega)) _) | refine Below.trans ?_ (Below.mono (by with_reducible assumption) (by first | omega | (simp; done) | (simp; omega)))))); (replace hL : Lins _ A1 k ls := Lins.later (by (repeat (first | with_reducible exact hL | (with_reducible refine Lins.alloc ?_ _) | (with_reducible refine Lins.drewN ?_ _) | (with_reducible refine Lins.drew ?_)))) hb1); clear hb1
        go_wp2_with fail
        refine (runS HC (by (repeat (first | with_reducible exact hL | (with_reducible refine Lins.alloc ?_ _) | (with_reducible refine Lins.drewN ?_ _) | (with_reducible refine Lins.drew ?_))))).mono ?_
        rintro e w6 ⟨A6, n6, c6, B6, m6, d6, rfl, hb1⟩
        have hz1 := hb1.size; (try simp at hz1); have hB1 : Below w.heap.size w w6 := (by refine Below.trans ?_ (Below.mono hb1 (by first | omega | (simp; done) | (simp; omega))); (repeat (first | with_reducible exact Below.refl _ _ | with_reducible assumption | (with_reducible refine below_drewN ?_ _) | (with_reducible refine Below.drew ?_) | (with_reducible refine Below.setCell ?_ (by first | omega | (simp; done) | (simp; omega)) _) | (with_reducible refine Below.alloc ?_ (by first | omega | (simp; done) | (simp; omega)) _) | refine Below.trans ?_ (Below.mono (by with_reducible assumption) (by first | omega | (simp; done) | (simp; omega)))))); (replace hL : Lins _ A1 k ls := Lins.later (by (repeat (first | with_reducible exact hL | (with_reducible refine Lins.alloc ?_ _) | (with_reducible refine Lins.drewN ?_ _) | (with_reducible refine Lins.drew ?_)))) hb1); clear hb1
        go_wp2_with fail
        refine (sumB (ls := ls) (ts := List.replicate k 0) (by (repeat (first | with_reducible exact hL | (with_reducible refine Lins.alloc ?_ _) | (with_reducible refine Lins.drewN ?_ _) | (with_reducible refine Lins.drew ?_)))) (zero_ints (by omega) (by first | omega | (simp; done) | (simp; omega)))).mono ?_
        rintro e w7 ⟨A7, n7, c7, b7, s7, ok7, rfl, hok7, hb1⟩
        have hz1 := hb1.size; (try simp at hz1); have hB1 : Below w.heap.size w w7 := (by refine Below.trans ?_ (Below.mono hb1 (by first | omega | (simp; done) | (simp; omega))); (repeat (first | with_reducible exact Below.refl _ _ | with_reducible assumption | (with_reducible refine below_drewN ?_ _) | (with_reducible refine Below.drew ?_) | (with_reducible refine Below.setCell ?_ (by first | omega | (simp; done) | (simp; omega)) _) | (with_reducible refine Below.alloc ?_ (by first | omega | (simp; done) | (simp; omega)) _) | refine Below.trans ?_ (Below.mono (by with_reducible assumption) (by first | omega | (simp; done) | (simp; omega)))))); (replace hL : Lins _ A1 k ls := Lins.later (by (repeat (first | with_reducible exact hL | (with_reducible refine Lins.alloc ?_ _) | (with_reducible refine Lins.drewN ?_ _) | (with_reducible refine Lins.drew ?_)))) hb1); clear hb1
        go_wp2_with fail
        refine (lessB (ls := ls) 0 (by (repeat (first | with_reducible exact hL | (with_reducible refine Lins.alloc ?_ _) | (with_reducible refine Lins.drewN ?_ _) | (with_reducible refine Lins.drew ?_))))).mono ?_
        rintro e w8 ⟨A8, n8, c8, ok8, rfl, hok8, hb1⟩
        have hz1 := hb1.size; (try simp at hz1); have hB1 : Below w.heap.size w w8 := (by refine Below.trans ?_ (Below.mono hb1 (by first | omega | (simp; done) | (simp; omega))); (repeat (first | with_reducible exact Below.refl _ _ | with_reducible assumption | (with_reducible refine below_drewN ?_ _) | (with_reducible refine Below.drew ?_) | (with_reducible refine Below.setCell ?_ (by first | omega | (simp; done) | (simp; omega)) _) | (with_reducible refine Below.alloc ?_ (by first | omega | (simp; done) | (simp; omega)) _) | refine Below.trans ?_ (Below.mono (by with_reducible assumption) (by first | omega | (simp; done) | (simp; omega)))))); (replace hL : Lins _ A1 k ls := Lins.later (by (repeat (first | with_reducible exact hL | (with_reducible refine Lins.alloc ?_ _) | (with_reducible refine Lins.drewN ?_ _) | (with_reducible refine Lins.drew ?_)))) hb1); clear hb1
        go_wp2
        go_ret
        exact ⟨rfl, by (repeat (first | with_reducible exact Below.refl _ _ | with_reducible assumption | (with_reducible refine below_drewN ?_ _) | (with_reducible refine Below.drew ?_) | (with_reducible refine Below.setCell ?_ (by first | omega | (simp; done) | (simp; omega)) _) | (with_reducible refine Below.alloc ?_ (by first | omega | (simp; done) | (simp; omega)) _) | refine Below.trans ?_ (Below.mono (by with_reducible assumption) (by first | omega | (simp; done) | (simp; omega)))))⟩

theorem fnFarBent_open {H : Type} {enc : TypeId × Value → H} {W : World} {base : Nat} {args : Array Value} {ds : List (DataW H)} {p : List MemPlace}
    (hval : ∀ (j : Nat) t v, #[22][j]? = some t → args[j]? = some v → Value.okWide Try.prog W .any base t v)
    (hA : DataW.TrodAll enc Try.prog W 0 (fun _ => true) true #[22].toList args.toList ds p) :
    Calls Try.prog 5 args W fun e w' => e = .returned (.bool true) ∧ Below W.heap.size W w' := by
  obtain ⟨v0, d0, rfl, rfl, h0⟩ := trodAll_one hA
  obtain ⟨A, cap, bs, rfl, hc⟩ := open_bytes (hval 0 _ v0 rfl rfl) h0
  exact fnFarBent_walk hc
set_option maxRecDepth 100000 in
theorem fnFarBent_lifted (os : Os) (started : os.Started) (H : Type) (enc : TypeId × Value → H) :
    ReturnsInHanded {} Try.checked os 5 .any (Rows.fnFarBentSpec.pre6 enc Try.prog Try.f5 Rows.fnFarBentRow.domain false) (Rows.fnFarBentSpec.post enc Try.prog Try.f5 false true false false) := by
  refine returnsInHanded_of_change (C := Try.checked) own started (by kernel_rfl) Try.func5
    (ChangeSpec.witness6 (enc := enc) (C := Try.checked) false ⟨#[], #[.slice none 0 0], []⟩ 8 (by kernel_rfl) (by kernel_rfl) (by kernel_rfl) (by kernel_rfl)) ?_
  intro W base args ds gs before hval0 hW hcnd _
  have hval : ∀ (j : Nat) t v, Try.f5.params[j]? = some t → args[j]? = some v → Value.okWide Try.prog W .any base t v := hval0
  refine law_post hW rfl rfl ?_ ?_ ?_
  · have hr : (Try.f5.params.toList.all fun t => Try.prog.readableRec t && decide (t < Try.prog.types.size)) = true := by kernel_rfl
    intro t ht
    have := List.all_eq_true.1 hr t ht
    simpa using this
  · intro ds hl
    match ds, hl with
    | [d], _ => rfl
  · obtain ⟨p, q, hA0, _⟩ := hW
    have hA : DataW.TrodAll enc Try.prog W 0 (fun _ => true) true Try.f5.params.toList args.toList ds p := hA0
    clear hA0 hval0
    rw [Try.params5] at hA hval
    exact fnFarBent_open hval hA

theorem fnFarBent_facts : joinedFacts Try.prog 5 Try.f5 Rows.fnFarBentSpec Rows.fnFarBentRow = true :=
  joined_of _ _ _ _ _ (by kernel_rfl) laidOut mapsRowed_ok (by kernel_rfl) (by kernel_rfl) (by kernel_rfl) stops_eq (by kernel_rfl) stopKnobs_eq (by kernel_rfl) (by kernel_rfl) (by kernel_rfl) (by kernel_rfl) (by kernel_rfl) (by kernel_rfl) (by kernel_rfl) (by kernel_rfl) (by kernel_rfl) (by kernel_rfl) (by kernel_rfl) (by kernel_rfl) (by kernel_rfl) (plainKeys_eq _ rfl) (by kernel_rfl) heard_ok mayEnter_ok (lifted_eq _ rfl) (make_eq _ rfl) (by kernel_rfl) (by kernel_rfl) (by kernel_rfl) (by kernel_rfl)

theorem fnFarBent_holds : Rows.FnFarBentSaid :=
  OpenClaim.holds_of_wide 5 Try.f5 rfl rfl rfl rfl rfl rfl rfl ⟨rfl, rfl, rfl, rfl, rfl⟩ rfl rfl rfl rfl rfl (by kernel_rfl) Try.func5 fnFarBent_facts
    (of_decide_eq_true (by kernel_rfl)) (by unfold Func.isWrapper; first | (rw [if_pos (by decide +kernel)]; kernel_rfl) | (rw [if_neg (by decide +kernel)]; exact ⟨rfl, rfl⟩))
    (fun os started H enc _ => fnFarBent_lifted os started H enc)
#print axioms fnFarBent_holds
end Go.Proofs.Ytccjbipmlpnhkaa

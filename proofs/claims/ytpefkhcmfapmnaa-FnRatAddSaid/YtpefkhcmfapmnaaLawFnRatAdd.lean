/- 'laws.FnRatAdd': for every input the call returns true and leaves its arguments as they were. No condition. -/
import Derived.Test.YtpefkhcmfapmnaaS
import Derived.Test.YtpefkhcmfapmnaaL
import Derived.Test.YtpefkhcmfapmnaaM
namespace Go.Proofs.Ytpefkhcmfapmnaa
open Go.ChangeShapes Go.WideShapes Go.ChangeAt Go.RowKit
set_option linter.unusedSimpArgs false
set_option linter.unusedVariables false

theorem fnRatAdd_long {A : Option Addr} {cap : Nat} {bs : List UInt8} {w : World} (hl : ¬ bs.length ≤ 1048576) :
    Calls Try.prog 14 #[.slice A bs.length cap] w fun e w' => e = .returned (.bool true) ∧ Below w.heap.size w w' := by
  go_enter Try.func14, Try.ntmps14
  go_wp2
  go_ret
  exact ⟨rfl, Below.refl _ _⟩
set_option maxHeartbeats 1000000 in
theorem fnRatAdd_walk {A : Option Addr} {cap : Nat} {bs : List UInt8} {w : World} (h : Code8 w A cap bs) :
    Calls Try.prog 14 #[.slice A bs.length cap] w fun e w' => e = .returned (.bool true) ∧ Below w.heap.size w w' := by
  by_cases hl0 : ¬ bs.length ≤ 1048576
  · exact fnRatAdd_long hl0
  have hl : bs.length ≤ 1048576 := by omega
  go_enter Try.func14, Try.ntmps14
  go_wp2_with fail
  refine (DrawRatAdd_any h hl).mono ?_
  rintro e w1 ⟨a, b, c, d, rfl, hI, hb1⟩
  have hz1 := hb1.size
  have hB1 : Below w.heap.size w w1 := hb1
  clear hb1
  obtain ⟨x, y, t, h1⟩ : ∃ p q t, addR a b c d = (p, q, t) := ⟨_, _, _, rfl⟩
  have H1 := Lib.hid h1
  have H2 := Lib.hid ((addR_comm c d a b).trans h1)
  cases t
  · obtain ⟨rfl, rfl⟩ := addR_none h1
    clear h1
    go_wp2_with fail
    refine (iRatAdd_any a b c d _ _ _ H1 _).mono ?_
    rintro e w2 ⟨rfl, hb1⟩
    have hz1 := hb1.size; (try simp at hz1); have hB1 : Below w.heap.size w w2 := (by refine Below.trans ?_ (Below.mono hb1 (by first | omega | (simp; done) | (simp; omega))); (repeat (first | exact Below.refl _ _ | assumption | refine below_drewN ?_ _ | refine Below.drew ?_ | refine Below.setCell ?_ (by first | omega | (simp; done) | (simp; omega)) _ | refine Below.alloc ?_ (by first | omega | (simp; done) | (simp; omega)) _ | refine Below.trans ?_ (Below.mono (by assumption) (by first | omega | (simp; done) | (simp; omega)))))); (obtain ⟨k, f, l⟩ := keep_later (a := ⟨w1.heap.size, 0, none⟩) (v := .int .i64 a) hb1 (by go_simp) (by go_simp); obtain ⟨k, f, l⟩ := keep_later (a := ⟨w1.heap.size, 1, none⟩) (v := .int .i64 b) hb1 (by go_simp) (by go_simp); obtain ⟨k, f, l⟩ := keep_later (a := ⟨w1.heap.size+1, 0, none⟩) (v := .int .i64 c) hb1 (by go_simp) (by go_simp); obtain ⟨k, f, l⟩ := keep_later (a := ⟨w1.heap.size+1, 1, none⟩) (v := .int .i64 d) hb1 (by go_simp) (by go_simp)); clear hb1
    go_wp2_with fail
    refine (sRatAdd_any a b c d _ _ _ H1 _).mono ?_
    rintro e w3 ⟨rfl, hb1⟩
    have hz1 := hb1.size; (try simp at hz1); have hB1 : Below w.heap.size w w3 := (by refine Below.trans ?_ (Below.mono hb1 (by first | omega | (simp; done) | (simp; omega))); (repeat (first | exact Below.refl _ _ | assumption | refine below_drewN ?_ _ | refine Below.drew ?_ | refine Below.setCell ?_ (by first | omega | (simp; done) | (simp; omega)) _ | refine Below.alloc ?_ (by first | omega | (simp; done) | (simp; omega)) _ | refine Below.trans ?_ (Below.mono (by assumption) (by first | omega | (simp; done) | (simp; omega)))))); (obtain ⟨k, f, l⟩ := keep_later (a := ⟨w1.heap.size, 0, none⟩) (v := .int .i64 a) hb1 (by go_simp) (by go_simp); obtain ⟨k, f, l⟩ := keep_later (a := ⟨w1.heap.size, 1, none⟩) (v := .int .i64 b) hb1 (by go_simp) (by go_simp); obtain ⟨k, f, l⟩ := keep_later (a := ⟨w1.heap.size+1, 0, none⟩) (v := .int .i64 c) hb1 (by go_simp) (by go_simp); obtain ⟨k, f, l⟩ := keep_later (a := ⟨w1.heap.size+1, 1, none⟩) (v := .int .i64 d) hb1 (by go_simp) (by go_simp); obtain ⟨k, f, l⟩ := keep_later (a := ⟨w2.heap.size, 0, none⟩) (v := .int .i64 0) hb1 (by go_simp) (by go_simp); obtain ⟨k, f, l⟩ := keep_later (a := ⟨w2.heap.size, 1, none⟩) (v := .int .i64 0) hb1 (by go_simp) (by go_simp)); clear hb1
    go_wp2_with fail
    refine (iRatAdd_any c d a b _ _ _ H2 _).mono ?_
    rintro e w4 ⟨rfl, hb1⟩
    have hz1 := hb1.size; (try simp at hz1); have hB1 : Below w.heap.size w w4 := (by refine Below.trans ?_ (Below.mono hb1 (by first | omega | (simp; done) | (simp; omega))); (repeat (first | exact Below.refl _ _ | assumption | refine below_drewN ?_ _ | refine Below.drew ?_ | refine Below.setCell ?_ (by first | omega | (simp; done) | (simp; omega)) _ | refine Below.alloc ?_ (by first | omega | (simp; done) | (simp; omega)) _ | refine Below.trans ?_ (Below.mono (by assumption) (by first | omega | (simp; done) | (simp; omega)))))); (obtain ⟨k, f, l⟩ := keep_later (a := ⟨w1.heap.size, 0, none⟩) (v := .int .i64 a) hb1 (by go_simp) (by go_simp); obtain ⟨k, f, l⟩ := keep_later (a := ⟨w1.heap.size, 1, none⟩) (v := .int .i64 b) hb1 (by go_simp) (by go_simp); obtain ⟨k, f, l⟩ := keep_later (a := ⟨w1.heap.size+1, 0, none⟩) (v := .int .i64 c) hb1 (by go_simp) (by go_simp); obtain ⟨k, f, l⟩ := keep_later (a := ⟨w1.heap.size+1, 1, none⟩) (v := .int .i64 d) hb1 (by go_simp) (by go_simp); obtain ⟨k, f, l⟩ := keep_later (a := ⟨w2.heap.size, 0, none⟩) (v := .int .i64 0) hb1 (by go_simp) (by go_simp); obtain ⟨k, f, l⟩ := keep_later (a := ⟨w2.heap.size, 1, none⟩) (v := .int .i64 0) hb1 (by go_simp) (by go_simp); obtain ⟨k, f, l⟩ := keep_later (a := ⟨w3.heap.size, 0, none⟩) (v := .int .i64 0) hb1 (by go_simp) (by go_simp); obtain ⟨k, f, l⟩ := keep_later (a := ⟨w3.heap.size, 1, none⟩) (v := .int .i64 0) hb1 (by go_simp) (by go_simp)); clear hb1
    go_wp2_with fail
    go_region_held3 (fun w' => w'.cell? ⟨w1.heap.size, 0, none⟩ = some (.int .i64 a) ∧ w'.cell? ⟨w1.heap.size, 1, none⟩ = some (.int .i64 b) ∧ w'.cell? ⟨w2.heap.size, 0, none⟩ = some (.int .i64 0) ∧ w'.cell? ⟨w2.heap.size, 1, none⟩ = some (.int .i64 0) ∧ w'.cell? ⟨w3.heap.size, 0, none⟩ = some (.int .i64 0) ∧ w'.cell? ⟨w3.heap.size, 1, none⟩ = some (.int .i64 0) ∧ w'.cell? ⟨w4.heap.size, 0, none⟩ = some (.int .i64 0) ∧ w'.cell? ⟨w4.heap.size, 1, none⟩ = some (.int .i64 0)) (simp [go_sem, World.cell?_alloc_past, *])
        (first
          | (go_at_call 17; refine (iRatOk_any _ _ _).mono ?_; rintro e w5 ⟨rfl, hb1⟩; have hz1 := hb1.size; (try simp at hz1); have hB1 : Below w.heap.size w w5 := (by refine Below.trans ?_ (Below.mono hb1 (by first | omega | (simp; done) | (simp; omega))); (repeat (first | exact Below.refl _ _ | assumption | refine below_drewN ?_ _ | refine Below.drew ?_ | refine Below.setCell ?_ (by first | omega | (simp; done) | (simp; omega)) _ | refine Below.alloc ?_ (by first | omega | (simp; done) | (simp; omega)) _ | refine Below.trans ?_ (Below.mono (by assumption) (by first | omega | (simp; done) | (simp; omega)))))); (obtain ⟨k, f, l⟩ := keep_later (a := ⟨w1.heap.size, 0, none⟩) (v := .int .i64 a) hb1 (by go_simp) (by go_simp); obtain ⟨k, f, l⟩ := keep_later (a := ⟨w1.heap.size, 1, none⟩) (v := .int .i64 b) hb1 (by go_simp) (by go_simp); obtain ⟨k, f, l⟩ := keep_later (a := ⟨w1.heap.size+1, 0, none⟩) (v := .int .i64 c) hb1 (by go_simp) (by go_simp); obtain ⟨k, f, l⟩ := keep_later (a := ⟨w1.heap.size+1, 1, none⟩) (v := .int .i64 d) hb1 (by go_simp) (by go_simp); obtain ⟨k, f, l⟩ := keep_later (a := ⟨w2.heap.size, 0, none⟩) (v := .int .i64 0) hb1 (by go_simp) (by go_simp); obtain ⟨k, f, l⟩ := keep_later (a := ⟨w2.heap.size, 1, none⟩) (v := .int .i64 0) hb1 (by go_simp) (by go_simp); obtain ⟨k, f, l⟩ := keep_later (a := ⟨w3.heap.size, 0, none⟩) (v := .int .i64 0) hb1 (by go_simp) (by go_simp); obtain ⟨k, f, l⟩ := keep_later (a := ⟨w3.heap.size, 1, none⟩) (v := .int .i64 0) hb1 (by go_simp) (by go_simp); obtain ⟨k, f, l⟩ := keep_later (a := ⟨w4.heap.size, 0, none⟩) (v := .int .i64 0) hb1 (by go_simp) (by go_simp); obtain ⟨k, f, l⟩ := keep_later (a := ⟨w4.heap.size, 1, none⟩) (v := .int .i64 0) hb1 (by go_simp) (by go_simp)); clear hb1)
          | (go_at_call 15; refine (sRatOk_any _ _ _).mono ?_; rintro e w5 ⟨rfl, hb1⟩; have hz1 := hb1.size; (try simp at hz1); have hB1 : Below w.heap.size w w5 := (by refine Below.trans ?_ (Below.mono hb1 (by first | omega | (simp; done) | (simp; omega))); (repeat (first | exact Below.refl _ _ | assumption | refine below_drewN ?_ _ | refine Below.drew ?_ | refine Below.setCell ?_ (by first | omega | (simp; done) | (simp; omega)) _ | refine Below.alloc ?_ (by first | omega | (simp; done) | (simp; omega)) _ | refine Below.trans ?_ (Below.mono (by assumption) (by first | omega | (simp; done) | (simp; omega)))))); (obtain ⟨k, f, l⟩ := keep_later (a := ⟨w1.heap.size, 0, none⟩) (v := .int .i64 a) hb1 (by go_simp) (by go_simp); obtain ⟨k, f, l⟩ := keep_later (a := ⟨w1.heap.size, 1, none⟩) (v := .int .i64 b) hb1 (by go_simp) (by go_simp); obtain ⟨k, f, l⟩ := keep_later (a := ⟨w1.heap.size+1, 0, none⟩) (v := .int .i64 c) hb1 (by go_simp) (by go_simp); obtain ⟨k, f, l⟩ := keep_later (a := ⟨w1.heap.size+1, 1, none⟩) (v := .int .i64 d) hb1 (by go_simp) (by go_simp); obtain ⟨k, f, l⟩ := keep_later (a := ⟨w2.heap.size, 0, none⟩) (v := .int .i64 0) hb1 (by go_simp) (by go_simp); obtain ⟨k, f, l⟩ := keep_later (a := ⟨w2.heap.size, 1, none⟩) (v := .int .i64 0) hb1 (by go_simp) (by go_simp); obtain ⟨k, f, l⟩ := keep_later (a := ⟨w3.heap.size, 0, none⟩) (v := .int .i64 0) hb1 (by go_simp) (by go_simp); obtain ⟨k, f, l⟩ := keep_later (a := ⟨w3.heap.size, 1, none⟩) (v := .int .i64 0) hb1 (by go_simp) (by go_simp); obtain ⟨k, f, l⟩ := keep_later (a := ⟨w4.heap.size, 0, none⟩) (v := .int .i64 0) hb1 (by go_simp) (by go_simp); obtain ⟨k, f, l⟩ := keep_later (a := ⟨w4.heap.size, 1, none⟩) (v := .int .i64 0) hb1 (by go_simp) (by go_simp)); clear hb1))
    go_wp2
    go_ret
    exact ⟨rfl, by (repeat (first | exact Below.refl _ _ | assumption | refine below_drewN ?_ _ | refine Below.drew ?_ | refine Below.setCell ?_ (by first | omega | (simp; done) | (simp; omega)) _ | refine Below.alloc ?_ (by first | omega | (simp; done) | (simp; omega)) _ | refine Below.trans ?_ (Below.mono (by assumption) (by first | omega | (simp; done) | (simp; omega)))))⟩
  · obtain ⟨k1, k2, k3, k4⟩ := addR_spec h1
    have H3 := Lib.hid (addR_zero k1)
    have H4 := Lib.hid (addR_back h1)
    obtain ⟨⟨x1, x2⟩, ⟨y1, y2⟩, _⟩ := ratOk_iff.1 k2
    clear h1 k4
    go_wp2_with fail
    refine (iRatAdd_any a b c d _ _ _ H1 _).mono ?_
    rintro e w2 ⟨rfl, hb1⟩
    have hz1 := hb1.size; (try simp at hz1); have hB1 : Below w.heap.size w w2 := (by refine Below.trans ?_ (Below.mono hb1 (by first | omega | (simp; done) | (simp; omega))); (repeat (first | exact Below.refl _ _ | assumption | refine below_drewN ?_ _ | refine Below.drew ?_ | refine Below.setCell ?_ (by first | omega | (simp; done) | (simp; omega)) _ | refine Below.alloc ?_ (by first | omega | (simp; done) | (simp; omega)) _ | refine Below.trans ?_ (Below.mono (by assumption) (by first | omega | (simp; done) | (simp; omega)))))); (obtain ⟨k, f, l⟩ := keep_later (a := ⟨w1.heap.size, 0, none⟩) (v := .int .i64 a) hb1 (by go_simp) (by go_simp); obtain ⟨k, f, l⟩ := keep_later (a := ⟨w1.heap.size, 1, none⟩) (v := .int .i64 b) hb1 (by go_simp) (by go_simp); obtain ⟨k, f, l⟩ := keep_later (a := ⟨w1.heap.size+1, 0, none⟩) (v := .int .i64 c) hb1 (by go_simp) (by go_simp); obtain ⟨k, f, l⟩ := keep_later (a := ⟨w1.heap.size+1, 1, none⟩) (v := .int .i64 d) hb1 (by go_simp) (by go_simp)); clear hb1
    go_wp2_with fail
    refine (sRatAdd_any a b c d _ _ _ H1 _).mono ?_
    rintro e w3 ⟨rfl, hb1⟩
    have hz1 := hb1.size; (try simp at hz1); have hB1 : Below w.heap.size w w3 := (by refine Below.trans ?_ (Below.mono hb1 (by first | omega | (simp; done) | (simp; omega))); (repeat (first | exact Below.refl _ _ | assumption | refine below_drewN ?_ _ | refine Below.drew ?_ | refine Below.setCell ?_ (by first | omega | (simp; done) | (simp; omega)) _ | refine Below.alloc ?_ (by first | omega | (simp; done) | (simp; omega)) _ | refine Below.trans ?_ (Below.mono (by assumption) (by first | omega | (simp; done) | (simp; omega)))))); (obtain ⟨k, f, l⟩ := keep_later (a := ⟨w1.heap.size, 0, none⟩) (v := .int .i64 a) hb1 (by go_simp) (by go_simp); obtain ⟨k, f, l⟩ := keep_later (a := ⟨w1.heap.size, 1, none⟩) (v := .int .i64 b) hb1 (by go_simp) (by go_simp); obtain ⟨k, f, l⟩ := keep_later (a := ⟨w1.heap.size+1, 0, none⟩) (v := .int .i64 c) hb1 (by go_simp) (by go_simp); obtain ⟨k, f, l⟩ := keep_later (a := ⟨w1.heap.size+1, 1, none⟩) (v := .int .i64 d) hb1 (by go_simp) (by go_simp); obtain ⟨k, f, l⟩ := keep_later (a := ⟨w2.heap.size, 0, none⟩) (v := .int .i64 x) hb1 (by go_simp) (by go_simp); obtain ⟨k, f, l⟩ := keep_later (a := ⟨w2.heap.size, 1, none⟩) (v := .int .i64 y) hb1 (by go_simp) (by go_simp)); clear hb1
    go_wp2_with fail
    refine (iRatAdd_any c d a b _ _ _ H2 _).mono ?_
    rintro e w4 ⟨rfl, hb1⟩
    have hz1 := hb1.size; (try simp at hz1); have hB1 : Below w.heap.size w w4 := (by refine Below.trans ?_ (Below.mono hb1 (by first | omega | (simp; done) | (simp; omega))); (repeat (first | exact Below.refl _ _ | assumption | refine below_drewN ?_ _ | refine Below.drew ?_ | refine Below.setCell ?_ (by first | omega | (simp; done) | (simp; omega)) _ | refine Below.alloc ?_ (by first | omega | (simp; done) | (simp; omega)) _ | refine Below.trans ?_ (Below.mono (by assumption) (by first | omega | (simp; done) | (simp; omega)))))); (obtain ⟨k, f, l⟩ := keep_later (a := ⟨w1.heap.size, 0, none⟩) (v := .int .i64 a) hb1 (by go_simp) (by go_simp); obtain ⟨k, f, l⟩ := keep_later (a := ⟨w1.heap.size, 1, none⟩) (v := .int .i64 b) hb1 (by go_simp) (by go_simp); obtain ⟨k, f, l⟩ := keep_later (a := ⟨w1.heap.size+1, 0, none⟩) (v := .int .i64 c) hb1 (by go_simp) (by go_simp); obtain ⟨k, f, l⟩ := keep_later (a := ⟨w1.heap.size+1, 1, none⟩) (v := .int .i64 d) hb1 (by go_simp) (by go_simp); obtain ⟨k, f, l⟩ := keep_later (a := ⟨w2.heap.size, 0, none⟩) (v := .int .i64 x) hb1 (by go_simp) (by go_simp); obtain ⟨k, f, l⟩ := keep_later (a := ⟨w2.heap.size, 1, none⟩) (v := .int .i64 y) hb1 (by go_simp) (by go_simp); obtain ⟨k, f, l⟩ := keep_later (a := ⟨w3.heap.size, 0, none⟩) (v := .int .i64 x) hb1 (by go_simp) (by go_simp); obtain ⟨k, f, l⟩ := keep_later (a := ⟨w3.heap.size, 1, none⟩) (v := .int .i64 y) hb1 (by go_simp) (by go_simp)); clear hb1
    go_wp2_with fail
    go_region_held3 (fun w' => w'.cell? ⟨w1.heap.size, 0, none⟩ = some (.int .i64 a) ∧ w'.cell? ⟨w1.heap.size, 1, none⟩ = some (.int .i64 b) ∧ w'.cell? ⟨w2.heap.size, 0, none⟩ = some (.int .i64 x) ∧ w'.cell? ⟨w2.heap.size, 1, none⟩ = some (.int .i64 y) ∧ w'.cell? ⟨w3.heap.size, 0, none⟩ = some (.int .i64 x) ∧ w'.cell? ⟨w3.heap.size, 1, none⟩ = some (.int .i64 y) ∧ w'.cell? ⟨w4.heap.size, 0, none⟩ = some (.int .i64 x) ∧ w'.cell? ⟨w4.heap.size, 1, none⟩ = some (.int .i64 y)) (simp [go_sem, World.cell?_alloc_past, *])
        (first
          | (go_at_call 17; refine (iRatOk_any _ _ _).mono ?_; rintro e w5 ⟨rfl, hb1⟩; have hz1 := hb1.size; (try simp at hz1); have hB1 : Below w.heap.size w w5 := (by refine Below.trans ?_ (Below.mono hb1 (by first | omega | (simp; done) | (simp; omega))); (repeat (first | exact Below.refl _ _ | assumption | refine below_drewN ?_ _ | refine Below.drew ?_ | refine Below.setCell ?_ (by first | omega | (simp; done) | (simp; omega)) _ | refine Below.alloc ?_ (by first | omega | (simp; done) | (simp; omega)) _ | refine Below.trans ?_ (Below.mono (by assumption) (by first | omega | (simp; done) | (simp; omega)))))); (obtain ⟨k, f, l⟩ := keep_later (a := ⟨w1.heap.size, 0, none⟩) (v := .int .i64 a) hb1 (by go_simp) (by go_simp); obtain ⟨k, f, l⟩ := keep_later (a := ⟨w1.heap.size, 1, none⟩) (v := .int .i64 b) hb1 (by go_simp) (by go_simp); obtain ⟨k, f, l⟩ := keep_later (a := ⟨w1.heap.size+1, 0, none⟩) (v := .int .i64 c) hb1 (by go_simp) (by go_simp); obtain ⟨k, f, l⟩ := keep_later (a := ⟨w1.heap.size+1, 1, none⟩) (v := .int .i64 d) hb1 (by go_simp) (by go_simp); obtain ⟨k, f, l⟩ := keep_later (a := ⟨w2.heap.size, 0, none⟩) (v := .int .i64 x) hb1 (by go_simp) (by go_simp); obtain ⟨k, f, l⟩ := keep_later (a := ⟨w2.heap.size, 1, none⟩) (v := .int .i64 y) hb1 (by go_simp) (by go_simp); obtain ⟨k, f, l⟩ := keep_later (a := ⟨w3.heap.size, 0, none⟩) (v := .int .i64 x) hb1 (by go_simp) (by go_simp); obtain ⟨k, f, l⟩ := keep_later (a := ⟨w3.heap.size, 1, none⟩) (v := .int .i64 y) hb1 (by go_simp) (by go_simp); obtain ⟨k, f, l⟩ := keep_later (a := ⟨w4.heap.size, 0, none⟩) (v := .int .i64 x) hb1 (by go_simp) (by go_simp); obtain ⟨k, f, l⟩ := keep_later (a := ⟨w4.heap.size, 1, none⟩) (v := .int .i64 y) hb1 (by go_simp) (by go_simp)); clear hb1)
          | (go_at_call 15; refine (sRatOk_any _ _ _).mono ?_; rintro e w5 ⟨rfl, hb1⟩; have hz1 := hb1.size; (try simp at hz1); have hB1 : Below w.heap.size w w5 := (by refine Below.trans ?_ (Below.mono hb1 (by first | omega | (simp; done) | (simp; omega))); (repeat (first | exact Below.refl _ _ | assumption | refine below_drewN ?_ _ | refine Below.drew ?_ | refine Below.setCell ?_ (by first | omega | (simp; done) | (simp; omega)) _ | refine Below.alloc ?_ (by first | omega | (simp; done) | (simp; omega)) _ | refine Below.trans ?_ (Below.mono (by assumption) (by first | omega | (simp; done) | (simp; omega)))))); (obtain ⟨k, f, l⟩ := keep_later (a := ⟨w1.heap.size, 0, none⟩) (v := .int .i64 a) hb1 (by go_simp) (by go_simp); obtain ⟨k, f, l⟩ := keep_later (a := ⟨w1.heap.size, 1, none⟩) (v := .int .i64 b) hb1 (by go_simp) (by go_simp); obtain ⟨k, f, l⟩ := keep_later (a := ⟨w1.heap.size+1, 0, none⟩) (v := .int .i64 c) hb1 (by go_simp) (by go_simp); obtain ⟨k, f, l⟩ := keep_later (a := ⟨w1.heap.size+1, 1, none⟩) (v := .int .i64 d) hb1 (by go_simp) (by go_simp); obtain ⟨k, f, l⟩ := keep_later (a := ⟨w2.heap.size, 0, none⟩) (v := .int .i64 x) hb1 (by go_simp) (by go_simp); obtain ⟨k, f, l⟩ := keep_later (a := ⟨w2.heap.size, 1, none⟩) (v := .int .i64 y) hb1 (by go_simp) (by go_simp); obtain ⟨k, f, l⟩ := keep_later (a := ⟨w3.heap.size, 0, none⟩) (v := .int .i64 x) hb1 (by go_simp) (by go_simp); obtain ⟨k, f, l⟩ := keep_later (a := ⟨w3.heap.size, 1, none⟩) (v := .int .i64 y) hb1 (by go_simp) (by go_simp); obtain ⟨k, f, l⟩ := keep_later (a := ⟨w4.heap.size, 0, none⟩) (v := .int .i64 x) hb1 (by go_simp) (by go_simp); obtain ⟨k, f, l⟩ := keep_later (a := ⟨w4.heap.size, 1, none⟩) (v := .int .i64 y) hb1 (by go_simp) (by go_simp)); clear hb1))
    have hz5 := hB1.size
    go_wp2_with fail
    refine (iRatAdd_any a b 0 1 _ _ _ H3 _).mono ?_
    rintro e w6 ⟨rfl, hb1⟩
    have hz1 := hb1.size; (try simp at hz1); have hB1 : Below w.heap.size w w6 := (by refine Below.trans ?_ (Below.mono hb1 (by first | omega | (simp; done) | (simp; omega))); (repeat (first | exact Below.refl _ _ | assumption | refine below_drewN ?_ _ | refine Below.drew ?_ | refine Below.setCell ?_ (by first | omega | (simp; done) | (simp; omega)) _ | refine Below.alloc ?_ (by first | omega | (simp; done) | (simp; omega)) _ | refine Below.trans ?_ (Below.mono (by assumption) (by first | omega | (simp; done) | (simp; omega)))))); (obtain ⟨k, f, l⟩ := keep_later (a := ⟨w1.heap.size, 0, none⟩) (v := .int .i64 a) hb1 (by go_simp) (by go_simp); obtain ⟨k, f, l⟩ := keep_later (a := ⟨w1.heap.size, 1, none⟩) (v := .int .i64 b) hb1 (by go_simp) (by go_simp); obtain ⟨k, f, l⟩ := keep_later (a := ⟨w1.heap.size+1, 0, none⟩) (v := .int .i64 c) hb1 (by go_simp) (by go_simp); obtain ⟨k, f, l⟩ := keep_later (a := ⟨w1.heap.size+1, 1, none⟩) (v := .int .i64 d) hb1 (by go_simp) (by go_simp); obtain ⟨k, f, l⟩ := keep_later (a := ⟨w2.heap.size, 0, none⟩) (v := .int .i64 x) hb1 (by go_simp) (by go_simp); obtain ⟨k, f, l⟩ := keep_later (a := ⟨w2.heap.size, 1, none⟩) (v := .int .i64 y) hb1 (by go_simp) (by go_simp)); clear hb1
    go_wp2_with fail
    refine (iRatAdd_any x y (-c) d _ _ _ H4 _).mono ?_
    rintro e w7 ⟨rfl, hb1⟩
    have hz1 := hb1.size; (try simp at hz1); have hB1 : Below w.heap.size w w7 := (by refine Below.trans ?_ (Below.mono hb1 (by first | omega | (simp; done) | (simp; omega))); (repeat (first | exact Below.refl _ _ | assumption | refine below_drewN ?_ _ | refine Below.drew ?_ | refine Below.setCell ?_ (by first | omega | (simp; done) | (simp; omega)) _ | refine Below.alloc ?_ (by first | omega | (simp; done) | (simp; omega)) _ | refine Below.trans ?_ (Below.mono (by assumption) (by first | omega | (simp; done) | (simp; omega)))))); (obtain ⟨k, f, l⟩ := keep_later (a := ⟨w1.heap.size, 0, none⟩) (v := .int .i64 a) hb1 (by go_simp) (by go_simp); obtain ⟨k, f, l⟩ := keep_later (a := ⟨w1.heap.size, 1, none⟩) (v := .int .i64 b) hb1 (by go_simp) (by go_simp); obtain ⟨k, f, l⟩ := keep_later (a := ⟨w2.heap.size, 0, none⟩) (v := .int .i64 x) hb1 (by go_simp) (by go_simp); obtain ⟨k, f, l⟩ := keep_later (a := ⟨w2.heap.size, 1, none⟩) (v := .int .i64 y) hb1 (by go_simp) (by go_simp); obtain ⟨k, f, l⟩ := keep_later (a := ⟨w6.heap.size, 0, none⟩) (v := .int .i64 a) hb1 (by go_simp) (by go_simp); obtain ⟨k, f, l⟩ := keep_later (a := ⟨w6.heap.size, 1, none⟩) (v := .int .i64 b) hb1 (by go_simp) (by go_simp)); clear hb1
    go_wp2_with fail
    refine (iRatOk_any _ _ _).mono ?_
    rintro e w8 ⟨rfl, hb1⟩
    have hz1 := hb1.size; (try simp at hz1); have hB1 : Below w.heap.size w w8 := (by refine Below.trans ?_ (Below.mono hb1 (by first | omega | (simp; done) | (simp; omega))); (repeat (first | exact Below.refl _ _ | assumption | refine below_drewN ?_ _ | refine Below.drew ?_ | refine Below.setCell ?_ (by first | omega | (simp; done) | (simp; omega)) _ | refine Below.alloc ?_ (by first | omega | (simp; done) | (simp; omega)) _ | refine Below.trans ?_ (Below.mono (by assumption) (by first | omega | (simp; done) | (simp; omega)))))); (obtain ⟨k, f, l⟩ := keep_later (a := ⟨w1.heap.size, 0, none⟩) (v := .int .i64 a) hb1 (by go_simp) (by go_simp); obtain ⟨k, f, l⟩ := keep_later (a := ⟨w1.heap.size, 1, none⟩) (v := .int .i64 b) hb1 (by go_simp) (by go_simp); obtain ⟨k, f, l⟩ := keep_later (a := ⟨w6.heap.size, 0, none⟩) (v := .int .i64 a) hb1 (by go_simp) (by go_simp); obtain ⟨k, f, l⟩ := keep_later (a := ⟨w6.heap.size, 1, none⟩) (v := .int .i64 b) hb1 (by go_simp) (by go_simp); obtain ⟨k, f, l⟩ := keep_later (a := ⟨w7.heap.size, 0, none⟩) (v := .int .i64 a) hb1 (by go_simp) (by go_simp); obtain ⟨k, f, l⟩ := keep_later (a := ⟨w7.heap.size, 1, none⟩) (v := .int .i64 b) hb1 (by go_simp) (by go_simp)); clear hb1
    go_wp2
    go_ret
    exact ⟨rfl, by (repeat (first | exact Below.refl _ _ | assumption | refine below_drewN ?_ _ | refine Below.drew ?_ | refine Below.setCell ?_ (by first | omega | (simp; done) | (simp; omega)) _ | refine Below.alloc ?_ (by first | omega | (simp; done) | (simp; omega)) _ | refine Below.trans ?_ (Below.mono (by assumption) (by first | omega | (simp; done) | (simp; omega)))))⟩

theorem fnRatAdd_open {H : Type} {enc : TypeId × Value → H} {W : World} {base : Nat} {args : Array Value} {ds : List (DataW H)} {p : List MemPlace}
    (hval : ∀ (j : Nat) t v, #[35][j]? = some t → args[j]? = some v → Value.okWide Try.prog W .any base t v)
    (hA : DataW.TrodAll enc Try.prog W 0 (fun _ => true) true #[35].toList args.toList ds p) :
    Calls Try.prog 14 args W fun e w' => e = .returned (.bool true) ∧ Below W.heap.size W w' := by
  obtain ⟨v0, d0, rfl, rfl, h0⟩ := trodAll_one hA
  obtain ⟨A, cap, bs, rfl, hc⟩ := open_bytes (hval 0 _ v0 rfl rfl) h0
  exact fnRatAdd_walk hc
set_option maxRecDepth 100000 in
theorem fnRatAdd_lifted (os : Os) (started : os.Started) (H : Type) (enc : TypeId × Value → H) :
    ReturnsInHanded {} Try.checked os 14 .any (Rows.fnRatAddSpec.pre6 enc Try.prog Try.f14 Rows.fnRatAddRow.domain false) (Rows.fnRatAddSpec.post enc Try.prog Try.f14 false true false false) := by
  refine returnsInHanded_of_change (C := Try.checked) own started (by kernel_rfl) Try.func14
    (ChangeSpec.witness6 (enc := enc) (C := Try.checked) false ⟨#[], #[.slice none 0 0], []⟩ 8 (by kernel_rfl) (by kernel_rfl) (by kernel_rfl) (by kernel_rfl)) ?_
  intro W base args ds gs before hval0 hW hcnd _
  have hval : ∀ (j : Nat) t v, Try.f14.params[j]? = some t → args[j]? = some v → Value.okWide Try.prog W .any base t v := hval0
  refine law_post hW rfl rfl ?_ ?_ ?_
  · have hr : (Try.f14.params.toList.all fun t => Try.prog.readableRec t && decide (t < Try.prog.types.size)) = true := by kernel_rfl
    intro t ht
    have := List.all_eq_true.1 hr t ht
    simpa using this
  · intro ds hl
    match ds, hl with
    | [d], _ => rfl
  · obtain ⟨p, q, hA0, _⟩ := hW
    have hA : DataW.TrodAll enc Try.prog W 0 (fun _ => true) true Try.f14.params.toList args.toList ds p := hA0
    clear hA0 hval0
    rw [Try.params14] at hA hval
    exact fnRatAdd_open hval hA

theorem fnRatAdd_facts : joinedFacts Try.prog 14 Try.f14 Rows.fnRatAddSpec Rows.fnRatAddRow = true :=
  joined_of _ _ _ _ _ (by kernel_rfl) laidOut mapsRowed_ok (by kernel_rfl) (by kernel_rfl) (by kernel_rfl) stops_eq (by kernel_rfl) stopKnobs_eq (by kernel_rfl) (by kernel_rfl) (by kernel_rfl) (by kernel_rfl) (by kernel_rfl) (by kernel_rfl) (by kernel_rfl) (by kernel_rfl) (by kernel_rfl) (by kernel_rfl) (by kernel_rfl) (by kernel_rfl) (by kernel_rfl) (plainKeys_eq _ rfl) (by kernel_rfl) heard_ok mayEnter_ok (lifted_eq _ rfl) (make_eq _ rfl) (by kernel_rfl) (by kernel_rfl) (by kernel_rfl) (by kernel_rfl)

theorem fnRatAdd_holds : Rows.FnRatAddSaid :=
  OpenClaim.holds_of_wide 14 Try.f14 rfl rfl rfl rfl rfl rfl rfl ⟨rfl, rfl, rfl, rfl, rfl⟩ rfl rfl rfl rfl rfl (by kernel_rfl) Try.func14 fnRatAdd_facts
    (of_decide_eq_true (by kernel_rfl)) (by unfold Func.isWrapper; first | (rw [if_pos (by decide +kernel)]; kernel_rfl) | (rw [if_neg (by decide +kernel)]; exact ⟨rfl, rfl⟩))
    (fun os started H enc _ => fnRatAdd_lifted os started H enc)
#print axioms fnRatAdd_holds
end Go.Proofs.Ytpefkhcmfapmnaa

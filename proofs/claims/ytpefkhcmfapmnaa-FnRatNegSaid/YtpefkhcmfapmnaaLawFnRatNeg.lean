/- 'laws.FnRatNeg': for every input the call returns true and leaves its arguments as they were. No condition. -/
import Derived.Test.YtpefkhcmfapmnaaS
import Derived.Test.YtpefkhcmfapmnaaL
import Derived.Test.YtpefkhcmfapmnaaM
import Derived.Test.YtpefkhcmfapmnaaG
namespace Go.Proofs.Ytpefkhcmfapmnaa
open Go.ChangeShapes Go.WideShapes Go.ChangeAt Go.RowKit
set_option linter.unusedSimpArgs false
set_option linter.unusedVariables false

theorem okAs (n d : Int) (b : Bool) (h : ratOk n d = b) (w : World) :
    Calls Try.prog 17 #[.agg #[.int .i64 n, .int .i64 d]] w fun e w' => e = .returned (.bool b) ∧ Below w.heap.size w w' := by
  subst h; exact iRatOk_any n d w
theorem lessAs (a b c d : Int) (t : Bool) (h : lessR a b c d = t) (w : World) :
    Calls Try.prog 19 #[.agg #[.int .i64 a, .int .i64 b], .agg #[.int .i64 c, .int .i64 d]] w fun e w' => e = .returned (.bool t) ∧ Below w.heap.size w w' := by
  subst h; exact iRatLess_any a b c d w
theorem fnRatNeg_long {A : Option Addr} {cap : Nat} {bs : List UInt8} {w : World} (hl : ¬ bs.length ≤ 1048576) :
    Calls Try.prog 12 #[.slice A bs.length cap] w fun e w' => e = .returned (.bool true) ∧ Below w.heap.size w w' := by
  go_enter Try.func12, Try.ntmps12
  go_wp2
  go_ret
  exact ⟨rfl, Below.refl _ _⟩
set_option maxHeartbeats 1000000 in
theorem fnRatNeg_walk {A : Option Addr} {cap : Nat} {bs : List UInt8} {w : World} (h : Code8 w A cap bs) :
    Calls Try.prog 12 #[.slice A bs.length cap] w fun e w' => e = .returned (.bool true) ∧ Below w.heap.size w w' := by
  by_cases hl0 : ¬ bs.length ≤ 1048576
  · exact fnRatNeg_long hl0
  have hl : bs.length ≤ 1048576 := by omega
  go_enter Try.func12, Try.ntmps12
  go_wp2_with fail
  refine (DrawRatOk_any h hl).mono ?_
  rintro e w1 ⟨n, d, rfl, hnd, hb1⟩
  have hz1 := hb1.size
  have hB1 : Below w.heap.size w w1 := hb1
  clear hb1
  cases hk : ratOk n d
  · go_wp2_with fail
    refine (iRatOk_any _ _ _).mono ?_
    rintro e w2 ⟨rfl, hb1⟩
    have hz1 := hb1.size; (try simp at hz1); have hB1 : Below w.heap.size w w2 := (by refine Below.trans ?_ (Below.mono hb1 (by first | omega | (simp; done) | (simp; omega))); (repeat (first | exact Below.refl _ _ | assumption | refine below_drewN ?_ _ | refine Below.drew ?_ | refine Below.setCell ?_ (by first | omega | (simp; done) | (simp; omega)) _ | refine Below.alloc ?_ (by first | omega | (simp; done) | (simp; omega)) _ | refine Below.trans ?_ (Below.mono (by assumption) (by first | omega | (simp; done) | (simp; omega)))))); obtain ⟨k, f, l⟩ := keep_later (a := ⟨w1.heap.size, 0, none⟩) (v := .int .i64 n) hb1 (by go_simp) (by go_simp); obtain ⟨k, f, l⟩ := keep_later (a := ⟨w1.heap.size, 1, none⟩) (v := .int .i64 d) hb1 (by go_simp) (by go_simp); clear hb1
    go_wp2_with fail
    refine (sRatOk_any _ _ _).mono ?_
    rintro e w3 ⟨rfl, hb1⟩
    have hz1 := hb1.size; (try simp at hz1); have hB1 : Below w.heap.size w w3 := (by refine Below.trans ?_ (Below.mono hb1 (by first | omega | (simp; done) | (simp; omega))); (repeat (first | exact Below.refl _ _ | assumption | refine below_drewN ?_ _ | refine Below.drew ?_ | refine Below.setCell ?_ (by first | omega | (simp; done) | (simp; omega)) _ | refine Below.alloc ?_ (by first | omega | (simp; done) | (simp; omega)) _ | refine Below.trans ?_ (Below.mono (by assumption) (by first | omega | (simp; done) | (simp; omega)))))); obtain ⟨k, f, l⟩ := keep_later (a := ⟨w1.heap.size, 0, none⟩) (v := .int .i64 n) hb1 (by go_simp) (by go_simp); obtain ⟨k, f, l⟩ := keep_later (a := ⟨w1.heap.size, 1, none⟩) (v := .int .i64 d) hb1 (by go_simp) (by go_simp); clear hb1
    go_wp2_with fail
    refine (sRatOk_any _ _ _).mono ?_
    rintro e w4 ⟨rfl, hb1⟩
    have hz1 := hb1.size; (try simp at hz1); have hB1 : Below w.heap.size w w4 := (by refine Below.trans ?_ (Below.mono hb1 (by first | omega | (simp; done) | (simp; omega))); (repeat (first | exact Below.refl _ _ | assumption | refine below_drewN ?_ _ | refine Below.drew ?_ | refine Below.setCell ?_ (by first | omega | (simp; done) | (simp; omega)) _ | refine Below.alloc ?_ (by first | omega | (simp; done) | (simp; omega)) _ | refine Below.trans ?_ (Below.mono (by assumption) (by first | omega | (simp; done) | (simp; omega)))))); skip; clear hb1
    go_wp2
    go_ret
    exact ⟨rfl, by (repeat (first | exact Below.refl _ _ | assumption | refine below_drewN ?_ _ | refine Below.drew ?_ | refine Below.setCell ?_ (by first | omega | (simp; done) | (simp; omega)) _ | refine Below.alloc ?_ (by first | omega | (simp; done) | (simp; omega)) _ | refine Below.trans ?_ (Below.mono (by assumption) (by first | omega | (simp; done) | (simp; omega)))))⟩
  have hk2 := ratOk_neg hk
  have H1 := Lib.hid (neg_add hk)
  have H2 := Lib.hid (neg_mul hk)
  obtain ⟨hl1, hl2⟩ := less_neg hk
  obtain ⟨⟨x1, x2⟩, ⟨y1, y2⟩, _⟩ := ratOk_iff.1 hk
  rcases Int.lt_trichotomy n 0 with h0 | h0 | h0
  · have q1 : lessR n d (-n) d = true := by rw [hl1]; simpa using h0
    have q2 : lessR (-n) d n d = false := by rw [hl2]; simp; omega
    have q3 : (n != 0) = true := by simp; omega
    clear hl1 hl2
    have cok := Lib.hid (fun W => okAs (-n) d true hk2 W)
    have cl1 := Lib.hid (fun W => lessAs n d (-n) d true (by first | exact q1 | rfl) W)
    have cl2 := Lib.hid (fun W => lessAs (-n) d n d false (by first | exact q2 | rfl) W)
    go_wp2_with fail
    refine (iRatOk_any _ _ _).mono ?_
    rintro e w2 ⟨rfl, hb1⟩
    have hz1 := hb1.size; (try simp at hz1); have hB1 : Below w.heap.size w w2 := (by refine Below.trans ?_ (Below.mono hb1 (by first | omega | (simp; done) | (simp; omega))); (repeat (first | exact Below.refl _ _ | assumption | refine below_drewN ?_ _ | refine Below.drew ?_ | refine Below.setCell ?_ (by first | omega | (simp; done) | (simp; omega)) _ | refine Below.alloc ?_ (by first | omega | (simp; done) | (simp; omega)) _ | refine Below.trans ?_ (Below.mono (by assumption) (by first | omega | (simp; done) | (simp; omega)))))); obtain ⟨k, f, l⟩ := keep_later (a := ⟨w1.heap.size, 0, none⟩) (v := .int .i64 n) hb1 (by go_simp) (by go_simp); obtain ⟨k, f, l⟩ := keep_later (a := ⟨w1.heap.size, 1, none⟩) (v := .int .i64 d) hb1 (by go_simp) (by go_simp); clear hb1
    go_wp2_with fail
    refine (sRatOk_any _ _ _).mono ?_
    rintro e w3 ⟨rfl, hb1⟩
    have hz1 := hb1.size; (try simp at hz1); have hB1 : Below w.heap.size w w3 := (by refine Below.trans ?_ (Below.mono hb1 (by first | omega | (simp; done) | (simp; omega))); (repeat (first | exact Below.refl _ _ | assumption | refine below_drewN ?_ _ | refine Below.drew ?_ | refine Below.setCell ?_ (by first | omega | (simp; done) | (simp; omega)) _ | refine Below.alloc ?_ (by first | omega | (simp; done) | (simp; omega)) _ | refine Below.trans ?_ (Below.mono (by assumption) (by first | omega | (simp; done) | (simp; omega)))))); obtain ⟨k, f, l⟩ := keep_later (a := ⟨w1.heap.size, 0, none⟩) (v := .int .i64 n) hb1 (by go_simp) (by go_simp); obtain ⟨k, f, l⟩ := keep_later (a := ⟨w1.heap.size, 1, none⟩) (v := .int .i64 d) hb1 (by go_simp) (by go_simp); clear hb1
    go_wp2_with fail
    refine (iRatAdd_any n d (-n) d _ _ _ H1 _).mono ?_
    rintro e w4 ⟨rfl, hb1⟩
    have hz1 := hb1.size; (try simp at hz1); have hB1 : Below w.heap.size w w4 := (by refine Below.trans ?_ (Below.mono hb1 (by first | omega | (simp; done) | (simp; omega))); (repeat (first | exact Below.refl _ _ | assumption | refine below_drewN ?_ _ | refine Below.drew ?_ | refine Below.setCell ?_ (by first | omega | (simp; done) | (simp; omega)) _ | refine Below.alloc ?_ (by first | omega | (simp; done) | (simp; omega)) _ | refine Below.trans ?_ (Below.mono (by assumption) (by first | omega | (simp; done) | (simp; omega)))))); (obtain ⟨k, f, l⟩ := keep_later (a := ⟨w1.heap.size, 0, none⟩) (v := .int .i64 n) hb1 (by go_simp) (by go_simp); obtain ⟨k, f, l⟩ := keep_later (a := ⟨w1.heap.size, 1, none⟩) (v := .int .i64 d) hb1 (by go_simp) (by go_simp); obtain ⟨k, f, l⟩ := keep_later (a := ⟨w3.heap.size, 0, none⟩) (v := .int .i64 (-n)) hb1 (by go_simp) (by go_simp); obtain ⟨k, f, l⟩ := keep_later (a := ⟨w3.heap.size, 1, none⟩) (v := .int .i64 d) hb1 (by go_simp) (by go_simp)); clear hb1
    go_wp2_with fail
    refine (iRatMul_any n d (-1) 1 _ _ _ H2 _).mono ?_
    rintro e w5 ⟨rfl, hb1⟩
    have hz1 := hb1.size; (try simp at hz1); have hB1 : Below w.heap.size w w5 := (by refine Below.trans ?_ (Below.mono hb1 (by first | omega | (simp; done) | (simp; omega))); (repeat (first | exact Below.refl _ _ | assumption | refine below_drewN ?_ _ | refine Below.drew ?_ | refine Below.setCell ?_ (by first | omega | (simp; done) | (simp; omega)) _ | refine Below.alloc ?_ (by first | omega | (simp; done) | (simp; omega)) _ | refine Below.trans ?_ (Below.mono (by assumption) (by first | omega | (simp; done) | (simp; omega)))))); (obtain ⟨k, f, l⟩ := keep_later (a := ⟨w1.heap.size, 0, none⟩) (v := .int .i64 n) hb1 (by go_simp) (by go_simp); obtain ⟨k, f, l⟩ := keep_later (a := ⟨w1.heap.size, 1, none⟩) (v := .int .i64 d) hb1 (by go_simp) (by go_simp); obtain ⟨k, f, l⟩ := keep_later (a := ⟨w3.heap.size, 0, none⟩) (v := .int .i64 (-n)) hb1 (by go_simp) (by go_simp); obtain ⟨k, f, l⟩ := keep_later (a := ⟨w3.heap.size, 1, none⟩) (v := .int .i64 d) hb1 (by go_simp) (by go_simp); obtain ⟨k, f, l⟩ := keep_later (a := ⟨w4.heap.size, 0, none⟩) (v := .int .i64 0) hb1 (by go_simp) (by go_simp); obtain ⟨k, f, l⟩ := keep_later (a := ⟨w4.heap.size, 1, none⟩) (v := .int .i64 1) hb1 (by go_simp) (by go_simp)); clear hb1
    go_wp2_with fail
    refine wp_region_grown (by kernel_rfl) (by kernel_rfl) ?_
    (refine quiet_with (a := ⟨w1.heap.size, 0, none⟩) (v := .int .i64 n) (by go_simp) ?_; intro g; refine quiet_with (a := ⟨w1.heap.size, 1, none⟩) (v := .int .i64 d) (by go_simp) ?_; intro g; refine quiet_with (a := ⟨w3.heap.size, 0, none⟩) (v := .int .i64 (-n)) (by go_simp) ?_; intro g; refine quiet_with (a := ⟨w3.heap.size, 1, none⟩) (v := .int .i64 d) (by go_simp) ?_; intro g; refine quiet_with (a := ⟨w4.heap.size, 0, none⟩) (v := .int .i64 0) (by go_simp) ?_; intro g; refine quiet_with (a := ⟨w4.heap.size, 1, none⟩) (v := .int .i64 1) (by go_simp) ?_; intro g; refine quiet_with (a := ⟨w5.heap.size, 0, none⟩) (v := .int .i64 (-n)) (by go_simp) ?_; intro g; refine quiet_with (a := ⟨w5.heap.size, 1, none⟩) (v := .int .i64 d) (by go_simp) ?_; intro g)
    repeat (go_big_quiet_step ((first | (go_at_call 17; exact grown_of (cok.out _)) | (go_at_call 19; (with_reducible exact grown_of (cl1.out _))) | (go_at_call 19; (with_reducible exact grown_of (cl2.out _))))))
    refine wpQuiet_nil ?_
    rintro _ ⟨⟨w6, hB6⟩, rfl⟩
    go_wp2
    go_ret
    exact ⟨rfl, by (repeat (first | exact Below.refl _ _ | assumption | refine below_drewN ?_ _ | refine Below.drew ?_ | refine Below.setCell ?_ (by first | omega | (simp; done) | (simp; omega)) _ | refine Below.alloc ?_ (by first | omega | (simp; done) | (simp; omega)) _ | refine Below.trans ?_ (Below.mono (by assumption) (by first | omega | (simp; done) | (simp; omega)))))⟩
  · have q1 : lessR n d (-n) d = false := by rw [hl1]; simp; omega
    have q2 : lessR (-n) d n d = false := by rw [hl2]; simp; omega
    have q3 : (n != 0) = false := by simp; omega
    have H0 := Lib.hid h0
    clear hl1 hl2 h0
    have cok := Lib.hid (fun W => okAs (-n) d true hk2 W)
    have cl1 := Lib.hid (fun W => lessAs n d (-n) d false (by first | exact q1 | rfl) W)
    have cl2 := Lib.hid (fun W => lessAs (-n) d n d false (by first | exact q2 | rfl) W)
    go_wp2_with fail
    refine (iRatOk_any _ _ _).mono ?_
    rintro e w2 ⟨rfl, hb1⟩
    have hz1 := hb1.size; (try simp at hz1); have hB1 : Below w.heap.size w w2 := (by refine Below.trans ?_ (Below.mono hb1 (by first | omega | (simp; done) | (simp; omega))); (repeat (first | exact Below.refl _ _ | assumption | refine below_drewN ?_ _ | refine Below.drew ?_ | refine Below.setCell ?_ (by first | omega | (simp; done) | (simp; omega)) _ | refine Below.alloc ?_ (by first | omega | (simp; done) | (simp; omega)) _ | refine Below.trans ?_ (Below.mono (by assumption) (by first | omega | (simp; done) | (simp; omega)))))); obtain ⟨k, f, l⟩ := keep_later (a := ⟨w1.heap.size, 0, none⟩) (v := .int .i64 n) hb1 (by go_simp) (by go_simp); obtain ⟨k, f, l⟩ := keep_later (a := ⟨w1.heap.size, 1, none⟩) (v := .int .i64 d) hb1 (by go_simp) (by go_simp); clear hb1
    go_wp2_with fail
    refine (sRatOk_any _ _ _).mono ?_
    rintro e w3 ⟨rfl, hb1⟩
    have hz1 := hb1.size; (try simp at hz1); have hB1 : Below w.heap.size w w3 := (by refine Below.trans ?_ (Below.mono hb1 (by first | omega | (simp; done) | (simp; omega))); (repeat (first | exact Below.refl _ _ | assumption | refine below_drewN ?_ _ | refine Below.drew ?_ | refine Below.setCell ?_ (by first | omega | (simp; done) | (simp; omega)) _ | refine Below.alloc ?_ (by first | omega | (simp; done) | (simp; omega)) _ | refine Below.trans ?_ (Below.mono (by assumption) (by first | omega | (simp; done) | (simp; omega)))))); obtain ⟨k, f, l⟩ := keep_later (a := ⟨w1.heap.size, 0, none⟩) (v := .int .i64 n) hb1 (by go_simp) (by go_simp); obtain ⟨k, f, l⟩ := keep_later (a := ⟨w1.heap.size, 1, none⟩) (v := .int .i64 d) hb1 (by go_simp) (by go_simp); clear hb1
    go_wp2_with fail
    refine (iRatAdd_any n d (-n) d _ _ _ H1 _).mono ?_
    rintro e w4 ⟨rfl, hb1⟩
    have hz1 := hb1.size; (try simp at hz1); have hB1 : Below w.heap.size w w4 := (by refine Below.trans ?_ (Below.mono hb1 (by first | omega | (simp; done) | (simp; omega))); (repeat (first | exact Below.refl _ _ | assumption | refine below_drewN ?_ _ | refine Below.drew ?_ | refine Below.setCell ?_ (by first | omega | (simp; done) | (simp; omega)) _ | refine Below.alloc ?_ (by first | omega | (simp; done) | (simp; omega)) _ | refine Below.trans ?_ (Below.mono (by assumption) (by first | omega | (simp; done) | (simp; omega)))))); (obtain ⟨k, f, l⟩ := keep_later (a := ⟨w1.heap.size, 0, none⟩) (v := .int .i64 n) hb1 (by go_simp) (by go_simp); obtain ⟨k, f, l⟩ := keep_later (a := ⟨w1.heap.size, 1, none⟩) (v := .int .i64 d) hb1 (by go_simp) (by go_simp); obtain ⟨k, f, l⟩ := keep_later (a := ⟨w3.heap.size, 0, none⟩) (v := .int .i64 (-n)) hb1 (by go_simp) (by go_simp); obtain ⟨k, f, l⟩ := keep_later (a := ⟨w3.heap.size, 1, none⟩) (v := .int .i64 d) hb1 (by go_simp) (by go_simp)); clear hb1
    go_wp2_with fail
    refine (iRatMul_any n d (-1) 1 _ _ _ H2 _).mono ?_
    rintro e w5 ⟨rfl, hb1⟩
    have hz1 := hb1.size; (try simp at hz1); have hB1 : Below w.heap.size w w5 := (by refine Below.trans ?_ (Below.mono hb1 (by first | omega | (simp; done) | (simp; omega))); (repeat (first | exact Below.refl _ _ | assumption | refine below_drewN ?_ _ | refine Below.drew ?_ | refine Below.setCell ?_ (by first | omega | (simp; done) | (simp; omega)) _ | refine Below.alloc ?_ (by first | omega | (simp; done) | (simp; omega)) _ | refine Below.trans ?_ (Below.mono (by assumption) (by first | omega | (simp; done) | (simp; omega)))))); (obtain ⟨k, f, l⟩ := keep_later (a := ⟨w1.heap.size, 0, none⟩) (v := .int .i64 n) hb1 (by go_simp) (by go_simp); obtain ⟨k, f, l⟩ := keep_later (a := ⟨w1.heap.size, 1, none⟩) (v := .int .i64 d) hb1 (by go_simp) (by go_simp); obtain ⟨k, f, l⟩ := keep_later (a := ⟨w3.heap.size, 0, none⟩) (v := .int .i64 (-n)) hb1 (by go_simp) (by go_simp); obtain ⟨k, f, l⟩ := keep_later (a := ⟨w3.heap.size, 1, none⟩) (v := .int .i64 d) hb1 (by go_simp) (by go_simp); obtain ⟨k, f, l⟩ := keep_later (a := ⟨w4.heap.size, 0, none⟩) (v := .int .i64 0) hb1 (by go_simp) (by go_simp); obtain ⟨k, f, l⟩ := keep_later (a := ⟨w4.heap.size, 1, none⟩) (v := .int .i64 1) hb1 (by go_simp) (by go_simp)); clear hb1
    go_wp2_with fail
    refine wp_region_grown (by kernel_rfl) (by kernel_rfl) ?_
    (refine quiet_with (a := ⟨w1.heap.size, 0, none⟩) (v := .int .i64 n) (by go_simp) ?_; intro g; refine quiet_with (a := ⟨w1.heap.size, 1, none⟩) (v := .int .i64 d) (by go_simp) ?_; intro g; refine quiet_with (a := ⟨w3.heap.size, 0, none⟩) (v := .int .i64 (-n)) (by go_simp) ?_; intro g; refine quiet_with (a := ⟨w3.heap.size, 1, none⟩) (v := .int .i64 d) (by go_simp) ?_; intro g; refine quiet_with (a := ⟨w4.heap.size, 0, none⟩) (v := .int .i64 0) (by go_simp) ?_; intro g; refine quiet_with (a := ⟨w4.heap.size, 1, none⟩) (v := .int .i64 1) (by go_simp) ?_; intro g; refine quiet_with (a := ⟨w5.heap.size, 0, none⟩) (v := .int .i64 (-n)) (by go_simp) ?_; intro g; refine quiet_with (a := ⟨w5.heap.size, 1, none⟩) (v := .int .i64 d) (by go_simp) ?_; intro g)
    repeat (go_big_quiet_step ((first | (go_at_call 17; exact grown_of (cok.out _)) | (go_at_call 19; (with_reducible exact grown_of (cl1.out _))) | (go_at_call 19; (with_reducible exact grown_of (cl2.out _))))))
    refine wpQuiet_nil ?_
    rintro _ ⟨⟨w6, hB6⟩, rfl⟩
    go_wp2
    go_ret
    exact ⟨rfl, by (repeat (first | exact Below.refl _ _ | assumption | refine below_drewN ?_ _ | refine Below.drew ?_ | refine Below.setCell ?_ (by first | omega | (simp; done) | (simp; omega)) _ | refine Below.alloc ?_ (by first | omega | (simp; done) | (simp; omega)) _ | refine Below.trans ?_ (Below.mono (by assumption) (by first | omega | (simp; done) | (simp; omega)))))⟩
  · have q1 : lessR n d (-n) d = false := by rw [hl1]; simp; omega
    have q2 : lessR (-n) d n d = true := by rw [hl2]; simpa using h0
    have q3 : (n != 0) = true := by simp; omega
    clear hl1 hl2
    have cok := Lib.hid (fun W => okAs (-n) d true hk2 W)
    have cl1 := Lib.hid (fun W => lessAs n d (-n) d false (by first | exact q1 | rfl) W)
    have cl2 := Lib.hid (fun W => lessAs (-n) d n d true (by first | exact q2 | rfl) W)
    go_wp2_with fail
    refine (iRatOk_any _ _ _).mono ?_
    rintro e w2 ⟨rfl, hb1⟩
    have hz1 := hb1.size; (try simp at hz1); have hB1 : Below w.heap.size w w2 := (by refine Below.trans ?_ (Below.mono hb1 (by first | omega | (simp; done) | (simp; omega))); (repeat (first | exact Below.refl _ _ | assumption | refine below_drewN ?_ _ | refine Below.drew ?_ | refine Below.setCell ?_ (by first | omega | (simp; done) | (simp; omega)) _ | refine Below.alloc ?_ (by first | omega | (simp; done) | (simp; omega)) _ | refine Below.trans ?_ (Below.mono (by assumption) (by first | omega | (simp; done) | (simp; omega)))))); obtain ⟨k, f, l⟩ := keep_later (a := ⟨w1.heap.size, 0, none⟩) (v := .int .i64 n) hb1 (by go_simp) (by go_simp); obtain ⟨k, f, l⟩ := keep_later (a := ⟨w1.heap.size, 1, none⟩) (v := .int .i64 d) hb1 (by go_simp) (by go_simp); clear hb1
    go_wp2_with fail
    refine (sRatOk_any _ _ _).mono ?_
    rintro e w3 ⟨rfl, hb1⟩
    have hz1 := hb1.size; (try simp at hz1); have hB1 : Below w.heap.size w w3 := (by refine Below.trans ?_ (Below.mono hb1 (by first | omega | (simp; done) | (simp; omega))); (repeat (first | exact Below.refl _ _ | assumption | refine below_drewN ?_ _ | refine Below.drew ?_ | refine Below.setCell ?_ (by first | omega | (simp; done) | (simp; omega)) _ | refine Below.alloc ?_ (by first | omega | (simp; done) | (simp; omega)) _ | refine Below.trans ?_ (Below.mono (by assumption) (by first | omega | (simp; done) | (simp; omega)))))); obtain ⟨k, f, l⟩ := keep_later (a := ⟨w1.heap.size, 0, none⟩) (v := .int .i64 n) hb1 (by go_simp) (by go_simp); obtain ⟨k, f, l⟩ := keep_later (a := ⟨w1.heap.size, 1, none⟩) (v := .int .i64 d) hb1 (by go_simp) (by go_simp); clear hb1
    go_wp2_with fail
    refine (iRatAdd_any n d (-n) d _ _ _ H1 _).mono ?_
    rintro e w4 ⟨rfl, hb1⟩
    have hz1 := hb1.size; (try simp at hz1); have hB1 : Below w.heap.size w w4 := (by refine Below.trans ?_ (Below.mono hb1 (by first | omega | (simp; done) | (simp; omega))); (repeat (first | exact Below.refl _ _ | assumption | refine below_drewN ?_ _ | refine Below.drew ?_ | refine Below.setCell ?_ (by first | omega | (simp; done) | (simp; omega)) _ | refine Below.alloc ?_ (by first | omega | (simp; done) | (simp; omega)) _ | refine Below.trans ?_ (Below.mono (by assumption) (by first | omega | (simp; done) | (simp; omega)))))); (obtain ⟨k, f, l⟩ := keep_later (a := ⟨w1.heap.size, 0, none⟩) (v := .int .i64 n) hb1 (by go_simp) (by go_simp); obtain ⟨k, f, l⟩ := keep_later (a := ⟨w1.heap.size, 1, none⟩) (v := .int .i64 d) hb1 (by go_simp) (by go_simp); obtain ⟨k, f, l⟩ := keep_later (a := ⟨w3.heap.size, 0, none⟩) (v := .int .i64 (-n)) hb1 (by go_simp) (by go_simp); obtain ⟨k, f, l⟩ := keep_later (a := ⟨w3.heap.size, 1, none⟩) (v := .int .i64 d) hb1 (by go_simp) (by go_simp)); clear hb1
    go_wp2_with fail
    refine (iRatMul_any n d (-1) 1 _ _ _ H2 _).mono ?_
    rintro e w5 ⟨rfl, hb1⟩
    have hz1 := hb1.size; (try simp at hz1); have hB1 : Below w.heap.size w w5 := (by refine Below.trans ?_ (Below.mono hb1 (by first | omega | (simp; done) | (simp; omega))); (repeat (first | exact Below.refl _ _ | assumption | refine below_drewN ?_ _ | refine Below.drew ?_ | refine Below.setCell ?_ (by first | omega | (simp; done) | (simp; omega)) _ | refine Below.alloc ?_ (by first | omega | (simp; done) | (simp; omega)) _ | refine Below.trans ?_ (Below.mono (by assumption) (by first | omega | (simp; done) | (simp; omega)))))); (obtain ⟨k, f, l⟩ := keep_later (a := ⟨w1.heap.size, 0, none⟩) (v := .int .i64 n) hb1 (by go_simp) (by go_simp); obtain ⟨k, f, l⟩ := keep_later (a := ⟨w1.heap.size, 1, none⟩) (v := .int .i64 d) hb1 (by go_simp) (by go_simp); obtain ⟨k, f, l⟩ := keep_later (a := ⟨w3.heap.size, 0, none⟩) (v := .int .i64 (-n)) hb1 (by go_simp) (by go_simp); obtain ⟨k, f, l⟩ := keep_later (a := ⟨w3.heap.size, 1, none⟩) (v := .int .i64 d) hb1 (by go_simp) (by go_simp); obtain ⟨k, f, l⟩ := keep_later (a := ⟨w4.heap.size, 0, none⟩) (v := .int .i64 0) hb1 (by go_simp) (by go_simp); obtain ⟨k, f, l⟩ := keep_later (a := ⟨w4.heap.size, 1, none⟩) (v := .int .i64 1) hb1 (by go_simp) (by go_simp)); clear hb1
    go_wp2_with fail
    refine wp_region_grown (by kernel_rfl) (by kernel_rfl) ?_
    (refine quiet_with (a := ⟨w1.heap.size, 0, none⟩) (v := .int .i64 n) (by go_simp) ?_; intro g; refine quiet_with (a := ⟨w1.heap.size, 1, none⟩) (v := .int .i64 d) (by go_simp) ?_; intro g; refine quiet_with (a := ⟨w3.heap.size, 0, none⟩) (v := .int .i64 (-n)) (by go_simp) ?_; intro g; refine quiet_with (a := ⟨w3.heap.size, 1, none⟩) (v := .int .i64 d) (by go_simp) ?_; intro g; refine quiet_with (a := ⟨w4.heap.size, 0, none⟩) (v := .int .i64 0) (by go_simp) ?_; intro g; refine quiet_with (a := ⟨w4.heap.size, 1, none⟩) (v := .int .i64 1) (by go_simp) ?_; intro g; refine quiet_with (a := ⟨w5.heap.size, 0, none⟩) (v := .int .i64 (-n)) (by go_simp) ?_; intro g; refine quiet_with (a := ⟨w5.heap.size, 1, none⟩) (v := .int .i64 d) (by go_simp) ?_; intro g)
    repeat (go_big_quiet_step ((first | (go_at_call 17; exact grown_of (cok.out _)) | (go_at_call 19; (with_reducible exact grown_of (cl1.out _))) | (go_at_call 19; (with_reducible exact grown_of (cl2.out _))))))
    refine wpQuiet_nil ?_
    rintro _ ⟨⟨w6, hB6⟩, rfl⟩
    go_wp2
    go_ret
    exact ⟨rfl, by (repeat (first | exact Below.refl _ _ | assumption | refine below_drewN ?_ _ | refine Below.drew ?_ | refine Below.setCell ?_ (by first | omega | (simp; done) | (simp; omega)) _ | refine Below.alloc ?_ (by first | omega | (simp; done) | (simp; omega)) _ | refine Below.trans ?_ (Below.mono (by assumption) (by first | omega | (simp; done) | (simp; omega)))))⟩

theorem fnRatNeg_open {H : Type} {enc : TypeId × Value → H} {W : World} {base : Nat} {args : Array Value} {ds : List (DataW H)} {p : List MemPlace}
    (hval : ∀ (j : Nat) t v, #[35][j]? = some t → args[j]? = some v → Value.okWide Try.prog W .any base t v)
    (hA : DataW.TrodAll enc Try.prog W 0 (fun _ => true) true #[35].toList args.toList ds p) :
    Calls Try.prog 12 args W fun e w' => e = .returned (.bool true) ∧ Below W.heap.size W w' := by
  obtain ⟨v0, d0, rfl, rfl, h0⟩ := trodAll_one hA
  obtain ⟨A, cap, bs, rfl, hc⟩ := open_bytes (hval 0 _ v0 rfl rfl) h0
  exact fnRatNeg_walk hc
set_option maxRecDepth 100000 in
theorem fnRatNeg_lifted (os : Os) (started : os.Started) (H : Type) (enc : TypeId × Value → H) :
    ReturnsInHanded {} Try.checked os 12 .any (Rows.fnRatNegSpec.pre6 enc Try.prog Try.f12 Rows.fnRatNegRow.domain false) (Rows.fnRatNegSpec.post enc Try.prog Try.f12 false true false false) := by
  refine returnsInHanded_of_change (C := Try.checked) own started (by kernel_rfl) Try.func12
    (ChangeSpec.witness6 (enc := enc) (C := Try.checked) false ⟨#[], #[.slice none 0 0], []⟩ 8 (by kernel_rfl) (by kernel_rfl) (by kernel_rfl) (by kernel_rfl)) ?_
  intro W base args ds gs before hval0 hW hcnd _
  have hval : ∀ (j : Nat) t v, Try.f12.params[j]? = some t → args[j]? = some v → Value.okWide Try.prog W .any base t v := hval0
  refine law_post hW rfl rfl ?_ ?_ ?_
  · have hr : (Try.f12.params.toList.all fun t => Try.prog.readableRec t && decide (t < Try.prog.types.size)) = true := by kernel_rfl
    intro t ht
    have := List.all_eq_true.1 hr t ht
    simpa using this
  · intro ds hl
    match ds, hl with
    | [d], _ => rfl
  · obtain ⟨p, q, hA0, _⟩ := hW
    have hA : DataW.TrodAll enc Try.prog W 0 (fun _ => true) true Try.f12.params.toList args.toList ds p := hA0
    clear hA0 hval0
    rw [Try.params12] at hA hval
    exact fnRatNeg_open hval hA

theorem fnRatNeg_facts : joinedFacts Try.prog 12 Try.f12 Rows.fnRatNegSpec Rows.fnRatNegRow = true :=
  joined_of _ _ _ _ _ (by kernel_rfl) laidOut mapsRowed_ok (by kernel_rfl) (by kernel_rfl) (by kernel_rfl) stops_eq (by kernel_rfl) stopKnobs_eq (by kernel_rfl) (by kernel_rfl) (by kernel_rfl) (by kernel_rfl) (by kernel_rfl) (by kernel_rfl) (by kernel_rfl) (by kernel_rfl) (by kernel_rfl) (by kernel_rfl) (by kernel_rfl) (by kernel_rfl) (by kernel_rfl) (plainKeys_eq _ rfl) (by kernel_rfl) heard_ok mayEnter_ok (lifted_eq _ rfl) (make_eq _ rfl) (by kernel_rfl) (by kernel_rfl) (by kernel_rfl) (by kernel_rfl)

theorem fnRatNeg_holds : Rows.FnRatNegSaid :=
  OpenClaim.holds_of_wide 12 Try.f12 rfl rfl rfl rfl rfl rfl rfl ⟨rfl, rfl, rfl, rfl, rfl⟩ rfl rfl rfl rfl rfl (by kernel_rfl) Try.func12 fnRatNeg_facts
    (of_decide_eq_true (by kernel_rfl)) (by unfold Func.isWrapper; first | (rw [if_pos (by decide +kernel)]; kernel_rfl) | (rw [if_neg (by decide +kernel)]; exact ⟨rfl, rfl⟩))
    (fun os started H enc _ => fnRatNeg_lifted os started H enc)
#print axioms fnRatNeg_holds
end Go.Proofs.Ytpefkhcmfapmnaa

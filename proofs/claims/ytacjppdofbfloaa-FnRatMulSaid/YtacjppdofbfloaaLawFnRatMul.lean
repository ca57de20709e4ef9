/- 'laws.FnRatMul': for every input the call returns true and leaves its arguments as they were. No condition. -/
import Derived.Test.YtacjppdofbfloaaS
import Derived.Test.YtacjppdofbfloaaL
import Derived.Test.YtacjppdofbfloaaM
namespace Go.Proofs.Ytacjppdofbfloaa
open Go.ChangeShapes Go.WideShapes Go.ChangeAt Go.RowKit
set_option linter.unusedSimpArgs false
set_option linter.unusedVariables false

set_option maxRecDepth 100000 in
theorem fnRatMul_long {A : Option Addr} {cap : Nat} {bs : List UInt8} {A' : Option Addr} {cap' : Nat} {bs' : List UInt8} {w : World} (hl : ¬ (bs.length ≤ 1048576 ∧ bs'.length ≤ 1048576)) :
    Calls Try.prog 12 #[.slice A bs.length cap, .slice A' bs'.length cap'] w fun e w' => e = .returned (.bool true) ∧ Below w.heap.size w w' := by
  by_cases h1 : bs.length ≤ 1048576
  · have h2 : ¬ bs'.length ≤ 1048576 := fun h => hl ⟨h1, h⟩
    clear hl
    go_enter Try.func12, Try.ntmps12
    go_wp2
    go_ret
    exact ⟨rfl, Below.refl _ _⟩
  · clear hl
    go_enter Try.func12, Try.ntmps12
    go_wp2
    go_ret
    exact ⟨rfl, Below.refl _ _⟩
set_option maxRecDepth 100000 in
set_option maxHeartbeats 8000000 in
theorem fnRatMul_walk {A : Option Addr} {cap : Nat} {bs : List UInt8} {A' : Option Addr} {cap' : Nat} {bs' : List UInt8} {w : World} (h : Code8 w A cap bs) (h' : Code8 w A' cap' bs') :
    Calls Try.prog 12 #[.slice A bs.length cap, .slice A' bs'.length cap'] w fun e w' => e = .returned (.bool true) ∧ Below w.heap.size w w' := by
  by_cases hl0 : ¬ (bs.length ≤ 1048576 ∧ bs'.length ≤ 1048576)
  · exact fnRatMul_long hl0
  have hl : bs.length ≤ 1048576 := by omega
  have hl' : bs'.length ≤ 1048576 := by omega
  clear hl0
  go_enter Try.func12, Try.ntmps12
  go_wp2_with fail
  refine (DrawRatMul_any h hl).mono ?_
  rintro e w1 ⟨a, b, c, d, rfl, hI, hb1⟩
  have hz1 := hb1.size
  have hB1 : Below w.heap.size w w1 := hb1
  clear hb1
  go_wp2_with fail
  refine (DrawRatOk_any (h'.later (by (repeat (first | exact Below.refl _ _ | assumption | refine below_drewN ?_ _ | refine Below.drew ?_ | refine Below.setCell ?_ (by first | omega | (simp; done) | (simp; omega)) _ | refine Below.alloc ?_ (by first | omega | (simp; done) | (simp; omega)) _ | refine Below.trans ?_ (Below.mono (by assumption) (by first | omega | (simp; done) | (simp; omega))))))) hl').mono ?_
  rintro e w2 ⟨n, m, rfl, hnm, hb1⟩
  have hz1 := hb1.size; (try simp at hz1); have hB1 : Below w.heap.size w w2 := (by refine Below.trans ?_ (Below.mono hb1 (by first | omega | (simp; done) | (simp; omega))); (repeat (first | exact Below.refl _ _ | assumption | refine below_drewN ?_ _ | refine Below.drew ?_ | refine Below.setCell ?_ (by first | omega | (simp; done) | (simp; omega)) _ | refine Below.alloc ?_ (by first | omega | (simp; done) | (simp; omega)) _ | refine Below.trans ?_ (Below.mono (by assumption) (by first | omega | (simp; done) | (simp; omega)))))); obtain ⟨k, f, l⟩ := keep_later (a := ⟨w1.heap.size, 0, none⟩) (v := .int .i64 a) hb1 (by go_simp) (by go_simp); obtain ⟨k, f, l⟩ := keep_later (a := ⟨w1.heap.size, 1, none⟩) (v := .int .i64 b) hb1 (by go_simp) (by go_simp); obtain ⟨k, f, l⟩ := keep_later (a := ⟨w1.heap.size+1, 0, none⟩) (v := .int .i64 c) hb1 (by go_simp) (by go_simp); obtain ⟨k, f, l⟩ := keep_later (a := ⟨w1.heap.size+1, 1, none⟩) (v := .int .i64 d) hb1 (by go_simp) (by go_simp); clear hb1
  obtain ⟨x, y, t1, h3⟩ : ∃ p q t, mulR a b c d = (p, q, t) := ⟨_, _, _, rfl⟩
  have H1 := Lib.hid h3
  have H2 := Lib.hid ((mulR_comm c d a b).trans h3)
  clear h3
  go_wp2_with fail
  refine (iRatMul_any a b c d _ _ _ H1 _).mono ?_
  rintro e w3 ⟨rfl, hb1⟩
  have hz1 := hb1.size; (try simp at hz1); have hB1 : Below w.heap.size w w3 := (by refine Below.trans ?_ (Below.mono hb1 (by first | omega | (simp; done) | (simp; omega))); (repeat (first | exact Below.refl _ _ | assumption | refine below_drewN ?_ _ | refine Below.drew ?_ | refine Below.setCell ?_ (by first | omega | (simp; done) | (simp; omega)) _ | refine Below.alloc ?_ (by first | omega | (simp; done) | (simp; omega)) _ | refine Below.trans ?_ (Below.mono (by assumption) (by first | omega | (simp; done) | (simp; omega)))))); (obtain ⟨k, f, l⟩ := keep_later (a := ⟨w1.heap.size, 0, none⟩) (v := .int .i64 a) hb1 (by go_simp) (by go_simp); obtain ⟨k, f, l⟩ := keep_later (a := ⟨w1.heap.size, 1, none⟩) (v := .int .i64 b) hb1 (by go_simp) (by go_simp); obtain ⟨k, f, l⟩ := keep_later (a := ⟨w1.heap.size+1, 0, none⟩) (v := .int .i64 c) hb1 (by go_simp) (by go_simp); obtain ⟨k, f, l⟩ := keep_later (a := ⟨w1.heap.size+1, 1, none⟩) (v := .int .i64 d) hb1 (by go_simp) (by go_simp); obtain ⟨k, f, l⟩ := keep_later (a := ⟨w2.heap.size, 0, none⟩) (v := .int .i64 n) hb1 (by go_simp) (by go_simp); obtain ⟨k, f, l⟩ := keep_later (a := ⟨w2.heap.size, 1, none⟩) (v := .int .i64 m) hb1 (by go_simp) (by go_simp)); clear hb1
  go_wp2_with fail
  refine (sRatMul_any a b c d _ _ _ H1 _).mono ?_
  rintro e w4 ⟨rfl, hb1⟩
  have hz1 := hb1.size; (try simp at hz1); have hB1 : Below w.heap.size w w4 := (by refine Below.trans ?_ (Below.mono hb1 (by first | omega | (simp; done) | (simp; omega))); (repeat (first | exact Below.refl _ _ | assumption | refine below_drewN ?_ _ | refine Below.drew ?_ | refine Below.setCell ?_ (by first | omega | (simp; done) | (simp; omega)) _ | refine Below.alloc ?_ (by first | omega | (simp; done) | (simp; omega)) _ | refine Below.trans ?_ (Below.mono (by assumption) (by first | omega | (simp; done) | (simp; omega)))))); (obtain ⟨k, f, l⟩ := keep_later (a := ⟨w1.heap.size, 0, none⟩) (v := .int .i64 a) hb1 (by go_simp) (by go_simp); obtain ⟨k, f, l⟩ := keep_later (a := ⟨w1.heap.size, 1, none⟩) (v := .int .i64 b) hb1 (by go_simp) (by go_simp); obtain ⟨k, f, l⟩ := keep_later (a := ⟨w1.heap.size+1, 0, none⟩) (v := .int .i64 c) hb1 (by go_simp) (by go_simp); obtain ⟨k, f, l⟩ := keep_later (a := ⟨w1.heap.size+1, 1, none⟩) (v := .int .i64 d) hb1 (by go_simp) (by go_simp); obtain ⟨k, f, l⟩ := keep_later (a := ⟨w2.heap.size, 0, none⟩) (v := .int .i64 n) hb1 (by go_simp) (by go_simp); obtain ⟨k, f, l⟩ := keep_later (a := ⟨w2.heap.size, 1, none⟩) (v := .int .i64 m) hb1 (by go_simp) (by go_simp); obtain ⟨k, f, l⟩ := keep_later (a := ⟨w3.heap.size, 0, none⟩) (v := .int .i64 x) hb1 (by go_simp) (by go_simp); obtain ⟨k, f, l⟩ := keep_later (a := ⟨w3.heap.size, 1, none⟩) (v := .int .i64 y) hb1 (by go_simp) (by go_simp)); clear hb1
  go_wp2_with fail
  refine (iRatMul_any c d a b _ _ _ H2 _).mono ?_
  rintro e w5 ⟨rfl, hb1⟩
  have hz1 := hb1.size; (try simp at hz1); have hB1 : Below w.heap.size w w5 := (by refine Below.trans ?_ (Below.mono hb1 (by first | omega | (simp; done) | (simp; omega))); (repeat (first | exact Below.refl _ _ | assumption | refine below_drewN ?_ _ | refine Below.drew ?_ | refine Below.setCell ?_ (by first | omega | (simp; done) | (simp; omega)) _ | refine Below.alloc ?_ (by first | omega | (simp; done) | (simp; omega)) _ | refine Below.trans ?_ (Below.mono (by assumption) (by first | omega | (simp; done) | (simp; omega)))))); (obtain ⟨k, f, l⟩ := keep_later (a := ⟨w1.heap.size, 0, none⟩) (v := .int .i64 a) hb1 (by go_simp) (by go_simp); obtain ⟨k, f, l⟩ := keep_later (a := ⟨w1.heap.size, 1, none⟩) (v := .int .i64 b) hb1 (by go_simp) (by go_simp); obtain ⟨k, f, l⟩ := keep_later (a := ⟨w1.heap.size+1, 0, none⟩) (v := .int .i64 c) hb1 (by go_simp) (by go_simp); obtain ⟨k, f, l⟩ := keep_later (a := ⟨w1.heap.size+1, 1, none⟩) (v := .int .i64 d) hb1 (by go_simp) (by go_simp); obtain ⟨k, f, l⟩ := keep_later (a := ⟨w2.heap.size, 0, none⟩) (v := .int .i64 n) hb1 (by go_simp) (by go_simp); obtain ⟨k, f, l⟩ := keep_later (a := ⟨w2.heap.size, 1, none⟩) (v := .int .i64 m) hb1 (by go_simp) (by go_simp); obtain ⟨k, f, l⟩ := keep_later (a := ⟨w3.heap.size, 0, none⟩) (v := .int .i64 x) hb1 (by go_simp) (by go_simp); obtain ⟨k, f, l⟩ := keep_later (a := ⟨w3.heap.size, 1, none⟩) (v := .int .i64 y) hb1 (by go_simp) (by go_simp); obtain ⟨k, f, l⟩ := keep_later (a := ⟨w4.heap.size, 0, none⟩) (v := .int .i64 x) hb1 (by go_simp) (by go_simp); obtain ⟨k, f, l⟩ := keep_later (a := ⟨w4.heap.size, 1, none⟩) (v := .int .i64 y) hb1 (by go_simp) (by go_simp)); clear hb1
  cases t1
  · go_wp2
    go_ret
    exact ⟨rfl, by (repeat (first | exact Below.refl _ _ | assumption | refine below_drewN ?_ _ | refine Below.drew ?_ | refine Below.setCell ?_ (by first | omega | (simp; done) | (simp; omega)) _ | refine Below.alloc ?_ (by first | omega | (simp; done) | (simp; omega)) _ | refine Below.trans ?_ (Below.mono (by assumption) (by first | omega | (simp; done) | (simp; omega)))))⟩
  obtain ⟨k1, _, _, _⟩ := mulR_spec H1.out
  have G1 := Lib.hid (mulR_one k1)
  have G2 := Lib.hid (mulR_zero k1)
  clear k1
  obtain ⟨s, t, tp, h⟩ : ∃ p q t, addR c d n m = (p, q, t) := ⟨_, _, _, rfl⟩
  have H3 := Lib.hid h
  clear h
  obtain ⟨g1, g2, tq, h⟩ : ∃ p q t', mulR a b s t = (p, q, t') := ⟨_, _, _, rfl⟩
  have H4 := Lib.hid h
  clear h
  obtain ⟨u, v, tt, h⟩ : ∃ p q t, mulR a b n m = (p, q, t) := ⟨_, _, _, rfl⟩
  have H5 := Lib.hid h
  clear h
  obtain ⟨p, q, tv, h⟩ : ∃ p q t', addR x y u v = (p, q, t') := ⟨_, _, _, rfl⟩
  have H6 := Lib.hid h
  clear h
  go_wp2_with fail
  refine (iRatMul_any a b 1 1 _ _ _ G1 _).mono ?_
  rintro e w6 ⟨rfl, hb1⟩
  have hz1 := hb1.size; (try simp at hz1); have hB1 : Below w.heap.size w w6 := (by refine Below.trans ?_ (Below.mono hb1 (by first | omega | (simp; done) | (simp; omega))); (repeat (first | exact Below.refl _ _ | assumption | refine below_drewN ?_ _ | refine Below.drew ?_ | refine Below.setCell ?_ (by first | omega | (simp; done) | (simp; omega)) _ | refine Below.alloc ?_ (by first | omega | (simp; done) | (simp; omega)) _ | refine Below.trans ?_ (Below.mono (by assumption) (by first | omega | (simp; done) | (simp; omega)))))); (obtain ⟨k, f, l⟩ := keep_later (a := ⟨w1.heap.size, 0, none⟩) (v := .int .i64 a) hb1 (by go_simp) (by go_simp); obtain ⟨k, f, l⟩ := keep_later (a := ⟨w1.heap.size, 1, none⟩) (v := .int .i64 b) hb1 (by go_simp) (by go_simp); obtain ⟨k, f, l⟩ := keep_later (a := ⟨w1.heap.size+1, 0, none⟩) (v := .int .i64 c) hb1 (by go_simp) (by go_simp); obtain ⟨k, f, l⟩ := keep_later (a := ⟨w1.heap.size+1, 1, none⟩) (v := .int .i64 d) hb1 (by go_simp) (by go_simp); obtain ⟨k, f, l⟩ := keep_later (a := ⟨w2.heap.size, 0, none⟩) (v := .int .i64 n) hb1 (by go_simp) (by go_simp); obtain ⟨k, f, l⟩ := keep_later (a := ⟨w2.heap.size, 1, none⟩) (v := .int .i64 m) hb1 (by go_simp) (by go_simp); obtain ⟨k, f, l⟩ := keep_later (a := ⟨w3.heap.size, 0, none⟩) (v := .int .i64 x) hb1 (by go_simp) (by go_simp); obtain ⟨k, f, l⟩ := keep_later (a := ⟨w3.heap.size, 1, none⟩) (v := .int .i64 y) hb1 (by go_simp) (by go_simp); obtain ⟨k, f, l⟩ := keep_later (a := ⟨w4.heap.size, 0, none⟩) (v := .int .i64 x) hb1 (by go_simp) (by go_simp); obtain ⟨k, f, l⟩ := keep_later (a := ⟨w4.heap.size, 1, none⟩) (v := .int .i64 y) hb1 (by go_simp) (by go_simp); obtain ⟨k, f, l⟩ := keep_later (a := ⟨w5.heap.size, 0, none⟩) (v := .int .i64 x) hb1 (by go_simp) (by go_simp); obtain ⟨k, f, l⟩ := keep_later (a := ⟨w5.heap.size, 1, none⟩) (v := .int .i64 y) hb1 (by go_simp) (by go_simp)); clear hb1
  go_wp2_with fail
  refine (iRatMul_any a b 0 1 _ _ _ G2 _).mono ?_
  rintro e w7 ⟨rfl, hb1⟩
  have hz1 := hb1.size; (try simp at hz1); have hB1 : Below w.heap.size w w7 := (by refine Below.trans ?_ (Below.mono hb1 (by first | omega | (simp; done) | (simp; omega))); (repeat (first | exact Below.refl _ _ | assumption | refine below_drewN ?_ _ | refine Below.drew ?_ | refine Below.setCell ?_ (by first | omega | (simp; done) | (simp; omega)) _ | refine Below.alloc ?_ (by first | omega | (simp; done) | (simp; omega)) _ | refine Below.trans ?_ (Below.mono (by assumption) (by first | omega | (simp; done) | (simp; omega)))))); (obtain ⟨k, f, l⟩ := keep_later (a := ⟨w1.heap.size, 0, none⟩) (v := .int .i64 a) hb1 (by go_simp) (by go_simp); obtain ⟨k, f, l⟩ := keep_later (a := ⟨w1.heap.size, 1, none⟩) (v := .int .i64 b) hb1 (by go_simp) (by go_simp); obtain ⟨k, f, l⟩ := keep_later (a := ⟨w1.heap.size+1, 0, none⟩) (v := .int .i64 c) hb1 (by go_simp) (by go_simp); obtain ⟨k, f, l⟩ := keep_later (a := ⟨w1.heap.size+1, 1, none⟩) (v := .int .i64 d) hb1 (by go_simp) (by go_simp); obtain ⟨k, f, l⟩ := keep_later (a := ⟨w2.heap.size, 0, none⟩) (v := .int .i64 n) hb1 (by go_simp) (by go_simp); obtain ⟨k, f, l⟩ := keep_later (a := ⟨w2.heap.size, 1, none⟩) (v := .int .i64 m) hb1 (by go_simp) (by go_simp); obtain ⟨k, f, l⟩ := keep_later (a := ⟨w3.heap.size, 0, none⟩) (v := .int .i64 x) hb1 (by go_simp) (by go_simp); obtain ⟨k, f, l⟩ := keep_later (a := ⟨w3.heap.size, 1, none⟩) (v := .int .i64 y) hb1 (by go_simp) (by go_simp); obtain ⟨k, f, l⟩ := keep_later (a := ⟨w4.heap.size, 0, none⟩) (v := .int .i64 x) hb1 (by go_simp) (by go_simp); obtain ⟨k, f, l⟩ := keep_later (a := ⟨w4.heap.size, 1, none⟩) (v := .int .i64 y) hb1 (by go_simp) (by go_simp); obtain ⟨k, f, l⟩ := keep_later (a := ⟨w5.heap.size, 0, none⟩) (v := .int .i64 x) hb1 (by go_simp) (by go_simp); obtain ⟨k, f, l⟩ := keep_later (a := ⟨w5.heap.size, 1, none⟩) (v := .int .i64 y) hb1 (by go_simp) (by go_simp); obtain ⟨k, f, l⟩ := keep_later (a := ⟨w6.heap.size, 0, none⟩) (v := .int .i64 a) hb1 (by go_simp) (by go_simp); obtain ⟨k, f, l⟩ := keep_later (a := ⟨w6.heap.size, 1, none⟩) (v := .int .i64 b) hb1 (by go_simp) (by go_simp)); clear hb1
  go_wp2_with fail
  refine (iRatAdd_any c d n m _ _ _ H3 _).mono ?_
  rintro e w8 ⟨rfl, hb1⟩
  have hz1 := hb1.size; (try simp at hz1); have hB1 : Below w.heap.size w w8 := (by refine Below.trans ?_ (Below.mono hb1 (by first | omega | (simp; done) | (simp; omega))); (repeat (first | exact Below.refl _ _ | assumption | refine below_drewN ?_ _ | refine Below.drew ?_ | refine Below.setCell ?_ (by first | omega | (simp; done) | (simp; omega)) _ | refine Below.alloc ?_ (by first | omega | (simp; done) | (simp; omega)) _ | refine Below.trans ?_ (Below.mono (by assumption) (by first | omega | (simp; done) | (simp; omega)))))); (obtain ⟨k, f, l⟩ := keep_later (a := ⟨w1.heap.size, 0, none⟩) (v := .int .i64 a) hb1 (by go_simp) (by go_simp); obtain ⟨k, f, l⟩ := keep_later (a := ⟨w1.heap.size, 1, none⟩) (v := .int .i64 b) hb1 (by go_simp) (by go_simp); obtain ⟨k, f, l⟩ := keep_later (a := ⟨w1.heap.size+1, 0, none⟩) (v := .int .i64 c) hb1 (by go_simp) (by go_simp); obtain ⟨k, f, l⟩ := keep_later (a := ⟨w1.heap.size+1, 1, none⟩) (v := .int .i64 d) hb1 (by go_simp) (by go_simp); obtain ⟨k, f, l⟩ := keep_later (a := ⟨w2.heap.size, 0, none⟩) (v := .int .i64 n) hb1 (by go_simp) (by go_simp); obtain ⟨k, f, l⟩ := keep_later (a := ⟨w2.heap.size, 1, none⟩) (v := .int .i64 m) hb1 (by go_simp) (by go_simp); obtain ⟨k, f, l⟩ := keep_later (a := ⟨w3.heap.size, 0, none⟩) (v := .int .i64 x) hb1 (by go_simp) (by go_simp); obtain ⟨k, f, l⟩ := keep_later (a := ⟨w3.heap.size, 1, none⟩) (v := .int .i64 y) hb1 (by go_simp) (by go_simp); obtain ⟨k, f, l⟩ := keep_later (a := ⟨w4.heap.size, 0, none⟩) (v := .int .i64 x) hb1 (by go_simp) (by go_simp); obtain ⟨k, f, l⟩ := keep_later (a := ⟨w4.heap.size, 1, none⟩) (v := .int .i64 y) hb1 (by go_simp) (by go_simp); obtain ⟨k, f, l⟩ := keep_later (a := ⟨w5.heap.size, 0, none⟩) (v := .int .i64 x) hb1 (by go_simp) (by go_simp); obtain ⟨k, f, l⟩ := keep_later (a := ⟨w5.heap.size, 1, none⟩) (v := .int .i64 y) hb1 (by go_simp) (by go_simp); obtain ⟨k, f, l⟩ := keep_later (a := ⟨w6.heap.size, 0, none⟩) (v := .int .i64 a) hb1 (by go_simp) (by go_simp); obtain ⟨k, f, l⟩ := keep_later (a := ⟨w6.heap.size, 1, none⟩) (v := .int .i64 b) hb1 (by go_simp) (by go_simp); obtain ⟨k, f, l⟩ := keep_later (a := ⟨w7.heap.size, 0, none⟩) (v := .int .i64 0) hb1 (by go_simp) (by go_simp); obtain ⟨k, f, l⟩ := keep_later (a := ⟨w7.heap.size, 1, none⟩) (v := .int .i64 1) hb1 (by go_simp) (by go_simp)); clear hb1
  go_wp2_with fail
  refine (iRatMul_any a b s t _ _ _ H4 _).mono ?_
  rintro e w9 ⟨rfl, hb1⟩
  have hz1 := hb1.size; (try simp at hz1); have hB1 : Below w.heap.size w w9 := (by refine Below.trans ?_ (Below.mono hb1 (by first | omega | (simp; done) | (simp; omega))); (repeat (first | exact Below.refl _ _ | assumption | refine below_drewN ?_ _ | refine Below.drew ?_ | refine Below.setCell ?_ (by first | omega | (simp; done) | (simp; omega)) _ | refine Below.alloc ?_ (by first | omega | (simp; done) | (simp; omega)) _ | refine Below.trans ?_ (Below.mono (by assumption) (by first | omega | (simp; done) | (simp; omega)))))); (obtain ⟨k, f, l⟩ := keep_later (a := ⟨w1.heap.size, 0, none⟩) (v := .int .i64 a) hb1 (by go_simp) (by go_simp); obtain ⟨k, f, l⟩ := keep_later (a := ⟨w1.heap.size, 1, none⟩) (v := .int .i64 b) hb1 (by go_simp) (by go_simp); obtain ⟨k, f, l⟩ := keep_later (a := ⟨w1.heap.size+1, 0, none⟩) (v := .int .i64 c) hb1 (by go_simp) (by go_simp); obtain ⟨k, f, l⟩ := keep_later (a := ⟨w1.heap.size+1, 1, none⟩) (v := .int .i64 d) hb1 (by go_simp) (by go_simp); obtain ⟨k, f, l⟩ := keep_later (a := ⟨w2.heap.size, 0, none⟩) (v := .int .i64 n) hb1 (by go_simp) (by go_simp); obtain ⟨k, f, l⟩ := keep_later (a := ⟨w2.heap.size, 1, none⟩) (v := .int .i64 m) hb1 (by go_simp) (by go_simp); obtain ⟨k, f, l⟩ := keep_later (a := ⟨w3.heap.size, 0, none⟩) (v := .int .i64 x) hb1 (by go_simp) (by go_simp); obtain ⟨k, f, l⟩ := keep_later (a := ⟨w3.heap.size, 1, none⟩) (v := .int .i64 y) hb1 (by go_simp) (by go_simp); obtain ⟨k, f, l⟩ := keep_later (a := ⟨w4.heap.size, 0, none⟩) (v := .int .i64 x) hb1 (by go_simp) (by go_simp); obtain ⟨k, f, l⟩ := keep_later (a := ⟨w4.heap.size, 1, none⟩) (v := .int .i64 y) hb1 (by go_simp) (by go_simp); obtain ⟨k, f, l⟩ := keep_later (a := ⟨w5.heap.size, 0, none⟩) (v := .int .i64 x) hb1 (by go_simp) (by go_simp); obtain ⟨k, f, l⟩ := keep_later (a := ⟨w5.heap.size, 1, none⟩) (v := .int .i64 y) hb1 (by go_simp) (by go_simp); obtain ⟨k, f, l⟩ := keep_later (a := ⟨w6.heap.size, 0, none⟩) (v := .int .i64 a) hb1 (by go_simp) (by go_simp); obtain ⟨k, f, l⟩ := keep_later (a := ⟨w6.heap.size, 1, none⟩) (v := .int .i64 b) hb1 (by go_simp) (by go_simp); obtain ⟨k, f, l⟩ := keep_later (a := ⟨w7.heap.size, 0, none⟩) (v := .int .i64 0) hb1 (by go_simp) (by go_simp); obtain ⟨k, f, l⟩ := keep_later (a := ⟨w7.heap.size, 1, none⟩) (v := .int .i64 1) hb1 (by go_simp) (by go_simp); obtain ⟨k, f, l⟩ := keep_later (a := ⟨w8.heap.size, 0, none⟩) (v := .int .i64 s) hb1 (by go_simp) (by go_simp); obtain ⟨k, f, l⟩ := keep_later (a := ⟨w8.heap.size, 1, none⟩) (v := .int .i64 t) hb1 (by go_simp) (by go_simp)); clear hb1
  go_wp2_with fail
  refine (iRatMul_any a b n m _ _ _ H5 _).mono ?_
  rintro e w10 ⟨rfl, hb1⟩
  have hz1 := hb1.size; (try simp at hz1); have hB1 : Below w.heap.size w w10 := (by refine Below.trans ?_ (Below.mono hb1 (by first | omega | (simp; done) | (simp; omega))); (repeat (first | exact Below.refl _ _ | assumption | refine below_drewN ?_ _ | refine Below.drew ?_ | refine Below.setCell ?_ (by first | omega | (simp; done) | (simp; omega)) _ | refine Below.alloc ?_ (by first | omega | (simp; done) | (simp; omega)) _ | refine Below.trans ?_ (Below.mono (by assumption) (by first | omega | (simp; done) | (simp; omega)))))); (obtain ⟨k, f, l⟩ := keep_later (a := ⟨w1.heap.size, 0, none⟩) (v := .int .i64 a) hb1 (by go_simp) (by go_simp); obtain ⟨k, f, l⟩ := keep_later (a := ⟨w1.heap.size, 1, none⟩) (v := .int .i64 b) hb1 (by go_simp) (by go_simp); obtain ⟨k, f, l⟩ := keep_later (a := ⟨w1.heap.size+1, 0, none⟩) (v := .int .i64 c) hb1 (by go_simp) (by go_simp); obtain ⟨k, f, l⟩ := keep_later (a := ⟨w1.heap.size+1, 1, none⟩) (v := .int .i64 d) hb1 (by go_simp) (by go_simp); obtain ⟨k, f, l⟩ := keep_later (a := ⟨w2.heap.size, 0, none⟩) (v := .int .i64 n) hb1 (by go_simp) (by go_simp); obtain ⟨k, f, l⟩ := keep_later (a := ⟨w2.heap.size, 1, none⟩) (v := .int .i64 m) hb1 (by go_simp) (by go_simp); obtain ⟨k, f, l⟩ := keep_later (a := ⟨w3.heap.size, 0, none⟩) (v := .int .i64 x) hb1 (by go_simp) (by go_simp); obtain ⟨k, f, l⟩ := keep_later (a := ⟨w3.heap.size, 1, none⟩) (v := .int .i64 y) hb1 (by go_simp) (by go_simp); obtain ⟨k, f, l⟩ := keep_later (a := ⟨w4.heap.size, 0, none⟩) (v := .int .i64 x) hb1 (by go_simp) (by go_simp); obtain ⟨k, f, l⟩ := keep_later (a := ⟨w4.heap.size, 1, none⟩) (v := .int .i64 y) hb1 (by go_simp) (by go_simp); obtain ⟨k, f, l⟩ := keep_later (a := ⟨w5.heap.size, 0, none⟩) (v := .int .i64 x) hb1 (by go_simp) (by go_simp); obtain ⟨k, f, l⟩ := keep_later (a := ⟨w5.heap.size, 1, none⟩) (v := .int .i64 y) hb1 (by go_simp) (by go_simp); obtain ⟨k, f, l⟩ := keep_later (a := ⟨w6.heap.size, 0, none⟩) (v := .int .i64 a) hb1 (by go_simp) (by go_simp); obtain ⟨k, f, l⟩ := keep_later (a := ⟨w6.heap.size, 1, none⟩) (v := .int .i64 b) hb1 (by go_simp) (by go_simp); obtain ⟨k, f, l⟩ := keep_later (a := ⟨w7.heap.size, 0, none⟩) (v := .int .i64 0) hb1 (by go_simp) (by go_simp); obtain ⟨k, f, l⟩ := keep_later (a := ⟨w7.heap.size, 1, none⟩) (v := .int .i64 1) hb1 (by go_simp) (by go_simp); obtain ⟨k, f, l⟩ := keep_later (a := ⟨w8.heap.size, 0, none⟩) (v := .int .i64 s) hb1 (by go_simp) (by go_simp); obtain ⟨k, f, l⟩ := keep_later (a := ⟨w8.heap.size, 1, none⟩) (v := .int .i64 t) hb1 (by go_simp) (by go_simp); obtain ⟨k, f, l⟩ := keep_later (a := ⟨w9.heap.size, 0, none⟩) (v := .int .i64 g1) hb1 (by go_simp) (by go_simp); obtain ⟨k, f, l⟩ := keep_later (a := ⟨w9.heap.size, 1, none⟩) (v := .int .i64 g2) hb1 (by go_simp) (by go_simp)); clear hb1
  go_wp2_with fail
  refine (iRatAdd_any x y u v _ _ _ H6 _).mono ?_
  rintro e w11 ⟨rfl, hb1⟩
  have hz1 := hb1.size; (try simp at hz1); have hB1 : Below w.heap.size w w11 := (by refine Below.trans ?_ (Below.mono hb1 (by first | omega | (simp; done) | (simp; omega))); (repeat (first | exact Below.refl _ _ | assumption | refine below_drewN ?_ _ | refine Below.drew ?_ | refine Below.setCell ?_ (by first | omega | (simp; done) | (simp; omega)) _ | refine Below.alloc ?_ (by first | omega | (simp; done) | (simp; omega)) _ | refine Below.trans ?_ (Below.mono (by assumption) (by first | omega | (simp; done) | (simp; omega)))))); (obtain ⟨k, f, l⟩ := keep_later (a := ⟨w1.heap.size, 0, none⟩) (v := .int .i64 a) hb1 (by go_simp) (by go_simp); obtain ⟨k, f, l⟩ := keep_later (a := ⟨w1.heap.size, 1, none⟩) (v := .int .i64 b) hb1 (by go_simp) (by go_simp); obtain ⟨k, f, l⟩ := keep_later (a := ⟨w1.heap.size+1, 0, none⟩) (v := .int .i64 c) hb1 (by go_simp) (by go_simp); obtain ⟨k, f, l⟩ := keep_later (a := ⟨w1.heap.size+1, 1, none⟩) (v := .int .i64 d) hb1 (by go_simp) (by go_simp); obtain ⟨k, f, l⟩ := keep_later (a := ⟨w2.heap.size, 0, none⟩) (v := .int .i64 n) hb1 (by go_simp) (by go_simp); obtain ⟨k, f, l⟩ := keep_later (a := ⟨w2.heap.size, 1, none⟩) (v := .int .i64 m) hb1 (by go_simp) (by go_simp); obtain ⟨k, f, l⟩ := keep_later (a := ⟨w3.heap.size, 0, none⟩) (v := .int .i64 x) hb1 (by go_simp) (by go_simp); obtain ⟨k, f, l⟩ := keep_later (a := ⟨w3.heap.size, 1, none⟩) (v := .int .i64 y) hb1 (by go_simp) (by go_simp); obtain ⟨k, f, l⟩ := keep_later (a := ⟨w4.heap.size, 0, none⟩) (v := .int .i64 x) hb1 (by go_simp) (by go_simp); obtain ⟨k, f, l⟩ := keep_later (a := ⟨w4.heap.size, 1, none⟩) (v := .int .i64 y) hb1 (by go_simp) (by go_simp); obtain ⟨k, f, l⟩ := keep_later (a := ⟨w5.heap.size, 0, none⟩) (v := .int .i64 x) hb1 (by go_simp) (by go_simp); obtain ⟨k, f, l⟩ := keep_later (a := ⟨w5.heap.size, 1, none⟩) (v := .int .i64 y) hb1 (by go_simp) (by go_simp); obtain ⟨k, f, l⟩ := keep_later (a := ⟨w6.heap.size, 0, none⟩) (v := .int .i64 a) hb1 (by go_simp) (by go_simp); obtain ⟨k, f, l⟩ := keep_later (a := ⟨w6.heap.size, 1, none⟩) (v := .int .i64 b) hb1 (by go_simp) (by go_simp); obtain ⟨k, f, l⟩ := keep_later (a := ⟨w7.heap.size, 0, none⟩) (v := .int .i64 0) hb1 (by go_simp) (by go_simp); obtain ⟨k, f, l⟩ := keep_later (a := ⟨w7.heap.size, 1, none⟩) (v := .int .i64 1) hb1 (by go_simp) (by go_simp); obtain ⟨k, f, l⟩ := keep_later (a := ⟨w8.heap.size, 0, none⟩) (v := .int .i64 s) hb1 (by go_simp) (by go_simp); obtain ⟨k, f, l⟩ := keep_later (a := ⟨w8.heap.size, 1, none⟩) (v := .int .i64 t) hb1 (by go_simp) (by go_simp); obtain ⟨k, f, l⟩ := keep_later (a := ⟨w9.heap.size, 0, none⟩) (v := .int .i64 g1) hb1 (by go_simp) (by go_simp); obtain ⟨k, f, l⟩ := keep_later (a := ⟨w9.heap.size, 1, none⟩) (v := .int .i64 g2) hb1 (by go_simp) (by go_simp); obtain ⟨k, f, l⟩ := keep_later (a := ⟨w10.heap.size, 0, none⟩) (v := .int .i64 u) hb1 (by go_simp) (by go_simp); obtain ⟨k, f, l⟩ := keep_later (a := ⟨w10.heap.size, 1, none⟩) (v := .int .i64 v) hb1 (by go_simp) (by go_simp)); clear hb1
  cases tp
  · go_wp2
    go_ret
    exact ⟨rfl, by (repeat (first | exact Below.refl _ _ | assumption | refine below_drewN ?_ _ | refine Below.drew ?_ | refine Below.setCell ?_ (by first | omega | (simp; done) | (simp; omega)) _ | refine Below.alloc ?_ (by first | omega | (simp; done) | (simp; omega)) _ | refine Below.trans ?_ (Below.mono (by assumption) (by first | omega | (simp; done) | (simp; omega)))))⟩
  cases tq
  · go_wp2
    go_ret
    exact ⟨rfl, by (repeat (first | exact Below.refl _ _ | assumption | refine below_drewN ?_ _ | refine Below.drew ?_ | refine Below.setCell ?_ (by first | omega | (simp; done) | (simp; omega)) _ | refine Below.alloc ?_ (by first | omega | (simp; done) | (simp; omega)) _ | refine Below.trans ?_ (Below.mono (by assumption) (by first | omega | (simp; done) | (simp; omega)))))⟩
  cases tt
  · go_wp2
    go_ret
    exact ⟨rfl, by (repeat (first | exact Below.refl _ _ | assumption | refine below_drewN ?_ _ | refine Below.drew ?_ | refine Below.setCell ?_ (by first | omega | (simp; done) | (simp; omega)) _ | refine Below.alloc ?_ (by first | omega | (simp; done) | (simp; omega)) _ | refine Below.trans ?_ (Below.mono (by assumption) (by first | omega | (simp; done) | (simp; omega)))))⟩
  cases tv
  · go_wp2
    go_ret
    exact ⟨rfl, by (repeat (first | exact Below.refl _ _ | assumption | refine below_drewN ?_ _ | refine Below.drew ?_ | refine Below.setCell ?_ (by first | omega | (simp; done) | (simp; omega)) _ | refine Below.alloc ?_ (by first | omega | (simp; done) | (simp; omega)) _ | refine Below.trans ?_ (Below.mono (by assumption) (by first | omega | (simp; done) | (simp; omega)))))⟩
  obtain ⟨rfl, rfl⟩ := mulR_dist H1.out H3.out H4.out H5.out H6.out
  go_wp2
  go_ret
  exact ⟨rfl, by (repeat (first | exact Below.refl _ _ | assumption | refine below_drewN ?_ _ | refine Below.drew ?_ | refine Below.setCell ?_ (by first | omega | (simp; done) | (simp; omega)) _ | refine Below.alloc ?_ (by first | omega | (simp; done) | (simp; omega)) _ | refine Below.trans ?_ (Below.mono (by assumption) (by first | omega | (simp; done) | (simp; omega)))))⟩

theorem fnRatMul_open {H : Type} {enc : TypeId × Value → H} {W : World} {base : Nat} {args : Array Value} {ds : List (DataW H)} {p : List MemPlace}
    (hval : ∀ (j : Nat) t v, #[32, 32][j]? = some t → args[j]? = some v → Value.okWide Try.prog W .any base t v)
    (hA : DataW.TrodAll enc Try.prog W 0 (fun _ => true) true #[32, 32].toList args.toList ds p) :
    Calls Try.prog 12 args W fun e w' => e = .returned (.bool true) ∧ Below W.heap.size W w' := by
  obtain ⟨v0, v1, d0, d1, p0, p1, rfl, rfl, rfl, h0, h1⟩ := trodAll_two hA
  obtain ⟨A, cap, bs, rfl, hc⟩ := open_bytes (hval 0 _ v0 rfl rfl) h0
  obtain ⟨A', cap', bs', rfl, hc'⟩ := open_bytes (hval 1 _ v1 rfl rfl) h1
  exact fnRatMul_walk hc hc'
set_option maxRecDepth 100000 in
theorem fnRatMul_lifted (os : Os) (started : os.Started) (H : Type) (enc : TypeId × Value → H) :
    ReturnsInHanded {} Try.checked os 12 .any (Rows.fnRatMulSpec.pre6 enc Try.prog Try.f12 Rows.fnRatMulRow.domain false) (Rows.fnRatMulSpec.post enc Try.prog Try.f12 false true false false) := by
  refine returnsInHanded_of_change (C := Try.checked) own started (by kernel_rfl) Try.func12
    (ChangeSpec.witness6 (enc := enc) (C := Try.checked) false ⟨#[], #[.slice none 0 0, .slice none 0 0], []⟩ 8 (by kernel_rfl) (by kernel_rfl) (by kernel_rfl) (by kernel_rfl)) ?_
  intro W base args ds gs before hval0 hW hcnd _
  have hval : ∀ (j : Nat) t v, Try.f12.params[j]? = some t → args[j]? = some v → Value.okWide Try.prog W .any base t v := hval0
  refine law_post hW rfl rfl ?_ ?_ ?_
  · have hr : (Try.f12.params.toList.all fun t => Try.prog.readableRec t && decide (t < Try.prog.types.size)) = true := by kernel_rfl
    intro t ht
    have := List.all_eq_true.1 hr t ht
    simpa using this
  · intro ds hl
    match ds, hl with
    | [d, e], _ => rfl
  · obtain ⟨p, q, hA0, _⟩ := hW
    have hA : DataW.TrodAll enc Try.prog W 0 (fun _ => true) true Try.f12.params.toList args.toList ds p := hA0
    clear hA0 hval0
    rw [Try.params12] at hA hval
    exact fnRatMul_open hval hA

theorem fnRatMul_facts : joinedFacts Try.prog 12 Try.f12 Rows.fnRatMulSpec Rows.fnRatMulRow = true :=
  joined_of _ _ _ _ _ (by kernel_rfl) laidOut mapsRowed_ok (by kernel_rfl) (by kernel_rfl) (by kernel_rfl) stops_eq (by kernel_rfl) stopKnobs_eq (by kernel_rfl) (by kernel_rfl) (by kernel_rfl) (by kernel_rfl) (by kernel_rfl) (by kernel_rfl) (by kernel_rfl) (by kernel_rfl) (by kernel_rfl) (by kernel_rfl) (by kernel_rfl) (by kernel_rfl) (by kernel_rfl) (plainKeys_eq _ rfl) (by kernel_rfl) heard_ok mayEnter_ok (lifted_eq _ rfl) (make_eq _ rfl) (by kernel_rfl) (by kernel_rfl) (by kernel_rfl) (by kernel_rfl)

theorem fnRatMul_holds : Rows.FnRatMulSaid :=
  OpenClaim.holds_of_wide 12 Try.f12 rfl rfl rfl rfl rfl rfl rfl ⟨rfl, rfl, rfl, rfl, rfl⟩ rfl rfl rfl rfl rfl (by kernel_rfl) Try.func12 fnRatMul_facts
    (of_decide_eq_true (by kernel_rfl)) (by unfold Func.isWrapper; first | (rw [if_pos (by decide +kernel)]; kernel_rfl) | (rw [if_neg (by decide +kernel)]; exact ⟨rfl, rfl⟩))
    (fun os started H enc _ => fnRatMul_lifted os started H enc)
#print axioms fnRatMul_holds
end Go.Proofs.Ytacjppdofbfloaa

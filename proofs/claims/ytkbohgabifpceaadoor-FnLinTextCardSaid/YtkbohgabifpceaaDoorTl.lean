/- Constraints are written. -/
import Derived.Test.YtkbohgabifpceaaDoorTr
namespace Go.Proofs.YtkbohgabifpceaaDoor
set_option maxRecDepth 100000
open Go.RowKit Go.ChangeShapes Go.WideShapes Go.ChangeAt
set_option linter.unusedSimpArgs false
set_option linter.unusedVariables false

/-- the coefficients' words -/
def linWords (xs : List Int) : List UInt8 := xs.flatMap fun x => Lib.itoa x ++ [32]
def signL (s : Bool) : List UInt8 := if s = true then [60] else [60, 61]
/-- a constraint's text -/
def linTextL (xs : List Int) (b : Int) (s : Bool) : List UInt8 := linWords xs ++ (signL s ++ 32 :: Lib.itoa b)
theorem linWords_succ {xs : List Int} {k : Nat} (hk : k < xs.length) : linWords (xs.take (k + 1)) = linWords (xs.take k) ++ (Lib.itoa (xs.getD k 0) ++ [32]) := by
  unfold linWords
  rw [List.take_add_one, List.getElem?_eq_getElem hk, List.flatMap_append, List.getD_eq_getElem?_getD, List.getElem?_eq_getElem hk]
  simp
theorem linWords_len {xs : List Int} (h : ∀ x ∈ xs, -1000000 ≤ x ∧ x ≤ 1000000) : (linWords xs).length ≤ 22 * xs.length := by
  induction xs with
  | nil => simp [linWords]
  | cons x xs ih =>
    have h1 := h x (by simp)
    have h2 := ih (fun y hy => h y (by simp [hy]))
    have h3 := Lib.itoa_length_le x (by omega) (by omega)
    unfold linWords at h2 ⊢
    simp only [List.flatMap_cons, List.length_append, List.length_cons, List.length_nil]
    omega
theorem linOk_mem {xs : List Int} {b : Int} (h : linOk xs b = true) : ∀ x ∈ xs, -1000000 ≤ x ∧ x ≤ 1000000 := by
  obtain ⟨hl, _, hc⟩ := linOk_len h
  intro x hx
  obtain ⟨j, hj, rfl⟩ := List.mem_iff_getElem.1 hx
  have := coefOk_iff.1 (hc j (by omega))
  rwa [List.getD_eq_getElem?_getD, List.getElem?_eq_getElem hj] at this
theorem sign_any (s : Bool) (w : World) : Calls Tryd.prog 88 #[.bool s] w fun e w' => e = .returned (.string (strB (signL s))) ∧ w = w' := by
  cases s
  · go_enter Tryd.func88, Tryd.ntmps88
    go_wp2
    go_ret
    exact ⟨rfl, rfl⟩
  · go_enter Tryd.func88, Tryd.ntmps88
    go_wp2
    go_ret
    exact ⟨rfl, rfl⟩

set_option maxRecDepth 100000 in
set_option maxHeartbeats 1000000 in
theorem ilinText_any {A : Option Addr} {n c : Nat} {xs : List Int} {b : Int} {s : Bool} (hk : Hid (linOk xs b = true)) {w : World} (h : Ints w A n xs) (hT : Tab w) :
    Calls Tryd.prog 61 #[.agg #[.slice A n c, .int .i64 b, .bool s]] w fun e w' => e = .returned (.string (strB (linTextL xs b s))) ∧ Below w.heap.size w w' := by
  obtain ⟨hl4, hbb, hcc⟩ := linOk_len hk.out
  have hmm := linOk_mem hk.out
  obtain rfl : 4 = n := hl4.symm.trans h.len
  have HL := Lib.hid hl4
  have hbb := coefOk_iff.1 hbb
  have lb := Lib.itoa_length_le b (by omega) (by omega)
  clear hl4
  go_enter Tryd.func61, Tryd.ntmps61
  go_wp2_with fail
  go_loopw [3, 9] (fun s3 i wr => ∃ k : Nat, k ≤ 4 ∧ i = .int .i64 k ∧ s3 = .string (strB (linWords (xs.take k))) ∧ Tab wr ∧ Below (w.heap.size + 1) (w.alloc (.cells #[.slice A 4 c, .int .i64 b, .bool s] 34)) wr) (fun _ i _ => 4 - (intOf i).toNat)
  case atStart => exact ⟨0, by omega, rfl, rfl, by (repeat (first | with_reducible exact hT | (with_reducible refine Tab.alloc ?_ _) | (with_reducible refine Tab.drew ?_))), by simpa using Below.refl _ _⟩
  case round =>
    obtain ⟨k, hk4, rfl, rfl, hTr, hb⟩ := hrel
    have hzb := hb.size
    simp only [World.size_alloc] at hzb
    have hbw : Below w.heap.size w wr := Below.trans (by (repeat (first | with_reducible exact Below.refl _ _ | with_reducible assumption | (with_reducible refine below_drewN ?_ _) | (with_reducible refine Below.drew ?_) | (with_reducible refine Below.setCell ?_ (by first | omega | (simp; done) | (simp; omega)) _) | (with_reducible refine Below.alloc ?_ (by first | omega | (simp; done) | (simp; omega)) _) | refine Below.trans ?_ (Below.mono (by with_reducible assumption) (by first | omega | (simp; done) | (simp; omega)))))) (hb.mono (by omega))
    by_cases hlt : k < 4
    · have hx := coefOk_iff.1 (hcc k hlt)
      have HN := Lib.hid (linWords_succ (xs := xs) (k := k) (by rw [HL.out]; exact hlt))
      have la : (linWords (xs.take k)).length ≤ 88 := by
        have h1 := linWords_len (xs := xs.take k) (fun x hx => hmm x (List.mem_of_mem_take hx))
        have h2 : (xs.take k).length ≤ 4 := by rw [List.length_take, HL.out]; omega
        omega
      have lx := Lib.itoa_length_le (xs.getD k 0) (by omega) (by omega)
      obtain ⟨p, o, rfl, hp, hcs⟩ := h.cells (by omega)
      have hck := (Below.cell (p := ⟨p, o + k, none⟩) (Below.trans (by (repeat (first | with_reducible exact Below.refl _ _ | with_reducible assumption | (with_reducible refine below_drewN ?_ _) | (with_reducible refine Below.drew ?_) | (with_reducible refine Below.setCell ?_ (by first | omega | (simp; done) | (simp; omega)) _) | (with_reducible refine Below.alloc ?_ (by first | omega | (simp; done) | (simp; omega)) _) | refine Below.trans ?_ (Below.mono (by with_reducible assumption) (by first | omega | (simp; done) | (simp; omega)))))) (hb.mono (by omega)) : Below w.heap.size w wr) hp).trans (hcs k hlt)
      clear hcs
      generalize linWords (xs.take k) = acc at *
      generalize xs.getD k 0 = x at *
      have hs1 : ¬ 9223372036854775807 < (Lib.itoa x).length + 1 := by omega
      have hs2 : ¬ 9223372036854775807 < acc.length + ((Lib.itoa x).length + 1) := by omega
      go_wp2_with fail
      refine (itoaI x (by omega) (by omega) (by (repeat (first | with_reducible exact hTr | (with_reducible refine Tab.alloc ?_ _) | (with_reducible refine Tab.drew ?_))))).mono ?_
      rintro e w1 ⟨rfl, hb1⟩
      have hT1 : Tab w1 := Tab.later (by (repeat (first | with_reducible exact hTr | (with_reducible refine Tab.alloc ?_ _) | (with_reducible refine Tab.drew ?_)))) hb1
      have hbr1 : Below (w.heap.size + 1) (w.alloc (.cells #[.slice (some ⟨p, o, none⟩) 4 c, .int .i64 b, .bool s] 34)) w1 := Below.trans (by (repeat (first | with_reducible exact Below.refl _ _ | with_reducible assumption | (with_reducible refine below_drewN ?_ _) | (with_reducible refine Below.drew ?_) | (with_reducible refine Below.setCell ?_ (by first | omega | (simp; done) | (simp; omega)) _) | (with_reducible refine Below.alloc ?_ (by first | omega | (simp; done) | (simp; omega)) _) | refine Below.trans ?_ (Below.mono (by with_reducible assumption) (by first | omega | (simp; done) | (simp; omega)))))) (hb1.mono (by first | omega | (simp; done) | (simp; omega)))
      clear hb1
      go_wp2_with fail
      go_roundw
      case rel => exact ⟨k + 1, by omega, by go_num, by rw [HN.out, show (⟨#[32]⟩ : ByteArray) = strB [32] from rfl, strB_append, strB_append], hT1, hbr1⟩
      case measure => simp [intOf]; omega
    · obtain rfl : k = 4 := by omega
      have hall : xs.take 4 = xs := List.take_of_length_le (by rw [HL.out]; omega)
      have la : (linWords xs).length ≤ 88 := by have := linWords_len hmm; rw [HL.out] at this; omega
      have ls : (signL s).length ≤ 2 := by cases s <;> simp [signL]
      rw [hall]
      have kc1 := (hb.cell (p := ⟨w.heap.size, 1, none⟩) (by simp)).trans (show _ = some (.int .i64 b) by simp [go_sem])
      have kc2 := (hb.cell (p := ⟨w.heap.size, 2, none⟩) (by simp)).trans (show _ = some (.bool s) by simp [go_sem])
      have HE : Hid (linTextL xs b s = linWords xs ++ (signL s ++ 32 :: Lib.itoa b)) := Lib.hid rfl
      generalize linWords xs = acc at *
      have hs1 : ¬ 9223372036854775807 < acc.length + (signL s).length := by omega
      have hs2 : ¬ 9223372036854775807 < acc.length + (signL s).length + 1 := by omega
      have hs3 : ¬ 9223372036854775807 < acc.length + (signL s).length + 1 + (Lib.itoa b).length := by omega
      go_wp2_with fail
      go_region_held3 (fun w' => w'.cell? ⟨w.heap.size, 1, none⟩ = some (.int .i64 b) ∧ w'.cell? ⟨w.heap.size, 2, none⟩ = some (.bool s)) (simp [go_sem, World.cell?_alloc_past, *]) ((first
        | (go_at_call 88; refine (sign_any s _).mono ?_; rintro e w5 ⟨rfl, rfl⟩)
        | (go_at_call 83; refine (itoaI b (by omega) (by omega) (by (repeat (first | with_reducible exact hTr | (with_reducible refine Tab.alloc ?_ _) | (with_reducible refine Tab.drew ?_))))).mono ?_; rintro e w6 ⟨rfl, hb1⟩; have hbw6 : Below w.heap.size w w6 := (by refine Below.trans ?_ (Below.mono hb1 (by first | omega | (simp; done) | (simp; omega))); (repeat (first | with_reducible exact Below.refl _ _ | with_reducible assumption | (with_reducible refine below_drewN ?_ _) | (with_reducible refine Below.drew ?_) | (with_reducible refine Below.setCell ?_ (by first | omega | (simp; done) | (simp; omega)) _) | (with_reducible refine Below.alloc ?_ (by first | omega | (simp; done) | (simp; omega)) _) | refine Below.trans ?_ (Below.mono (by with_reducible assumption) (by first | omega | (simp; done) | (simp; omega)))))); have hb6 := hb1; have k61 := (hb6.cell (p := ⟨w.heap.size, 1, none⟩) (by first | omega | (simp; done) | (simp; omega))).trans kc1; have k62 := (hb6.cell (p := ⟨w.heap.size, 2, none⟩) (by first | omega | (simp; done) | (simp; omega))).trans kc2; clear hb1 hb6)))
      all_goals
        go_wp2_with fail
        go_ret
        refine ⟨?_, by (repeat (first | with_reducible exact Below.refl _ _ | with_reducible assumption | (with_reducible refine below_drewN ?_ _) | (with_reducible refine Below.drew ?_) | (with_reducible refine Below.setCell ?_ (by first | omega | (simp; done) | (simp; omega)) _) | (with_reducible refine Below.alloc ?_ (by first | omega | (simp; done) | (simp; omega)) _) | refine Below.trans ?_ (Below.mono (by with_reducible assumption) (by first | omega | (simp; done) | (simp; omega)))))⟩
        show Ending.returned (.string (((strB _ ++ strB _) ++ strB [32]) ++ strB _)) = _
        rw [strB_append, strB_append, strB_append, HE.out]
        simp only [List.append_assoc]
        rfl
theorem iLinText_any {A : Option Addr} {n c : Nat} {xs : List Int} {b : Int} {s : Bool} (hk : Hid (linOk xs b = true)) {w : World} (h : Ints w A n xs) (hT : Tab w) :
    Calls Tryd.prog 25 #[.agg #[.slice A n c, .int .i64 b, .bool s]] w fun e w' => e = .returned (.string (strB (linTextL xs b s))) ∧ Below w.heap.size w w' := by
  go_enter Tryd.func25, Tryd.ntmps25
  go_wp2_with fail
  refine (iLinOk_any (xs := xs) b s (by (repeat (first | with_reducible exact h | (with_reducible refine Ints.far ?_ (by first | omega | (simp; done) | (simp; omega)) _) | (with_reducible refine Ints.alloc ?_ _) | (with_reducible refine Ints.drewN ?_ _) | (with_reducible refine Ints.drew ?_))))).mono ?_
  rw [hk.out]
  rintro e w1 ⟨rfl, hb1⟩
  have hT1 : Tab w1 := Tab.later (by (repeat (first | with_reducible exact hT | (with_reducible refine Tab.alloc ?_ _) | (with_reducible refine Tab.drew ?_)))) hb1
  have hI1 : Ints w1 A n xs := Ints.later (by (repeat (first | with_reducible exact h | (with_reducible refine Ints.far ?_ (by first | omega | (simp; done) | (simp; omega)) _) | (with_reducible refine Ints.alloc ?_ _) | (with_reducible refine Ints.drewN ?_ _) | (with_reducible refine Ints.drew ?_)))) hb1
  have hz1 := hb1.size; (try simp at hz1); have hB1 : Below w.heap.size w w1 := (by refine Below.trans ?_ (Below.mono hb1 (by first | omega | (simp; done) | (simp; omega))); (repeat (first | with_reducible exact Below.refl _ _ | with_reducible assumption | (with_reducible refine below_drewN ?_ _) | (with_reducible refine Below.drew ?_) | (with_reducible refine Below.setCell ?_ (by first | omega | (simp; done) | (simp; omega)) _) | (with_reducible refine Below.alloc ?_ (by first | omega | (simp; done) | (simp; omega)) _) | refine Below.trans ?_ (Below.mono (by with_reducible assumption) (by first | omega | (simp; done) | (simp; omega)))))); obtain ⟨kc_, fc_, lc_⟩ := keep_later (a := ⟨w.heap.size, 0, none⟩) (v := .slice A n c) hb1 (by go_simp) (by go_simp); obtain ⟨kc_, fc_, lc_⟩ := keep_later (a := ⟨w.heap.size, 1, none⟩) (v := .int .i64 b) hb1 (by go_simp) (by go_simp); obtain ⟨kc_, fc_, lc_⟩ := keep_later (a := ⟨w.heap.size, 2, none⟩) (v := .bool s) hb1 (by go_simp) (by go_simp); clear hb1
  go_wp2_with fail
  refine (ilinText_any hk (by (repeat (first | with_reducible exact hI1 | (with_reducible refine Ints.far ?_ (by first | omega | (simp; done) | (simp; omega)) _) | (with_reducible refine Ints.alloc ?_ _) | (with_reducible refine Ints.drewN ?_ _) | (with_reducible refine Ints.drew ?_)))) hT1).mono ?_
  rintro e w2 ⟨rfl, hb1⟩
  have hz1 := hb1.size; (try simp at hz1); have hB1 : Below w.heap.size w w2 := (by refine Below.trans ?_ (Below.mono hb1 (by first | omega | (simp; done) | (simp; omega))); (repeat (first | with_reducible exact Below.refl _ _ | with_reducible assumption | (with_reducible refine below_drewN ?_ _) | (with_reducible refine Below.drew ?_) | (with_reducible refine Below.setCell ?_ (by first | omega | (simp; done) | (simp; omega)) _) | (with_reducible refine Below.alloc ?_ (by first | omega | (simp; done) | (simp; omega)) _) | refine Below.trans ?_ (Below.mono (by with_reducible assumption) (by first | omega | (simp; done) | (simp; omega)))))); clear hb1
  go_wp2
  go_ret
  exact ⟨rfl, by (repeat (first | with_reducible exact Below.refl _ _ | with_reducible assumption | (with_reducible refine below_drewN ?_ _) | (with_reducible refine Below.drew ?_) | (with_reducible refine Below.setCell ?_ (by first | omega | (simp; done) | (simp; omega)) _) | (with_reducible refine Below.alloc ?_ (by first | omega | (simp; done) | (simp; omega)) _) | refine Below.trans ?_ (Below.mono (by with_reducible assumption) (by first | omega | (simp; done) | (simp; omega)))))⟩
theorem iLinText_no {A : Option Addr} {n c : Nat} {xs : List Int} {b : Int} {s : Bool} (hk : Hid (linOk xs b = false)) {w : World} (h : Ints w A n xs) :
    Calls Tryd.prog 25 #[.agg #[.slice A n c, .int .i64 b, .bool s]] w fun e w' => e = .returned (.string (strB [])) ∧ Below w.heap.size w w' := by
  go_enter Tryd.func25, Tryd.ntmps25
  go_wp2_with fail
  refine (iLinOk_any (xs := xs) b s (by (repeat (first | with_reducible exact h | (with_reducible refine Ints.far ?_ (by first | omega | (simp; done) | (simp; omega)) _) | (with_reducible refine Ints.alloc ?_ _) | (with_reducible refine Ints.drewN ?_ _) | (with_reducible refine Ints.drew ?_))))).mono ?_
  rw [hk.out]
  rintro e w1 ⟨rfl, hb1⟩
  have hz1 := hb1.size; (try simp at hz1); have hB1 : Below w.heap.size w w1 := (by refine Below.trans ?_ (Below.mono hb1 (by first | omega | (simp; done) | (simp; omega))); (repeat (first | with_reducible exact Below.refl _ _ | with_reducible assumption | (with_reducible refine below_drewN ?_ _) | (with_reducible refine Below.drew ?_) | (with_reducible refine Below.setCell ?_ (by first | omega | (simp; done) | (simp; omega)) _) | (with_reducible refine Below.alloc ?_ (by first | omega | (simp; done) | (simp; omega)) _) | refine Below.trans ?_ (Below.mono (by with_reducible assumption) (by first | omega | (simp; done) | (simp; omega))))))
  clear hb1
  go_wp2
  go_ret
  exact ⟨rfl, by (repeat (first | with_reducible exact Below.refl _ _ | with_reducible assumption | (with_reducible refine below_drewN ?_ _) | (with_reducible refine Below.drew ?_) | (with_reducible refine Below.setCell ?_ (by first | omega | (simp; done) | (simp; omega)) _) | (with_reducible refine Below.alloc ?_ (by first | omega | (simp; done) | (simp; omega)) _) | refine Below.trans ?_ (Below.mono (by with_reducible assumption) (by first | omega | (simp; done) | (simp; omega)))))⟩

set_option maxRecDepth 100000 in
set_option maxHeartbeats 1000000 in
theorem sLinText_any {A : Option Addr} {n c : Nat} {xs : List Int} {b : Int} {s : Bool} (hk : Hid (linOk xs b = true)) {w : World} (h : Ints w A n xs) :
    Calls Tryd.prog 26 #[.agg #[.slice A n c, .int .i64 b, .bool s]] w fun e w' => e = .returned (.string (strB (linTextL xs b s))) ∧ Below w.heap.size w w' := by
  obtain ⟨hl4, hbb, hcc⟩ := linOk_len hk.out
  have hmm := linOk_mem hk.out
  obtain rfl : 4 = n := hl4.symm.trans h.len
  have HL := Lib.hid hl4
  have hbb := coefOk_iff.1 hbb
  have lb := Lib.itoa_length_le b (by omega) (by omega)
  clear hl4
  go_enter Tryd.func26, Tryd.ntmps26
  go_wp2_with fail
  refine (sLinOk_any (xs := xs) b s (by (repeat (first | with_reducible exact h | (with_reducible refine Ints.far ?_ (by first | omega | (simp; done) | (simp; omega)) _) | (with_reducible refine Ints.alloc ?_ _) | (with_reducible refine Ints.drewN ?_ _) | (with_reducible refine Ints.drew ?_))))).mono ?_
  rw [hk.out]
  rintro e w1 ⟨rfl, hb1⟩
  have hI1 : Ints w1 A 4 xs := Ints.later (by (repeat (first | with_reducible exact h | (with_reducible refine Ints.far ?_ (by first | omega | (simp; done) | (simp; omega)) _) | (with_reducible refine Ints.alloc ?_ _) | (with_reducible refine Ints.drewN ?_ _) | (with_reducible refine Ints.drew ?_)))) hb1
  have hz1 := hb1.size; (try simp at hz1); have hB1 : Below w.heap.size w w1 := (by refine Below.trans ?_ (Below.mono hb1 (by first | omega | (simp; done) | (simp; omega))); (repeat (first | with_reducible exact Below.refl _ _ | with_reducible assumption | (with_reducible refine below_drewN ?_ _) | (with_reducible refine Below.drew ?_) | (with_reducible refine Below.setCell ?_ (by first | omega | (simp; done) | (simp; omega)) _) | (with_reducible refine Below.alloc ?_ (by first | omega | (simp; done) | (simp; omega)) _) | refine Below.trans ?_ (Below.mono (by with_reducible assumption) (by first | omega | (simp; done) | (simp; omega)))))); obtain ⟨kc_, fc_, lc_⟩ := keep_later (a := ⟨w.heap.size, 0, none⟩) (v := .slice A 4 c) hb1 (by go_simp) (by go_simp); obtain ⟨kc_, fc_, lc_⟩ := keep_later (a := ⟨w.heap.size, 1, none⟩) (v := .int .i64 b) hb1 (by go_simp) (by go_simp); obtain ⟨kc_, fc_, lc_⟩ := keep_later (a := ⟨w.heap.size, 2, none⟩) (v := .bool s) hb1 (by go_simp) (by go_simp); clear hb1
  have hw0 : w.heap.size < w1.heap.size := by omega
  go_wp2_with fail
  go_loopw [3, 4] (fun s3 i wr => ∃ k : Nat, k ≤ 4 ∧ i = .int .i64 k ∧ s3 = .string (strB (linWords (xs.take k))) ∧ Below w1.heap.size w1 wr ∧ (wr.cell? ⟨w.heap.size, 0, none⟩ = some (.slice A 4 c) ∧ wr.cell? ⟨w.heap.size, 1, none⟩ = some (.int .i64 b) ∧ wr.cell? ⟨w.heap.size, 2, none⟩ = some (.bool s))) (fun _ i _ => 4 - (intOf i).toNat)
  case atStart => exact ⟨0, by omega, rfl, rfl, Below.refl _ _, by assumption, by assumption, by assumption⟩
  case round =>
    obtain ⟨k, hk4, rfl, rfl, hb, kr0, kr1, kr2⟩ := hrel
    have hzb := hb.size
    have hbw : Below w.heap.size w wr := Below.trans hB1 (hb.mono (by omega))
    by_cases hlt : k < 4
    · have hx := coefOk_iff.1 (hcc k hlt)
      have HN := Lib.hid (linWords_succ (xs := xs) (k := k) (by rw [HL.out]; exact hlt))
      have la : (linWords (xs.take k)).length ≤ 88 := by
        have h1 := linWords_len (xs := xs.take k) (fun x hx => hmm x (List.mem_of_mem_take hx))
        have h2 : (xs.take k).length ≤ 4 := by rw [List.length_take, HL.out]; omega
        omega
      have lx := Lib.itoa_length_le (xs.getD k 0) (by omega) (by omega)
      obtain ⟨p, o, rfl, hp, hcs⟩ := h.cells (by omega)
      have hck := (Below.cell (p := ⟨p, o + k, none⟩) (Below.trans (by (repeat (first | with_reducible exact Below.refl _ _ | with_reducible assumption | (with_reducible refine below_drewN ?_ _) | (with_reducible refine Below.drew ?_) | (with_reducible refine Below.setCell ?_ (by first | omega | (simp; done) | (simp; omega)) _) | (with_reducible refine Below.alloc ?_ (by first | omega | (simp; done) | (simp; omega)) _) | refine Below.trans ?_ (Below.mono (by with_reducible assumption) (by first | omega | (simp; done) | (simp; omega)))))) (hb.mono (by omega)) : Below w.heap.size w wr) hp).trans (hcs k hlt)
      clear hcs
      generalize linWords (xs.take k) = acc at *
      generalize xs.getD k 0 = x at *
      have hs1 : ¬ 9223372036854775807 < acc.length + (Lib.itoa x).length := by omega
      have hs2 : ¬ 9223372036854775807 < acc.length + (Lib.itoa x).length + 1 := by omega
      go_wp2_with fail
      refine (l16Dec_any x (by omega) (by omega) _).mono ?_
      rintro e w2 ⟨rfl, hb1⟩
      have hbr2 : Below w1.heap.size w1 w2 := Below.trans (by (repeat (first | with_reducible exact Below.refl _ _ | with_reducible assumption | (with_reducible refine below_drewN ?_ _) | (with_reducible refine Below.drew ?_) | (with_reducible refine Below.setCell ?_ (by first | omega | (simp; done) | (simp; omega)) _) | (with_reducible refine Below.alloc ?_ (by first | omega | (simp; done) | (simp; omega)) _) | refine Below.trans ?_ (Below.mono (by with_reducible assumption) (by first | omega | (simp; done) | (simp; omega)))))) (hb1.mono (by first | omega | (simp; done) | (simp; omega)))
      have k20 := (hb1.cell (p := ⟨w.heap.size, 0, none⟩) (by first | omega | (simp; done) | (simp; omega))).trans kr0
      have k21 := (hb1.cell (p := ⟨w.heap.size, 1, none⟩) (by first | omega | (simp; done) | (simp; omega))).trans kr1
      have k22 := (hb1.cell (p := ⟨w.heap.size, 2, none⟩) (by first | omega | (simp; done) | (simp; omega))).trans kr2
      clear hb1
      go_wp2_with fail
      go_roundw
      case rel => exact ⟨k + 1, by omega, by go_num, by rw [HN.out, show (⟨#[32]⟩ : ByteArray) = strB [32] from rfl, strB_append, strB_append, List.append_assoc], hbr2, k20, k21, k22⟩
      case measure => simp [intOf]; omega
    · obtain rfl : k = 4 := by omega
      have hall : xs.take 4 = xs := List.take_of_length_le (by rw [HL.out]; omega)
      have la : (linWords xs).length ≤ 88 := by have := linWords_len hmm; rw [HL.out] at this; omega
      rw [hall]
      have HE : Hid (linTextL xs b s = linWords xs ++ (signL s ++ 32 :: Lib.itoa b)) := Lib.hid rfl
      generalize linWords xs = acc at *
      cases s
      · have hs1 : ¬ 9223372036854775807 < acc.length + 3 := by omega
        have hs2 : ¬ 9223372036854775807 < acc.length + 3 + (Lib.itoa b).length := by omega
        go_wp2_with fail
        refine (l16Dec_any b (by omega) (by omega) _).mono ?_
        rintro e w2 ⟨rfl, hb1⟩
        have hz1 := hb1.size; (try simp at hz1); have hB1 : Below w.heap.size w w2 := (by refine Below.trans ?_ (Below.mono hb1 (by first | omega | (simp; done) | (simp; omega))); (repeat (first | with_reducible exact Below.refl _ _ | with_reducible assumption | (with_reducible refine below_drewN ?_ _) | (with_reducible refine Below.drew ?_) | (with_reducible refine Below.setCell ?_ (by first | omega | (simp; done) | (simp; omega)) _) | (with_reducible refine Below.alloc ?_ (by first | omega | (simp; done) | (simp; omega)) _) | refine Below.trans ?_ (Below.mono (by with_reducible assumption) (by first | omega | (simp; done) | (simp; omega)))))); clear hb1
        go_wp2_with fail
        go_ret
        refine ⟨?_, by (repeat (first | with_reducible exact Below.refl _ _ | with_reducible assumption | (with_reducible refine below_drewN ?_ _) | (with_reducible refine Below.drew ?_) | (with_reducible refine Below.setCell ?_ (by first | omega | (simp; done) | (simp; omega)) _) | (with_reducible refine Below.alloc ?_ (by first | omega | (simp; done) | (simp; omega)) _) | refine Below.trans ?_ (Below.mono (by with_reducible assumption) (by first | omega | (simp; done) | (simp; omega)))))⟩
        show Ending.returned (.string ((strB _ ++ strB [60, 61, 32]) ++ strB _)) = _
        rw [strB_append, strB_append, HE.out]
        simp only [List.append_assoc]
        rfl
      · have hs1 : ¬ 9223372036854775807 < acc.length + 2 := by omega
        have hs2 : ¬ 9223372036854775807 < acc.length + 2 + (Lib.itoa b).length := by omega
        go_wp2_with fail
        refine (l16Dec_any b (by omega) (by omega) _).mono ?_
        rintro e w2 ⟨rfl, hb1⟩
        have hz1 := hb1.size; (try simp at hz1); have hB1 : Below w.heap.size w w2 := (by refine Below.trans ?_ (Below.mono hb1 (by first | omega | (simp; done) | (simp; omega))); (repeat (first | with_reducible exact Below.refl _ _ | with_reducible assumption | (with_reducible refine below_drewN ?_ _) | (with_reducible refine Below.drew ?_) | (with_reducible refine Below.setCell ?_ (by first | omega | (simp; done) | (simp; omega)) _) | (with_reducible refine Below.alloc ?_ (by first | omega | (simp; done) | (simp; omega)) _) | refine Below.trans ?_ (Below.mono (by with_reducible assumption) (by first | omega | (simp; done) | (simp; omega)))))); clear hb1
        go_wp2_with fail
        go_ret
        refine ⟨?_, by (repeat (first | with_reducible exact Below.refl _ _ | with_reducible assumption | (with_reducible refine below_drewN ?_ _) | (with_reducible refine Below.drew ?_) | (with_reducible refine Below.setCell ?_ (by first | omega | (simp; done) | (simp; omega)) _) | (with_reducible refine Below.alloc ?_ (by first | omega | (simp; done) | (simp; omega)) _) | refine Below.trans ?_ (Below.mono (by with_reducible assumption) (by first | omega | (simp; done) | (simp; omega)))))⟩
        show Ending.returned (.string ((strB _ ++ strB [60, 32]) ++ strB _)) = _
        rw [strB_append, strB_append, HE.out]
        simp only [List.append_assoc]
        rfl
theorem sLinText_no {A : Option Addr} {n c : Nat} {xs : List Int} {b : Int} {s : Bool} (hk : Hid (linOk xs b = false)) {w : World} (h : Ints w A n xs) :
    Calls Tryd.prog 26 #[.agg #[.slice A n c, .int .i64 b, .bool s]] w fun e w' => e = .returned (.string (strB [])) ∧ Below w.heap.size w w' := by
  go_enter Tryd.func26, Tryd.ntmps26
  go_wp2_with fail
  refine (sLinOk_any (xs := xs) b s (by (repeat (first | with_reducible exact h | (with_reducible refine Ints.far ?_ (by first | omega | (simp; done) | (simp; omega)) _) | (with_reducible refine Ints.alloc ?_ _) | (with_reducible refine Ints.drewN ?_ _) | (with_reducible refine Ints.drew ?_))))).mono ?_
  rw [hk.out]
  rintro e w1 ⟨rfl, hb1⟩
  have hz1 := hb1.size; (try simp at hz1); have hB1 : Below w.heap.size w w1 := (by refine Below.trans ?_ (Below.mono hb1 (by first | omega | (simp; done) | (simp; omega))); (repeat (first | with_reducible exact Below.refl _ _ | with_reducible assumption | (with_reducible refine below_drewN ?_ _) | (with_reducible refine Below.drew ?_) | (with_reducible refine Below.setCell ?_ (by first | omega | (simp; done) | (simp; omega)) _) | (with_reducible refine Below.alloc ?_ (by first | omega | (simp; done) | (simp; omega)) _) | refine Below.trans ?_ (Below.mono (by with_reducible assumption) (by first | omega | (simp; done) | (simp; omega))))))
  clear hb1
  go_wp2
  go_ret
  exact ⟨rfl, by (repeat (first | with_reducible exact Below.refl _ _ | with_reducible assumption | (with_reducible refine below_drewN ?_ _) | (with_reducible refine Below.drew ?_) | (with_reducible refine Below.setCell ?_ (by first | omega | (simp; done) | (simp; omega)) _) | (with_reducible refine Below.alloc ?_ (by first | omega | (simp; done) | (simp; omega)) _) | refine Below.trans ?_ (Below.mono (by with_reducible assumption) (by first | omega | (simp; done) | (simp; omega)))))⟩
end Go.Proofs.YtkbohgabifpceaaDoor

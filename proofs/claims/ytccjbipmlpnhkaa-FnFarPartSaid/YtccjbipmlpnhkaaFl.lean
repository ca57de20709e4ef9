/- Lists of constraints: contracts. -/
import Derived.Test.YtccjbipmlpnhkaaZ
namespace Go.Proofs.Ytccjbipmlpnhkaa
set_option maxRecDepth 100000
open Go.RowKit Go.ChangeShapes Go.WideShapes Go.ChangeAt
set_option linter.unusedSimpArgs false
set_option linter.unusedVariables false

/-- a constraint -/
abbrev LinV := List Int × Int × Bool
def lin0 : LinV := ([], 0, false)
/-- The cell of constraint j is there. -/
structure LinCell (w : World) (b o : Nat) (l : LinV) : Prop where
  ex : ∃ A m c, Ints w A m l.1 ∧ w.cell? ⟨b, o, none⟩ = some (.slice A m c) ∧ w.cell? ⟨b, o + 1, none⟩ = some (.int .i64 l.2.1) ∧ w.cell? ⟨b, o + 2, none⟩ = some (.bool l.2.2)
/-- The slice value '.slice A n c' reads as the constraints ls. -/
structure Lins (w : World) (A : Option Addr) (n : Nat) (ls : List LinV) : Prop where
  len : ls.length = n
  cells : 0 < n → ∃ b o, A = some ⟨b, o, none⟩ ∧ b < w.heap.size ∧ ∀ j, j < n → LinCell w b (o + j * 3) (ls.getD j lin0)
  few : n ≤ 9223372036854775807
theorem LinCell.later {w w' : World} {b o : Nat} {l : LinV} (h : LinCell w b o l) (hb : Below w.heap.size w w') (hl : b < w.heap.size) : LinCell w' b o l := by
  obtain ⟨A, m, c, hI, h0, h1, h2⟩ := h.ex
  exact ⟨A, m, c, hI.later hb, (hb.cell (p := ⟨b, o, none⟩) hl).trans h0, (hb.cell (p := ⟨b, o + 1, none⟩) hl).trans h1, (hb.cell (p := ⟨b, o + 2, none⟩) hl).trans h2⟩
theorem Lins.later {w w' : World} {A : Option Addr} {n : Nat} {ls : List LinV} (h : Lins w A n ls) (hb : Below w.heap.size w w') : Lins w' A n ls :=
  ⟨h.len, fun hn => by
    obtain ⟨b, o, e, hl, hc⟩ := h.cells hn
    exact ⟨b, o, e, Nat.lt_of_lt_of_le hl hb.size, fun j hj => (hc j hj).later hb hl⟩, h.few⟩
theorem Lins.drewN {w : World} {A : Option Addr} {n : Nat} {ls : List LinV} (h : Lins w A n ls) (m : Nat) : Lins (w.drewN m) A n ls := h.later (below_drewN (Below.refl _ _) m)
theorem Lins.drew {w : World} {A : Option Addr} {n : Nat} {ls : List LinV} (h : Lins w A n ls) : Lins w.drew A n ls := h.later (Below.drew (Below.refl _ _))
theorem Lins.alloc {w : World} {A : Option Addr} {n : Nat} {ls : List LinV} (h : Lins w A n ls) (o : Obj) : Lins (w.alloc o) A n ls := h.later ((Below.refl _ _).alloc (Nat.le_refl _) o)
/-- The first k constraints are valid. -/
def LOkTo (ls : List LinV) (k : Nat) : Prop := ∀ j, j < k → linOk (ls.getD j lin0).1 (ls.getD j lin0).2.1 = true
theorem LOkTo.zero (ls : List LinV) : LOkTo ls 0 := fun _ h => absurd h (by omega)
theorem LOkTo.succ {ls : List LinV} {k : Nat} (h : LOkTo ls k) (h' : linOk (ls.getD k lin0).1 (ls.getD k lin0).2.1 = true) : LOkTo ls (k + 1) := fun j hj => by
  by_cases e : j = k
  · rw [e]; exact h'
  · exact h j (by omega)
def allLin (ls : List LinV) : Bool := ls.all fun l => linOk l.1 l.2.1
theorem allLin_no {ls : List LinV} {k : Nat} (hk : k < ls.length) (h : linOk (ls.getD k lin0).1 (ls.getD k lin0).2.1 = false) : allLin ls = false := by
  unfold allLin
  rw [List.all_eq_false]
  refine ⟨ls.getD k lin0, ?_, by rw [h]; simp⟩
  rw [List.getD_eq_getElem?_getD, List.getElem?_eq_getElem hk]; exact List.getElem_mem hk
theorem allLin_yes {ls : List LinV} (h : LOkTo ls ls.length) : allLin ls = true := by
  unfold allLin
  rw [List.all_eq_true]
  intro x hx
  obtain ⟨j, hj, rfl⟩ := List.mem_iff_getElem.1 hx
  have := h j hj
  rwa [List.getD_eq_getElem?_getD, List.getElem?_eq_getElem hj] at this
theorem allLin_at {ls : List LinV} (h : allLin ls = true) {k : Nat} (hk : k < ls.length) : linOk (ls.getD k lin0).1 (ls.getD k lin0).2.1 = true := by
  unfold allLin at h
  rw [List.all_eq_true] at h
  refine h _ ?_
  rw [List.getD_eq_getElem?_getD, List.getElem?_eq_getElem hk]; exact List.getElem_mem hk
/-- a system -/
def sysOk (ls : List LinV) : Bool := allLin ls && decide (ls.length ≤ 20)
theorem twenty_eq (k : Nat) : decide ((k : Int) ≤ 20) = decide (k ≤ 20) := by
  rw [decide_eq_decide]; omega

set_option maxHeartbeats 2000000 in
theorem l3Ok_any {A : Option Addr} {n c : Nat} {ls : List LinV} {w : World} (h : Lins w A n ls) :
    Calls Try.prog 51 #[.slice A n c] w fun e w' => e = .returned (.bool (sysOk ls)) ∧ Below w.heap.size w w' := by
  have hfew := h.few
  go_enter Try.func51, Try.ntmps51
  go_wp2_with fail
  go_loopw [3] (fun i wr => ∃ k : Nat, k ≤ n ∧ i = .int .i64 k ∧ LOkTo ls k ∧ Below w.heap.size w wr) (fun i _ => n - (intOf i).toNat)
  case atStart => exact ⟨0, by omega, rfl, LOkTo.zero ls, by (repeat (first | with_reducible exact Below.refl _ _ | with_reducible assumption | (with_reducible refine below_drewN ?_ _) | (with_reducible refine Below.drew ?_) | (with_reducible refine Below.setCell ?_ (by first | omega | (simp; done) | (simp; omega)) _) | (with_reducible refine Below.alloc ?_ (by first | omega | (simp; done) | (simp; omega)) _) | refine Below.trans ?_ (Below.mono (by with_reducible assumption) (by first | omega | (simp; done) | (simp; omega)))))⟩
  case round =>
    obtain ⟨k, hk, rfl, hok, hB⟩ := hrel
    by_cases hlt : k < n
    · obtain ⟨p, o, rfl, hp, hcs⟩ := (h.later hB).cells (by omega)
      obtain ⟨B, m, cb, hIk, hc1, hc2, hc3⟩ := (hcs k hlt).ex
      clear hcs
      have hbad := Lib.hid (@allLin_no ls k (by rw [h.len]; exact hlt))
      have hyes := Lib.hid (@LOkTo.succ ls k hok)
      generalize (ls.getD k lin0).1 = xs at *
      generalize (ls.getD k lin0).2.1 = b at *
      generalize (ls.getD k lin0).2.2 = s at *
      cases hx : linOk xs b
      · go_wp2_with fail
        refine (sLinOk_any b s hIk).mono ?_
        rw [hx]
        rintro e w1 ⟨rfl, hb1⟩
        have hB1 := hB.trans (hb1.mono hB.size)
        go_wp2
        go_ret
        exact ⟨by rw [show sysOk ls = false by unfold sysOk; rw [hbad.out hx]; rfl]; rfl, hB1⟩
      · go_wp2_with fail
        refine (sLinOk_any b s hIk).mono ?_
        rw [hx]
        rintro e w1 ⟨rfl, hb1⟩
        have hB1 := hB.trans (hb1.mono hB.size)
        go_wp2
        go_roundw
        case rel => exact ⟨k + 1, by omega, by go_num, hyes.out hx, hB1⟩
        case measure => simp [intOf]; omega
    · obtain rfl : k = n := by omega
      have hall := allLin_yes (by rw [h.len]; exact hok)
      have hl := h.len
      go_wp2
      go_ret
      exact ⟨by rw [show sysOk ls = decide (k ≤ 20) by unfold sysOk; rw [hall, hl]; simp]; simp [twenty_eq], hB⟩
theorem isSystem1_any {A : Option Addr} {n c : Nat} {xs : List Int} (b : Int) (s : Bool) {w : World} (h : Ints w A n xs) :
    Calls Try.prog 80 #[.agg #[.slice A n c, .int .i64 b, .bool s]] w fun e w' => e = .returned (.bool (!linOk xs b)) ∧ Below w.heap.size w w' := by
  go_enter Try.func80, Try.ntmps80
  go_wp2_with fail
  refine (iLinOk_any (xs := xs) b s (h.later (by (repeat (first | with_reducible exact Below.refl _ _ | with_reducible assumption | (with_reducible refine below_drewN ?_ _) | (with_reducible refine Below.drew ?_) | (with_reducible refine Below.setCell ?_ (by first | omega | (simp; done) | (simp; omega)) _) | (with_reducible refine Below.alloc ?_ (by first | omega | (simp; done) | (simp; omega)) _) | refine Below.trans ?_ (Below.mono (by with_reducible assumption) (by first | omega | (simp; done) | (simp; omega)))))))).mono ?_
  rintro e w1 ⟨rfl, hb1⟩
  have hz1 := hb1.size; (try simp at hz1); have hB1 : Below w.heap.size w w1 := (by refine Below.trans ?_ (Below.mono hb1 (by first | omega | (simp; done) | (simp; omega))); (repeat (first | with_reducible exact Below.refl _ _ | with_reducible assumption | (with_reducible refine below_drewN ?_ _) | (with_reducible refine Below.drew ?_) | (with_reducible refine Below.setCell ?_ (by first | omega | (simp; done) | (simp; omega)) _) | (with_reducible refine Below.alloc ?_ (by first | omega | (simp; done) | (simp; omega)) _) | refine Below.trans ?_ (Below.mono (by with_reducible assumption) (by first | omega | (simp; done) | (simp; omega)))))); skip; clear hb1
  go_wp2
  go_ret
  exact ⟨rfl, by (repeat (first | with_reducible exact Below.refl _ _ | with_reducible assumption | (with_reducible refine below_drewN ?_ _) | (with_reducible refine Below.drew ?_) | (with_reducible refine Below.setCell ?_ (by first | omega | (simp; done) | (simp; omega)) _) | (with_reducible refine Below.alloc ?_ (by first | omega | (simp; done) | (simp; omega)) _) | refine Below.trans ?_ (Below.mono (by with_reducible assumption) (by first | omega | (simp; done) | (simp; omega)))))⟩
set_option maxHeartbeats 2000000 in
theorem indexFuncLin_any {A : Option Addr} {n c : Nat} {ls : List LinV} {w : World} (h : Lins w A n ls) :
    Calls Try.prog 105 #[.slice A n c, .func (.func 80) #[] #[]] w fun e w' => ∃ r : Int, e = .returned (.int .i64 r) ∧ decide (0 ≤ r) = !allLin ls ∧ Below w.heap.size w w' := by
  have hfew := h.few
  go_enter Try.func105, Try.ntmps105
  go_wp2_with fail
  go_loopw [8] (fun i wr => ∃ k : Nat, k ≤ n ∧ i = .int .i64 k ∧ LOkTo ls k ∧ Below w.heap.size w wr) (fun i _ => n - (intOf i).toNat)
  case atStart => exact ⟨0, by omega, rfl, LOkTo.zero ls, by (repeat (first | with_reducible exact Below.refl _ _ | with_reducible assumption | (with_reducible refine below_drewN ?_ _) | (with_reducible refine Below.drew ?_) | (with_reducible refine Below.setCell ?_ (by first | omega | (simp; done) | (simp; omega)) _) | (with_reducible refine Below.alloc ?_ (by first | omega | (simp; done) | (simp; omega)) _) | refine Below.trans ?_ (Below.mono (by with_reducible assumption) (by first | omega | (simp; done) | (simp; omega)))))⟩
  case round =>
    obtain ⟨k, hk, rfl, hok, hB⟩ := hrel
    by_cases hlt : k < n
    · obtain ⟨p, o, rfl, hp, hcs⟩ := (h.later hB).cells (by omega)
      obtain ⟨B, m, cb, hIk, hc1, hc2, hc3⟩ := (hcs k hlt).ex
      clear hcs
      have hbad := Lib.hid (@allLin_no ls k (by rw [h.len]; exact hlt))
      have hyes := Lib.hid (@LOkTo.succ ls k hok)
      generalize (ls.getD k lin0).1 = xs at *
      generalize (ls.getD k lin0).2.1 = b at *
      generalize (ls.getD k lin0).2.2 = s at *
      cases hx : linOk xs b
      · go_wp2_with fail
        refine (isSystem1_any b s hIk).mono ?_
        rw [hx]
        rintro e w1 ⟨rfl, hb1⟩
        have hB1 := hB.trans (hb1.mono hB.size)
        go_wp2
        go_ret
        exact ⟨(k : Int), rfl, by rw [hbad.out hx]; simp, hB1⟩
      · go_wp2_with fail
        refine (isSystem1_any b s hIk).mono ?_
        rw [hx]
        rintro e w1 ⟨rfl, hb1⟩
        have hB1 := hB.trans (hb1.mono hB.size)
        go_wp2
        go_roundw
        case rel => exact ⟨k + 1, by omega, by go_num, hyes.out hx, hB1⟩
        case measure => simp [intOf]; omega
    · obtain rfl : k = n := by omega
      go_wp2
      go_ret
      exact ⟨-1, rfl, by rw [allLin_yes (by rw [h.len]; exact hok)]; rfl, hB⟩
set_option maxHeartbeats 2000000 in
theorem containsFuncLin_any {A : Option Addr} {n c : Nat} {ls : List LinV} {w : World} (h : Lins w A n ls) :
    Calls Try.prog 79 #[.slice A n c, .func (.func 80) #[] #[]] w fun e w' => e = .returned (.bool (!allLin ls)) ∧ Below w.heap.size w w' := by
  go_enter Try.func79, Try.ntmps79
  go_wp2_with fail
  refine (indexFuncLin_any h).mono ?_
  rintro e w' ⟨r, rfl, hr, hb1⟩
  have HR := Lib.hid hr
  clear hr
  go_wp2
  go_ret
  exact ⟨by rw [← HR.out]; rfl, hb1⟩
set_option maxHeartbeats 2000000 in
theorem isSystem_any {A : Option Addr} {n c : Nat} {ls : List LinV} {w : World} (h : Lins w A n ls) :
    Calls Try.prog 46 #[.slice A n c] w fun e w' => e = .returned (.bool (sysOk ls)) ∧ Below w.heap.size w w' := by
  have hl := h.len
  have hfew := h.few
  by_cases h4 : n ≤ 20
  · have hv : sysOk ls = allLin ls := by unfold sysOk; rw [hl]; simp [h4]
    have h5 : decide ((n : Int) ≤ 20) = true := by simp; omega
    rw [hv]
    go_enter Try.func46, Try.ntmps46
    go_wp2_with fail
    refine (containsFuncLin_any h).mono ?_
    rintro e w1 ⟨rfl, hb1⟩
    go_wp2
    go_ret
    exact ⟨by simp, hb1⟩
  · have hv : sysOk ls = false := by unfold sysOk; rw [hl]; simp [h4]
    have h5 : decide ((n : Int) ≤ 20) = false := by simp; omega
    rw [hv]
    go_enter Try.func46, Try.ntmps46
    go_wp2
    go_ret
    exact ⟨by simp, Below.refl _ _⟩
/-- The first k constraints hold. -/
def HoldTo (ls : List LinV) (vs : List (Int × Int)) (k : Nat) : Prop := ∀ j, j < k → linAt (ls.getD j lin0).1 (ls.getD j lin0).2.1 (ls.getD j lin0).2.2 vs = (true, true)
theorem HoldTo.zero (ls : List LinV) (vs : List (Int × Int)) : HoldTo ls vs 0 := fun _ h => absurd h (by omega)
theorem HoldTo.succ {ls : List LinV} {vs : List (Int × Int)} {k : Nat} (h : HoldTo ls vs k) (h' : linAt (ls.getD k lin0).1 (ls.getD k lin0).2.1 (ls.getD k lin0).2.2 vs = (true, true)) : HoldTo ls vs (k + 1) := fun j hj => by
  by_cases e : j = k
  · rw [e]; exact h'
  · exact h j (by omega)
/-- all constraints hold -/
def farAll (ls : List LinV) (vs : List (Int × Int)) : Bool := ls.all (fun l => linAt l.1 l.2.1 l.2.2 vs == (true, true)) && (sysOk ls && valsOk vs)
theorem farAll_no {ls : List LinV} {vs : List (Int × Int)} {k : Nat} (hk : k < ls.length) (h : linAt (ls.getD k lin0).1 (ls.getD k lin0).2.1 (ls.getD k lin0).2.2 vs ≠ (true, true)) : farAll ls vs = false := by
  have : (ls.all fun l => linAt l.1 l.2.1 l.2.2 vs == (true, true)) = false := by
    rw [List.all_eq_false]
    refine ⟨ls.getD k lin0, ?_, by simpa using h⟩
    rw [List.getD_eq_getElem?_getD, List.getElem?_eq_getElem hk]; exact List.getElem_mem hk
  unfold farAll; rw [this, Bool.false_and]
theorem farAll_yes {ls : List LinV} {vs : List (Int × Int)} (h : HoldTo ls vs ls.length) : farAll ls vs = (sysOk ls && valsOk vs) := by
  have : (ls.all fun l => linAt l.1 l.2.1 l.2.2 vs == (true, true)) = true := by
    rw [List.all_eq_true]
    intro x hx
    obtain ⟨j, hj, rfl⟩ := List.mem_iff_getElem.1 hx
    have := h j hj
    rw [List.getD_eq_getElem?_getD, List.getElem?_eq_getElem hj] at this
    simpa using this
  unfold farAll; rw [this, Bool.true_and]
theorem farAll_inv {ls : List LinV} {vs : List (Int × Int)} (h : (sysOk ls && valsOk vs) = false) : farAll ls vs = false := by
  unfold farAll; rw [h, Bool.and_false]

set_option maxHeartbeats 4000000 in
theorem sFarAll_any {A A' : Option Addr} {n n' c c' : Nat} {ls : List LinV} {vs : List (Int × Int)} {w : World} (h : Lins w A n ls) (h' : Rats w A' n' vs) :
    Calls Try.prog 30 #[.slice A n c, .slice A' n' c'] w fun e w' => e = .returned (.bool (farAll ls vs)) ∧ Below w.heap.size w w' := by
  have hfew := h.few
  obtain ⟨f, hf⟩ : ∃ f, farAll ls vs = f := ⟨_, rfl⟩
  rw [hf]
  have HF := Lib.hid hf
  clear hf
  go_enter Try.func30, Try.ntmps30
  go_wp2_with fail
  go_loopw [5] (fun i wr => ∃ k : Nat, k ≤ n ∧ i = .int .i64 k ∧ HoldTo ls vs k ∧ Below w.heap.size w wr) (fun i _ => n - (intOf i).toNat)
  case atStart => exact ⟨0, by omega, rfl, HoldTo.zero ls vs, by (repeat (first | with_reducible exact Below.refl _ _ | with_reducible assumption | (with_reducible refine below_drewN ?_ _) | (with_reducible refine Below.drew ?_) | (with_reducible refine Below.setCell ?_ (by first | omega | (simp; done) | (simp; omega)) _) | (with_reducible refine Below.alloc ?_ (by first | omega | (simp; done) | (simp; omega)) _) | refine Below.trans ?_ (Below.mono (by with_reducible assumption) (by first | omega | (simp; done) | (simp; omega)))))⟩
  case round =>
    obtain ⟨k, hk, rfl, hok, hB⟩ := hrel
    have hzr := hB.size
    by_cases hlt : k < n
    · obtain ⟨p, o, rfl, hp, hcs⟩ := (h.later hB).cells (by omega)
      obtain ⟨B, m, cb, hIk, hc1, hc2, hc3⟩ := (hcs k hlt).ex
      clear hcs
      have hno := Lib.hid (@farAll_no ls vs k (by rw [h.len]; exact hlt))
      have hyes := Lib.hid (@HoldTo.succ ls vs k hok)
      generalize (ls.getD k lin0).1 = xs at *
      generalize (ls.getD k lin0).2.1 = b at *
      generalize (ls.getD k lin0).2.2 = s at *
      obtain ⟨so, ok, hla⟩ : ∃ so ok, linAt xs b s vs = (so, ok) := ⟨_, _, rfl⟩
      go_wp2_with fail
      refine (sLinAt_any (vs := vs) b s (hIk.later (by (repeat (first | with_reducible exact Below.refl _ _ | with_reducible assumption | (with_reducible refine below_drewN ?_ _) | (with_reducible refine Below.drew ?_) | (with_reducible refine Below.setCell ?_ (by first | omega | (simp; done) | (simp; omega)) _) | (with_reducible refine Below.alloc ?_ (by first | omega | (simp; done) | (simp; omega)) _) | refine Below.trans ?_ (Below.mono (by with_reducible assumption) (by first | omega | (simp; done) | (simp; omega))))))) (h'.later (by (repeat (first | with_reducible exact Below.refl _ _ | with_reducible assumption | (with_reducible refine below_drewN ?_ _) | (with_reducible refine Below.drew ?_) | (with_reducible refine Below.setCell ?_ (by first | omega | (simp; done) | (simp; omega)) _) | (with_reducible refine Below.alloc ?_ (by first | omega | (simp; done) | (simp; omega)) _) | refine Below.trans ?_ (Below.mono (by with_reducible assumption) (by first | omega | (simp; done) | (simp; omega)))))))).mono ?_
      rw [hla]
      rintro e w1 ⟨rfl, hb1⟩
      have hz1 := hb1.size; (try simp at hz1); have hB1 : Below w.heap.size w w1 := (by refine Below.trans ?_ (Below.mono hb1 (by first | omega | (simp; done) | (simp; omega))); (repeat (first | with_reducible exact Below.refl _ _ | with_reducible assumption | (with_reducible refine below_drewN ?_ _) | (with_reducible refine Below.drew ?_) | (with_reducible refine Below.setCell ?_ (by first | omega | (simp; done) | (simp; omega)) _) | (with_reducible refine Below.alloc ?_ (by first | omega | (simp; done) | (simp; omega)) _) | refine Below.trans ?_ (Below.mono (by with_reducible assumption) (by first | omega | (simp; done) | (simp; omega))))))
      clear hb1
      cases ok
      · have hf : farAll ls vs = false := hno.out (by rw [hla]; simp)
        have he := HF.out.symm.trans hf
        subst he
        go_wp2
        go_ret
        exact ⟨rfl, by (repeat (first | with_reducible exact Below.refl _ _ | with_reducible assumption | (with_reducible refine below_drewN ?_ _) | (with_reducible refine Below.drew ?_) | (with_reducible refine Below.setCell ?_ (by first | omega | (simp; done) | (simp; omega)) _) | (with_reducible refine Below.alloc ?_ (by first | omega | (simp; done) | (simp; omega)) _) | refine Below.trans ?_ (Below.mono (by with_reducible assumption) (by first | omega | (simp; done) | (simp; omega)))))⟩
      cases so
      · have hf : farAll ls vs = false := hno.out (by rw [hla]; simp)
        have he := HF.out.symm.trans hf
        subst he
        go_wp2
        go_ret
        exact ⟨rfl, by (repeat (first | with_reducible exact Below.refl _ _ | with_reducible assumption | (with_reducible refine below_drewN ?_ _) | (with_reducible refine Below.drew ?_) | (with_reducible refine Below.setCell ?_ (by first | omega | (simp; done) | (simp; omega)) _) | (with_reducible refine Below.alloc ?_ (by first | omega | (simp; done) | (simp; omega)) _) | refine Below.trans ?_ (Below.mono (by with_reducible assumption) (by first | omega | (simp; done) | (simp; omega)))))⟩
      · have hy := hyes.out hla
        go_wp2
        go_roundw
        case rel => exact ⟨k + 1, by omega, by go_num, hy, by (repeat (first | with_reducible exact Below.refl _ _ | with_reducible assumption | (with_reducible refine below_drewN ?_ _) | (with_reducible refine Below.drew ?_) | (with_reducible refine Below.setCell ?_ (by first | omega | (simp; done) | (simp; omega)) _) | (with_reducible refine Below.alloc ?_ (by first | omega | (simp; done) | (simp; omega)) _) | refine Below.trans ?_ (Below.mono (by with_reducible assumption) (by first | omega | (simp; done) | (simp; omega)))))⟩
        case measure => simp [intOf]; omega
    · obtain rfl : k = n := by omega
      have hall := farAll_yes (by rw [h.len]; exact hok)
      have he := HF.out.symm.trans hall
      subst he
      go_wp2_with fail
      refine (l3Ok_any (h.later hB)).mono ?_
      rintro e w1 ⟨rfl, hb1⟩
      have hz1 := hb1.size; (try simp at hz1); have hB1 : Below w.heap.size w w1 := (by refine Below.trans ?_ (Below.mono hb1 (by first | omega | (simp; done) | (simp; omega))); (repeat (first | with_reducible exact Below.refl _ _ | with_reducible assumption | (with_reducible refine below_drewN ?_ _) | (with_reducible refine Below.drew ?_) | (with_reducible refine Below.setCell ?_ (by first | omega | (simp; done) | (simp; omega)) _) | (with_reducible refine Below.alloc ?_ (by first | omega | (simp; done) | (simp; omega)) _) | refine Below.trans ?_ (Below.mono (by with_reducible assumption) (by first | omega | (simp; done) | (simp; omega))))))
      clear hb1
      cases hs : sysOk ls
      · go_wp2
        go_ret
        exact ⟨by simp [hs], by (repeat (first | with_reducible exact Below.refl _ _ | with_reducible assumption | (with_reducible refine below_drewN ?_ _) | (with_reducible refine Below.drew ?_) | (with_reducible refine Below.setCell ?_ (by first | omega | (simp; done) | (simp; omega)) _) | (with_reducible refine Below.alloc ?_ (by first | omega | (simp; done) | (simp; omega)) _) | refine Below.trans ?_ (Below.mono (by with_reducible assumption) (by first | omega | (simp; done) | (simp; omega)))))⟩
      · go_wp2_with fail
        refine (l2Vals_any (h'.later (by (repeat (first | with_reducible exact Below.refl _ _ | with_reducible assumption | (with_reducible refine below_drewN ?_ _) | (with_reducible refine Below.drew ?_) | (with_reducible refine Below.setCell ?_ (by first | omega | (simp; done) | (simp; omega)) _) | (with_reducible refine Below.alloc ?_ (by first | omega | (simp; done) | (simp; omega)) _) | refine Below.trans ?_ (Below.mono (by with_reducible assumption) (by first | omega | (simp; done) | (simp; omega)))))))).mono ?_
        rintro e w2 ⟨rfl, hb1⟩
        have hz1 := hb1.size; (try simp at hz1); have hB1 : Below w.heap.size w w2 := (by refine Below.trans ?_ (Below.mono hb1 (by first | omega | (simp; done) | (simp; omega))); (repeat (first | with_reducible exact Below.refl _ _ | with_reducible assumption | (with_reducible refine below_drewN ?_ _) | (with_reducible refine Below.drew ?_) | (with_reducible refine Below.setCell ?_ (by first | omega | (simp; done) | (simp; omega)) _) | (with_reducible refine Below.alloc ?_ (by first | omega | (simp; done) | (simp; omega)) _) | refine Below.trans ?_ (Below.mono (by with_reducible assumption) (by first | omega | (simp; done) | (simp; omega))))))
        clear hb1
        go_wp2
        go_ret
        exact ⟨by simp [hs], by (repeat (first | with_reducible exact Below.refl _ _ | with_reducible assumption | (with_reducible refine below_drewN ?_ _) | (with_reducible refine Below.drew ?_) | (with_reducible refine Below.setCell ?_ (by first | omega | (simp; done) | (simp; omega)) _) | (with_reducible refine Below.alloc ?_ (by first | omega | (simp; done) | (simp; omega)) _) | refine Below.trans ?_ (Below.mono (by with_reducible assumption) (by first | omega | (simp; done) | (simp; omega)))))⟩

set_option maxHeartbeats 4000000 in
theorem iFarAll_any {A A' : Option Addr} {n n' c c' : Nat} {ls : List LinV} {vs : List (Int × Int)} {w : World} (h : Lins w A n ls) (h' : Rats w A' n' vs) :
    Calls Try.prog 20 #[.slice A n c, .slice A' n' c'] w fun e w' => e = .returned (.bool (farAll ls vs)) ∧ Below w.heap.size w w' := by
  have hfew := h.few
  cases hs : sysOk ls
  · rw [farAll_inv (by rw [hs]; rfl)]
    go_enter Try.func20, Try.ntmps20
    go_wp2_with fail
    refine (isSystem_any h).mono ?_
    rw [hs]
    rintro e w1 ⟨rfl, hb1⟩
    go_wp2
    go_ret
    exact ⟨rfl, hb1⟩
  cases hv : valsOk vs
  · rw [farAll_inv (by rw [hs, hv]; rfl)]
    go_enter Try.func20, Try.ntmps20
    go_wp2_with fail
    refine (isSystem_any h).mono ?_
    rw [hs]
    rintro e w1 ⟨rfl, hb1⟩
    have hz1 := hb1.size; (try simp at hz1); have hB1 : Below w.heap.size w w1 := (by refine Below.trans ?_ (Below.mono hb1 (by first | omega | (simp; done) | (simp; omega))); (repeat (first | with_reducible exact Below.refl _ _ | with_reducible assumption | (with_reducible refine below_drewN ?_ _) | (with_reducible refine Below.drew ?_) | (with_reducible refine Below.setCell ?_ (by first | omega | (simp; done) | (simp; omega)) _) | (with_reducible refine Below.alloc ?_ (by first | omega | (simp; done) | (simp; omega)) _) | refine Below.trans ?_ (Below.mono (by with_reducible assumption) (by first | omega | (simp; done) | (simp; omega))))))
    clear hb1
    go_wp2_with fail
    refine (isAssignment_any (h'.later (by (repeat (first | with_reducible exact Below.refl _ _ | with_reducible assumption | (with_reducible refine below_drewN ?_ _) | (with_reducible refine Below.drew ?_) | (with_reducible refine Below.setCell ?_ (by first | omega | (simp; done) | (simp; omega)) _) | (with_reducible refine Below.alloc ?_ (by first | omega | (simp; done) | (simp; omega)) _) | refine Below.trans ?_ (Below.mono (by with_reducible assumption) (by first | omega | (simp; done) | (simp; omega)))))))).mono ?_
    rw [hv]
    rintro e w2 ⟨rfl, hb1⟩
    have hz1 := hb1.size; (try simp at hz1); have hB1 : Below w.heap.size w w2 := (by refine Below.trans ?_ (Below.mono hb1 (by first | omega | (simp; done) | (simp; omega))); (repeat (first | with_reducible exact Below.refl _ _ | with_reducible assumption | (with_reducible refine below_drewN ?_ _) | (with_reducible refine Below.drew ?_) | (with_reducible refine Below.setCell ?_ (by first | omega | (simp; done) | (simp; omega)) _) | (with_reducible refine Below.alloc ?_ (by first | omega | (simp; done) | (simp; omega)) _) | refine Below.trans ?_ (Below.mono (by with_reducible assumption) (by first | omega | (simp; done) | (simp; omega))))))
    clear hb1
    go_wp2
    go_ret
    exact ⟨rfl, by (repeat (first | with_reducible exact Below.refl _ _ | with_reducible assumption | (with_reducible refine below_drewN ?_ _) | (with_reducible refine Below.drew ?_) | (with_reducible refine Below.setCell ?_ (by first | omega | (simp; done) | (simp; omega)) _) | (with_reducible refine Below.alloc ?_ (by first | omega | (simp; done) | (simp; omega)) _) | refine Below.trans ?_ (Below.mono (by with_reducible assumption) (by first | omega | (simp; done) | (simp; omega)))))⟩
  obtain ⟨f, hf⟩ : ∃ f, farAll ls vs = f := ⟨_, rfl⟩
  rw [hf]
  have HF := Lib.hid hf
  have HS := Lib.hid hs
  have HV := Lib.hid hv
  clear hf
  go_enter Try.func20, Try.ntmps20
  go_wp2_with fail
  refine (isSystem_any h).mono ?_
  rw [hs]
  clear hs
  rintro e w2 ⟨rfl, hb1⟩
  have hz1 := hb1.size; (try simp at hz1); have hB1 : Below w.heap.size w w2 := (by refine Below.trans ?_ (Below.mono hb1 (by first | omega | (simp; done) | (simp; omega))); (repeat (first | with_reducible exact Below.refl _ _ | with_reducible assumption | (with_reducible refine below_drewN ?_ _) | (with_reducible refine Below.drew ?_) | (with_reducible refine Below.setCell ?_ (by first | omega | (simp; done) | (simp; omega)) _) | (with_reducible refine Below.alloc ?_ (by first | omega | (simp; done) | (simp; omega)) _) | refine Below.trans ?_ (Below.mono (by with_reducible assumption) (by first | omega | (simp; done) | (simp; omega))))))
  clear hb1
  go_wp2_with fail
  refine (isAssignment_any (h'.later (by (repeat (first | with_reducible exact Below.refl _ _ | with_reducible assumption | (with_reducible refine below_drewN ?_ _) | (with_reducible refine Below.drew ?_) | (with_reducible refine Below.setCell ?_ (by first | omega | (simp; done) | (simp; omega)) _) | (with_reducible refine Below.alloc ?_ (by first | omega | (simp; done) | (simp; omega)) _) | refine Below.trans ?_ (Below.mono (by with_reducible assumption) (by first | omega | (simp; done) | (simp; omega)))))))).mono ?_
  rw [hv]
  clear hv
  rintro e w3 ⟨rfl, hb1⟩
  have hz1 := hb1.size; (try simp at hz1); have hB1 : Below w.heap.size w w3 := (by refine Below.trans ?_ (Below.mono hb1 (by first | omega | (simp; done) | (simp; omega))); (repeat (first | with_reducible exact Below.refl _ _ | with_reducible assumption | (with_reducible refine below_drewN ?_ _) | (with_reducible refine Below.drew ?_) | (with_reducible refine Below.setCell ?_ (by first | omega | (simp; done) | (simp; omega)) _) | (with_reducible refine Below.alloc ?_ (by first | omega | (simp; done) | (simp; omega)) _) | refine Below.trans ?_ (Below.mono (by with_reducible assumption) (by first | omega | (simp; done) | (simp; omega))))))
  clear hb1
  go_wp2_with fail
  go_loopw [19] (fun i wr => ∃ k : Nat, k ≤ n ∧ i = .int .i64 k ∧ HoldTo ls vs k ∧ Below w.heap.size w wr) (fun i _ => n - (intOf i).toNat)
  case atStart => exact ⟨0, by omega, rfl, HoldTo.zero ls vs, by (repeat (first | with_reducible exact Below.refl _ _ | with_reducible assumption | (with_reducible refine below_drewN ?_ _) | (with_reducible refine Below.drew ?_) | (with_reducible refine Below.setCell ?_ (by first | omega | (simp; done) | (simp; omega)) _) | (with_reducible refine Below.alloc ?_ (by first | omega | (simp; done) | (simp; omega)) _) | refine Below.trans ?_ (Below.mono (by with_reducible assumption) (by first | omega | (simp; done) | (simp; omega)))))⟩
  case round =>
    obtain ⟨k, hk, rfl, hok, hB⟩ := hrel
    have hzr := hB.size
    by_cases hlt : k < n
    · obtain ⟨p, o, rfl, hp, hcs⟩ := (h.later hB).cells (by omega)
      obtain ⟨B, m, cb, hIk, hc1, hc2, hc3⟩ := (hcs k hlt).ex
      clear hcs
      have hno := Lib.hid (@farAll_no ls vs k (by rw [h.len]; exact hlt))
      have hyes := Lib.hid (@HoldTo.succ ls vs k hok)
      generalize (ls.getD k lin0).1 = xs at *
      generalize (ls.getD k lin0).2.1 = b at *
      generalize (ls.getD k lin0).2.2 = s at *
      obtain ⟨so, ok, hla⟩ : ∃ so ok, linAt xs b s vs = (so, ok) := ⟨_, _, rfl⟩
      go_wp2_with fail
      refine (iLinAt_any (vs := vs) b s (hIk.later (by (repeat (first | with_reducible exact Below.refl _ _ | with_reducible assumption | (with_reducible refine below_drewN ?_ _) | (with_reducible refine Below.drew ?_) | (with_reducible refine Below.setCell ?_ (by first | omega | (simp; done) | (simp; omega)) _) | (with_reducible refine Below.alloc ?_ (by first | omega | (simp; done) | (simp; omega)) _) | refine Below.trans ?_ (Below.mono (by with_reducible assumption) (by first | omega | (simp; done) | (simp; omega))))))) (h'.later (by (repeat (first | with_reducible exact Below.refl _ _ | with_reducible assumption | (with_reducible refine below_drewN ?_ _) | (with_reducible refine Below.drew ?_) | (with_reducible refine Below.setCell ?_ (by first | omega | (simp; done) | (simp; omega)) _) | (with_reducible refine Below.alloc ?_ (by first | omega | (simp; done) | (simp; omega)) _) | refine Below.trans ?_ (Below.mono (by with_reducible assumption) (by first | omega | (simp; done) | (simp; omega)))))))).mono ?_
      rw [hla]
      rintro e w1 ⟨rfl, hb1⟩
      have hz1 := hb1.size; (try simp at hz1); have hB1 : Below w.heap.size w w1 := (by refine Below.trans ?_ (Below.mono hb1 (by first | omega | (simp; done) | (simp; omega))); (repeat (first | with_reducible exact Below.refl _ _ | with_reducible assumption | (with_reducible refine below_drewN ?_ _) | (with_reducible refine Below.drew ?_) | (with_reducible refine Below.setCell ?_ (by first | omega | (simp; done) | (simp; omega)) _) | (with_reducible refine Below.alloc ?_ (by first | omega | (simp; done) | (simp; omega)) _) | refine Below.trans ?_ (Below.mono (by with_reducible assumption) (by first | omega | (simp; done) | (simp; omega))))))
      clear hb1
      cases ok
      · have hf : farAll ls vs = false := hno.out (by rw [hla]; simp)
        have he := HF.out.symm.trans hf
        subst he
        go_wp2
        go_ret
        exact ⟨rfl, by (repeat (first | with_reducible exact Below.refl _ _ | with_reducible assumption | (with_reducible refine below_drewN ?_ _) | (with_reducible refine Below.drew ?_) | (with_reducible refine Below.setCell ?_ (by first | omega | (simp; done) | (simp; omega)) _) | (with_reducible refine Below.alloc ?_ (by first | omega | (simp; done) | (simp; omega)) _) | refine Below.trans ?_ (Below.mono (by with_reducible assumption) (by first | omega | (simp; done) | (simp; omega)))))⟩
      cases so
      · have hf : farAll ls vs = false := hno.out (by rw [hla]; simp)
        have he := HF.out.symm.trans hf
        subst he
        go_wp2
        go_ret
        exact ⟨rfl, by (repeat (first | with_reducible exact Below.refl _ _ | with_reducible assumption | (with_reducible refine below_drewN ?_ _) | (with_reducible refine Below.drew ?_) | (with_reducible refine Below.setCell ?_ (by first | omega | (simp; done) | (simp; omega)) _) | (with_reducible refine Below.alloc ?_ (by first | omega | (simp; done) | (simp; omega)) _) | refine Below.trans ?_ (Below.mono (by with_reducible assumption) (by first | omega | (simp; done) | (simp; omega)))))⟩
      · have hy := hyes.out hla
        go_wp2
        go_roundw
        case rel => exact ⟨k + 1, by omega, by go_num, hy, by (repeat (first | with_reducible exact Below.refl _ _ | with_reducible assumption | (with_reducible refine below_drewN ?_ _) | (with_reducible refine Below.drew ?_) | (with_reducible refine Below.setCell ?_ (by first | omega | (simp; done) | (simp; omega)) _) | (with_reducible refine Below.alloc ?_ (by first | omega | (simp; done) | (simp; omega)) _) | refine Below.trans ?_ (Below.mono (by with_reducible assumption) (by first | omega | (simp; done) | (simp; omega)))))⟩
        case measure => simp [intOf]; omega
    · obtain rfl : k = n := by omega
      have hall := farAll_yes (by rw [h.len]; exact hok)
      rw [HS.out, HV.out] at hall
      have he := HF.out.symm.trans hall
      subst he
      go_wp2
      go_ret
      exact ⟨rfl, hB⟩
end Go.Proofs.Ytccjbipmlpnhkaa

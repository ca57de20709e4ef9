/- 'laws.FnFarPart': for every input the call returns true and leaves its arguments as they were. No condition. -/
import Derived.Test.YtccjbipmlpnhkaaPl
import Derived.Test.YtccjbipmlpnhkaaDu
import Derived.Test.YtccjbipmlpnhkaaDs
import Derived.Test.YtccjbipmlpnhkaaPa
import Derived.Test.YtccjbipmlpnhkaaWn
import Derived.Test.YtccjbipmlpnhkaaFr
import Derived.Test.YtccjbipmlpnhkaaWo
import Derived.Test.YtccjbipmlpnhkaaL
namespace Go.Proofs.Ytccjbipmlpnhkaa
set_option maxRecDepth 100000
open Go.ChangeShapes Go.WideShapes Go.ChangeAt Go.RowKit
set_option linter.unusedSimpArgs false
set_option linter.unusedVariables false

theorem runIT {A : Option Addr} {n c : Nat} {ls : List LinV} {r : FarRes} (hr : Hid (farRun ls = r)) {w : World} (h : Lins w A n ls) :
    Calls Try.prog 15 #[.slice A n c] w fun e w' => ∃ A n c B m d, e = .returned (.tuple #[.slice A n c, .slice B m d, .int .i64 r.code]) ∧ (Rats w' A n r.vals ∧ Ints w' B m r.times) ∧ Below w.heap.size w w' := by
  refine (iFarRun_any h).mono fun e w' hb => ?_
  rw [hr.out] at hb
  obtain ⟨A, n, c, B, m, d, he, hV, _, _, _, hb⟩ := run_all_kinds hb
  exact ⟨A, n, c, B, m, d, he, hV, hb⟩
theorem runS {A : Option Addr} {n c : Nat} {ls : List LinV} {r : FarRes} (hr : Hid (farRun ls = r)) {w : World} (h : Lins w A n ls) :
    Calls Try.prog 19 #[.slice A n c] w fun e w' => ∃ A n c B m d, e = .returned (.tuple #[.slice A n c, .slice B m d, .int .i64 r.code]) ∧ Below w.heap.size w w' := by
  refine (sFarRun_any h).mono fun e w' hb => ?_
  rw [hr.out] at hb
  obtain ⟨A, n, c, B, m, d, he, _, _, _, _, hb⟩ := run_all_kinds hb
  exact ⟨A, n, c, B, m, d, he, hb⟩
theorem getD_take {ls : List LinV} {k j : Nat} (h : j < k) : (ls.take k).getD j lin0 = ls.getD j lin0 := by
  rw [List.getD_eq_getElem?_getD, List.getElem?_take_of_lt h, ← List.getD_eq_getElem?_getD]
theorem Lins.take {w : World} {A : Option Addr} {n k : Nat} {ls : List LinV} (h : Lins w A n ls) (hk : k ≤ n) : Lins w A k (ls.take k) := by
  have hl := h.len
  have hf := h.few
  refine ⟨by rw [List.length_take]; omega, fun hn => ?_, by omega⟩
  obtain ⟨b, o, e, hb, hc⟩ := h.cells (by omega)
  refine ⟨b, o, e, hb, fun j hj => ?_⟩
  rw [getD_take hj]
  exact hc j (by omega)
theorem own_cap {w : World} {base : Nat} {e : TypeId} {size n c : Nat} {A : Option Addr} {xs : List Value} (h : w.ownsRow base e size (.slice A n c) n xs) : n ≤ c := by
  rcases h.2 with ⟨h1, rfl⟩ | ⟨g, cap, cur, h1, _, _, h2, _⟩
  · exact Nat.zero_le _
  · injection h1 with _ _ h1
    omega
/-- A list was drawn, its room included. -/
def ListRoom (w : World) (e : Ending) (w' : World) : Prop :=
  ∃ (ls : List LinV) (A : Option Addr) (n c : Nat), e = .returned (.slice A n c) ∧ (Lins w' A n ls ∧ n ≤ 21 ∧ n ≤ c) ∧ Below w.heap.size w w'
theorem DrawFarRun_room {A : Option Addr} {cap : Nat} {bs : List UInt8} {w : World} (h : Code8 w A cap bs) (hl : bs.length ≤ 1048576) :
    Calls Try.prog 18 #[.slice A bs.length cap] w (ListRoom w) := by
  go_enter Try.func18, Try.ntmps18
  go_wp2_with fail
  refine (l16Open_any h.bytes hl h.cap).mono ?_
  rintro e w1 ⟨bs', rfl, hR1, hb1⟩
  have hs1 := hb1.size
  have hB1 : Below w.heap.size w w1 := hb1
  clear hb1
  have hgl := hR1.lt
  obtain ⟨g, hg⟩ : ∃ g, w.heap.size = g := ⟨_, rfl⟩
  rw [hg] at hR1 hgl ⊢
  go_wp2_with fail
  refine (l3Some_any hR1 (by omega)).mono ?_
  rintro e w2 ⟨ls, v, n, zs, rfl, ⟨hrow, hn⟩, ⟨⟨p2, hp2, hR2⟩, hO2⟩⟩
  have hs2 := hO2.size
  have hB2 : Below w.heap.size w w2 := hB1.trans (hO2.base (by omega) (by omega))
  clear hO2 hB1 hR1
  obtain ⟨Av, cv, rfl⟩ := hrow.form
  have hL2 := hrow.lins (by omega)
  have hcap := own_cap hrow.own
  go_wp2
  go_ret
  exact ⟨ls, Av, n, cv, rfl, ⟨hL2, hn, hcap⟩, hB2⟩
theorem part_code {ls : List LinV} {r r2 : FarRes} {k : Nat} (h : farRun ls = r) (hr : r ≠ .form) (h2 : farRun (ls.take k) = r2) : (r2.code != 3) = true := by
  have hs : sysOk ls = true := by
    cases hs : sysOk ls with
    | true => rfl
    | false => exact absurd (h.symm.trans (run_form'.2 hs)) hr
  have ht := sysOk_take k hs
  cases r2 with
  | form => rw [run_form'.1 h2] at ht; cases ht
  | much => rfl
  | no ts => rfl
  | yes vs => rfl
theorem part_yes {ls : List LinV} {vs : List (Int × Int)} {r2 : FarRes} {k : Nat} (h : farRun ls = .yes vs) (h2 : farRun (ls.take k) = r2) : (r2.code != 1) = true := by
  cases r2 with
  | form => rfl
  | much => rfl
  | no ts => exact absurd (run_no' h2) (fun e => never_both (vs := vs) (fun l hl => (farAll_iff.1 (farAll_take k (run_yes' h))).1 l hl) e)
  | yes vs => rfl
/-- the cells of a list, as a list -/
def cellsAt (w : World) (p o m : Nat) : List Value := (List.range m).map fun j => (w.cell? ⟨p, o + j, none⟩).getD (.bool false)
theorem cellsAt_len (w : World) (p o m : Nat) : (cellsAt w p o m).length = m := by simp [cellsAt]
theorem cellsAt_get {w : World} {p o m j : Nat} {v : Value} (hj : j < m) (h : w.cell? ⟨p, o + j, none⟩ = some v) : (cellsAt w p o m)[j]? = some v := by
  unfold cellsAt
  rw [List.getElem?_map, List.getElem?_range hj]
  show some ((w.cell? ⟨p, o + j, none⟩).getD _) = some v
  rw [h]; rfl
/-- each of the first n lies in its three cells -/
def Cells3 (w : World) (p o n : Nat) (ls : List LinV) : Prop := ∀ k, k < n → ∃ A m c, Ints w A m (ls.getD k lin0).1 ∧ w.cell? ⟨p, o + k * 3, none⟩ = some (.slice A m c) ∧ w.cell? ⟨p, o + k * 3 + 1, none⟩ = some (.int .i64 (ls.getD k lin0).2.1) ∧ w.cell? ⟨p, o + k * 3 + 2, none⟩ = some (.bool (ls.getD k lin0).2.2)
theorem three_of {j n : Nat} (h : j < n * 3) : ∃ k, k < n ∧ (j = k * 3 ∨ j = k * 3 + 1 ∨ j = k * 3 + 2) := ⟨j / 3, by omega, by omega⟩
theorem Cells3.news {w w' : World} {p o n : Nat} {ls : List LinV} (h : Cells3 w p o n ls) (hp : p < w.heap.size) (hb : Below w.heap.size w w') :
    ∀ j u, (cellsAt w p o (n * 3))[j]? = some u → w'.cell? ((⟨p, o, none⟩ : Addr).add j) = some u := fun j u hu => by
  have hadd : (⟨p, o, none⟩ : Addr).add j = ⟨p, o + j, none⟩ := by unfold Addr.add; split <;> simp_all
  have hj : j < n * 3 := by
    rcases Nat.lt_or_ge j (n * 3) with hj | hj
    · exact hj
    · rw [List.getElem?_eq_none (by rw [cellsAt_len]; exact hj)] at hu; cases hu
  obtain ⟨v, hv⟩ : ∃ v, w.cell? ⟨p, o + j, none⟩ = some v := by
    obtain ⟨k, hk, e⟩ := three_of hj
    obtain ⟨A, m, c, _, h0, h1, h2⟩ := h k hk
    rcases e with rfl | rfl | rfl
    · exact ⟨_, h0⟩
    · exact ⟨_, h1⟩
    · exact ⟨_, h2⟩
  rw [cellsAt_get hj hv] at hu
  rw [hadd, (hb.cell (p := ⟨p, o + j, none⟩) hp).trans hv, ← hu]
theorem Cells3.one {w : World} {p o n : Nat} {ls : List LinV} (h : Cells3 w p o n ls) : ∀ u ∈ cellsAt w p o (n * 3), u.oneCell' = true := fun u hu => by
  obtain ⟨j, hu⟩ := List.mem_iff_getElem?.1 hu
  have hj := (List.getElem?_eq_some_iff.1 hu).1
  rw [cellsAt_len] at hj
  obtain ⟨k, hk, e⟩ := three_of hj
  obtain ⟨A, m, c, _, h0, h1, h2⟩ := h k hk
  rcases e with rfl | rfl | rfl
  · rw [cellsAt_get hj h0] at hu; injection hu with hu; rw [← hu]; rfl
  · rw [cellsAt_get hj h1] at hu; injection hu with hu; rw [← hu]; rfl
  · rw [cellsAt_get hj h2] at hu; injection hu with hu; rw [← hu]; rfl
theorem keep3 {w w' : World} {B : Nat} {v0 v1 v2 : Value} (h : w.cell? ⟨B, 0, none⟩ = some v0 ∧ w.cell? ⟨B, 1, none⟩ = some v1 ∧ w.cell? ⟨B, 2, none⟩ = some v2) (hb : Below w.heap.size w w') :
    w'.cell? ⟨B, 0, none⟩ = some v0 ∧ w'.cell? ⟨B, 1, none⟩ = some v1 ∧ w'.cell? ⟨B, 2, none⟩ = some v2 :=
  ⟨(hb.cell (World.block_lt_of_cell? _ _ h.1)).trans h.1, (hb.cell (World.block_lt_of_cell? _ _ h.2.1)).trans h.2.1, (hb.cell (World.block_lt_of_cell? _ _ h.2.2)).trans h.2.2⟩
theorem int_info4 : (Try.prog.info? 3).map (fun i => (i.zero, i.size, i.bytes)) = some (some (.int .i64 0), 1, 8) := by kernel_rfl
theorem farAllAs {A A' : Option Addr} {n n' c c' : Nat} {ls : List LinV} {vs : List (Int × Int)} {v : Bool} (hv : farAll ls vs = v) {w : World} (h : Lins w A n ls) (h' : Rats w A' n' vs) :
    Calls Try.prog 20 #[.slice A n c, .slice A' n' c'] w fun e w' => e = .returned (.bool v) ∧ Below w.heap.size w w' := by subst hv; exact iFarAll_any h h'
theorem farOkAs {A A' : Option Addr} {n n' c c' : Nat} {ls : List LinV} {ts : List Int} {v : Bool} (hv : farOk ls ts = v) {w : World} (h : Lins w A n ls) (h' : Ints w A' n' ts) :
    Calls Try.prog 21 #[.slice A n c, .slice A' n' c'] w fun e w' => e = .returned (.bool v) ∧ Below w.heap.size w w' := by subst hv; exact iFarOk_any h h'
theorem cast_listed {P : Program} {ops : Array Oper} {Q : Exit → Act → World → Prop} {md : Region.Mode} {S : World → Prop} {n f : Nat} {l l' : Array Bool} {a : Act} {w : World} (h : l = l') (k : wpAnyT P md ops Q S n f l' a w) : wpAnyT P md ops Q S n f l a w := by rw [h]; exact k
theorem ints_news {w : World} {q o n : Nat} {xs : List Int} (h : Ints w (some ⟨q, o, none⟩) n xs) : ∀ j u, (xs.map (Value.int .i64))[j]? = some u → w.cell? ((⟨q, o, none⟩ : Addr).add j) = some u := fun j u hu => by
  have hadd : (⟨q, o, none⟩ : Addr).add j = ⟨q, o + j, none⟩ := by unfold Addr.add; split <;> simp_all
  have hl := h.len
  rw [List.getElem?_map] at hu
  rcases Nat.lt_or_ge j xs.length with hj | hj
  · obtain ⟨b, o', e, hb, hc⟩ := h.cells (by omega)
    injection e with e; injection e with e1 e2
    subst e1 e2
    rw [List.getElem?_eq_getElem hj] at hu
    injection hu with hu
    rw [hadd, hc j (by omega), ← hu, List.getD_eq_getElem?_getD, List.getElem?_eq_getElem hj]
    rfl
  · rw [List.getElem?_eq_none hj] at hu
    cases hu
theorem range_0 : Array.range 0 = #[] := by decide
theorem range_1 : Array.range 1 = #[0] := by decide
theorem range_3 : Array.range 3 = #[0, 1, 2] := by decide
theorem build0_lin (w : World) : (Instr.buildSlice 23 0 #[]).run Try.prog w = .ok (.slice (some ⟨w.heap.size, 0, none⟩) 0 0) (w.alloc (.cells #[] 34)) := by
  obtain ⟨i0, hi, z0, z1, z2⟩ := info_parts lin_info3
  simp [Instr.buildSlice, run_underlying Try.underlying23, sizeOf, typeInfo, hi, z1, Instr.fill, newRow, range_0]
theorem build0_int (w : World) : (Instr.buildSlice 29 0 #[]).run Try.prog w = .ok (.slice (some ⟨w.heap.size, 0, none⟩) 0 0) (w.alloc (.cells #[] 3)) := by
  obtain ⟨i0, hi, z0, z1, z2⟩ := info_parts int_info4
  simp [Instr.buildSlice, run_underlying Try.underlying29, sizeOf, typeInfo, hi, z1, Instr.fill, newRow, range_0]
theorem build1_lin (x y z : Value) (w : World) : (Instr.buildSlice 23 1 #[(0, .agg #[x, y, z])]).run Try.prog w = .ok (.slice (some ⟨w.heap.size, 0, none⟩) 1 1) (w.alloc (.cells [x, y, z].toArray 34)) := by
  obtain ⟨i0, hi, z0, z1, z2⟩ := info_parts lin_info3
  simp [Instr.buildSlice, run_underlying Try.underlying23, sizeOf, typeInfo, zeroValue, hi, z0, z1, Instr.fill, Value.cells, newRow, range_1, range_3]
theorem build1_int (w : World) : (Instr.buildSlice 29 1 #[(0, .int .i64 0)]).run Try.prog w = .ok (.slice (some ⟨w.heap.size, 0, none⟩) 1 1) (w.alloc (.cells [.int .i64 0].toArray 3)) := by
  obtain ⟨i0, hi, z0, z1, z2⟩ := info_parts int_info4
  simp [Instr.buildSlice, run_underlying Try.underlying29, sizeOf, typeInfo, zeroValue, hi, z0, z1, Instr.fill, Value.cells, newRow, range_1, range_3]
/-- the list with one more, as it was built -/
theorem lins_more {w0 w : World} {base E c n C p o : Nat} {ls : List LinV} (hC : Cells3 w0 p o n ls) (hl : ls.length = n) (hn : n ≤ 1000) (hb : Below w0.heap.size w0 w) (hz : Ints w (some ⟨C, 0, none⟩) 4 [0, 0, 0, 0])
    (hown : w.ownsRow base 34 3 (.slice (some ⟨E, 0, none⟩) (n + 1) c) (n + 1) (cellsAt w0 p o (n * 3) ++ [.slice (some ⟨C, 0, none⟩) 4 4, .int .i64 1, .bool false])) : Lins w (some ⟨E, 0, none⟩) (n + 1) (ls ++ [([0, 0, 0, 0], 1, false)]) := by
  have hcl := cellsAt_len w0 p o (n * 3)
  refine ⟨by simp [hl], fun _ => ⟨E, 0, rfl, (hown.lt E rfl).2, fun j hj => ?_⟩, by omega⟩
  rw [Nat.zero_add]
  by_cases e : j < n
  · obtain ⟨A, m, c', hI, h0, h1, h2⟩ := hC j e
    have hg : (ls ++ [([0, 0, 0, 0], 1, false)]).getD j lin0 = ls.getD j lin0 := by rw [List.getD_eq_getElem?_getD, List.getElem?_append_left (by omega), ← List.getD_eq_getElem?_getD]
    rw [hg]
    refine ⟨⟨A, m, c', hI.later hb, ?_, ?_, ?_⟩⟩
    · rw [hown.cellAt _ (by omega), List.getElem?_append_left (by omega)]; exact cellsAt_get (by omega) h0
    · rw [hown.cellAt _ (by omega), List.getElem?_append_left (by omega)]; exact cellsAt_get (by omega) h1
    · rw [hown.cellAt _ (by omega), List.getElem?_append_left (by omega)]; exact cellsAt_get (by omega) h2
  · obtain rfl : j = n := by omega
    have hg : (ls ++ [([0, 0, 0, 0], 1, false)]).getD j lin0 = ([0, 0, 0, 0], 1, false) := by rw [List.getD_eq_getElem?_getD, List.getElem?_append_right (by omega), hl, Nat.sub_self]; rfl
    rw [hg]
    refine ⟨⟨some ⟨C, 0, none⟩, 4, 4, hz, ?_, ?_, ?_⟩⟩
    · rw [hown.cellAt _ (by omega), List.getElem?_append_right (by omega), hcl, Nat.sub_self]; rfl
    · rw [hown.cellAt _ (by omega), List.getElem?_append_right (by omega), hcl, Nat.add_sub_cancel_left]; rfl
    · rw [hown.cellAt _ (by omega), List.getElem?_append_right (by omega), hcl, Nat.add_sub_cancel_left]; rfl
theorem times_more {w : World} {base E c m : Nat} {ts : List Int} (hJ : ∀ j, J64 (ts.getD j 0)) (hm : m ≤ 1000) (hown : w.ownsRow base 3 1 (.slice (some ⟨E, 0, none⟩) (m + 1) c) (m + 1) (ts.map (Value.int .i64) ++ [.int .i64 0])) : Ints w (some ⟨E, 0, none⟩) (m + 1) (ts ++ [0]) := by
  refine Row64.ints (B := base) (c := c) ⟨?_, fun j => ?_⟩ (by omega)
  · rw [List.map_append]; exact hown
  · rw [List.getD_eq_getElem?_getD]
    rcases Nat.lt_or_ge j ts.length with h | h
    · rw [List.getElem?_append_left h, ← List.getD_eq_getElem?_getD]; exact hJ j
    · rw [List.getElem?_append_right h]
      cases j - ts.length with
      | zero => simp [J64]
      | succ k => simp [J64]
set_option maxRecDepth 100000 in
theorem fnFarPart_long {A : Option Addr} {cap : Nat} {bs : List UInt8} {A' : Option Addr} {cap' : Nat} {bs' : List UInt8} {w : World} (hl : ¬ (bs.length ≤ 1048576 ∧ bs'.length ≤ 1048576)) :
    Calls Try.prog 4 #[.slice A bs.length cap, .slice A' bs'.length cap'] w fun e w' => e = .returned (.bool true) ∧ Below w.heap.size w w' := by
  by_cases h1 : bs.length ≤ 1048576
  · have h2 : ¬ bs'.length ≤ 1048576 := fun h => hl ⟨h1, h⟩
    clear hl
    go_enter Try.func4, Try.ntmps4
    go_wp2
    go_ret
    exact ⟨rfl, Below.refl _ _⟩
  · clear hl
    go_enter Try.func4, Try.ntmps4
    go_wp2
    go_ret
    exact ⟨rfl, Below.refl _ _⟩
set_option maxRecDepth 100000 in
set_option maxHeartbeats 8000000 in
theorem fnFarPart_walk {A : Option Addr} {cap : Nat} {bs : List UInt8} {A' : Option Addr} {cap' : Nat} {bs' : List UInt8} {w : World} (h : Code8 w A cap bs) (h' : Code8 w A' cap' bs') :
    Calls Try.prog 4 #[.slice A bs.length cap, .slice A' bs'.length cap'] w fun e w' => e = .returned (.bool true) ∧ Below w.heap.size w w' := by
  by_cases hl0 : ¬ (bs.length ≤ 1048576 ∧ bs'.length ≤ 1048576)
  · exact fnFarPart_long hl0
  have hl : bs.length ≤ 1048576 := by omega
  have hl' : bs'.length ≤ 1048576 := by omega
  clear hl0
  go_enter Try.func4, Try.ntmps4
  go_wp2_with fail
  refine (DrawFarRun_room h hl).mono ?_
  rintro e w1 ⟨ls, A1, n, c, rfl, ⟨hL, hn, hcap⟩, hb1⟩
  have hz1 := hb1.size
  have hB1 : Below w.heap.size w w1 := hb1
  clear hb1
  obtain ⟨r, hr⟩ : ∃ r, farRun ls = r := ⟨_, rfl⟩
  have HR := Lib.hid hr
  clear hr
  go_wp2_with fail
  refine (runIT HR (by (repeat (first | with_reducible exact hL | (with_reducible refine Lins.alloc ?_ _) | (with_reducible refine Lins.drewN ?_ _) | (with_reducible refine Lins.drew ?_))))).mono ?_
  rintro e w2 ⟨A4, n4, c4, B4, m4, d4, rfl, ⟨hV, hT⟩, hb1⟩
  have hz1 := hb1.size; (try simp at hz1); have hB1 : Below w.heap.size w w2 := (by refine Below.trans ?_ (Below.mono hb1 (by first | omega | (simp; done) | (simp; omega))); (repeat (first | with_reducible exact Below.refl _ _ | with_reducible assumption | (with_reducible refine below_drewN ?_ _) | (with_reducible refine Below.drew ?_) | (with_reducible refine Below.setCell ?_ (by first | omega | (simp; done) | (simp; omega)) _) | (with_reducible refine Below.alloc ?_ (by first | omega | (simp; done) | (simp; omega)) _) | refine Below.trans ?_ (Below.mono (by with_reducible assumption) (by first | omega | (simp; done) | (simp; omega)))))); (replace hL : Lins _ A1 n ls := Lins.later (by (repeat (first | with_reducible exact hL | (with_reducible refine Lins.alloc ?_ _) | (with_reducible refine Lins.drewN ?_ _) | (with_reducible refine Lins.drew ?_)))) hb1); clear hb1
  go_wp2_with fail
  refine (runS HR (by (repeat (first | with_reducible exact hL | (with_reducible refine Lins.alloc ?_ _) | (with_reducible refine Lins.drewN ?_ _) | (with_reducible refine Lins.drew ?_))))).mono ?_
  rintro e w3 ⟨A5, n5, c5, B5, m5, d5, rfl, hb1⟩
  have hz1 := hb1.size; (try simp at hz1); have hB1 : Below w.heap.size w w3 := (by refine Below.trans ?_ (Below.mono hb1 (by first | omega | (simp; done) | (simp; omega))); (repeat (first | with_reducible exact Below.refl _ _ | with_reducible assumption | (with_reducible refine below_drewN ?_ _) | (with_reducible refine Below.drew ?_) | (with_reducible refine Below.setCell ?_ (by first | omega | (simp; done) | (simp; omega)) _) | (with_reducible refine Below.alloc ?_ (by first | omega | (simp; done) | (simp; omega)) _) | refine Below.trans ?_ (Below.mono (by with_reducible assumption) (by first | omega | (simp; done) | (simp; omega)))))); (replace hL : Lins _ A1 n ls := Lins.later (by (repeat (first | with_reducible exact hL | (with_reducible refine Lins.alloc ?_ _) | (with_reducible refine Lins.drewN ?_ _) | (with_reducible refine Lins.drew ?_)))) hb1; replace hV : Rats _ A4 n4 r.vals := Rats.later (by (repeat (first | with_reducible exact hV | (with_reducible refine Rats.far ?_ (by first | omega | (simp; done) | (simp; omega)) _) | (with_reducible refine Rats.alloc ?_ _) | (with_reducible refine Rats.drewN ?_ _) | (with_reducible refine Rats.drew ?_)))) hb1; replace hT : Ints _ B4 m4 r.times := Ints.later (by (repeat (first | with_reducible exact hT | (with_reducible refine Ints.far ?_ (by first | omega | (simp; done) | (simp; omega)) _) | (with_reducible refine Ints.alloc ?_ _) | (with_reducible refine Ints.drewN ?_ _) | (with_reducible refine Ints.drew ?_)))) hb1); clear hb1
  generalize hcode : r.code = code at *
  have hkn : (bs'.length : Int) % ((n : Int) + 1) = ((bs'.length % (n + 1) : Nat) : Int) := by
    rw [show ((n : Int) + 1) = ((n + 1 : Nat) : Int) by omega]; exact (Int.natCast_emod _ _).symm
  obtain ⟨k, hk⟩ : ∃ k, bs'.length % (n + 1) = k := ⟨_, rfl⟩
  have hkle : k ≤ n := by
    have h9 := Nat.mod_lt bs'.length (show n + 1 > 0 by omega)
    rw [hk] at h9; omega
  rw [hk] at hkn
  clear hk
  obtain ⟨r2, hr2⟩ : ∃ r2, farRun (ls.take k) = r2 := ⟨_, rfl⟩
  have HR2 := Lib.hid hr2
  clear hr2
  cases r with
  | form =>
    obtain rfl : 3 = code := hcode
    go_wp2
    go_ret
    exact ⟨rfl, by (repeat (first | with_reducible exact Below.refl _ _ | with_reducible assumption | (with_reducible refine below_drewN ?_ _) | (with_reducible refine Below.drew ?_) | (with_reducible refine Below.setCell ?_ (by first | omega | (simp; done) | (simp; omega)) _) | (with_reducible refine Below.alloc ?_ (by first | omega | (simp; done) | (simp; omega)) _) | refine Below.trans ?_ (Below.mono (by with_reducible assumption) (by first | omega | (simp; done) | (simp; omega)))))⟩
  | much =>
    obtain rfl : 2 = code := hcode
    have hd := part_code HR.out (by simp) HR2.out
    go_wp2_with fail
    refine (runIT HR2 (Lins.take (n := n) (ls := ls) (by (repeat (first | with_reducible exact hL | (with_reducible refine Lins.alloc ?_ _) | (with_reducible refine Lins.drewN ?_ _) | (with_reducible refine Lins.drew ?_)))) hkle)).mono ?_
    rintro e w4 ⟨A6, n6, c6, B6, m6, d6, rfl, _, hb1⟩
    have hz1 := hb1.size; (try simp at hz1); have hB1 : Below w.heap.size w w4 := (by refine Below.trans ?_ (Below.mono hb1 (by first | omega | (simp; done) | (simp; omega))); (repeat (first | with_reducible exact Below.refl _ _ | with_reducible assumption | (with_reducible refine below_drewN ?_ _) | (with_reducible refine Below.drew ?_) | (with_reducible refine Below.setCell ?_ (by first | omega | (simp; done) | (simp; omega)) _) | (with_reducible refine Below.alloc ?_ (by first | omega | (simp; done) | (simp; omega)) _) | refine Below.trans ?_ (Below.mono (by with_reducible assumption) (by first | omega | (simp; done) | (simp; omega)))))); (replace hL : Lins _ A1 n ls := Lins.later (by (repeat (first | with_reducible exact hL | (with_reducible refine Lins.alloc ?_ _) | (with_reducible refine Lins.drewN ?_ _) | (with_reducible refine Lins.drew ?_)))) hb1); clear hb1
    generalize r2.code = code2 at *
    go_wp2
    go_ret
    exact ⟨rfl, by (repeat (first | with_reducible exact Below.refl _ _ | with_reducible assumption | (with_reducible refine below_drewN ?_ _) | (with_reducible refine Below.drew ?_) | (with_reducible refine Below.setCell ?_ (by first | omega | (simp; done) | (simp; omega)) _) | (with_reducible refine Below.alloc ?_ (by first | omega | (simp; done) | (simp; omega)) _) | refine Below.trans ?_ (Below.mono (by with_reducible assumption) (by first | omega | (simp; done) | (simp; omega)))))⟩
  | no ts =>
    obtain rfl : 1 = code := hcode
    have hd := part_code HR.out (by simp) HR2.out
    have hT : Ints _ B4 m4 ts := hT
    have hok := run_no' HR.out
    have hlen := farOk_len hok
    have hL0 := hL.len
    have hT0 := hT.len
    have hn0 : 0 < n := by
      rcases Nat.eq_zero_or_pos n with e | e
      · exfalso
        have e2 : ls = [] := List.eq_nil_of_length_eq_zero (by omega)
        have h9 := HR.out
        rw [e2, run_nil] at h9
        cases h9
      · exact e
    go_wp2_with fail
    refine (runIT HR2 (Lins.take (n := n) (ls := ls) (by (repeat (first | with_reducible exact hL | (with_reducible refine Lins.alloc ?_ _) | (with_reducible refine Lins.drewN ?_ _) | (with_reducible refine Lins.drew ?_)))) hkle)).mono ?_
    rintro e w4 ⟨A6, n6, c6, B6, m6, d6, rfl, _, hb1⟩
    have hz1 := hb1.size; (try simp at hz1); have hB1 : Below w.heap.size w w4 := (by refine Below.trans ?_ (Below.mono hb1 (by first | omega | (simp; done) | (simp; omega))); (repeat (first | with_reducible exact Below.refl _ _ | with_reducible assumption | (with_reducible refine below_drewN ?_ _) | (with_reducible refine Below.drew ?_) | (with_reducible refine Below.setCell ?_ (by first | omega | (simp; done) | (simp; omega)) _) | (with_reducible refine Below.alloc ?_ (by first | omega | (simp; done) | (simp; omega)) _) | refine Below.trans ?_ (Below.mono (by with_reducible assumption) (by first | omega | (simp; done) | (simp; omega)))))); (replace hL : Lins _ A1 n ls := Lins.later (by (repeat (first | with_reducible exact hL | (with_reducible refine Lins.alloc ?_ _) | (with_reducible refine Lins.drewN ?_ _) | (with_reducible refine Lins.drew ?_)))) hb1; replace hT : Ints _ B4 m4 ts := Ints.later (by (repeat (first | with_reducible exact hT | (with_reducible refine Ints.far ?_ (by first | omega | (simp; done) | (simp; omega)) _) | (with_reducible refine Ints.alloc ?_ _) | (with_reducible refine Ints.drewN ?_ _) | (with_reducible refine Ints.drew ?_)))) hb1); clear hb1
    generalize r2.code = code2 at *
    by_cases hn20 : n < 20
    · have hni : (n : Int) < 20 := by omega
      have HFR := Lib.hid (farOk_free hok (by omega))
      obtain ⟨p, oo, rfl, hp, hcs⟩ := hL.cells hn0
      have hC : Cells3 w4 p oo n ls := fun j hj => (hcs j hj).ex
      clear hcs
      obtain ⟨q, qo, rfl, hq, hqc⟩ := hT.cells (by omega)
      clear hqc
      obtain ⟨j0, hj, yj0, yj1, yj2⟩ := info_parts lin_info3
      obtain ⟨i0, hi, zi0, zi1, zi2⟩ := info_parts int_info4
      have hC3 : ((w4.alloc (.cells #[.int .i64 0, .int .i64 0, .int .i64 0, .int .i64 0] 3)).alloc (.cells #[.slice (some ⟨w4.heap.size, 0, none⟩) 4 4, .int .i64 1, .bool false] 34)).cell? ⟨w4.heap.size + 1, 0, none⟩ = some (.slice (some ⟨w4.heap.size, 0, none⟩) 4 4) ∧ ((w4.alloc (.cells #[.int .i64 0, .int .i64 0, .int .i64 0, .int .i64 0] 3)).alloc (.cells #[.slice (some ⟨w4.heap.size, 0, none⟩) 4 4, .int .i64 1, .bool false] 34)).cell? ⟨w4.heap.size + 1, 1, none⟩ = some (.int .i64 1) ∧ ((w4.alloc (.cells #[.int .i64 0, .int .i64 0, .int .i64 0, .int .i64 0] 3)).alloc (.cells #[.slice (some ⟨w4.heap.size, 0, none⟩) 4 4, .int .i64 1, .bool false] 34)).cell? ⟨w4.heap.size + 1, 2, none⟩ = some (.bool false) := ⟨by go_simp, by go_simp, by go_simp⟩
      have HZ := Lib.hid (Ints.zeros w4 (k := w4.heap.size) rfl)
      go_wp2_with fail
      refine wp_region_T2 17 (fun w' => w'.cell? ⟨w4.heap.size + 1, 0, none⟩ = some (.slice (some ⟨w4.heap.size, 0, none⟩) 4 4) ∧ w'.cell? ⟨w4.heap.size + 1, 1, none⟩ = some (.int .i64 1) ∧ w'.cell? ⟨w4.heap.size + 1, 2, none⟩ = some (.bool false)) (by kernel_rfl) (by kernel_rfl) ?_ (fun hHeld => ?_)
      · exact hC3
      (refine wpAnyT_take (i := 1) (v := ?_) (by simp only [List.getElem?_toArray, List.getElem?_cons_succ, List.getElem?_cons_zero]; rfl) (by kernel_rfl) (by kernel_rfl) (by kernel_rfl) (by kernel_rfl) (by intro _ _ _ h; exact h) (Or.inl ⟨by rfl, ?_⟩) (by assumption) ?_; rotate_left; (focus (intro wS hSw; (try dsimp only at hSw); go_simp; (try with_reducible rfl))); (try simp only [Act.put, List.setIfInBounds_toArray, List.set_cons_zero, List.set_cons_succ]))
      (refine wpAnyT_take (i := 3) (v := ?_) (by simp only [List.getElem?_toArray, List.getElem?_cons_succ, List.getElem?_cons_zero]; rfl) (by kernel_rfl) (by kernel_rfl) (by kernel_rfl) (by kernel_rfl) (by intro _ _ _ h; exact h) (Or.inl ⟨by rfl, ?_⟩) (by assumption) ?_; rotate_left; (focus (intro wS hSw; (try dsimp only at hSw); go_simp; (try with_reducible rfl))); (try simp only [Act.put, List.setIfInBounds_toArray, List.set_cons_zero, List.set_cons_succ]))
      (refine wpAnyT_take (i := 7) (v := ?_) (by simp only [List.getElem?_toArray, List.getElem?_cons_succ, List.getElem?_cons_zero]; rfl) (by kernel_rfl) (by kernel_rfl) (by kernel_rfl) (by kernel_rfl) (by intro _ _ _ h; exact h) (Or.inl ⟨by rfl, ?_⟩) (by assumption) ?_; rotate_left; (focus (intro wS hSw; (try dsimp only at hSw); go_simp; (try with_reducible rfl))); (try simp only [Act.put, List.setIfInBounds_toArray, List.set_cons_zero, List.set_cons_succ]))
      refine cast_listed (l' := Lst 0 false 0 false) (by kernel_rfl) ?_
      refine wp_part (f := 6) (tA := 23) (eA := 34) (tB := 29) (eB := 3) (szA := 3) (szB := 1) (byA := 40) (byB := 8) (kA := n) (kB := m4) (zsA := cellsAt w4 p oo (n * 3)) (usA := [.slice (some ⟨w4.heap.size, 0, none⟩) 4 4, .int .i64 1, .bool false]) (zsB := ts.map (Value.int .i64)) (usB := [.int .i64 0]) (opA := .tmp 86) (opB := .const (.int .i64 0)) (adA := ⟨p, oo, none⟩) (adB := ⟨q, qo, none⟩)
        (show 93 < 101 by omega) (by omega) (by omega) (fun w' hw' => keep3 hHeld hw')
        Try.underlying23 hj yj0 yj1 yj2 rfl (by omega) Try.underlying29 hi zi0 zi1 zi2 rfl (by omega)
        build0_lin build0_int (build1_lin _ _ _) build1_int (fun _ _ _ _ _ _ _ _ => by rw [fr8_e86]; rfl) (fun _ _ _ _ _ _ _ _ => rfl) rfl rfl
        (cellsAt_len _ _ _ _) (by rw [List.length_map]; omega) rfl rfl (hC.news hp (by (repeat (first | with_reducible exact Below.refl _ _ | with_reducible assumption | (with_reducible refine below_drewN ?_ _) | (with_reducible refine Below.drew ?_) | (with_reducible refine Below.setCell ?_ (by first | omega | (simp; done) | (simp; omega)) _) | (with_reducible refine Below.alloc ?_ (by first | omega | (simp; done) | (simp; omega)) _) | refine Below.trans ?_ (Below.mono (by with_reducible assumption) (by first | omega | (simp; done) | (simp; omega))))))) (ints_news (n := m4) (by (repeat (first | with_reducible exact hT | (with_reducible refine Ints.far ?_ (by first | omega | (simp; done) | (simp; omega)) _) | (with_reducible refine Ints.alloc ?_ _) | (with_reducible refine Ints.drewN ?_ _) | (with_reducible refine Ints.drew ?_))))) (by dsimp only; simp; omega) (by dsimp only; simp; omega) hC.one (by simp [Value.oneCell']) (by simp [Value.oneCell']) (by simp [Value.oneCell'])
        ⟨hn0, by omega, by omega⟩ ⟨by omega, by omega, by omega⟩
        (opIs_mk (by simp only [List.getElem?_toArray, List.getElem?_cons_succ, List.getElem?_cons_zero]; rfl) rfl rfl rfl) (opIs_mk (by simp only [List.getElem?_toArray, List.getElem?_cons_succ, List.getElem?_cons_zero]; rfl) rfl rfl rfl) (opIs_mk (by simp only [List.getElem?_toArray, List.getElem?_cons_succ, List.getElem?_cons_zero]; rfl) rfl rfl rfl) (opIs_mk (by simp only [List.getElem?_toArray, List.getElem?_cons_succ, List.getElem?_cons_zero]; rfl) rfl rfl rfl) (opIs_mk (by simp only [List.getElem?_toArray, List.getElem?_cons_succ, List.getElem?_cons_zero]; rfl) rfl rfl rfl) (opIs_mk (by simp only [List.getElem?_toArray, List.getElem?_cons_succ, List.getElem?_cons_zero]; rfl) rfl rfl rfl) (opIs_mk (by simp only [List.getElem?_toArray, List.getElem?_cons_succ, List.getElem?_cons_zero]; rfl) rfl rfl rfl) (opIs_mk (by simp only [List.getElem?_toArray, List.getElem?_cons_succ, List.getElem?_cons_zero]; rfl) rfl rfl rfl)
        (by kernel_rfl) (by kernel_rfl) (by kernel_rfl) (by kernel_rfl) (by kernel_rfl) (by kernel_rfl) (by kernel_rfl) ?_
      clear hC3
      intro x0 x2 x4 x5 y0 y2 y4 y5 rA qA rB qB a wq hPI
      obtain ⟨E, ce, hrE, rfl, hownA⟩ := hPI.ga.r3 rfl
      obtain ⟨E', ce', hrE', rfl, hownB⟩ := hPI.gb.r3 rfl
      have hlow := hPI.low
      have hfr := hPI.fr
      subst hfr
      have hLq := lins_more hC hL0 (by omega) (Below.trans (by (repeat (first | with_reducible exact Below.refl _ _ | with_reducible assumption | (with_reducible refine below_drewN ?_ _) | (with_reducible refine Below.drew ?_) | (with_reducible refine Below.setCell ?_ (by first | omega | (simp; done) | (simp; omega)) _) | (with_reducible refine Below.alloc ?_ (by first | omega | (simp; done) | (simp; omega)) _) | refine Below.trans ?_ (Below.mono (by with_reducible assumption) (by first | omega | (simp; done) | (simp; omega)))))) (hlow.mono (by first | omega | (simp; done) | (simp; omega)))) ((HZ.out.later (by (repeat (first | with_reducible exact Below.refl _ _ | with_reducible assumption | (with_reducible refine below_drewN ?_ _) | (with_reducible refine Below.drew ?_) | (with_reducible refine Below.setCell ?_ (by first | omega | (simp; done) | (simp; omega)) _) | (with_reducible refine Below.alloc ?_ (by first | omega | (simp; done) | (simp; omega)) _) | refine Below.trans ?_ (Below.mono (by with_reducible assumption) (by first | omega | (simp; done) | (simp; omega))))))).later (hlow.mono (by first | omega | (simp; done) | (simp; omega)))) hownA
      have hTq := times_more hT.rng (by omega) hownB
      have hBq : Below w.heap.size w wq := Below.trans (show Below w.heap.size w _ by (repeat (first | with_reducible exact Below.refl _ _ | with_reducible assumption | (with_reducible refine below_drewN ?_ _) | (with_reducible refine Below.drew ?_) | (with_reducible refine Below.setCell ?_ (by first | omega | (simp; done) | (simp; omega)) _) | (with_reducible refine Below.alloc ?_ (by first | omega | (simp; done) | (simp; omega)) _) | refine Below.trans ?_ (Below.mono (by with_reducible assumption) (by first | omega | (simp; done) | (simp; omega)))))) (hlow.mono (by first | omega | (simp; done) | (simp; omega)))
      have hC3q := keep3 hHeld hlow
      clear hPI hownA hownB hlow hHeld HZ hC hL hT hrE hrE'
      simp only [Fr8, Act.put, List.setIfInBounds_toArray, List.set_cons_zero, List.set_cons_succ]
      refine wpAnyT_ready (rs := [11]) (by kernel_rfl) (by kernel_rfl) ?_
      refine AllReadyT.cons (by simp only [List.getElem?_toArray, List.getElem?_cons_succ, List.getElem?_cons_zero]; rfl) (fun K hK => ?_) AllReadyT.nil
      (go_simp; (refine (farOkAs HFR.out hLq hTq).mono ?_); rintro e w8 ⟨rfl, hb8⟩)
      refine hK.out _ _ ?_ (fun hHeld => ?_)
      · (try dsimp only)
        exact keep3 hC3q hb8
      clear hK K
      (try simp only [Act.put, List.setIfInBounds_toArray, List.set_cons_zero, List.set_cons_succ])
      have hB8 : Below w.heap.size w w8 := hBq.trans (hb8.mono hBq.size)
      clear hb8 hC3q
      (refine wpAnyT_take (i := 12) (v := ?_) (by simp only [List.getElem?_toArray, List.getElem?_cons_succ, List.getElem?_cons_zero]; rfl) (by kernel_rfl) (by kernel_rfl) (by kernel_rfl) (by kernel_rfl) (by intro _ _ _ h; exact h) (Or.inl ⟨by rfl, ?_⟩) (by assumption) ?_; rotate_left; (focus (intro wS hSw; (try dsimp only at hSw); go_simp; (try with_reducible rfl))); (try simp only [Act.put, List.setIfInBounds_toArray, List.set_cons_zero, List.set_cons_succ]))
      (refine wpAnyT_take (i := 13) (v := ?_) (by simp only [List.getElem?_toArray, List.getElem?_cons_succ, List.getElem?_cons_zero]; rfl) (by kernel_rfl) (by kernel_rfl) (by kernel_rfl) (by kernel_rfl) (by intro _ _ _ h; exact h) (Or.inl ⟨by rfl, ?_⟩) (by assumption) ?_; rotate_left; (focus (intro wS hSw; (try dsimp only at hSw); go_simp; (try with_reducible rfl))); (try simp only [Act.put, List.setIfInBounds_toArray, List.set_cons_zero, List.set_cons_succ]))
      (refine wpAnyT_take (i := 14) (v := ?_) (by simp only [List.getElem?_toArray, List.getElem?_cons_succ, List.getElem?_cons_zero]; rfl) (by kernel_rfl) (by kernel_rfl) (by kernel_rfl) (by kernel_rfl) (by intro _ _ _ h; exact h) (Or.inl ⟨by rfl, ?_⟩) (by assumption) ?_; rotate_left; (focus (intro wS hSw; (try dsimp only at hSw); go_simp; (try with_reducible rfl))); (try simp only [Act.put, List.setIfInBounds_toArray, List.set_cons_zero, List.set_cons_succ]))
      (refine wpAnyT_take (i := 15) (v := ?_) (by simp only [List.getElem?_toArray, List.getElem?_cons_succ, List.getElem?_cons_zero]; rfl) (by kernel_rfl) (by kernel_rfl) (by kernel_rfl) (by kernel_rfl) (by intro _ _ _ h; exact h) (Or.inl ⟨by rfl, ?_⟩) (by assumption) ?_; rotate_left; (focus (intro wS hSw; (try dsimp only at hSw); go_simp; (try with_reducible rfl))); (try simp only [Act.put, List.setIfInBounds_toArray, List.set_cons_zero, List.set_cons_succ]))
      (refine wpAnyT_take (i := 16) (v := ?_) (by simp only [List.getElem?_toArray, List.getElem?_cons_succ, List.getElem?_cons_zero]; rfl) (by kernel_rfl) (by kernel_rfl) (by kernel_rfl) (by kernel_rfl) (by intro _ _ _ h; exact h) (Or.inl ⟨by rfl, ?_⟩) (by assumption) ?_; rotate_left; (focus (intro wS hSw; (try dsimp only at hSw); go_simp; (try with_reducible rfl))); (try simp only [Act.put, List.setIfInBounds_toArray, List.set_cons_zero, List.set_cons_succ]))
      refine wpAnyT_done (by kernel_rfl) ?_
      simp only [List.drop_succ_cons, List.drop_zero]
      go_wp2
      go_ret
      exact ⟨rfl, by (repeat (first | with_reducible exact Below.refl _ _ | with_reducible assumption | (with_reducible refine below_drewN ?_ _) | (with_reducible refine Below.drew ?_) | (with_reducible refine Below.setCell ?_ (by first | omega | (simp; done) | (simp; omega)) _) | (with_reducible refine Below.alloc ?_ (by first | omega | (simp; done) | (simp; omega)) _) | refine Below.trans ?_ (Below.mono (by with_reducible assumption) (by first | omega | (simp; done) | (simp; omega)))))⟩
    · have hni : ¬ (n : Int) < 20 := by omega
      go_wp2
      go_ret
      exact ⟨rfl, by (repeat (first | with_reducible exact Below.refl _ _ | with_reducible assumption | (with_reducible refine below_drewN ?_ _) | (with_reducible refine Below.drew ?_) | (with_reducible refine Below.setCell ?_ (by first | omega | (simp; done) | (simp; omega)) _) | (with_reducible refine Below.alloc ?_ (by first | omega | (simp; done) | (simp; omega)) _) | refine Below.trans ?_ (Below.mono (by with_reducible assumption) (by first | omega | (simp; done) | (simp; omega)))))⟩
  | yes vs =>
    obtain rfl : 0 = code := hcode
    have hd := part_yes HR.out HR2.out
    have hV : Rats _ A4 n4 vs := hV
    have hfa := farAll_take k (run_yes' HR.out)
    go_wp2_with fail
    refine (runIT HR2 (Lins.take (n := n) (ls := ls) (by (repeat (first | with_reducible exact hL | (with_reducible refine Lins.alloc ?_ _) | (with_reducible refine Lins.drewN ?_ _) | (with_reducible refine Lins.drew ?_)))) hkle)).mono ?_
    rintro e w4 ⟨A6, n6, c6, B6, m6, d6, rfl, _, hb1⟩
    have hz1 := hb1.size; (try simp at hz1); have hB1 : Below w.heap.size w w4 := (by refine Below.trans ?_ (Below.mono hb1 (by first | omega | (simp; done) | (simp; omega))); (repeat (first | with_reducible exact Below.refl _ _ | with_reducible assumption | (with_reducible refine below_drewN ?_ _) | (with_reducible refine Below.drew ?_) | (with_reducible refine Below.setCell ?_ (by first | omega | (simp; done) | (simp; omega)) _) | (with_reducible refine Below.alloc ?_ (by first | omega | (simp; done) | (simp; omega)) _) | refine Below.trans ?_ (Below.mono (by with_reducible assumption) (by first | omega | (simp; done) | (simp; omega)))))); (replace hL : Lins _ A1 n ls := Lins.later (by (repeat (first | with_reducible exact hL | (with_reducible refine Lins.alloc ?_ _) | (with_reducible refine Lins.drewN ?_ _) | (with_reducible refine Lins.drew ?_)))) hb1; replace hV : Rats _ A4 n4 vs := Rats.later (by (repeat (first | with_reducible exact hV | (with_reducible refine Rats.far ?_ (by first | omega | (simp; done) | (simp; omega)) _) | (with_reducible refine Rats.alloc ?_ _) | (with_reducible refine Rats.drewN ?_ _) | (with_reducible refine Rats.drew ?_)))) hb1); clear hb1
    go_wp2_with fail
    refine (farAllAs hfa (Lins.take (n := n) (ls := ls) (by (repeat (first | with_reducible exact hL | (with_reducible refine Lins.alloc ?_ _) | (with_reducible refine Lins.drewN ?_ _) | (with_reducible refine Lins.drew ?_)))) hkle) (by (repeat (first | with_reducible exact hV | (with_reducible refine Rats.far ?_ (by first | omega | (simp; done) | (simp; omega)) _) | (with_reducible refine Rats.alloc ?_ _) | (with_reducible refine Rats.drewN ?_ _) | (with_reducible refine Rats.drew ?_))))).mono ?_
    rintro e w5 ⟨rfl, hb1⟩
    have hz1 := hb1.size; (try simp at hz1); have hB1 : Below w.heap.size w w5 := (by refine Below.trans ?_ (Below.mono hb1 (by first | omega | (simp; done) | (simp; omega))); (repeat (first | with_reducible exact Below.refl _ _ | with_reducible assumption | (with_reducible refine below_drewN ?_ _) | (with_reducible refine Below.drew ?_) | (with_reducible refine Below.setCell ?_ (by first | omega | (simp; done) | (simp; omega)) _) | (with_reducible refine Below.alloc ?_ (by first | omega | (simp; done) | (simp; omega)) _) | refine Below.trans ?_ (Below.mono (by with_reducible assumption) (by first | omega | (simp; done) | (simp; omega)))))); (replace hL : Lins _ A1 n ls := Lins.later (by (repeat (first | with_reducible exact hL | (with_reducible refine Lins.alloc ?_ _) | (with_reducible refine Lins.drewN ?_ _) | (with_reducible refine Lins.drew ?_)))) hb1; replace hV : Rats _ A4 n4 vs := Rats.later (by (repeat (first | with_reducible exact hV | (with_reducible refine Rats.far ?_ (by first | omega | (simp; done) | (simp; omega)) _) | (with_reducible refine Rats.alloc ?_ _) | (with_reducible refine Rats.drewN ?_ _) | (with_reducible refine Rats.drew ?_)))) hb1); clear hb1
    generalize r2.code = code2 at *
    go_wp2
    go_ret
    exact ⟨rfl, by (repeat (first | with_reducible exact Below.refl _ _ | with_reducible assumption | (with_reducible refine below_drewN ?_ _) | (with_reducible refine Below.drew ?_) | (with_reducible refine Below.setCell ?_ (by first | omega | (simp; done) | (simp; omega)) _) | (with_reducible refine Below.alloc ?_ (by first | omega | (simp; done) | (simp; omega)) _) | refine Below.trans ?_ (Below.mono (by with_reducible assumption) (by first | omega | (simp; done) | (simp; omega)))))⟩

theorem fnFarPart_open {H : Type} {enc : TypeId × Value → H} {W : World} {base : Nat} {args : Array Value} {ds : List (DataW H)} {p : List MemPlace}
    (hval : ∀ (j : Nat) t v, #[22, 22][j]? = some t → args[j]? = some v → Value.okWide Try.prog W .any base t v)
    (hA : DataW.TrodAll enc Try.prog W 0 (fun _ => true) true #[22, 22].toList args.toList ds p) :
    Calls Try.prog 4 args W fun e w' => e = .returned (.bool true) ∧ Below W.heap.size W w' := by
  obtain ⟨v0, v1, d0, d1, p0, p1, rfl, rfl, rfl, h0, h1⟩ := trodAll_two hA
  obtain ⟨A, cap, bs, rfl, hc⟩ := open_bytes (hval 0 _ v0 rfl rfl) h0
  obtain ⟨A', cap', bs', rfl, hc'⟩ := open_bytes (hval 1 _ v1 rfl rfl) h1
  exact fnFarPart_walk hc hc'
set_option maxRecDepth 100000 in
theorem fnFarPart_lifted (os : Os) (started : os.Started) (H : Type) (enc : TypeId × Value → H) :
    ReturnsInHanded {} Try.checked os 4 .any (Rows.fnFarPartSpec.pre6 enc Try.prog Try.f4 Rows.fnFarPartRow.domain false) (Rows.fnFarPartSpec.post enc Try.prog Try.f4 false true false false) := by
  refine returnsInHanded_of_change (C := Try.checked) own started (by kernel_rfl) Try.func4
    (ChangeSpec.witness6 (enc := enc) (C := Try.checked) false ⟨#[], #[.slice none 0 0, .slice none 0 0], []⟩ 8 (by kernel_rfl) (by kernel_rfl) (by kernel_rfl) (by kernel_rfl)) ?_
  intro W base args ds gs before hval0 hW hcnd _
  have hval : ∀ (j : Nat) t v, Try.f4.params[j]? = some t → args[j]? = some v → Value.okWide Try.prog W .any base t v := hval0
  refine law_post hW rfl rfl ?_ ?_ ?_
  · have hr : (Try.f4.params.toList.all fun t => Try.prog.readableRec t && decide (t < Try.prog.types.size)) = true := by kernel_rfl
    intro t ht
    have := List.all_eq_true.1 hr t ht
    simpa using this
  · intro ds hl
    match ds, hl with
    | [d, e], _ => rfl
  · obtain ⟨p, q, hA0, _⟩ := hW
    have hA : DataW.TrodAll enc Try.prog W 0 (fun _ => true) true Try.f4.params.toList args.toList ds p := hA0
    clear hA0 hval0
    rw [Try.params4] at hA hval
    exact fnFarPart_open hval hA

theorem fnFarPart_facts : joinedFacts Try.prog 4 Try.f4 Rows.fnFarPartSpec Rows.fnFarPartRow = true :=
  joined_of _ _ _ _ _ (by kernel_rfl) laidOut mapsRowed_ok (by kernel_rfl) (by kernel_rfl) (by kernel_rfl) stops_eq (by kernel_rfl) stopKnobs_eq (by kernel_rfl) (by kernel_rfl) (by kernel_rfl) (by kernel_rfl) (by kernel_rfl) (by kernel_rfl) (by kernel_rfl) (by kernel_rfl) (by kernel_rfl) (by kernel_rfl) (by kernel_rfl) (by kernel_rfl) (by kernel_rfl) (plainKeys_eq _ rfl) (by kernel_rfl) heard_ok mayEnter_ok (lifted_eq _ rfl) (make_eq _ rfl) (by kernel_rfl) (by kernel_rfl) (by kernel_rfl) (by kernel_rfl)

theorem fnFarPart_holds : Rows.FnFarPartSaid :=
  OpenClaim.holds_of_wide 4 Try.f4 rfl rfl rfl rfl rfl rfl rfl ⟨rfl, rfl, rfl, rfl, rfl⟩ rfl rfl rfl rfl rfl (by kernel_rfl) Try.func4 fnFarPart_facts
    (of_decide_eq_true (by kernel_rfl)) (by unfold Func.isWrapper; first | (rw [if_pos (by decide +kernel)]; kernel_rfl) | (rw [if_neg (by decide +kernel)]; exact ⟨rfl, rfl⟩))
    (fun os started H enc _ => fnFarPart_lifted os started H enc)
#print axioms fnFarPart_holds
end Go.Proofs.Ytccjbipmlpnhkaa

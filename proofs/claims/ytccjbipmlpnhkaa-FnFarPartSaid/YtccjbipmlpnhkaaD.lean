/- Constraints that are copied out of plain data. -/
import Derived.Test.YtccjbipmlpnhkaaC
import Derived.Laws.OwnMore
import Derived.Deep.AppendLies
import Derived.Deep.Draws
import Derived.Laws.Rows
namespace Go.Proofs.Ytccjbipmlpnhkaa
set_option maxRecDepth 100000
open Go.RowKit Go.ChangeShapes Go.WideShapes Go.ChangeAt
set_option linter.unusedSimpArgs false
set_option linter.unusedVariables false

theorem int_info : (Try.prog.info? 3).map (fun i => (i.zero, i.size, i.bytes)) = some (some (.int .i64 0), 1, 8) := by kernel_rfl
/-- the first k cells are the numbers -/
def FillTo (zs : List Value) (xs : List Int) (k : Nat) : Prop := ∀ j, j < k → zs[j]? = some (.int .i64 (xs.getD j 0))
theorem FillTo.zero (zs : List Value) (xs : List Int) : FillTo zs xs 0 := fun _ h => absurd h (by omega)
theorem FillTo.set {zs : List Value} {xs : List Int} {k : Nat} (h : FillTo zs xs k) (hk : k < zs.length) : FillTo (zs.set k (.int .i64 (xs.getD k 0))) xs (k + 1) := fun j hj => by
  by_cases e : k = j
  · subst e; rw [List.getElem?_set_self hk]
  · rw [List.getElem?_set_ne e]; exact h j (by omega)
theorem Ints.of_own {w : World} {base g n c : Nat} {t : TypeId} {zs : List Value} {xs : List Int} (h : w.ownsRow base t 1 (.slice (some ⟨g, 0, none⟩) n c) n zs) (hf : FillTo zs xs n) (hl : xs.length = n) (hr : ∀ j, J64 (xs.getD j 0)) (hn : n ≤ 9223372036854775807) : Ints w (some ⟨g, 0, none⟩) n xs :=
  ⟨hl, fun _ => ⟨g, 0, rfl, (h.lt g rfl).2, fun j hj => by rw [Nat.zero_add, h.cellAt j (by omega)]; exact hf j hj⟩, hr, hn⟩


set_option maxHeartbeats 1000000 in
theorem toIntS_any {A : Option Addr} {n c : Nat} {xs : List Int} {w : World} (h : Ints w A n xs) (hn : n ≤ 1048576) :
    Calls Try.prog 102 #[.slice A n c] w fun e w' => e = .returned (.slice (some ⟨w.heap.size, 0, none⟩) n n) ∧ (Ints w' (some ⟨w.heap.size, 0, none⟩) n xs ∧ Free w' w.heap.size) ∧ Below w.heap.size w w' := by
  obtain ⟨i0, hi, hz0, hz1, hz2⟩ := info_parts int_info
  obtain ⟨w1, hrun, hown, hgrow⟩ := run_make_full (P := Try.prog) w w.heap.size 29 3 i0 (.int .i64 0) 1 Try.underlying29 hi hz0 hz1 .i64 .i64 n (by rw [hz2]; omega) (by unfold maxLen; omega) (Nat.le_refl _)
  have hB : Below w.heap.size w w1 := (Below.refl _ _).grown hgrow (Nat.le_refl _) (fun k hk => by cases hk)
  clear hgrow
  go_enter Try.func102, Try.ntmps102
  go_wp2
  clear hrun
  go_loopw [4] (fun i wr => ∃ (k : Nat) (zs : List Value), k ≤ n ∧ i = .int .i64 k ∧ wr.ownsRow w.heap.size 3 1 (.slice (some ⟨w.heap.size, 0, none⟩) n n) n zs ∧ FillTo zs xs k ∧ Below w.heap.size w wr) (fun i _ => n - (intOf i).toNat)
  case atStart => exact ⟨0, _, by omega, rfl, hown, FillTo.zero _ xs, hB⟩
  case round =>
    clear hown hB
    obtain ⟨k, zs, hk, rfl, hown, hfill, hB⟩ := hrel
    by_cases hlt : k < n
    · have hI := h.later hB
      obtain ⟨p, o, rfl, hp, hc⟩ := hI.cells (by omega)
      have hck := hc k hlt
      clear hc
      have hzl : k < zs.length := by have := hown.1; omega
      have hck' := hown.cellAt k (by omega)
      rw [List.getElem?_eq_getElem hzl] at hck'
      have hfk := hown.frozenAt k
      have hst := hown.stored k (.int .i64 (xs.getD k 0))
      have hfill' := hfill.set hzl
      have HS := Lib.hid (And.intro hst hfill')
      clear hst hfill' hown hfill
      generalize xs.getD k 0 = x at *
      go_wp2
      go_roundw
      case rel => exact ⟨k + 1, _, by omega, by go_num, HS.out.1.1, HS.out.2, hB.grown HS.out.1.2 hB.size (fun j hj => by injection hj with hj; omega)⟩
      case measure => simp [intOf]; omega
    · obtain rfl : k = n := by omega
      go_wp2
      go_ret
      exact ⟨rfl, ⟨Ints.of_own hown hfill h.len h.rng h.few, ⟨(hown.lt _ rfl).2, fun j => hown.frozenAt j⟩⟩, hB⟩

set_option maxHeartbeats 1000000 in
theorem toLin_free {A : Option Addr} {n c : Nat} {xs : List Int} (b : Int) (s : Bool) {w : World} (h : Ints w A n xs) (hn : n ≤ 1048576) :
    Calls Try.prog 73 #[.agg #[.slice A n c, .int .i64 b, .bool s]] w fun e w' => ∃ g, e = .returned (.agg #[.slice (some ⟨g, 0, none⟩) n n, .int .i64 b, .bool s]) ∧ (Ints w' (some ⟨g, 0, none⟩) n xs ∧ Free w' g) ∧ w.heap.size ≤ g ∧ Below w.heap.size w w' := by
  go_enter Try.func73, Try.ntmps73
  go_wp2_with fail
  refine (toIntS_any (w := ((w.alloc (.cells #[.slice A n c, .int .i64 b, .bool s] 100)).alloc (.cells #[.slice none 0 0, .int .i64 0, .bool false] 34)).alloc (.cells #[.slice none 0 0, .int .i64 0, .bool false] 34)) (((h.alloc _).alloc _).alloc _) hn).mono ?_
  rintro e w1 ⟨rfl, ⟨hI, hF⟩, hb1⟩
  simp only [World.size_alloc] at hI hF
  have hz1 := hb1.size; (try simp at hz1); have hB1 : Below w.heap.size w w1 := (by refine Below.trans ?_ (Below.mono hb1 (by first | omega | (simp; done) | (simp; omega))); (repeat (first | with_reducible exact Below.refl _ _ | with_reducible assumption | (with_reducible refine below_drewN ?_ _) | (with_reducible refine Below.drew ?_) | (with_reducible refine Below.setCell ?_ (by first | omega | (simp; done) | (simp; omega)) _) | (with_reducible refine Below.alloc ?_ (by first | omega | (simp; done) | (simp; omega)) _) | refine Below.trans ?_ (Below.mono (by with_reducible assumption) (by first | omega | (simp; done) | (simp; omega)))))); obtain ⟨kc_, fc_, lc_⟩ := keep_later (a := ⟨w.heap.size, 0, none⟩) (v := .slice A n c) hb1 (by go_simp) (by go_simp); obtain ⟨kc_, fc_, lc_⟩ := keep_later (a := ⟨w.heap.size, 1, none⟩) (v := .int .i64 b) hb1 (by go_simp) (by go_simp); obtain ⟨kc_, fc_, lc_⟩ := keep_later (a := ⟨w.heap.size, 2, none⟩) (v := .bool s) hb1 (by go_simp) (by go_simp); obtain ⟨kc_, fc_, lc_⟩ := keep_later (a := ⟨w.heap.size+1, 0, none⟩) (v := .slice none 0 0) hb1 (by go_simp) (by go_simp); obtain ⟨kc_, fc_, lc_⟩ := keep_later (a := ⟨w.heap.size+1, 1, none⟩) (v := .int .i64 0) hb1 (by go_simp) (by go_simp); obtain ⟨kc_, fc_, lc_⟩ := keep_later (a := ⟨w.heap.size+1, 2, none⟩) (v := .bool false) hb1 (by go_simp) (by go_simp); obtain ⟨kc_, fc_, lc_⟩ := keep_later (a := ⟨w.heap.size+1+1, 0, none⟩) (v := .slice none 0 0) hb1 (by go_simp) (by go_simp); obtain ⟨kc_, fc_, lc_⟩ := keep_later (a := ⟨w.heap.size+1+1, 1, none⟩) (v := .int .i64 0) hb1 (by go_simp) (by go_simp); obtain ⟨kc_, fc_, lc_⟩ := keep_later (a := ⟨w.heap.size+1+1, 2, none⟩) (v := .bool false) hb1 (by go_simp) (by go_simp)
  clear hb1
  go_wp2
  refine bodyPost_ret (v := .agg #[.slice (some ⟨w.heap.size + 1 + 1 + 1, 0, none⟩) n n, .int .i64 b, .bool s]) (by simp only [results, Try.results73]; go_simp) rfl ⟨w.heap.size + 1 + 1 + 1, rfl, ⟨?_, ?_⟩, by omega, ?_⟩
  · (repeat (first | with_reducible exact hI | (with_reducible refine Ints.far ?_ (by first | omega | (simp; done) | (simp; omega)) _) | (with_reducible refine Ints.alloc ?_ _) | (with_reducible refine Ints.drewN ?_ _) | (with_reducible refine Ints.drew ?_)))
  · (repeat (first | with_reducible exact hF | (with_reducible refine Free.set ?_ _ _) | (with_reducible refine Free.alloc ?_ _) | (with_reducible refine Free.drewN ?_ _) | (with_reducible refine Free.drew ?_)))
  · (repeat (first | with_reducible exact Below.refl _ _ | with_reducible assumption | (with_reducible refine below_drewN ?_ _) | (with_reducible refine Below.drew ?_) | (with_reducible refine Below.setCell ?_ (by first | omega | (simp; done) | (simp; omega)) _) | (with_reducible refine Below.alloc ?_ (by first | omega | (simp; done) | (simp; omega)) _) | refine Below.trans ?_ (Below.mono (by with_reducible assumption) (by first | omega | (simp; done) | (simp; omega)))))
theorem toLin_any {A : Option Addr} {n c : Nat} {xs : List Int} (b : Int) (s : Bool) {w : World} (h : Ints w A n xs) (hn : n ≤ 1048576) :
    Calls Try.prog 73 #[.agg #[.slice A n c, .int .i64 b, .bool s]] w fun e w' => ∃ g, e = .returned (.agg #[.slice (some ⟨g, 0, none⟩) n n, .int .i64 b, .bool s]) ∧ Ints w' (some ⟨g, 0, none⟩) n xs ∧ w.heap.size ≤ g ∧ Below w.heap.size w w' :=
  (toLin_free b s h hn).mono fun _ _ ⟨g, he, hI, hg, hb⟩ => ⟨g, he, hI.1, hg, hb⟩
theorem j64_of_wf {x : Int} (h : (Lit.int .i64 x).wf = true) : J64 x := by
  simp [Lit.wf, IntKind.min, IntKind.max, IntKind.signed, IntKind.bits] at h
  unfold J64; omega
theorem open_ints_at {H : Type} {enc : TypeId × Value → H} {W : World} {m : Nat} {v : Value} {x : DataW H × List MemPlace} (h : DataW.trod enc Try.prog W 0 (fun _ => true) true m 29 [v] = some x) :
    ∃ (A : Option Addr) (n c : Nat) (xs : List Int), v = .slice A n c ∧ Ints W A n xs := by
  rcases open_ints Try.underlying29 Try.underlying3 (by kernel_rfl : Try.prog.cellsOf 3 = 1) h with ⟨hcs, hx⟩ | ⟨a, len, cap, zs, hcs, _, hl, hm, hz, hx, hcell, hwz⟩
  · simp only [List.cons.injEq, and_true] at hcs
    exact ⟨none, 0, 0, [], hcs, ⟨rfl, fun h => absurd h (by omega), fun j => by simp [J64], by omega⟩⟩
  · simp only [List.cons.injEq, and_true] at hcs
    simp only [if_true] at hz
    unfold maxLen at hm
    refine ⟨some a, len, cap, zs.take len, hcs, ⟨by simp; omega, ?_, ?_, by omega⟩⟩
    · intro hn0
      have h0 := hcell 0 (by omega)
      have hblk := World.block_lt_of_cell? _ _ h0
      obtain ⟨ab, ao, asp⟩ := a
      have hsp : asp = none := by
        cases asp with
        | none => rfl
        | some s => exfalso; simp [Addr.add, World.cell?] at h0; split at h0 <;> cases h0
      subst hsp
      refine ⟨ab, ao, rfl, by simpa [Addr.add] using hblk, fun j hj => ?_⟩
      have hc := hcell j (by omega)
      have hadd : (⟨ab, ao, none⟩ : Addr).add j = ⟨ab, ao + j, none⟩ := by unfold Addr.add; split <;> simp_all
      rw [hadd] at hc
      rw [hc]
      simp [List.getD_eq_getElem?_getD, List.getElem?_take, hj]
    · intro j
      rcases Nat.lt_or_ge j (zs.take len).length with hj | hj
      · rw [List.getD_eq_getElem?_getD, List.getElem?_eq_getElem hj]
        simp only [List.length_take] at hj
        simp only [Option.getD_some, List.getElem_take]
        exact j64_of_wf (hwz _ (List.getElem_mem _))
      · rw [List.getD_eq_getElem?_getD, List.getElem?_eq_none hj]
        simp [J64]

theorem open_lin100 {H : Type} {enc : TypeId × Value → H} {W : World} {base : Nat} {v : Value} {d : DataW H} {p : List MemPlace} (hv : Value.okWide Try.prog W .any base 100 v) (h : DataW.Trod enc Try.prog W 0 (fun _ => true) true 100 v d p) :
    ∃ (A : Option Addr) (n c : Nat) (xs : List Int) (b : Int) (s : Bool), v = .agg #[.slice A n c, .int .i64 b, .bool s] ∧ Ints W A n xs ∧ J64 b := by
  obtain ⟨v0, v1, v2, y0, y1, y2, m, rfl, rfl, rfl, h0, h1, h2⟩ := Go.Joins.open_agg3 Try.underlying100 (by kernel_rfl) (by kernel_rfl : Try.prog.cellsOf 100 = 3) hv h
  obtain ⟨b, e1, rfl, w1⟩ := DataW.trod_int Try.underlying3 h1
  obtain ⟨s, e2, rfl⟩ := DataW.trod_bool Try.underlying4 h2
  simp at e1 e2
  subst e1 e2
  obtain ⟨A, n, c, xs, e0, hI⟩ := open_ints_at h0
  subst e0
  exact ⟨A, n, c, xs, b, s, rfl, hI, j64_of_wf w1⟩
end Go.Proofs.Ytccjbipmlpnhkaa

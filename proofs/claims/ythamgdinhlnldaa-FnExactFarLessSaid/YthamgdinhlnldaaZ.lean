/- Rows of fractions that are copied out of plain data, and compared. -/
import Derived.Test.YthamgdinhlnldaaO
import Derived.Deep.SlicePairs
namespace Go.Proofs.Ythamgdinhlnldaa
set_option maxRecDepth 100000
open Go.RowKit Go.ChangeShapes Go.WideShapes Go.ChangeAt
set_option linter.unusedSimpArgs false
set_option linter.unusedVariables false

theorem rat_info2 : (Try.prog.info? 74).map (fun i => (i.zero, i.size, i.bytes)) = some (some (.agg #[.int .i64 0, .int .i64 0]), 2, 16) := by kernel_rfl
theorem szRatS_any {A : Option Addr} {n c : Nat} (left : Int) (hn : n ≤ 9223372036854775807) (h0 : 0 ≤ left) (h1 : left ≤ 1048576) (w : World) :
    Calls Try.prog 38 #[.slice A n c, .int .i64 left] w fun e w' => e = .returned (.int .i64 (if (n : Int) ≤ left then left - n else -1)) ∧ Below w.heap.size w w' := by
  by_cases h : (n : Int) ≤ left
  · rw [if_pos h]
    go_enter Try.func38, Try.ntmps38
    go_wp2
    go_ret
    exact ⟨rfl, Below.refl _ _⟩
  · rw [if_neg h]
    go_enter Try.func38, Try.ntmps38
    go_wp2
    go_ret
    exact ⟨rfl, Below.refl _ _⟩
/-- The first k pairs of cells are the fractions. -/
def Fill2 (zs : List Value) (vs : List (Int × Int)) (k : Nat) : Prop := ∀ j, j < k → zs[j * 2]? = some (.int .i64 (vs.getD j (0, 0)).1) ∧ zs[j * 2 + 1]? = some (.int .i64 (vs.getD j (0, 0)).2)
theorem Fill2.zero (zs : List Value) (vs : List (Int × Int)) : Fill2 zs vs 0 := fun _ h => absurd h (by omega)
theorem Fill2.set {zs : List Value} {vs : List (Int × Int)} {k : Nat} (h : Fill2 zs vs k) (hk : k * 2 + 1 < zs.length) :
    Fill2 ((zs.set (k * 2) (.int .i64 (vs.getD k (0, 0)).1)).set (k * 2 + 1) (.int .i64 (vs.getD k (0, 0)).2)) vs (k + 1) := fun j hj => by
  by_cases e : j = k
  · subst e
    refine ⟨?_, ?_⟩
    · rw [List.getElem?_set_ne (by omega), List.getElem?_set_self (by omega)]
    · rw [List.getElem?_set_self (by simp; omega)]
  · obtain ⟨h1, h2⟩ := h j (by omega)
    refine ⟨?_, ?_⟩
    · rw [List.getElem?_set_ne (by omega), List.getElem?_set_ne (by omega)]; exact h1
    · rw [List.getElem?_set_ne (by omega), List.getElem?_set_ne (by omega)]; exact h2
theorem Rats.of_own {w : World} {base g n c : Nat} {t : TypeId} {zs : List Value} {vs : List (Int × Int)} (h : w.ownsRow base t 2 (.slice (some ⟨g, 0, none⟩) n c) n zs) (hf : Fill2 zs vs n) (hl : vs.length = n)
    (hr : ∀ j, J64 (vs.getD j (0, 0)).1 ∧ J64 (vs.getD j (0, 0)).2) (hn : n ≤ 9223372036854775807) : Rats w (some ⟨g, 0, none⟩) n vs :=
  ⟨hl, fun _ => ⟨g, 0, rfl, (h.lt g rfl).2, fun j hj => by rw [Nat.zero_add, h.cellAt _ (by omega), h.cellAt _ (by omega)]; exact hf j hj⟩, hr, hn⟩

set_option maxHeartbeats 2000000 in
theorem toRatS_any {A : Option Addr} {n c : Nat} {vs : List (Int × Int)} {w : World} (h : Rats w A n vs) (hn : n ≤ 1048576) :
    Calls Try.prog 41 #[.slice A n c] w fun e w' => e = .returned (.slice (some ⟨w.heap.size, 0, none⟩) n n) ∧ Rats w' (some ⟨w.heap.size, 0, none⟩) n vs ∧ Below w.heap.size w w' := by
  obtain ⟨i0, hi, hz0, hz1, hz2⟩ := info_parts rat_info2
  obtain ⟨w1, hrun, hown, hgrow⟩ := run_make_full (P := Try.prog) w w.heap.size 42 74 i0 (.agg #[.int .i64 0, .int .i64 0]) 2 Try.underlying42 hi hz0 hz1 .i64 .i64 n (by rw [hz2]; omega) (by unfold maxLen; omega) (Nat.le_refl _)
  have hB : Below w.heap.size w w1 := (Below.refl _ _).grown hgrow (Nat.le_refl _) (fun k hk => by cases hk)
  clear hgrow
  go_enter Try.func41, Try.ntmps41
  go_wp2
  clear hrun
  go_loopw [4] (fun i wr => ∃ (k : Nat) (zs : List Value), k ≤ n ∧ i = .int .i64 k ∧ wr.ownsRow w.heap.size 74 2 (.slice (some ⟨w.heap.size, 0, none⟩) n n) n zs ∧ Fill2 zs vs k ∧ Below w.heap.size w wr) (fun i _ => n - (intOf i).toNat)
  case atStart => exact ⟨0, _, by omega, rfl, hown, Fill2.zero _ vs, hB⟩
  case round =>
    clear hown hB
    obtain ⟨k, zs, hk, rfl, hown, hfill, hB⟩ := hrel
    by_cases hlt : k < n
    · obtain ⟨p, o, rfl, hp, hc⟩ := (h.later hB).cells (by omega)
      obtain ⟨hc1, hc2⟩ := hc k hlt
      clear hc
      have hzl : k * 2 + 1 < zs.length := by have := hown.1; omega
      have hgw := (hown.lt _ rfl).2
      generalize hx : (vs.getD k (0, 0)).1 = x at *
      generalize hy : (vs.getD k (0, 0)).2 = y at *
      go_wp2_with fail
      refine (toRat_any x y _).mono ?_
      rintro e w2 ⟨rfl, hb1⟩
      have hown2 : w2.ownsRow w.heap.size 74 2 (.slice (some ⟨w.heap.size, 0, none⟩) n n) n zs := hown.kept (row := none) ⟨hb1.os, hb1.tape, hb1.output, hb1.size, fun i hi _ => hb1.block i hi⟩ (.inr (by simp [Value.ownBlock]))
      have hB2 : Below w.heap.size w w2 := hB.trans (hb1.mono hB.size)
      have hs2 := hb1.size
      clear hb1 hown hB
      have hd1 := hown2.cellAt (k * 2) (by omega)
      have hd2 := hown2.cellAt (k * 2 + 1) (by omega)
      rw [List.getElem?_eq_getElem (show k * 2 < zs.length by omega)] at hd1
      rw [List.getElem?_eq_getElem hzl] at hd2
      have hf1 := hown2.frozenAt (k * 2)
      have hf2 := hown2.frozenAt (k * 2 + 1)
      have hst1 := hown2.stored (k * 2) (.int .i64 x)
      have hst2 := hst1.1.stored (k * 2 + 1) (.int .i64 y)
      have hfill' := hfill.set hzl
      rw [hx, hy] at hfill'
      have HB : Below w.heap.size w ((w2.setCell ⟨w.heap.size, k * 2, none⟩ (.int .i64 x)).setCell ⟨w.heap.size, k * 2 + 1, none⟩ (.int .i64 y)) := by (repeat (first | with_reducible exact Below.refl _ _ | with_reducible assumption | (with_reducible refine below_drewN ?_ _) | (with_reducible refine Below.drew ?_) | (with_reducible refine Below.setCell ?_ (by first | omega | (simp; done) | (simp; omega)) _) | (with_reducible refine Below.alloc ?_ (by first | omega | (simp; done) | (simp; omega)) _) | refine Below.trans ?_ (Below.mono (by with_reducible assumption) (by first | omega | (simp; done) | (simp; omega)))))
      have HS := Lib.hid (And.intro hst2.1 (And.intro hfill' HB))
      clear hst1 hst2 hfill' hown2 hfill HB
      generalize zs[k * 2] = z1 at hd1
      generalize zs[k * 2 + 1] = z2 at hd2
      go_wp2
      go_roundw
      case rel => exact ⟨k + 1, _, by omega, by go_num, HS.out.1, HS.out.2.1, HS.out.2.2⟩
      case measure => simp [intOf]; omega
    · obtain rfl : k = n := by omega
      go_wp2
      go_ret
      exact ⟨rfl, Rats.of_own hown hfill h.len h.rng h.few, hB⟩

theorem eqRat_same (x y : Int) (w : World) :
    Calls Try.prog 78 #[.agg #[.int .i64 x, .int .i64 y], .agg #[.int .i64 x, .int .i64 y]] w fun e w' => e = .returned (.bool true) ∧ Below w.heap.size w w' := by
  have h := eqRat_any x y x y w
  simpa using h
set_option maxHeartbeats 4000000 in
theorem eqRatS_same {A A' : Option Addr} {n c c' : Nat} {vs : List (Int × Int)} {w : World} (h : Rats w A n vs) (h' : Rats w A' n vs) :
    Calls Try.prog 42 #[.slice A n c, .slice A' n c'] w fun e w' => e = .returned (.bool true) ∧ Below w.heap.size w w' := by
  have hfew := h.few
  go_enter Try.func42, Try.ntmps42
  go_wp2_with fail
  go_loopw [5] (fun i wr => ∃ k : Nat, k ≤ n ∧ i = .int .i64 k ∧ Below w.heap.size w wr) (fun i _ => n - (intOf i).toNat)
  case atStart => exact ⟨0, by omega, rfl, by (repeat (first | with_reducible exact Below.refl _ _ | with_reducible assumption | (with_reducible refine below_drewN ?_ _) | (with_reducible refine Below.drew ?_) | (with_reducible refine Below.setCell ?_ (by first | omega | (simp; done) | (simp; omega)) _) | (with_reducible refine Below.alloc ?_ (by first | omega | (simp; done) | (simp; omega)) _) | refine Below.trans ?_ (Below.mono (by with_reducible assumption) (by first | omega | (simp; done) | (simp; omega)))))⟩
  case round =>
    obtain ⟨k, hk, rfl, hB⟩ := hrel
    by_cases hlt : k < n
    · obtain ⟨p, o, rfl, hp, hc⟩ := (h.later hB).cells (by omega)
      obtain ⟨p', o', rfl, hp', hc'⟩ := (h'.later hB).cells (by omega)
      obtain ⟨hc1, hc2⟩ := hc k hlt
      obtain ⟨hc3, hc4⟩ := hc' k hlt
      clear hc hc'
      generalize (vs.getD k (0, 0)).1 = x at *
      generalize (vs.getD k (0, 0)).2 = y at *
      have c1 := Lib.hid (fun W => eqRat_same x y W)
      go_wp2_with fail
      refine wp_region_grown (by kernel_rfl) (by kernel_rfl) ?_
      refine quiet_with (a := ⟨p, o + k * 2, none⟩) (v := .int .i64 x) hc1 ?_; intro g
      refine quiet_with (a := ⟨p, o + k * 2 + 1, none⟩) (v := .int .i64 y) hc2 ?_; intro g
      refine quiet_with (a := ⟨p', o' + k * 2, none⟩) (v := .int .i64 x) hc3 ?_; intro g
      refine quiet_with (a := ⟨p', o' + k * 2 + 1, none⟩) (v := .int .i64 y) hc4 ?_; intro g
      repeat (go_big_quiet_step ((first | (go_at_call 78; (with_reducible exact grown_of (c1.out _))))))
      refine wpQuiet_nil ?_
      rintro w2 ⟨⟨_, hb1⟩, rfl⟩
      have hB2 : Below w.heap.size w w2 := hB.trans (hb1.mono hB.size)
      clear hb1 c1
      go_wp2
      go_roundw
      case rel => exact ⟨k + 1, by omega, by go_num, hB2⟩
      case measure => simp [intOf]; omega
    · obtain rfl : k = n := by omega
      go_wp2
      go_ret
      exact ⟨rfl, hB⟩

set_option maxRecDepth 100000 in
theorem open_rats51 {H : Type} {enc : TypeId × Value → H} {W : World} {base : Nat} {v : Value} {d : DataW H} {p : List MemPlace} (hv : Value.okWide Try.prog W .any base 51 v) (h : DataW.Trod enc Try.prog W 0 (fun _ => true) true 51 v d p) :
    ∃ (A : Option Addr) (n c : Nat) (vs : List (Int × Int)), v = .slice A n c ∧ Rats W A n vs := by
  obtain ⟨a0, len0, cap0, rfl⟩ := okWide_slice Try.underlying51 hv
  obtain ⟨fuel, hf⟩ := h
  rcases Go.Deep.open_slice_pairs Try.underlying51 Try.underlying89 (by kernel_rfl) rfl rfl (by kernel_rfl) (by kernel_rfl) hf with ⟨hcs, hx⟩ | ⟨a, len, cap, m, k, V0, V1, D0, D1, P0, P1, hcs, _, hl, hm, hmm, hx, hi⟩
  · simp only [Value.cells, List.cons.injEq, Value.slice.injEq, and_true, Array.toList] at hcs
    obtain ⟨rfl, rfl, rfl⟩ := hcs
    exact ⟨none, 0, 0, [], rfl, rfl, fun h => absurd h (by omega), fun j => by simp [J64], by omega⟩
  · simp only [Value.cells, List.cons.injEq, Value.slice.injEq, and_true, Array.toList] at hcs
    obtain ⟨rfl, rfl, rfl⟩ := hcs
    simp only [if_true] at hmm
    have each : ∀ i, i < m → ∃ q : Int × Int, V0 i = .int .i64 q.1 ∧ V1 i = .int .i64 q.2 ∧ J64 q.1 ∧ J64 q.2 := fun i him => by
      obtain ⟨_, _, t0, t1⟩ := hi i him
      obtain ⟨x, e0, _, w0⟩ := DataW.trod_int Try.underlying3 t0
      obtain ⟨y, e1, _, w1⟩ := DataW.trod_int Try.underlying3 t1
      simp at e0 e1
      exact ⟨(x, y), e0, e1, j64_of_wf w0, j64_of_wf w1⟩
    have hex : ∃ F : Nat → Int × Int, ∀ i, i < m → V0 i = .int .i64 (F i).1 ∧ V1 i = .int .i64 (F i).2 ∧ J64 (F i).1 ∧ J64 (F i).2 :=
      ⟨fun i => if h : i < m then (each i h).choose else (0, 0), fun i him => by
        have := (each i him).choose_spec
        simpa [him] using this⟩
    obtain ⟨F, hF⟩ := hex
    have hget : ∀ j, ((List.range len0).map F).getD j (0, 0) = if j < len0 then F j else (0, 0) := fun j => by
      rw [List.getD_eq_getElem?_getD, List.getElem?_map]
      by_cases hj : j < len0
      · rw [List.getElem?_range hj, if_pos hj]; rfl
      · rw [List.getElem?_eq_none (by simpa using hj), if_neg hj]; rfl
    unfold maxLen at hm
    refine ⟨some a, len0, cap0, (List.range len0).map F, rfl, by simp, fun hn0 => ?_, fun j => ?_, by omega⟩
    · have h0 := (hi 0 (by omega)).1
      have hblk := World.block_lt_of_cell? _ _ h0
      obtain ⟨ab, ao, asp⟩ := a
      have hsp : asp = none := by
        cases asp with
        | none => rfl
        | some s => exfalso; simp [Addr.add, World.cell?] at h0; split at h0 <;> cases h0
      subst hsp
      refine ⟨ab, ao, rfl, by simpa [Addr.add] using hblk, fun j hj => ?_⟩
      obtain ⟨h1, h2, _, _⟩ := hi j (by omega)
      obtain ⟨e1, e2, _, _⟩ := hF j (by omega)
      have hadd : ∀ q, (⟨ab, ao, none⟩ : Addr).add q = ⟨ab, ao + q, none⟩ := fun q => by unfold Addr.add; split <;> simp_all
      rw [hadd, e1] at h1
      rw [hadd, e2] at h2
      rw [hget, if_pos hj]
      exact ⟨h1, h2⟩
    · rw [hget]
      split
      · rename_i hj
        exact ⟨(hF j (by omega)).2.2.1, (hF j (by omega)).2.2.2⟩
      · simp [J64]
end Go.Proofs.Ythamgdinhlnldaa

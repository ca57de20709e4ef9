/- Results of deciding: all kinds alike; marks on fractions. -/
import Derived.Test.YtccjbipmlpnhkaaWi
import Derived.Test.YtccjbipmlpnhkaaZ
import Derived.Test.YtccjbipmlpnhkaaFk
namespace Go.Proofs.Ytccjbipmlpnhkaa
set_option maxRecDepth 100000
open Go.RowKit Go.ChangeShapes Go.WideShapes Go.ChangeAt
set_option linter.unusedSimpArgs false
set_option linter.unusedVariables false

def FarRes.vals : FarRes → List (Int × Int)
  | .yes vs => vs
  | _ => []
def FarRes.times : FarRes → List Int
  | .no ts => ts
  | _ => []
def FarRes.code : FarRes → Int
  | .form => 3
  | .much => 2
  | .no _ => 1
  | .yes _ => 0
/-- The block is the call's own. -/
def Mine (lo : Nat) (w : World) (A : Option Addr) (n : Nat) : Prop := 0 < n → ∃ g, A = some ⟨g, 0, none⟩ ∧ lo ≤ g ∧ g < w.heap.size ∧ Free w g
theorem Rats.none0 (w : World) (A : Option Addr) : Rats w A 0 [] := ⟨rfl, fun h => absurd h (by omega), fun j => by simp [J64], by omega⟩
theorem Ints.none0 (w : World) (A : Option Addr) : Ints w A 0 [] := ⟨rfl, fun h => absurd h (by omega), fun j => by simp [J64], by omega⟩
theorem run_all_kinds {r : FarRes} {w w' : World} {e : Ending} (h : RunBack r w e w') : ∃ A n c B m d, e = .returned (.tuple #[.slice A n c, .slice B m d, .int .i64 r.code]) ∧ (Rats w' A n r.vals ∧ Ints w' B m r.times) ∧ (Mine w.heap.size w' A n ∧ Mine w.heap.size w' B m) ∧ (n = 0 ∨ m = 0) ∧ n ≤ 4 ∧ Below w.heap.size w w' := by
  have hz : ∀ (A : Option Addr), Mine w.heap.size w' A 0 := fun A h => absurd h (by omega)
  cases r with
  | form => obtain ⟨A, c, B, d, he, hb⟩ := h; exact ⟨A, 0, c, B, 0, d, he, ⟨Rats.none0 _ _, Ints.none0 _ _⟩, ⟨hz _, hz _⟩, .inl rfl, by omega, hb⟩
  | much => obtain ⟨A, c, B, d, he, hb⟩ := h; exact ⟨A, 0, c, B, 0, d, he, ⟨Rats.none0 _ _, Ints.none0 _ _⟩, ⟨hz _, hz _⟩, .inl rfl, by omega, hb⟩
  | no ts =>
    obtain ⟨A, c, g, cap, he, ⟨hI, hF, hg⟩, hb⟩ := h
    exact ⟨A, 0, c, _, _, cap, he, ⟨Rats.none0 _ _, hI⟩, ⟨hz _, fun _ => ⟨g, rfl, hg, hF.lt, hF⟩⟩, .inl rfl, by omega, hb⟩
  | yes vs =>
    obtain ⟨g, cap, B, d, he, ⟨hV, hF, hg⟩, hb⟩ := h
    exact ⟨_, 4, cap, B, 0, d, he, ⟨hV, Ints.none0 _ _⟩, ⟨fun _ => ⟨g, rfl, hg, hF.lt, hF⟩, hz _⟩, .inr rfl, by omega, hb⟩
theorem Mine.later {lo n : Nat} {A : Option Addr} {w w' : World} (h : Mine lo w A n) (hb : Below w.heap.size w w') : Mine lo w' A n := fun hn => by
  obtain ⟨g, e, h1, h2, h3⟩ := h hn
  exact ⟨g, e, h1, Nat.lt_of_lt_of_le h2 hb.size, h3.later hb⟩
theorem Mine.span {lo n a b : Nat} {A : Option Addr} {w w' : World} (h : Mine lo w A n) (k : Span a b w w') (hb : b ≤ lo) : Mine lo w' A n := fun hn => by
  obtain ⟨g, e, h1, h2, h3⟩ := h hn
  exact ⟨g, e, h1, Nat.lt_of_lt_of_le h2 k.size, h3.span k (.inr (by omega))⟩
theorem Ints.spanMine {lo n a b : Nat} {A : Option Addr} {xs : List Int} {w w' : World} (h : Ints w A n xs) (hm : Mine lo w A n) (k : Span a b w w') (hb : b ≤ lo) : Ints w' A n xs := by
  by_cases hn : 0 < n
  · obtain ⟨g, rfl, h1, _, _⟩ := hm hn
    exact h.span k (.inr (by omega))
  · exact ⟨h.len, fun h => absurd h hn, h.rng, h.few⟩
theorem Rats.spanMine {lo n a b : Nat} {A : Option Addr} {vs : List (Int × Int)} {w w' : World} (h : Rats w A n vs) (hm : Mine lo w A n) (k : Span a b w w') (hb : b ≤ lo) : Rats w' A n vs := by
  by_cases hn : 0 < n
  · obtain ⟨g, rfl, h1, h2, _⟩ := hm hn
    refine ⟨h.len, fun _ => ?_, h.rng, h.few⟩
    obtain ⟨b', o', e, hl, hc⟩ := h.cells hn
    obtain ⟨rfl, rfl⟩ : g = b' ∧ 0 = o' := by
      have := Option.some.inj e
      simp only [Addr.mk.injEq] at this
      exact ⟨this.1, this.2.1⟩
    have hq : ∀ x, w'.cell? ⟨g, x, none⟩ = w.cell? ⟨g, x, none⟩ := fun x => World.cell?_of_block (w := w) (k.block g hl (.inr (by omega)))
    exact ⟨g, 0, rfl, Nat.lt_of_lt_of_le hl k.size, fun j hj => ⟨(hq _).trans (hc j hj).1, (hq _).trans (hc j hj).2⟩⟩
  · exact ⟨h.len, fun h => absurd h hn, h.rng, h.few⟩
theorem grown_set {w w' : World} {g o : Nat} {v : Value} (h : w.grownBy w' (some g)) : w.grownBy (w'.setCell ⟨g, o, none⟩ v) (some g) :=
  h.trans ⟨rfl, rfl, rfl, by simp [World.setCell], fun i _ hi => Below.heap_setCell _ _ _ _ (fun e => hi (by rw [e]))⟩
def ratMarks (n : Nat) (a : Int) : List (Int × Int) := (List.range n).map fun (i : Nat) => (a + 2 * (i : Int), a + 2 * (i : Int) + 1)
theorem ratMarks_len (n : Nat) (a : Int) : (ratMarks n a).length = n := by simp [ratMarks]
theorem ratMarks_getD {n j : Nat} {a : Int} (h : j < n) : (ratMarks n a).getD j (0, 0) = (a + 2 * j, a + 2 * j + 1) := by
  unfold ratMarks
  rw [List.getD_eq_getElem?_getD, List.getElem?_map, List.getElem?_range h]; rfl
theorem ratMarks_rng {n : Nat} {a : Int} (ha : 0 ≤ a) (ha' : a ≤ 100) (hn : n ≤ 4) (j : Nat) : J64 ((ratMarks n a).getD j (0, 0)).1 ∧ J64 ((ratMarks n a).getD j (0, 0)).2 := by
  rcases Nat.lt_or_ge j n with h | h
  · rw [ratMarks_getD h]; unfold J64; dsimp only; omega
  · rw [List.getD_eq_getElem?_getD, List.getElem?_eq_none (by rw [ratMarks_len]; exact h)]; simp [J64]

theorem markRatS_none {A : Option Addr} {c : Nat} (a : Int) (w : World) :
    Calls Try.prog 37 #[.slice A 0 c, .int .i64 a] w fun e w' => e = .returned (.int .i64 a) ∧ w = w' := by
  go_enter Try.func37, Try.ntmps37
  go_wp2
  refine wp_loop_rounds 1 ?_
  rw [rounds_succ]
  go_wp2
  go_ret
  exact ⟨rfl, rfl⟩
set_option maxHeartbeats 2000000 in
theorem markRatS_any {g n c : Nat} (a : Int) {w : World} (hr : Row w g (n * 2)) (hg : g < w.heap.size) (ha : 0 ≤ a) (ha' : a ≤ 100) (hn : n ≤ 4) :
    Calls Try.prog 37 #[.slice (some ⟨g, 0, none⟩) n c, .int .i64 a] w fun e w' => e = .returned (.int .i64 (a + 2 * n)) ∧ Rats w' (some ⟨g, 0, none⟩) n (ratMarks n a) ∧ w.grownBy w' (some g) := by
  go_enter Try.func37, Try.ntmps37
  go_wp2
  go_loopw [1, 5] (fun x i wr => ∃ k : Nat, k ≤ n ∧ i = .int .i64 k ∧ x = .int .i64 (a + 2 * k) ∧ Row wr g (n * 2) ∧ w.grownBy wr (some g) ∧ (∀ j, j < k → Hid (wr.cell? ⟨g, j * 2, none⟩ = some (.int .i64 (a + 2 * j)) ∧ wr.cell? ⟨g, j * 2 + 1, none⟩ = some (.int .i64 (a + 2 * j + 1))))) (fun _ i _ => n - (intOf i).toNat)
  case atStart => exact ⟨0, by omega, rfl, by simp, hr, World.grownBy.refl w _, fun j hj => absurd hj (by omega)⟩
  case round =>
    obtain ⟨k, hk, rfl, rfl, hrow, hgr, hdone⟩ := hrel
    by_cases hlt : k < n
    · obtain ⟨v, hv⟩ := hrow.cell (k * 2) (by omega)
      obtain ⟨v2, hv2⟩ := hrow.cell (k * 2 + 1) (by omega)
      have hf := hrow.free (k * 2)
      have hf2 := hrow.free (k * 2 + 1)
      have HS := Lib.hid (And.intro ((hrow.set ⟨g, k * 2, none⟩ (.int .i64 (a + 2 * k))).set ⟨g, k * 2 + 1, none⟩ (.int .i64 (a + 2 * k + 1))) hdone)
      clear hdone hrow
      go_wp2
      go_roundw
      case rel =>
        refine ⟨k + 1, by omega, by go_num, (by congr 1; omega), HS.out.1, ?_, ?_⟩
        · exact grown_set (grown_set hgr)
        · intro j hj
          by_cases e : j = k
          · subst e
            refine Lib.hid ⟨?_, ?_⟩
            · rw [World.cell?_setCell_other _ _ _ _ (by first | (simp; done) | (simp; omega))]
              exact World.cell?_setCell_same _ _ _ hv
            · exact World.cell?_setCell_same _ _ _ (by rw [World.cell?_setCell_other _ _ _ _ (by first | (simp; done) | (simp; omega))]; exact hv2)
          · have h0 := (HS.out.2 j (by omega)).out
            refine Lib.hid ⟨?_, ?_⟩ <;> rw [World.cell?_setCell_other _ _ _ _ (by first | (simp; done) | (simp; omega)), World.cell?_setCell_other _ _ _ _ (by first | (simp; done) | (simp; omega))]
            · exact h0.1
            · exact h0.2
      case measure => simp [intOf]; omega
    · obtain rfl : k = n := by omega
      go_wp2
      go_ret
      exact ⟨rfl, ⟨ratMarks_len _ _, fun _ => ⟨g, 0, rfl, Nat.lt_of_lt_of_le hg hgr.size, fun j hj => by rw [Nat.zero_add, ratMarks_getD hj]; exact (hdone j hj).out⟩, ratMarks_rng ha ha' hn, by omega⟩, hgr⟩
theorem Mine.row {lo n k : Nat} {A : Option Addr} {vs : List (Int × Int)} {w : World} (h : Rats w A n vs) (hm : Mine lo w A n) (hn : 0 < n) : ∃ g, A = some ⟨g, 0, none⟩ ∧ lo ≤ g ∧ g < w.heap.size ∧ Row w g (n * 2) := by
  obtain ⟨g, rfl, h1, h2, h3⟩ := hm hn
  refine ⟨g, rfl, h1, h2, ⟨fun j hj => ?_, h3.free⟩⟩
  obtain ⟨b', o', e, hl, hc⟩ := h.cells hn
  obtain ⟨rfl, rfl⟩ : g = b' ∧ 0 = o' := by
    have := Option.some.inj e
    simp only [Addr.mk.injEq] at this
    exact ⟨this.1, this.2.1⟩
  have h0 := hc (j / 2) (by omega)
  rw [Nat.zero_add] at h0
  rcases Nat.mod_two_eq_zero_or_one j with e | e
  · exact ⟨_, by rw [show j = j / 2 * 2 by omega]; exact h0.1⟩
  · exact ⟨_, by rw [show j = j / 2 * 2 + 1 by omega]; exact h0.2⟩
theorem markRatS_gen {lo n c : Nat} {A : Option Addr} {vs : List (Int × Int)} (a : Int) {w : World} (h : Rats w A n vs) (hm : Mine lo w A n) (hlo : lo ≤ w.heap.size) (ha : 0 ≤ a) (ha' : a ≤ 100) (hn : n ≤ 4) :
    Calls Try.prog 37 #[.slice A n c, .int .i64 a] w fun e w' => e = .returned (.int .i64 (a + 2 * n)) ∧ Rats w' A n (ratMarks n a) ∧ (n = 0 → w = w') ∧ Below lo w w' := by
  by_cases h0 : 0 < n
  · obtain ⟨g, rfl, h1, h2, h3⟩ := Mine.row (k := 0) h hm h0
    refine (markRatS_any a h3 h2 ha ha' hn).mono ?_
    rintro e w' ⟨rfl, hR, hg⟩
    exact ⟨rfl, hR, fun e => absurd e (by omega), Below.grown (Below.refl _ _) hg hlo (fun k hk => by obtain rfl := Option.some.inj hk; exact h1)⟩
  · obtain rfl : n = 0 := by omega
    refine (markRatS_none a w).mono ?_
    rintro e w' ⟨rfl, rfl⟩
    exact ⟨by simp, Rats.none0 _ _, fun _ => rfl, Below.refl _ _⟩

theorem markIntS_gen {lo n c : Nat} {A : Option Addr} {xs : List Int} (a : Int) {w : World} (h : Ints w A n xs) (hm : Mine lo w A n) (hlo : lo ≤ w.heap.size) (ha : 0 ≤ a) (ha' : a ≤ 100) (hn : n ≤ 1000000) :
    Calls Try.prog 38 #[.slice A n c, .int .i64 a] w fun e w' => e = .returned (.int .i64 (a + n)) ∧ Ints w' A n (marks n a) ∧ (n = 0 → w = w') ∧ Below lo w w' := by
  by_cases h0 : 0 < n
  · obtain ⟨g, rfl, h1, h2, h3⟩ := hm h0
    refine (markIntS_any a (Row.of h h3) h2 ha (by omega) (by omega)).mono ?_
    rintro e w' ⟨rfl, hR, _, hg⟩
    exact ⟨rfl, hR, fun e => absurd e (by omega), Below.grown (Below.refl _ _) hg hlo (fun k hk => by obtain rfl := Option.some.inj hk; exact h1)⟩
  · obtain rfl : n = 0 := by omega
    refine (markIntS_none a w).mono ?_
    rintro e w' ⟨rfl, rfl⟩
    exact ⟨by simp, ⟨rfl, fun h => absurd h (by omega), fun j => by simp [marks, J64], by omega⟩, fun _ => rfl, Below.refl _ _⟩

theorem heldRatS_any {A : Option Addr} {n c : Nat} (a : Int) {w : World} (h : Rats w A n (ratMarks n a)) (ha : 0 ≤ a) (ha' : a ≤ 100) (hn : n ≤ 4) :
    Calls Try.prog 39 #[.slice A n c, .int .i64 a] w fun e w' => e = .returned (.int .i64 (a + 2 * n)) ∧ w = w' := by
  go_enter Try.func39, Try.ntmps39
  go_wp2
  go_loop [1, 5] (fun x i => ∃ k : Nat, k ≤ n ∧ i = .int .i64 k ∧ x = .int .i64 (a + 2 * k)) (fun _ i => n - (intOf i).toNat)
  case atStart => exact ⟨0, by omega, rfl, by simp⟩
  case round =>
    obtain ⟨k, hk, rfl, rfl⟩ := hrel
    by_cases hlt : k < n
    · obtain ⟨p, o, rfl, hp, hc⟩ := h.cells (by omega)
      have hck := hc k hlt
      rw [ratMarks_getD hlt] at hck
      obtain ⟨hc1, hc2⟩ := hck
      dsimp only at hc1 hc2
      clear hc
      go_wp2
      go_round
      case rel => exact ⟨k + 1, by omega, by go_num, by first | (congr 1; done) | (congr 1; omega)⟩
      case measure => simp [intOf]; omega
    · obtain rfl : k = n := by omega
      go_wp2
      go_ret
      exact ⟨rfl, rfl⟩
end Go.Proofs.Ytccjbipmlpnhkaa

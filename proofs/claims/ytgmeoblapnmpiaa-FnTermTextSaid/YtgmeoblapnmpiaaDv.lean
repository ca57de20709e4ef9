/- Vocabularies are drawn. -/
import Derived.Test.YtgmeoblapnmpiaaDt
namespace Go.Proofs.Ytgmeoblapnmpiaa
set_option maxRecDepth 100000
open Go.RowKit Go.ChangeShapes Go.WideShapes Go.ChangeAt
set_option linter.unusedSimpArgs false
set_option linter.unusedVariables false

theorem heap_old {W : World} {o : Obj} {i : Nat} (h : i < W.heap.size) : (W.alloc o).heap[i]? = W.heap[i]? := ((Below.refl _ _).alloc (Nat.le_refl _) o).block i h
theorem heap_new {W : World} {o : Obj} {i : Nat} (h : i = W.heap.size) : (W.alloc o).heap[i]? = some o := by subst h; exact heap_alloc_new _ _
theorem block_lt {W : World} {i : Nat} {o : Obj} (h : W.heap[i]? = some o) : i < W.heap.size := by
  rcases Nat.lt_or_ge i W.heap.size with h1 | h1
  · exact h1
  · rw [Array.getElem?_eq_none h1] at h; cases h
/-- the arguments' row, or none -/
def ArgR (W : World) (lo : Nat) (B : Option Addr) (m : Nat) (xs : List Int) : Prop :=
  (B = none ∧ m = 0 ∧ xs = []) ∨ ∃ q t, B = some ⟨q, 0, none⟩ ∧ lo ≤ q ∧ xs.length = m ∧ W.heap[q]? = some (.cells (xs.map (Value.int .i64)).toArray t (0, 0))
theorem ArgR.ints {W w' : World} {lo m : Nat} {B : Option Addr} {xs : List Int} (h : ArgR W lo B m xs) (hx : ∀ x ∈ xs, -9 ≤ x ∧ x ≤ 9) (hm : m ≤ 3) (hk : Same lo none W w') : Ints w' B m xs := by
  rcases h with ⟨rfl, rfl, rfl⟩ | ⟨q, t, rfl, hq, hl, hb⟩
  · exact ⟨rfl, fun h => absurd h (by omega), fun j => by simp [J64], by omega⟩
  · have hlt := block_lt hb
    have hb' : w'.heap[q]? = some (.cells (xs.map (Value.int .i64)).toArray t (0, 0)) := (hk.block q hq hlt (by simp)).trans hb
    refine ⟨hl, fun _ => ⟨q, 0, rfl, Nat.lt_of_lt_of_le hlt hk.size, fun j hj => ?_⟩, fun j => ?_, by omega⟩
    · have h1 := World.news_of_block hb' j (.int .i64 (xs.getD j 0)) (by
        rw [List.toList_toArray, List.getElem?_map, List.getD_eq_getElem?_getD, List.getElem?_eq_getElem (show j < xs.length by omega)]; rfl)
      rw [show (⟨q, 0, none⟩ : Addr).add j = ⟨q, 0 + j, none⟩ by unfold Addr.add; split <;> simp_all] at h1
      exact h1
    · unfold J64
      rw [List.getD_eq_getElem?_getD]
      cases hj : xs[j]? with
      | none => simp
      | some x => have := hx x (List.mem_of_getElem? hj); simp; omega
theorem sig_of {W : World} {lo b n : Nat} {zs : List Value} {t : TypeId} (hn : n ≤ 9) (hb : W.heap[b]? = some (.cells zs.toArray t (0, 0))) (hg : lo ≤ b)
    (each : ∀ j, j < n → ∃ (nm : ByteArray) (B : Option Addr) (m c : Nat) (k : Int) (xs : List Int), m ≤ 3 ∧ nm.size ≤ 9 ∧ (∀ x ∈ xs, -9 ≤ x ∧ x ≤ 9) ∧ (zs[j * 3]? = some (.string nm) ∧ zs[j * 3 + 1]? = some (.slice B m c) ∧ zs[j * 3 + 2]? = some (.int .i64 k)) ∧ ArgR W lo B m xs) : SigK W lo (some ⟨b, 0, none⟩) n :=
  ⟨hn, fun _ => ⟨b, 0, rfl, fun j hj => by
    obtain ⟨nm, B, m, c, k, xs, hm, hnm, hx, ⟨h0, h1, h2⟩, hA⟩ := each j hj
    refine ⟨nm, B, m, c, k, xs, hm, hnm, fun w' hk => ?_⟩
    have hlt := block_lt hb
    have hb' := (hk.block b hg hlt (by simp)).trans hb
    have get : ∀ i v, zs[i]? = some v → w'.cell? ⟨b, i, none⟩ = some v := fun i v hv => by
      have h1 := World.news_of_block hb' i v (by rw [List.toList_toArray]; exact hv)
      rw [show (⟨b, 0, none⟩ : Addr).add i = ⟨b, i, none⟩ by unfold Addr.add; split <;> simp_all] at h1
      exact h1
    rw [Nat.zero_add]
    exact ⟨Nat.lt_of_lt_of_le hlt hk.size, get _ _ h0, get _ _ h1, get _ _ h2, hA.ints hx hm hk⟩⟩⟩
theorem sig_none (W : World) (lo : Nat) (A : Option Addr) : SigK W lo A 0 := ⟨by omega, fun h => absurd h (by omega)⟩

/-- A vocabulary was made. -/
def SigBack (w : World) (e : Ending) (w' : World) : Prop :=
  ∃ (A : Option Addr) (n c : Nat), e = .returned (.agg #[.slice A n c]) ∧ SigK w' w.heap.size A n ∧ Below w.heap.size w w'
set_option maxRecDepth 100000 in
set_option maxHeartbeats 4000000 in
theorem l4Base_any (k : Int) (w : World) : Calls Try.prog 72 #[.int .i64 k] w (SigBack w) := by
  by_cases h0 : k = 0
  · subst h0
    go_enter Try.func72, Try.ntmps72
    go_wp2
    refine bodyPost_ret (v := .agg #[.slice (some ⟨w.heap.size + 1 + 1 + 1, 0, none⟩) 5 5]) (by simp only [results, Try.results72]; go_simp) rfl ⟨_, 5, 5, rfl, ?_, by (repeat (first | with_reducible exact Below.refl _ _ | with_reducible assumption | (with_reducible refine below_drewN ?_ _) | (with_reducible refine Below.drew ?_) | (with_reducible refine Below.setCell ?_ (by first | omega | (simp; done) | (simp; omega)) _) | (with_reducible refine Below.alloc ?_ (by first | omega | (simp; done) | (simp; omega)) _) | refine Below.trans ?_ (Below.mono (by with_reducible assumption) (by first | omega | (simp; done) | (simp; omega)))))⟩
    refine sig_of (by omega) (heap_new (by simp)) (by omega) (fun j hj => ?_)
    match j, hj with
    | 0, _ => exact ⟨⟨#[97]⟩, none, 0, 0, 0, [], by omega, by decide, by simp, ⟨rfl, rfl, rfl⟩, .inl ⟨rfl, rfl, rfl⟩⟩
    | 1, _ => exact ⟨⟨#[98]⟩, none, 0, 0, 0, [], by omega, by decide, by simp, ⟨rfl, rfl, rfl⟩, .inl ⟨rfl, rfl, rfl⟩⟩
    | 2, _ => exact ⟨⟨#[99]⟩, none, 0, 0, 0, [], by omega, by decide, by simp, ⟨rfl, rfl, rfl⟩, .inl ⟨rfl, rfl, rfl⟩⟩
    | 3, _ => exact ⟨⟨#[102]⟩, some ⟨w.heap.size + 1, 0, none⟩, 1, 1, 0, [0], by omega, by decide, by simp, ⟨rfl, rfl, rfl⟩, .inr ⟨_, _, rfl, by omega, rfl, (by rw [heap_old (by simp), heap_old (by simp), heap_new (by simp)]; rfl)⟩⟩
    | 4, _ => exact ⟨⟨#[103]⟩, some ⟨w.heap.size + 1 + 1, 0, none⟩, 2, 2, 0, [0, 0], by omega, by decide, by simp, ⟨rfl, rfl, rfl⟩, .inr ⟨_, _, rfl, by omega, rfl, (by rw [heap_old (by simp), heap_new (by simp)]; rfl)⟩⟩
    | j + 5, h => omega
  have g0 : (k == 0) = false := by simpa using h0
  by_cases h1 : k = 1
  · subst h1
    go_enter Try.func72, Try.ntmps72
    go_wp2
    refine bodyPost_ret (v := .agg #[.slice (some ⟨w.heap.size + 1 + 1, 0, none⟩) 5 5]) (by simp only [results, Try.results72]; go_simp) rfl ⟨_, 5, 5, rfl, ?_, by (repeat (first | with_reducible exact Below.refl _ _ | with_reducible assumption | (with_reducible refine below_drewN ?_ _) | (with_reducible refine Below.drew ?_) | (with_reducible refine Below.setCell ?_ (by first | omega | (simp; done) | (simp; omega)) _) | (with_reducible refine Below.alloc ?_ (by first | omega | (simp; done) | (simp; omega)) _) | refine Below.trans ?_ (Below.mono (by with_reducible assumption) (by first | omega | (simp; done) | (simp; omega)))))⟩
    refine sig_of (by omega) (heap_new (by simp)) (by omega) (fun j hj => ?_)
    match j, hj with
    | 0, _ => exact ⟨⟨#[97]⟩, none, 0, 0, 0, [], by omega, by decide, by simp, ⟨rfl, rfl, rfl⟩, .inl ⟨rfl, rfl, rfl⟩⟩
    | 1, _ => exact ⟨⟨#[98]⟩, none, 0, 0, 0, [], by omega, by decide, by simp, ⟨rfl, rfl, rfl⟩, .inl ⟨rfl, rfl, rfl⟩⟩
    | 2, _ => exact ⟨⟨#[104]⟩, some ⟨w.heap.size + 1, 0, none⟩, 1, 1, 1, [0], by omega, by decide, by simp, ⟨rfl, rfl, rfl⟩, .inr ⟨_, _, rfl, by omega, rfl, (by rw [heap_old (by simp), heap_new (by simp)]; rfl)⟩⟩
    | 3, _ => exact ⟨⟨#[120]⟩, none, 0, 0, 1, [], by omega, by decide, by simp, ⟨rfl, rfl, rfl⟩, .inl ⟨rfl, rfl, rfl⟩⟩
    | 4, _ => exact ⟨⟨#[121]⟩, none, 0, 0, 1, [], by omega, by decide, by simp, ⟨rfl, rfl, rfl⟩, .inl ⟨rfl, rfl, rfl⟩⟩
    | j + 5, h => omega
  have g1 : (k == 1) = false := by simpa using h1
  by_cases h2 : k = 2
  · subst h2
    go_enter Try.func72, Try.ntmps72
    go_wp2
    refine bodyPost_ret (v := .agg #[.slice (some ⟨w.heap.size + 1 + 1, 0, none⟩) 4 4]) (by simp only [results, Try.results72]; go_simp) rfl ⟨_, 4, 4, rfl, ?_, by (repeat (first | with_reducible exact Below.refl _ _ | with_reducible assumption | (with_reducible refine below_drewN ?_ _) | (with_reducible refine Below.drew ?_) | (with_reducible refine Below.setCell ?_ (by first | omega | (simp; done) | (simp; omega)) _) | (with_reducible refine Below.alloc ?_ (by first | omega | (simp; done) | (simp; omega)) _) | refine Below.trans ?_ (Below.mono (by with_reducible assumption) (by first | omega | (simp; done) | (simp; omega)))))⟩
    refine sig_of (by omega) (heap_new (by simp)) (by omega) (fun j hj => ?_)
    match j, hj with
    | 0, _ => exact ⟨⟨#[107]⟩, some ⟨w.heap.size + 1, 0, none⟩, 1, 1, 1, [1], by omega, by decide, by simp, ⟨rfl, rfl, rfl⟩, .inr ⟨_, _, rfl, by omega, rfl, (by rw [heap_old (by simp), heap_new (by simp)]; rfl)⟩⟩
    | 1, _ => exact ⟨⟨#[120]⟩, none, 0, 0, 1, [], by omega, by decide, by simp, ⟨rfl, rfl, rfl⟩, .inl ⟨rfl, rfl, rfl⟩⟩
    | 2, _ => exact ⟨⟨#[121]⟩, none, 0, 0, 1, [], by omega, by decide, by simp, ⟨rfl, rfl, rfl⟩, .inl ⟨rfl, rfl, rfl⟩⟩
    | 3, _ => exact ⟨⟨#[122]⟩, none, 0, 0, 1, [], by omega, by decide, by simp, ⟨rfl, rfl, rfl⟩, .inl ⟨rfl, rfl, rfl⟩⟩
    | j + 4, h => omega
  have g2 : (k == 2) = false := by simpa using h2
  by_cases h3 : k = 3
  · subst h3
    go_enter Try.func72, Try.ntmps72
    go_wp2
    refine bodyPost_ret (v := .agg #[.slice (some ⟨w.heap.size + 1 + 1 + 1, 0, none⟩) 5 5]) (by simp only [results, Try.results72]; go_simp) rfl ⟨_, 5, 5, rfl, ?_, by (repeat (first | with_reducible exact Below.refl _ _ | with_reducible assumption | (with_reducible refine below_drewN ?_ _) | (with_reducible refine Below.drew ?_) | (with_reducible refine Below.setCell ?_ (by first | omega | (simp; done) | (simp; omega)) _) | (with_reducible refine Below.alloc ?_ (by first | omega | (simp; done) | (simp; omega)) _) | refine Below.trans ?_ (Below.mono (by with_reducible assumption) (by first | omega | (simp; done) | (simp; omega)))))⟩
    refine sig_of (by omega) (heap_new (by simp)) (by omega) (fun j hj => ?_)
    match j, hj with
    | 0, _ => exact ⟨⟨#[97]⟩, none, 0, 0, 0, [], by omega, by decide, by simp, ⟨rfl, rfl, rfl⟩, .inl ⟨rfl, rfl, rfl⟩⟩
    | 1, _ => exact ⟨⟨#[117]⟩, some ⟨w.heap.size + 1, 0, none⟩, 1, 1, 0, [1], by omega, by decide, by simp, ⟨rfl, rfl, rfl⟩, .inr ⟨_, _, rfl, by omega, rfl, (by rw [heap_old (by simp), heap_old (by simp), heap_new (by simp)]; rfl)⟩⟩
    | 2, _ => exact ⟨⟨#[118]⟩, some ⟨w.heap.size + 1 + 1, 0, none⟩, 2, 2, 1, [1, 0], by omega, by decide, by simp, ⟨rfl, rfl, rfl⟩, .inr ⟨_, _, rfl, by omega, rfl, (by rw [heap_old (by simp), heap_new (by simp)]; rfl)⟩⟩
    | 3, _ => exact ⟨⟨#[120]⟩, none, 0, 0, 1, [], by omega, by decide, by simp, ⟨rfl, rfl, rfl⟩, .inl ⟨rfl, rfl, rfl⟩⟩
    | 4, _ => exact ⟨⟨#[121]⟩, none, 0, 0, 1, [], by omega, by decide, by simp, ⟨rfl, rfl, rfl⟩, .inl ⟨rfl, rfl, rfl⟩⟩
    | j + 5, h => omega
  have g3 : (k == 3) = false := by simpa using h3
  go_enter Try.func72, Try.ntmps72
  go_wp2
  refine bodyPost_ret (v := .agg #[.slice (some ⟨w.heap.size + 1, 0, none⟩) 0 0]) (by simp only [results, Try.results72]; go_simp) rfl ⟨_, 0, 0, rfl, ?_, by (repeat (first | with_reducible exact Below.refl _ _ | with_reducible assumption | (with_reducible refine below_drewN ?_ _) | (with_reducible refine Below.drew ?_) | (with_reducible refine Below.setCell ?_ (by first | omega | (simp; done) | (simp; omega)) _) | (with_reducible refine Below.alloc ?_ (by first | omega | (simp; done) | (simp; omega)) _) | refine Below.trans ?_ (Below.mono (by with_reducible assumption) (by first | omega | (simp; done) | (simp; omega)))))⟩
  exact sig_none _ _ _

set_option maxRecDepth 100000 in
set_option maxHeartbeats 4000000 in
theorem l4Sig_any {g : Nat} {A : Option Addr} {cap : Nat} {bs : List UInt8} {p : Nat} {w : World} (h : Rd w g A cap bs p) (hp : p ≤ 600000) :
    Calls Try.prog 46 #[.pointer (some ⟨g, 0, none⟩)] w fun e w' => ∃ (B : Option Addr) (n c : Nat), e = .returned (.agg #[.slice B n c]) ∧ SigK w' w.heap.size B n ∧ Moved g A cap bs p 1 w w' := by
  have hg := h.lt
  go_enter Try.func46, Try.ntmps46
  go_wp2_with fail
  refine (num_any (g := g) (A := A) (cap := cap) (bs := bs) (p := p) [0, 0, 1, 1, 2, 3, 1, 4] (w.heap.size + 1) 0 8 8 ((h.alloc _).alloc _) (by omega) rfl (by omega) (by omega) (by omega) (fun j hj => ?_)).mono ?_
  · have hx := alloc_list (w.alloc (.cells #[.slice none 0 0] 36)) [0, 0, 1, 1, 2, 3, 1, 4] 3 j hj
    rw [World.size_alloc] at hx
    exact hx
  rintro e w1 ⟨r, rfl, hr⟩
  have hs1 := hr.only.size
  simp at hs1
  have hR1 := hr.rd
  have hO1 : Only g w w1 := (Only.of_below (((Below.refl _ _).alloc (Nat.le_refl _) _).alloc (by simp) _)).trans hr.only
  obtain ⟨kc_, fc_, lc_⟩ := keep_only (a := ⟨w.heap.size, 0, none⟩) (v := .slice none 0 0) hr.only (by show w.heap.size ≠ g; omega) (by go_simp) (by go_simp)
  clear hr
  go_wp2_with fail
  refine (l4Base_any r _).mono ?_
  rintro e w2 ⟨B, n, c, rfl, hS, hb1⟩
  have hs2 := hb1.size
  have hR2 := hR1.grown hb1
  have hO2 := hO1.below hb1
  obtain ⟨z0, f0, l0⟩ := keep_later (a := ⟨w.heap.size, 0, none⟩) (v := .slice none 0 0) hb1 kc_ fc_
  clear hb1
  go_wp2
  refine bodyPost_ret (v := .agg #[.slice B n c]) (by simp only [results, Try.results46]; go_simp) rfl ⟨B, n, c, rfl, (hS.step (Same.set (by show w.heap.size < w1.heap.size; omega) _)).weak (by omega), ⟨⟨p + 1, by omega, ?_⟩, ?_⟩⟩
  · (repeat (first | with_reducible exact hR2 | refine Rd.far ?_ (by first | omega | (simp; done) | (simp; omega)) _ | refine Rd.alloc ?_ _ | refine Rd.drewN ?_ _ | refine Rd.drew ?_))
  · exact Only.out (g := g) hO2 (Nat.le_refl _) _
end Go.Proofs.Ytgmeoblapnmpiaa

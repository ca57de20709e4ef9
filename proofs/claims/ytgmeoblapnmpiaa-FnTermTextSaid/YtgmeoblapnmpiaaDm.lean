/- A vocabulary and a term are drawn; two vocabularies; a name. -/
import Derived.Test.YtgmeoblapnmpiaaDk
namespace Go.Proofs.Ytgmeoblapnmpiaa
set_option maxRecDepth 100000
open Go.RowKit Go.ChangeShapes Go.WideShapes Go.ChangeAt
set_option linter.unusedSimpArgs false
set_option linter.unusedVariables false

theorem SigI.wide {w : World} {lo : Nat} {A : Option Addr} {n : Nat} {ls : List SymV} {N M N' M' : Nat} (h : SigI w lo A n ls N M) (h1 : N ≤ N') (h2 : M ≤ M') : SigI w lo A n ls N' M' := ⟨Nat.le_trans h.few h1, fun j hj => ⟨Nat.le_trans (h.args j hj).1 h2, (h.args j hj).2⟩, h.stay⟩
theorem KidX.lower {w : World} {lo lo' d n : Nat} {A : Option Addr} {ks : List TermV} (h : KidX w lo none d A n ks) (hl : lo' ≤ lo) : KidX w lo' none d A n ks := fun w' hs => h w' ⟨hs.size, fun i h0 h1 h2 => hs.block i (by omega) h1 h2⟩

/-- A vocabulary and a term were drawn. -/
def SortBack (w : World) (e : Ending) (w' : World) : Prop :=
  ∃ (B : Option Addr) (n c0 : Nat) (s : ByteArray) (Z : Option Addr) (m c : Nat) (ts : List TermV) (d : Nat), e = .returned (.tuple #[.agg #[.slice B n c0], .agg #[.string s, .slice Z m c]]) ∧ (KidX w' w.heap.size none d Z m ts ∧ s.size ≤ 9) ∧ Below w.heap.size w w'
set_option maxRecDepth 100000 in
set_option maxHeartbeats 8000000 in
theorem DrawTermSort_any {A : Option Addr} {cap : Nat} {bs : List UInt8} {w : World} (h : Code8 w A cap bs) (hl : bs.length ≤ 1048576) :
    Calls Try.prog 70 #[.slice A bs.length cap] w (SortBack w) := by
  have hc : Code8 ((w.alloc (.cells #[.slice none 0 0] 36)).alloc (.cells #[.string ⟨#[]⟩, .slice none 0 0] 30)) A cap bs := h.later (by (repeat (first | with_reducible exact Below.refl _ _ | with_reducible assumption | (with_reducible refine below_drewN ?_ _) | (with_reducible refine Below.drew ?_) | (with_reducible refine Below.setCell ?_ (by first | omega | (simp; done) | (simp; omega)) _) | (with_reducible refine Below.alloc ?_ (by first | omega | (simp; done) | (simp; omega)) _) | refine Below.trans ?_ (Below.mono (by with_reducible assumption) (by first | omega | (simp; done) | (simp; omega))))))
  go_enter Try.func70, Try.ntmps70
  go_wp2_with fail
  refine (l16Open_any (hc).bytes hl (hc).cap).mono ?_
  rintro e w1 ⟨bs', rfl, hR1, hb1⟩
  have hs1 := hb1.size
  simp only [World.size_alloc] at hs1
  have hX1 : w1.cell? ⟨w.heap.size, 0, none⟩ = some (.slice none 0 0) ∧ w1.frozen? ⟨w.heap.size, 0, none⟩ = false := by
    obtain ⟨k1, k2, _⟩ := keep_later (a := ⟨w.heap.size, 0, none⟩) (v := .slice none 0 0) hb1 (by go_simp) (by go_simp)
    exact ⟨k1, k2⟩
  have hY1 : T2c w1 (w.heap.size + 1) ⟨#[]⟩ (.slice none 0 0) := by
    have h0 := (T2c.new (w.alloc (.cells #[.slice none 0 0] 36)) ⟨#[]⟩ (.slice none 0 0) 30).later hb1
    rw [World.size_alloc] at h0
    exact h0
  have hB1 : Below w.heap.size w w1 := Below.trans (by (repeat (first | with_reducible exact Below.refl _ _ | with_reducible assumption | (with_reducible refine below_drewN ?_ _) | (with_reducible refine Below.drew ?_) | (with_reducible refine Below.setCell ?_ (by first | omega | (simp; done) | (simp; omega)) _) | (with_reducible refine Below.alloc ?_ (by first | omega | (simp; done) | (simp; omega)) _) | refine Below.trans ?_ (Below.mono (by with_reducible assumption) (by first | omega | (simp; done) | (simp; omega)))))) (hb1.mono (by first | omega | (simp; done) | (simp; omega)))
  clear hb1
  simp only [World.size_alloc] at hR1 ⊢
  have hgl := hR1.lt
  obtain ⟨g, hg⟩ : ∃ g, w.heap.size + 1 + 1 = g := ⟨_, rfl⟩
  rw [hg] at hR1 hgl ⊢
  have hg1 : w.heap.size + 1 < g := by omega
  clear hg
  go_wp2_with fail
  refine (l4Sig_any hR1 (by omega)).mono ?_
  rintro e w2 ⟨S, n, c0, rfl, hSg, ⟨⟨p2, hp2, hR2⟩, hO2⟩⟩
  have hz2 := hO2.size
  have hO2' : Only g w1 (w2.alloc (.cells #[.slice S n c0] 36)) := Only.below hO2 ((Below.refl _ _).alloc (Nat.le_refl _) _)
  go_wp2_with fail
  refine (l4Some_any (lo := w1.heap.size) (hR2.alloc _) (by omega) (hSg.step (Same.below ((Below.refl _ _).alloc (Nat.le_refl _) _))) hgl (by simp; omega)).mono ?_
  rintro e w3 ⟨s, Z, m, c, ts, d, rfl, ⟨hK, hnar, hsz⟩, ⟨⟨p3, hp3, hR3⟩, hO3⟩⟩
  have hz3 := hO3.size
  (try simp at hz3)
  have hzl : w2.heap.size < w3.heap.size := by omega
  have hO3' : Only g w1 w3 := hO2'.trans hO3
  have hsig3 : w3.cell? ⟨w2.heap.size, 0, none⟩ = some (.slice S n c0) := onlyCell hO3 (by dsimp only; omega) (by go_simp)
  have hsigf3 : w3.frozen? ⟨w2.heap.size, 0, none⟩ = false := onlyF hO3 (by dsimp only; omega) (by simp) (by go_simp)
  have hK' : KidX (w3.alloc (.cells #[.string s, .slice Z m c] 30)) (w2.heap.size + 1) none d Z m ts := (fun w' hs => hK w' ⟨Nat.le_trans (by simp) hs.size, fun i h0 h1 h2 => (hs.block i (by (try simp at h0); omega) (by simp; omega) h2).trans (heap_old h1)⟩)
  have hT3 := T2c.new w3 s (.slice Z m c) 30
  clear hO2 hO2'
  go_wp2_with fail
  refine (pick_any (p := p3) 12 (hR3.alloc _) (by omega) (by omega) (by omega)).mono ?_
  rintro e w4 ⟨r, rfl, hr⟩
  have hR4 := hr.rd
  have hz4 := hr.only.size
  (try simp at hz4)
  have hO4 : Only g w1 w4 := (hO3'.below ((Below.refl _ _).alloc (Nat.le_refl _) _)).trans hr.only
  have hK4 := hK'.step (Same.only hr.only (by omega))
  have hT4 := hT3.only hr.only (by omega)
  have hX4 : w4.cell? ⟨w.heap.size, 0, none⟩ = some (.slice none 0 0) := onlyCell hO4 (by dsimp only; omega) hX1.1
  have hXf4 : w4.frozen? ⟨w.heap.size, 0, none⟩ = false := onlyF hO4 (by dsimp only; omega) (World.block_lt_of_cell? _ _ hX1.1) hX1.2
  have hY4 := hY1.only hO4 (by omega)
  have hsig4 : w4.cell? ⟨w2.heap.size, 0, none⟩ = some (.slice S n c0) := onlyCell hr.only (by dsimp only; omega) (by go_simp)
  have hsigf4 : w4.frozen? ⟨w2.heap.size, 0, none⟩ = false := onlyF hr.only (by dsimp only; omega) (by simp; omega) (by go_simp)
  have hSame : ∀ i, w1.heap.size ≤ i → i < w2.heap.size → w4.heap[i]? = w2.heap[i]? := fun i h0 h1 => by
    have e1 := hO3.block i (by simp; omega) (fun e => by injection e with e; omega)
    have e2 := hr.only.block i (by simp; omega) (fun e => by injection e with e; omega)
    rw [e2, heap_old (by omega), e1, heap_old h1]
  have hBw : Below w.heap.size w w4 := hB1.trans (hO4.base (by omega) (by omega))
  have hzw4 : w.heap.size + 1 < w4.heap.size := by omega
  clear hr hO3 hO3' hK hK' hT3 hX1 hY1
  obtain ⟨y0, y1, y2, y3⟩ := hY4
  obtain ⟨z0, z1, z2, z3⟩ := hT4
  have hzw : w.heap.size < w3.heap.size := by omega
  have hzv : w.heap.size < w2.heap.size := by omega
  by_cases q0 : r = 0
  · subst q0
    obtain ⟨ls, hSI⟩ := hSg.i
    have hS4 : SigI w4 w1.heap.size S n ls 9 3 := hSI.step ⟨by omega, fun i h0 h1 _ => hSame i h0 h1⟩
    clear hSI hSg hSame
    go_wp2_with fail
    refine (l4Bent_any hR4 (by omega) hS4 (by omega) (by omega) hgl (by omega)).mono ?_
    rintro e w5 ⟨S5, n5, c5, ls5, rfl, hS5, ⟨⟨p5, hp5, hR5⟩, hO5⟩⟩
    have hz5 := hO5.size
    go_wp2_with fail
    refine (l4Bent_any hR5 (by omega) hS5 (by omega) (by omega) (by omega) (by omega)).mono ?_
    rintro e w6 ⟨S6, n6, c6, ls6, rfl, hS6, ⟨⟨p6, hp6, hR6⟩, hO6⟩⟩
    have hz6 := hO6.size
    have hO46 : Only g w4 w6 := hO5.trans hO6
    have hK6 := hK4.step (Same.only hO46 (by omega))
    have hX6 : w6.cell? ⟨w.heap.size, 0, none⟩ = some (.slice none 0 0) := onlyCell hO46 (by dsimp only; omega) hX4
    have hXf6 : w6.frozen? ⟨w.heap.size, 0, none⟩ = false := onlyF hO46 (by dsimp only; omega) (by dsimp only; omega) hXf4
    have hsig6 : w6.cell? ⟨w2.heap.size, 0, none⟩ = some (.slice S n c0) := onlyCell hO46 (by dsimp only; omega) hsig4
    have hsigf6 : w6.frozen? ⟨w2.heap.size, 0, none⟩ = false := onlyF hO46 (by dsimp only; omega) (by dsimp only; omega) hsigf4
    obtain ⟨a0, a1, a2, a3⟩ := (⟨y0, y1, y2, y3⟩ : T2c w4 (w.heap.size + 1) ⟨#[]⟩ (.slice none 0 0)).only hO46 (by omega)
    obtain ⟨b0, b1, b2, b3⟩ := (⟨z0, z1, z2, z3⟩ : T2c w4 w3.heap.size s (.slice Z m c)).only hO46 (by omega)
    have hBw6 : Below w.heap.size w w6 := hBw.trans (hO46.base (by omega) (by omega))
    have hzw6 : w.heap.size + 1 < w6.heap.size := by omega
    clear y0 y1 y2 y3 z0 z1 z2 z3 hX4 hXf4 hsig4 hsigf4
    have hK7 := hK6.step (Same.set (w := w6) (p := ⟨w2.heap.size, 0, none⟩) (by dsimp only; omega) (.slice S6 n6 c6))
    have hC3 : World.cell? (w6.setCell ⟨w2.heap.size, 0, none⟩ (.slice S6 n6 c6)) ⟨w2.heap.size, 0, none⟩ = some (.slice S6 n6 c6) ∧ World.cell? (w6.setCell ⟨w2.heap.size, 0, none⟩ (.slice S6 n6 c6)) ⟨w3.heap.size, 0, none⟩ = some (.string s) ∧ World.cell? (w6.setCell ⟨w2.heap.size, 0, none⟩ (.slice S6 n6 c6)) ⟨w3.heap.size, 1, none⟩ = some (.slice Z m c) := ⟨by go_simp, by go_simp, by go_simp⟩
    go_wp2_with fail
    refine wp_region_T2 4 (fun w' => w'.cell? ⟨w2.heap.size, 0, none⟩ = some (.slice S6 n6 c6) ∧ w'.cell? ⟨w3.heap.size, 0, none⟩ = some (.string s) ∧ w'.cell? ⟨w3.heap.size, 1, none⟩ = some (.slice Z m c)) (by kernel_rfl) (by kernel_rfl) ?_ (fun hHeld => ?_)
    · exact hC3
    (refine wpAnyT_take (i := 0) (v := ?_) (by simp only [List.getElem?_toArray, List.getElem?_cons_succ, List.getElem?_cons_zero]; rfl) (by kernel_rfl) (by kernel_rfl) (by kernel_rfl) (by kernel_rfl) (by intro _ _ _ h; exact h) (Or.inl ⟨by rfl, ?_⟩) (by assumption) ?_; rotate_left; (focus (intro wS hSw; (try dsimp only at hSw); go_simp; (try with_reducible rfl))); (try simp only [Act.put, List.setIfInBounds_toArray, List.set_cons_zero, List.set_cons_succ]))
    (refine wpAnyT_take (i := 1) (v := ?_) (by simp only [List.getElem?_toArray, List.getElem?_cons_succ, List.getElem?_cons_zero]; rfl) (by kernel_rfl) (by kernel_rfl) (by kernel_rfl) (by kernel_rfl) (by intro _ _ _ h; exact h) (Or.inl ⟨by rfl, ?_⟩) (by assumption) ?_; rotate_left; (focus (intro wS hSw; (try dsimp only at hSw); go_simp; (try with_reducible rfl))); (try simp only [Act.put, List.setIfInBounds_toArray, List.set_cons_zero, List.set_cons_succ]))
    clear hHeld
    refine wpAnyT_ready (rs := [2]) (by kernel_rfl) (by kernel_rfl) ?_
    refine AllReadyT.cons (by simp only [List.getElem?_toArray, List.getElem?_cons_succ, List.getElem?_cons_zero]; rfl) (fun K hK => ?_) AllReadyT.nil
    go_simp
    refine hK.out _ _ ?_ (fun hHeld => ?_)
    · (try dsimp only)
      exact ⟨by go_simp, by go_simp, by go_simp⟩
    clear hK K
    (try simp only [Act.put, List.setIfInBounds_toArray, List.set_cons_zero, List.set_cons_succ])
    clear hHeld
    refine wpAnyT_ready (rs := [3]) (by kernel_rfl) (by kernel_rfl) ?_
    refine AllReadyT.cons (by simp only [List.getElem?_toArray, List.getElem?_cons_succ, List.getElem?_cons_zero]; rfl) (fun K hK => ?_) AllReadyT.nil
    go_simp
    refine hK.out _ _ ?_ (fun hHeld => ?_)
    · (try dsimp only)
      exact ⟨by go_simp, by go_simp, by go_simp⟩
    clear hK K
    (try simp only [Act.put, List.setIfInBounds_toArray, List.set_cons_zero, List.set_cons_succ])
    clear hHeld
    refine wpAnyT_done (by kernel_rfl) ?_
    simp only [List.drop_succ_cons, List.drop_zero]
    go_wp2
    exact bodyPost_ret (v := .tuple #[.agg #[.slice S6 n6 c6], .agg #[.string s, .slice Z m c]]) (by simp only [results, Try.results70]; go_simp) rfl ⟨_, _, _, s, Z, m, c, ts, d, rfl, ⟨((((hK7.step (Same.set (p := _) (by dsimp only; omega) _)).step (Same.set (p := _) (by dsimp only; omega) _)).step (Same.set (p := _) (by dsimp only; omega) _)).step (Same.below (Below.drew (Below.refl _ _)))).lower (by omega), hsz⟩, by (repeat (first | with_reducible exact Below.refl _ _ | with_reducible assumption | (with_reducible refine below_drewN ?_ _) | (with_reducible refine Below.drew ?_) | (with_reducible refine Below.setCell ?_ (by first | omega | (simp; done) | (simp; omega)) _) | (with_reducible refine Below.alloc ?_ (by first | omega | (simp; done) | (simp; omega)) _) | refine Below.trans ?_ (Below.mono (by with_reducible assumption) (by first | omega | (simp; done) | (simp; omega)))))⟩
  · have q0' : (r == 0) = false := by simpa using q0
    have hC3 : World.cell? (w4) ⟨w2.heap.size, 0, none⟩ = some (.slice S n c0) ∧ World.cell? (w4) ⟨w3.heap.size, 0, none⟩ = some (.string s) ∧ World.cell? (w4) ⟨w3.heap.size, 1, none⟩ = some (.slice Z m c) := ⟨by go_simp, by go_simp, by go_simp⟩
    go_wp2_with fail
    refine wp_region_T2 4 (fun w' => w'.cell? ⟨w2.heap.size, 0, none⟩ = some (.slice S n c0) ∧ w'.cell? ⟨w3.heap.size, 0, none⟩ = some (.string s) ∧ w'.cell? ⟨w3.heap.size, 1, none⟩ = some (.slice Z m c)) (by kernel_rfl) (by kernel_rfl) ?_ (fun hHeld => ?_)
    · exact hC3
    (refine wpAnyT_take (i := 0) (v := ?_) (by simp only [List.getElem?_toArray, List.getElem?_cons_succ, List.getElem?_cons_zero]; rfl) (by kernel_rfl) (by kernel_rfl) (by kernel_rfl) (by kernel_rfl) (by intro _ _ _ h; exact h) (Or.inl ⟨by rfl, ?_⟩) (by assumption) ?_; rotate_left; (focus (intro wS hSw; (try dsimp only at hSw); go_simp; (try with_reducible rfl))); (try simp only [Act.put, List.setIfInBounds_toArray, List.set_cons_zero, List.set_cons_succ]))
    (refine wpAnyT_take (i := 1) (v := ?_) (by simp only [List.getElem?_toArray, List.getElem?_cons_succ, List.getElem?_cons_zero]; rfl) (by kernel_rfl) (by kernel_rfl) (by kernel_rfl) (by kernel_rfl) (by intro _ _ _ h; exact h) (Or.inl ⟨by rfl, ?_⟩) (by assumption) ?_; rotate_left; (focus (intro wS hSw; (try dsimp only at hSw); go_simp; (try with_reducible rfl))); (try simp only [Act.put, List.setIfInBounds_toArray, List.set_cons_zero, List.set_cons_succ]))
    clear hHeld
    refine wpAnyT_ready (rs := [2]) (by kernel_rfl) (by kernel_rfl) ?_
    refine AllReadyT.cons (by simp only [List.getElem?_toArray, List.getElem?_cons_succ, List.getElem?_cons_zero]; rfl) (fun K hK => ?_) AllReadyT.nil
    go_simp
    refine hK.out _ _ ?_ (fun hHeld => ?_)
    · (try dsimp only)
      exact ⟨by go_simp, by go_simp, by go_simp⟩
    clear hK K
    (try simp only [Act.put, List.setIfInBounds_toArray, List.set_cons_zero, List.set_cons_succ])
    clear hHeld
    refine wpAnyT_ready (rs := [3]) (by kernel_rfl) (by kernel_rfl) ?_
    refine AllReadyT.cons (by simp only [List.getElem?_toArray, List.getElem?_cons_succ, List.getElem?_cons_zero]; rfl) (fun K hK => ?_) AllReadyT.nil
    go_simp
    refine hK.out _ _ ?_ (fun hHeld => ?_)
    · (try dsimp only)
      exact ⟨by go_simp, by go_simp, by go_simp⟩
    clear hK K
    (try simp only [Act.put, List.setIfInBounds_toArray, List.set_cons_zero, List.set_cons_succ])
    clear hHeld
    refine wpAnyT_done (by kernel_rfl) ?_
    simp only [List.drop_succ_cons, List.drop_zero]
    go_wp2
    exact bodyPost_ret (v := .tuple #[.agg #[.slice S n c0], .agg #[.string s, .slice Z m c]]) (by simp only [results, Try.results70]; go_simp) rfl ⟨_, _, _, s, Z, m, c, ts, d, rfl, ⟨((((hK4.step (Same.set (p := _) (by dsimp only; omega) _)).step (Same.set (p := _) (by dsimp only; omega) _)).step (Same.set (p := _) (by dsimp only; omega) _)).step (Same.below (Below.drew (Below.refl _ _)))).lower (by omega), hsz⟩, by (repeat (first | with_reducible exact Below.refl _ _ | with_reducible assumption | (with_reducible refine below_drewN ?_ _) | (with_reducible refine Below.drew ?_) | (with_reducible refine Below.setCell ?_ (by first | omega | (simp; done) | (simp; omega)) _) | (with_reducible refine Below.alloc ?_ (by first | omega | (simp; done) | (simp; omega)) _) | refine Below.trans ?_ (Below.mono (by with_reducible assumption) (by first | omega | (simp; done) | (simp; omega)))))⟩

set_option maxRecDepth 100000 in
set_option maxHeartbeats 4000000 in
theorem DrawTermText_any {A : Option Addr} {cap : Nat} {bs : List UInt8} {w : World} (h : Code8 w A cap bs) (hl : bs.length ≤ 1048576) :
    Calls Try.prog 38 #[.slice A bs.length cap] w fun e w' => ∃ (s : ByteArray) (Z : Option Addr) (m c : Nat) (ts : List TermV) (d : Nat), e = .returned (.agg #[.string s, .slice Z m c]) ∧ (Kids w' 0 d Z m ts ∧ s.size ≤ 9) ∧ Below w.heap.size w w' := by
  go_enter Try.func38, Try.ntmps38
  go_wp2_with fail
  refine (DrawTermSort_any (h.later (by (repeat (first | with_reducible exact Below.refl _ _ | with_reducible assumption | (with_reducible refine below_drewN ?_ _) | (with_reducible refine Below.drew ?_) | (with_reducible refine Below.setCell ?_ (by first | omega | (simp; done) | (simp; omega)) _) | (with_reducible refine Below.alloc ?_ (by first | omega | (simp; done) | (simp; omega)) _) | refine Below.trans ?_ (Below.mono (by with_reducible assumption) (by first | omega | (simp; done) | (simp; omega))))))) hl).mono ?_
  rintro e w1 ⟨B, n, c0, s, Z, m, c, ts, d, rfl, ⟨hK, hsz⟩, hb1⟩
  obtain ⟨x0, x1, x2, x3⟩ := (T2c.new w ⟨#[]⟩ (.slice none 0 0) 30).later hb1
  have hz1 := hb1.size
  (try simp at hz1)
  have hB1 : Below w.heap.size w w1 := Below.trans (by (repeat (first | with_reducible exact Below.refl _ _ | with_reducible assumption | (with_reducible refine below_drewN ?_ _) | (with_reducible refine Below.drew ?_) | (with_reducible refine Below.setCell ?_ (by first | omega | (simp; done) | (simp; omega)) _) | (with_reducible refine Below.alloc ?_ (by first | omega | (simp; done) | (simp; omega)) _) | refine Below.trans ?_ (Below.mono (by with_reducible assumption) (by first | omega | (simp; done) | (simp; omega)))))) (hb1.mono (by first | omega | (simp; done) | (simp; omega)))
  have hK2 : KidX w1 (w.heap.size + 1) none d Z m ts := by simpa using hK
  have hKX := Lib.hid hK2
  have hww : w.heap.size < w1.heap.size := by omega
  clear hb1 hK hK2
  go_wp2
  refine bodyPost_ret (v := .agg #[.string s, .slice Z m c]) (by simp only [results, Try.results38]; go_simp) rfl ⟨s, Z, m, c, ts, d, rfl, ⟨?_, hsz⟩, by (repeat (first | with_reducible exact Below.refl _ _ | with_reducible assumption | (with_reducible refine below_drewN ?_ _) | (with_reducible refine Below.drew ?_) | (with_reducible refine Below.setCell ?_ (by first | omega | (simp; done) | (simp; omega)) _) | (with_reducible refine Below.alloc ?_ (by first | omega | (simp; done) | (simp; omega)) _) | refine Below.trans ?_ (Below.mono (by with_reducible assumption) (by first | omega | (simp; done) | (simp; omega)))))⟩
  · refine hKX.out _ ?_
    (repeat (first | exact Same.refl _ _ _ | refine Same.trans ?_ (Same.set (by dsimp only; omega) _) | refine Same.trans ?_ (Same.below ((Below.refl _ _).alloc (Nat.le_refl _) _)) | refine Same.trans ?_ (Same.below (Below.drew (Below.refl _ _)))))

def nameDraws : List ByteArray := [⟨#[97]⟩, ⟨#[122, 122]⟩, ⟨#[102]⟩, ⟨#[]⟩, ⟨#[97, 98, 99]⟩, ⟨#[65]⟩, ⟨#[97, 49]⟩, ⟨#[32]⟩]
theorem nameDraws_small : ∀ t ∈ nameDraws, t.size ≤ 9 := by decide
set_option maxRecDepth 100000 in
set_option maxHeartbeats 4000000 in
theorem DrawNameOk_any {A : Option Addr} {cap : Nat} {bs : List UInt8} {w : World} (h : Code8 w A cap bs) (hl : bs.length ≤ 1048576) :
    Calls Try.prog 20 #[.slice A bs.length cap] w fun e w' => ∃ t : ByteArray, e = .returned (.string t) ∧ t.size ≤ 9 ∧ Below w.heap.size w w' := by
  go_enter Try.func20, Try.ntmps20
  go_wp2_with fail
  refine (l16Open_any (h).bytes hl (h).cap).mono ?_
  rintro e w1 ⟨bs', rfl, hR1, hb1⟩
  have hs1 := hb1.size
  have hB1 : Below w.heap.size w w1 := hb1
  clear hb1
  have hgl := hR1.lt
  obtain ⟨g, hg⟩ : ∃ g, w.heap.size = g := ⟨_, rfl⟩
  rw [hg] at hR1 hB1 hgl ⊢
  go_wp2_with fail
  refine (of_any (p := 0) nameDraws w1.heap.size 8 8 (hR1.alloc _) (by omega) rfl (by omega) (by omega) (by omega) (alloc_vals w1 (nameDraws.map Value.string) 9)).mono ?_
  rintro e w2 ⟨t, rfl, ht⟩
  have hts := nameDraws_small t ht.mem
  have hO : Only g w1 w2 := (Only.below (Only.refl g w1) ((Below.refl _ _).alloc (Nat.le_refl _) _)).trans ht.only
  clear ht
  go_wp2
  go_ret
  exact ⟨t, rfl, hts, (by rw [hg]; exact hB1.trans (hO.base (by omega) (by omega)))⟩

/-- Two vocabularies were drawn. -/
def SigPair (w : World) (e : Ending) (w' : World) : Prop :=
  ∃ (S : Option Addr) (n c : Nat) (ls : List SymV) (S' : Option Addr) (n' c' : Nat) (ls' : List SymV), e = .returned (.tuple #[.agg #[.slice S n c], .agg #[.slice S' n' c']]) ∧ (Syms w' S n ls ∧ n ≤ 9) ∧ Syms w' S' n' ls' ∧ Below w.heap.size w w'
set_option maxRecDepth 100000 in
set_option maxHeartbeats 8000000 in
theorem DrawSigSame_any {A : Option Addr} {cap : Nat} {bs : List UInt8} {w : World} (h : Code8 w A cap bs) (hl : bs.length ≤ 1048576) :
    Calls Try.prog 19 #[.slice A bs.length cap] w (SigPair w) := by
  have hc : Code8 ((w.alloc (.cells #[.slice none 0 0] 36)).alloc (.cells #[.slice none 0 0] 36)) A cap bs := h.later (by (repeat (first | with_reducible exact Below.refl _ _ | with_reducible assumption | (with_reducible refine below_drewN ?_ _) | (with_reducible refine Below.drew ?_) | (with_reducible refine Below.setCell ?_ (by first | omega | (simp; done) | (simp; omega)) _) | (with_reducible refine Below.alloc ?_ (by first | omega | (simp; done) | (simp; omega)) _) | refine Below.trans ?_ (Below.mono (by with_reducible assumption) (by first | omega | (simp; done) | (simp; omega))))))
  go_enter Try.func19, Try.ntmps19
  go_wp2_with fail
  refine (l16Open_any (hc).bytes hl (hc).cap).mono ?_
  rintro e w1 ⟨bs', rfl, hR1, hb1⟩
  have hs1 := hb1.size
  simp only [World.size_alloc] at hs1
  have hX1 : w1.cell? ⟨w.heap.size, 0, none⟩ = some (.slice none 0 0) ∧ w1.frozen? ⟨w.heap.size, 0, none⟩ = false := by
    obtain ⟨k1, k2, _⟩ := keep_later (a := ⟨w.heap.size, 0, none⟩) (v := .slice none 0 0) hb1 (by go_simp) (by go_simp)
    exact ⟨k1, k2⟩
  have hY1 : w1.cell? ⟨w.heap.size + 1, 0, none⟩ = some (.slice none 0 0) ∧ w1.frozen? ⟨w.heap.size + 1, 0, none⟩ = false := by
    obtain ⟨k1, k2, _⟩ := keep_later (a := ⟨w.heap.size + 1, 0, none⟩) (v := .slice none 0 0) hb1 (by go_simp) (by go_simp)
    exact ⟨k1, k2⟩
  have hB1 : Below w.heap.size w w1 := Below.trans (by (repeat (first | with_reducible exact Below.refl _ _ | with_reducible assumption | (with_reducible refine below_drewN ?_ _) | (with_reducible refine Below.drew ?_) | (with_reducible refine Below.setCell ?_ (by first | omega | (simp; done) | (simp; omega)) _) | (with_reducible refine Below.alloc ?_ (by first | omega | (simp; done) | (simp; omega)) _) | refine Below.trans ?_ (Below.mono (by with_reducible assumption) (by first | omega | (simp; done) | (simp; omega)))))) (hb1.mono (by first | omega | (simp; done) | (simp; omega)))
  clear hb1
  simp only [World.size_alloc] at hR1 ⊢
  have hgl := hR1.lt
  obtain ⟨g, hg⟩ : ∃ g, w.heap.size + 1 + 1 = g := ⟨_, rfl⟩
  rw [hg] at hR1 hgl ⊢
  have hg1 : w.heap.size + 1 < g := by omega
  clear hg
  go_wp2_with fail
  refine (l4Sig_any hR1 (by omega)).mono ?_
  rintro e w2 ⟨S, n, c0, rfl, hSg, ⟨⟨p2, hp2, hR2⟩, hO2⟩⟩
  have hz2 := hO2.size
  have hO2' : Only g w1 (w2.alloc (.cells #[.slice S n c0] 36)) := Only.below hO2 ((Below.refl _ _).alloc (Nat.le_refl _) _)
  obtain ⟨ls, hSI⟩ := hSg.i
  have hS2 : SigI (w2.alloc (.cells #[.slice S n c0] 36)).drew w1.heap.size S n ls 9 3 := hSI.step (Same.below (by (repeat (first | with_reducible exact Below.refl _ _ | with_reducible assumption | (with_reducible refine below_drewN ?_ _) | (with_reducible refine Below.drew ?_) | (with_reducible refine Below.setCell ?_ (by first | omega | (simp; done) | (simp; omega)) _) | (with_reducible refine Below.alloc ?_ (by first | omega | (simp; done) | (simp; omega)) _) | refine Below.trans ?_ (Below.mono (by with_reducible assumption) (by first | omega | (simp; done) | (simp; omega)))))))
  have hR2' : Rd (w2.alloc (.cells #[.slice S n c0] 36)).drew g A cap bs' p2 := Rd.drew (hR2.alloc _)
  have hC3 : (w2.alloc (.cells #[.slice S n c0] 36)).cell? ⟨w2.heap.size, 0, none⟩ = some (.slice S n c0) := by go_simp
  clear hSg hSI hO2
  go_wp2_with fail
  refine wp_region_T2 10 (fun w' => w'.cell? ⟨w2.heap.size, 0, none⟩ = some (.slice S n c0)) (by kernel_rfl) (by kernel_rfl) ?_ (fun hHeld => ?_)
  · exact hC3
  (refine wpAnyT_take (i := 0) (v := ?_) (by simp only [List.getElem?_toArray, List.getElem?_cons_succ, List.getElem?_cons_zero]; rfl) (by kernel_rfl) (by kernel_rfl) (by kernel_rfl) (by kernel_rfl) (by intro _ _ _ h; exact h) (Or.inl ⟨by rfl, ?_⟩) (by assumption) ?_; rotate_left; (focus (intro wS hSw; (try dsimp only at hSw); go_simp; (try with_reducible rfl))); (try simp only [Act.put, List.setIfInBounds_toArray, List.set_cons_zero, List.set_cons_succ]))
  (refine wpAnyT_take (i := 1) (v := ?_) (by simp only [List.getElem?_toArray, List.getElem?_cons_succ, List.getElem?_cons_zero]; rfl) (by kernel_rfl) (by kernel_rfl) (by kernel_rfl) (by kernel_rfl) (by intro _ _ _ h; exact h) (Or.inl ⟨by rfl, ?_⟩) (by assumption) ?_; rotate_left; (focus (intro wS hSw; (try dsimp only at hSw); go_simp; (try with_reducible rfl))); (try simp only [Act.put, List.setIfInBounds_toArray, List.set_cons_zero, List.set_cons_succ]))
  (refine wpAnyT_take (i := 2) (v := ?_) (by simp only [List.getElem?_toArray, List.getElem?_cons_succ, List.getElem?_cons_zero]; rfl) (by kernel_rfl) (by kernel_rfl) (by kernel_rfl) (by kernel_rfl) (by intro _ _ _ h; exact h) (Or.inl ⟨by rfl, ?_⟩) (by assumption) ?_; rotate_left; (focus (intro wS hSw; (try dsimp only at hSw); go_simp; (try with_reducible rfl))); (try simp only [Act.put, List.setIfInBounds_toArray, List.set_cons_zero, List.set_cons_succ]))
  (refine wpAnyT_take (i := 3) (v := ?_) (by simp only [List.getElem?_toArray, List.getElem?_cons_succ, List.getElem?_cons_zero]; rfl) (by kernel_rfl) (by kernel_rfl) (by kernel_rfl) (by kernel_rfl) (by intro _ _ _ h; exact h) (Or.inl ⟨by rfl, ?_⟩) (by assumption) ?_; rotate_left; (focus (intro wS hSw; (try dsimp only at hSw); go_simp; (try with_reducible rfl))); (try simp only [Act.put, List.setIfInBounds_toArray, List.set_cons_zero, List.set_cons_succ]))
  (refine wpAnyT_take (i := 4) (v := ?_) (by simp only [List.getElem?_toArray, List.getElem?_cons_succ, List.getElem?_cons_zero]; rfl) (by kernel_rfl) (by kernel_rfl) (by kernel_rfl) (by kernel_rfl) (by intro _ _ _ h; exact h) (Or.inl ⟨by rfl, ?_⟩) (by assumption) ?_; rotate_left; (focus (intro wS hSw; (try dsimp only at hSw); go_simp; (try with_reducible rfl))); (try simp only [Act.put, List.setIfInBounds_toArray, List.set_cons_zero, List.set_cons_succ]))
  refine wpAnyT_ready (rs := [5]) (by kernel_rfl) (by kernel_rfl) ?_
  refine AllReadyT.cons (by simp only [List.getElem?_toArray, List.getElem?_cons_succ, List.getElem?_cons_zero]; rfl) (fun K hK => ?_) AllReadyT.nil
  (go_simp; (refine (l4Bent_any hR2' (by omega) hS2 (by omega) (by omega) hgl (by simp; omega)).mono ?_); rintro e w3 ⟨S3, n3, c3, ls3, rfl, hS3, ⟨⟨p3, hp3, hR3⟩, hO3⟩⟩)
  refine hK.out _ _ ?_ (fun hHeld => ?_)
  · (try dsimp only)
    exact onlyCell (w := (w2.alloc (.cells #[.slice S n c0] 36)).drew) hO3 (by dsimp only; omega) hC3
  clear hK K
  (try simp only [Act.put, List.setIfInBounds_toArray, List.set_cons_zero, List.set_cons_succ])
  have hz3 := hO3.size
  (try simp at hz3)
  have hS0 : SigI w3 w1.heap.size S n ls 9 3 := hS2.step (Same.only hO3 hgl)
  have hC4 : w3.cell? ⟨w2.heap.size, 0, none⟩ = some (.slice S n c0) := onlyCell (w := (w2.alloc (.cells #[.slice S n c0] 36)).drew) hO3 (by dsimp only; omega) hC3
  refine wpAnyT_ready (rs := [6]) (by kernel_rfl) (by kernel_rfl) ?_
  refine AllReadyT.cons (by simp only [List.getElem?_toArray, List.getElem?_cons_succ, List.getElem?_cons_zero]; rfl) (fun K hK => ?_) AllReadyT.nil
  (go_simp; (refine (l4Bent_any hR3 (by omega) hS3 (by omega) (by omega) (by simp; omega) (by simp; omega)).mono ?_); rintro e w4 ⟨S4, n4, c4, ls4, rfl, hS4, ⟨⟨p4, hp4, hR4⟩, hO4⟩⟩)
  refine hK.out _ _ ?_ (fun hHeld => ?_)
  · (try dsimp only)
    exact onlyCell hO4 (by dsimp only; omega) hC4
  clear hK K
  (try simp only [Act.put, List.setIfInBounds_toArray, List.set_cons_zero, List.set_cons_succ])
  have hz4 := hO4.size
  have hC5 : w4.cell? ⟨w2.heap.size, 0, none⟩ = some (.slice S n c0) := onlyCell hO4 (by dsimp only; omega) hC4
  refine wpAnyT_ready (rs := [7]) (by kernel_rfl) (by kernel_rfl) ?_
  refine AllReadyT.cons (by simp only [List.getElem?_toArray, List.getElem?_cons_succ, List.getElem?_cons_zero]; rfl) (fun K hK => ?_) AllReadyT.nil
  (go_simp; (refine (l4Bent_any hR4 (by omega) hS4 (by omega) (by omega) (by omega) (by omega)).mono ?_); rintro e w5 ⟨S5, n5, c5, ls5, rfl, hS5, ⟨⟨p5, hp5, hR5⟩, hO5⟩⟩)
  refine hK.out _ _ ?_ (fun hHeld => ?_)
  · (try dsimp only)
    exact onlyCell hO5 (by dsimp only; omega) hC5
  clear hK K
  (try simp only [Act.put, List.setIfInBounds_toArray, List.set_cons_zero, List.set_cons_succ])
  have hz5 := hO5.size
  have hO25 : Only g w1 w5 := (((hO2'.drew).trans hO3).trans hO4).trans hO5
  have HS := Lib.hid (fun W (hW : Same w1.heap.size none w5 W) => (((hS0.step (Same.only hO4 hgl)).step (Same.only hO5 hgl)).step hW).here)
  have HS5 := Lib.hid (fun W (hW : Same w4.heap.size none w5 W) => (hS5.step hW).here)
  have hnf := hS0.few
  have hC6 : w5.cell? ⟨w2.heap.size, 0, none⟩ = some (.slice S n c0) := onlyCell hO5 (by dsimp only; omega) hC5
  have k0 := onlyCell hO25 (by dsimp only; omega) hX1.1
  have k1 := onlyCell hO25 (by dsimp only; omega) hY1.1
  have k2 := onlyF hO25 (by dsimp only; omega) (World.block_lt_of_cell? _ _ hX1.1) hX1.2
  have k3 := onlyF hO25 (by dsimp only; omega) (World.block_lt_of_cell? _ _ hY1.1) hY1.2
  have hBw : Below w.heap.size w w5 := hB1.trans (hO25.base (by omega) (by omega))
  have hzw : w.heap.size + 1 < w2.heap.size := by omega
  have hzw5 : w.heap.size + 1 < w5.heap.size := by omega
  clear hS0 hS2 hS3 hS4 hS5 hO3 hO4 hO5 hO25 hO2' hC3 hC4 hC5 hHeld
  refine wpAnyT_ready (rs := [8]) (by kernel_rfl) (by kernel_rfl) ?_
  refine AllReadyT.cons (by simp only [List.getElem?_toArray, List.getElem?_cons_succ, List.getElem?_cons_zero]; rfl) (fun K hK => ?_) AllReadyT.nil
  go_simp
  refine hK.out _ _ ?_ (fun hHeld => ?_)
  · (try dsimp only)
    go_simp
  clear hK K
  (try simp only [Act.put, List.setIfInBounds_toArray, List.set_cons_zero, List.set_cons_succ])
  clear hHeld
  refine wpAnyT_ready (rs := [9]) (by kernel_rfl) (by kernel_rfl) ?_
  refine AllReadyT.cons (by simp only [List.getElem?_toArray, List.getElem?_cons_succ, List.getElem?_cons_zero]; rfl) (fun K hK => ?_) AllReadyT.nil
  go_simp
  refine hK.out _ _ ?_ (fun hHeld => ?_)
  · (try dsimp only)
    go_simp
  clear hK K
  (try simp only [Act.put, List.setIfInBounds_toArray, List.set_cons_zero, List.set_cons_succ])
  clear hHeld
  refine wpAnyT_done (by kernel_rfl) ?_
  simp only [List.drop_succ_cons, List.drop_zero]
  go_wp2
  refine bodyPost_ret (v := .tuple #[.agg #[.slice S n c0], .agg #[.slice S5 n5 c5]]) (by simp only [results, Try.results19]; go_simp) rfl ⟨S, n, c0, ls, S5, n5, c5, ls5, rfl, ⟨HS.out _ ?_, hnf⟩, HS5.out _ ?_, by (repeat (first | with_reducible exact Below.refl _ _ | with_reducible assumption | (with_reducible refine below_drewN ?_ _) | (with_reducible refine Below.drew ?_) | (with_reducible refine Below.setCell ?_ (by first | omega | (simp; done) | (simp; omega)) _) | (with_reducible refine Below.alloc ?_ (by first | omega | (simp; done) | (simp; omega)) _) | refine Below.trans ?_ (Below.mono (by with_reducible assumption) (by first | omega | (simp; done) | (simp; omega)))))⟩
  · (repeat (first | exact Same.refl _ _ _ | refine Same.trans ?_ (Same.set (by dsimp only; omega) _) | refine Same.trans ?_ (Same.below ((Below.refl _ _).alloc (Nat.le_refl _) _)) | refine Same.trans ?_ (Same.below (Below.drew (Below.refl _ _)))))
  · (repeat (first | exact Same.refl _ _ _ | refine Same.trans ?_ (Same.set (by dsimp only; omega) _) | refine Same.trans ?_ (Same.below ((Below.refl _ _).alloc (Nat.le_refl _) _)) | refine Same.trans ?_ (Same.below (Below.drew (Below.refl _ _)))))
end Go.Proofs.Ytgmeoblapnmpiaa

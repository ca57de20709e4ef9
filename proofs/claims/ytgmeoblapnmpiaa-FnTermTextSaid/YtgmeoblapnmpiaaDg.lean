/- Two terms are drawn. -/
import Derived.Test.YtgmeoblapnmpiaaDf
namespace Go.Proofs.Ytgmeoblapnmpiaa
set_option maxRecDepth 100000
open Go.RowKit Go.ChangeShapes Go.WideShapes Go.ChangeAt
set_option linter.unusedSimpArgs false
set_option linter.unusedVariables false


/-- Two terms were drawn. -/
def TermPair (w : World) (e : Ending) (w' : World) : Prop :=
  ∃ (s : ByteArray) (Z : Option Addr) (m c : Nat) (ts : List TermV) (s' : ByteArray) (Z' : Option Addr) (m' c' : Nat) (ts' : List TermV) (d : Nat), e = .returned (.tuple #[.agg #[.string s, .slice Z m c], .agg #[.string s', .slice Z' m' c']]) ∧ (Kids w' 0 d Z m ts ∧ s.size ≤ 9) ∧ (Kids w' 0 d Z' m' ts' ∧ s'.size ≤ 9) ∧ Below w.heap.size w w'
set_option maxRecDepth 100000 in
set_option maxHeartbeats 8000000 in
theorem DrawTermSame_any {A : Option Addr} {cap : Nat} {bs : List UInt8} {w : World} (h : Code8 w A cap bs) (hl : bs.length ≤ 1048576) :
    Calls Try.prog 33 #[.slice A bs.length cap] w (TermPair w) := by
  have hc : Code8 ((w.alloc (.cells #[.string ⟨#[]⟩, .slice none 0 0] 30)).alloc (.cells #[.string ⟨#[]⟩, .slice none 0 0] 30)) A cap bs := h.later (by (repeat (first | with_reducible exact Below.refl _ _ | with_reducible assumption | (with_reducible refine below_drewN ?_ _) | (with_reducible refine Below.drew ?_) | (with_reducible refine Below.setCell ?_ (by first | omega | (simp; done) | (simp; omega)) _) | (with_reducible refine Below.alloc ?_ (by first | omega | (simp; done) | (simp; omega)) _) | refine Below.trans ?_ (Below.mono (by with_reducible assumption) (by first | omega | (simp; done) | (simp; omega))))))
  go_enter Try.func33, Try.ntmps33
  go_wp2_with fail
  refine (l16Open_any (hc).bytes hl (hc).cap).mono ?_
  rintro e w1 ⟨bs', rfl, hR1, hb1⟩
  have hs1 := hb1.size
  simp only [World.size_alloc] at hs1
  have hX1 : T2c w1 w.heap.size ⟨#[]⟩ (.slice none 0 0) := ((T2c.new w ⟨#[]⟩ (.slice none 0 0) 30).later ((Below.refl _ _).alloc (Nat.le_refl _) _)).later hb1
  have hY1 : T2c w1 (w.heap.size + 1) ⟨#[]⟩ (.slice none 0 0) := by
    have h0 := (T2c.new (w.alloc (.cells #[.string ⟨#[]⟩, .slice none 0 0] 30)) ⟨#[]⟩ (.slice none 0 0) 30).later hb1
    rw [World.size_alloc] at h0
    exact h0
  have hB1 : Below w.heap.size w w1 := Below.trans (by (repeat (first | with_reducible exact Below.refl _ _ | with_reducible assumption | (with_reducible refine below_drewN ?_ _) | (with_reducible refine Below.drew ?_) | (with_reducible refine Below.setCell ?_ (by first | omega | (simp; done) | (simp; omega)) _) | (with_reducible refine Below.alloc ?_ (by first | omega | (simp; done) | (simp; omega)) _) | refine Below.trans ?_ (Below.mono (by with_reducible assumption) (by first | omega | (simp; done) | (simp; omega)))))) (hb1.mono (by first | omega | (simp; done) | (simp; omega)))
  clear hb1
  simp only [World.size_alloc] at hR1 ⊢
  have hgl := hR1.lt
  obtain ⟨g, hg⟩ : ∃ g, w.heap.size + 1 + 1 = g := ⟨_, rfl⟩
  rw [hg] at hR1 hgl ⊢
  have hg1 : w.heap.size + 1 < g := by omega
  clear hg
  go_wp2_with fail
  refine (l4Sig_any hR1 (by omega)).mono ?_
  rintro e w2 ⟨S, n, c0, rfl, hSg, ⟨⟨p2, hp2, hR2⟩, hO2⟩⟩
  have hz2 := hO2.size
  have hO2' : Only g w1 (w2.alloc (.cells #[.slice S n c0] 36)) := Only.below hO2 ((Below.refl _ _).alloc (Nat.le_refl _) _)
  go_wp2_with fail
  refine (l4Some_any (lo := w1.heap.size) (hR2.alloc _) (by omega) (hSg.step (Same.below ((Below.refl _ _).alloc (Nat.le_refl _) _))) hgl (by simp; omega)).mono ?_
  rintro e w3 ⟨s, Z, m, c, ts, d, rfl, ⟨hK, hnar, hsz⟩, ⟨⟨p3, hp3, hR3⟩, hO3⟩⟩
  have hz3 := hO3.size
  (try simp at hz3)
  have hzl : w2.heap.size < w3.heap.size := by omega
  have hO3' : Only g w1 w3 := hO2'.trans hO3
  have hsig3 : w3.cell? ⟨w2.heap.size, 0, none⟩ = some (.slice S n c0) := onlyCell hO3 (by dsimp only; omega) (by go_simp)
  have hK' : KidX (w3.alloc (.cells #[.string s, .slice Z m c] 30)) w1.heap.size none d Z m ts := (fun w' hs => hK w' ⟨Nat.le_trans (by simp) hs.size, fun i h0 h1 h2 => (hs.block i (by (try simp at h0); omega) (by simp; omega) h2).trans (heap_old h1)⟩)
  have hT3 := T2c.new w3 s (.slice Z m c) 30
  clear hO2 hO2'
  go_wp2_with fail
  refine (pick_any (p := p3) 2 (hR3.alloc _) (by omega) (by omega) (by omega)).mono ?_
  rintro e w4 ⟨r, rfl, hr⟩
  have hR4 := hr.rd
  have hz4 := hr.only.size
  (try simp at hz4)
  have hO4 : Only g w1 w4 := (hO3'.below ((Below.refl _ _).alloc (Nat.le_refl _) _)).trans hr.only
  have hK4 := hK'.step (Same.only hr.only hgl)
  have hT4 := hT3.only hr.only (by omega)
  have hX4 := hX1.only hO4 (by omega)
  have hY4 := hY1.only hO4 (by omega)
  have hsig4 : w4.cell? ⟨w2.heap.size, 0, none⟩ = some (.slice S n c0) := onlyCell hr.only (by dsimp only; omega) (by go_simp)
  have hSame : ∀ i, w1.heap.size ≤ i → i < w2.heap.size → w4.heap[i]? = w2.heap[i]? := fun i h0 h1 => by
    have e1 := hO3.block i (by simp; omega) (fun e => by injection e with e; omega)
    have e2 := hr.only.block i (by simp; omega) (fun e => by injection e with e; omega)
    rw [e2, heap_old (by omega), e1, heap_old h1]
  clear hr hO3 hO3' hK hK' hT3 hX1 hY1
  obtain ⟨x0, x1, x2, x3⟩ := hX4
  obtain ⟨y0, y1, y2, y3⟩ := hY4
  obtain ⟨z0, z1, z2, z3⟩ := hT4
  by_cases q0 : r = 0
  · subst q0
    have hC3 : w4.cell? ⟨w3.heap.size, 0, none⟩ = some (.string s) ∧ w4.cell? ⟨w3.heap.size, 1, none⟩ = some (.slice Z m c) ∧ w4.cell? ⟨w2.heap.size, 0, none⟩ = some (.slice S n c0) := ⟨z0, z1, hsig4⟩
    go_wp2_with fail
    refine wp_region_T2 5 (fun w' => w'.cell? ⟨w3.heap.size, 0, none⟩ = some (.string s) ∧ w'.cell? ⟨w3.heap.size, 1, none⟩ = some (.slice Z m c) ∧ w'.cell? ⟨w2.heap.size, 0, none⟩ = some (.slice S n c0)) (by kernel_rfl) (by kernel_rfl) ?_ (fun hHeld => ?_)
    · exact hC3
    (refine wpAnyT_take (i := 0) (v := ?_) (by simp only [List.getElem?_toArray, List.getElem?_cons_succ, List.getElem?_cons_zero]; rfl) (by kernel_rfl) (by kernel_rfl) (by kernel_rfl) (by kernel_rfl) (by intro _ _ _ h; exact h) (Or.inl ⟨by rfl, ?_⟩) (by assumption) ?_; rotate_left; (focus (intro wS hSw; (try dsimp only at hSw); go_simp; (try with_reducible rfl))); (try simp only [Act.put, List.setIfInBounds_toArray, List.set_cons_zero, List.set_cons_succ]))
    (refine wpAnyT_take (i := 1) (v := ?_) (by simp only [List.getElem?_toArray, List.getElem?_cons_succ, List.getElem?_cons_zero]; rfl) (by kernel_rfl) (by kernel_rfl) (by kernel_rfl) (by kernel_rfl) (by intro _ _ _ h; exact h) (Or.inl ⟨by rfl, ?_⟩) (by assumption) ?_; rotate_left; (focus (intro wS hSw; (try dsimp only at hSw); go_simp; (try with_reducible rfl))); (try simp only [Act.put, List.setIfInBounds_toArray, List.set_cons_zero, List.set_cons_succ]))
    (refine wpAnyT_take (i := 2) (v := ?_) (by simp only [List.getElem?_toArray, List.getElem?_cons_succ, List.getElem?_cons_zero]; rfl) (by kernel_rfl) (by kernel_rfl) (by kernel_rfl) (by kernel_rfl) (by intro _ _ _ h; exact h) (Or.inl ⟨by rfl, ?_⟩) (by assumption) ?_; rotate_left; (focus (intro wS hSw; (try dsimp only at hSw); go_simp; (try with_reducible rfl))); (try simp only [Act.put, List.setIfInBounds_toArray, List.set_cons_zero, List.set_cons_succ]))
    refine wpAnyT_ready (rs := [3]) (by kernel_rfl) (by kernel_rfl) ?_
    refine AllReadyT.cons (by simp only [List.getElem?_toArray, List.getElem?_cons_succ, List.getElem?_cons_zero]; rfl) (fun K hK => ?_) AllReadyT.nil
    (go_simp; (refine (l4Some_any (g := g) (A := A) (cap := cap) (bs := bs') (p := p3 + 1) (S := S) (n := n) (c := c0) (lo := w1.heap.size) (w := w4.drew) (Rd.drew hR4) (by omega) (hSg.step ⟨(by first | omega | (simp; done) | (simp; omega)), fun i h0 h1 h2 => hSame i h0 h1⟩) hgl (by first | omega | (simp; done) | (simp; omega))).mono ?_); rintro e w5 ⟨s', Z', m', c', ts', d', rfl, ⟨hK', hnar', hsz'⟩, ⟨_, hO5⟩⟩)
    refine hK.out _ _ ?_ (fun hHeld => ?_)
    · (try dsimp only)
      exact ⟨onlyCell hO5 (by dsimp only; omega) z0, onlyCell hO5 (by dsimp only; omega) z1, onlyCell hO5 (by dsimp only; omega) hsig4⟩
    clear hK K
    (try simp only [Act.put, List.setIfInBounds_toArray, List.set_cons_zero, List.set_cons_succ])
    have hO5' : Only g w4 w5 := (Only.drew (Only.refl g w4)).trans hO5
    have hK2 : KidX w5 w1.heap.size none d' Z' m' ts' := fun w' hs => hK' w' ⟨hs.size, fun i h0 h1 h2 => hs.block i (by (try simp at h0); omega) h1 h2⟩
    have hz5 := hO5'.size
    clear hO5 hK'
    have hBz : Below w.heap.size w w5 := hB1.trans ((hO4.trans hO5').base (by omega) (by omega))
    obtain ⟨x0', x1', x2', x3'⟩ := (T2c.only ⟨x0, x1, x2, x3⟩ hO5' (by omega) : T2c w5 w.heap.size ⟨#[]⟩ (.slice none 0 0))
    obtain ⟨y0', y1', y2', y3'⟩ := (T2c.only ⟨y0, y1, y2, y3⟩ hO5' (by omega) : T2c w5 (w.heap.size + 1) ⟨#[]⟩ (.slice none 0 0))
    have hK5 := hK4.step (Same.only hO5' hgl)
    obtain ⟨e0, e1, e2⟩ : w5.cell? ⟨w3.heap.size, 0, none⟩ = some (.string s) ∧ w5.cell? ⟨w3.heap.size, 1, none⟩ = some (.slice Z m c) ∧ w5.cell? ⟨w2.heap.size, 0, none⟩ = some (.slice S n c0) := hHeld
    clear hHeld
    have hzw : w.heap.size < w3.heap.size := by omega
    have hzv : w.heap.size < w2.heap.size := by omega
    refine wpAnyT_ready (rs := [4]) (by kernel_rfl) (by kernel_rfl) ?_
    refine AllReadyT.cons (by simp only [List.getElem?_toArray, List.getElem?_cons_succ, List.getElem?_cons_zero]; rfl) (fun K hK => ?_) AllReadyT.nil
    go_simp
    refine hK.out _ _ ?_ (fun hHeld => ?_)
    · (try dsimp only)
      exact ⟨by go_simp, by go_simp, by go_simp⟩
    clear hK K
    (try simp only [Act.put, List.setIfInBounds_toArray, List.set_cons_zero, List.set_cons_succ])
    refine wpAnyT_done (by kernel_rfl) ?_
    simp only [List.drop_succ_cons, List.drop_zero]
    clear hHeld
    go_wp2
    refine bodyPost_ret (v := .tuple #[.agg #[.string s, .slice Z m c], .agg #[.string s', .slice Z' m' c']]) (by simp only [results, Try.results33]; go_simp) rfl ⟨s, Z, m, c, ts, s', Z', m', c', ts', max d d', rfl, ⟨?_, hsz⟩, ⟨?_, hsz'⟩, ?_⟩
    · exact (((((hK5.step (Same.set (by dsimp only; omega) _)).step (Same.set (by dsimp only; omega) _)).step (Same.set (by dsimp only; omega) _)).step (Same.set (by dsimp only; omega) _)).here).le (by omega)
    · exact (((((hK2.step (Same.set (by dsimp only; omega) _)).step (Same.set (by dsimp only; omega) _)).step (Same.set (by dsimp only; omega) _)).step (Same.set (by dsimp only; omega) _)).here).le (by omega)
    · (repeat (first | with_reducible exact Below.refl _ _ | with_reducible assumption | (with_reducible refine below_drewN ?_ _) | (with_reducible refine Below.drew ?_) | (with_reducible refine Below.setCell ?_ (by first | omega | (simp; done) | (simp; omega)) _) | (with_reducible refine Below.alloc ?_ (by first | omega | (simp; done) | (simp; omega)) _) | refine Below.trans ?_ (Below.mono (by with_reducible assumption) (by first | omega | (simp; done) | (simp; omega)))))
  · have q0' : (r == 0) = false := by simpa using q0
    have hC3 : w4.cell? ⟨w3.heap.size, 0, none⟩ = some (.string s) ∧ w4.cell? ⟨w3.heap.size, 1, none⟩ = some (.slice Z m c) ∧ w4.cell? ⟨w2.heap.size, 0, none⟩ = some (.slice S n c0) := ⟨z0, z1, hsig4⟩
    have hlen := hK4.here.len
    have hfew := hnar.few
    go_wp2_with fail
    refine wp_region_T2 4 (fun w' => w'.cell? ⟨w3.heap.size, 0, none⟩ = some (.string s) ∧ w'.cell? ⟨w3.heap.size, 1, none⟩ = some (.slice Z m c) ∧ w'.cell? ⟨w2.heap.size, 0, none⟩ = some (.slice S n c0)) (by kernel_rfl) (by kernel_rfl) ?_ (fun hHeld => ?_)
    · exact hC3
    (refine wpAnyT_take (i := 0) (v := ?_) (by simp only [List.getElem?_toArray, List.getElem?_cons_succ, List.getElem?_cons_zero]; rfl) (by kernel_rfl) (by kernel_rfl) (by kernel_rfl) (by kernel_rfl) (by intro _ _ _ h; exact h) (Or.inl ⟨by rfl, ?_⟩) (by assumption) ?_; rotate_left; (focus (intro wS hSw; (try dsimp only at hSw); go_simp; (try with_reducible rfl))); (try simp only [Act.put, List.setIfInBounds_toArray, List.set_cons_zero, List.set_cons_succ]))
    (refine wpAnyT_take (i := 1) (v := ?_) (by simp only [List.getElem?_toArray, List.getElem?_cons_succ, List.getElem?_cons_zero]; rfl) (by kernel_rfl) (by kernel_rfl) (by kernel_rfl) (by kernel_rfl) (by intro _ _ _ h; exact h) (Or.inl ⟨by rfl, ?_⟩) (by assumption) ?_; rotate_left; (focus (intro wS hSw; (try dsimp only at hSw); go_simp; (try with_reducible rfl))); (try simp only [Act.put, List.setIfInBounds_toArray, List.set_cons_zero, List.set_cons_succ]))
    refine wpAnyT_ready (rs := [2]) (by kernel_rfl) (by kernel_rfl) ?_
    refine AllReadyT.cons (by simp only [List.getElem?_toArray, List.getElem?_cons_succ, List.getElem?_cons_zero]; rfl) (fun K hK => ?_) AllReadyT.nil
    (go_simp; (refine (l4Copy_any d (A := Z) (n := m) (c := c) (ks := ts) (w := w4.drew) s (Kids.later (by (repeat (first | with_reducible exact Below.refl _ _ | with_reducible assumption | (with_reducible refine below_drewN ?_ _) | (with_reducible refine Below.drew ?_) | (with_reducible refine Below.setCell ?_ (by first | omega | (simp; done) | (simp; omega)) _) | (with_reducible refine Below.alloc ?_ (by first | omega | (simp; done) | (simp; omega)) _) | refine Below.trans ?_ (Below.mono (by with_reducible assumption) (by first | omega | (simp; done) | (simp; omega)))))) hK4.here) hnar (by omega)).mono ?_); rintro e w5 ⟨v5, zs5, B5, rfl, ⟨hG5, hB5⟩, hb5⟩; obtain ⟨Z', c', rfl⟩ := hG5.form)
    refine hK.out _ _ ?_ (fun hHeld => ?_)
    · (try dsimp only)
      exact ⟨(hb5.cell (p := ⟨w3.heap.size, 0, none⟩) (by first | omega | (simp; done) | (simp; omega))).trans z0, (hb5.cell (p := ⟨w3.heap.size, 1, none⟩) (by first | omega | (simp; done) | (simp; omega))).trans z1, (hb5.cell (p := ⟨w2.heap.size, 0, none⟩) (by first | omega | (simp; done) | (simp; omega))).trans hsig4⟩
    clear hK K
    (try simp only [Act.put, List.setIfInBounds_toArray, List.set_cons_zero, List.set_cons_succ])
    have hO5' : Only g w4 w5 := (Only.drew (Only.refl g w4)).trans (Only.of_below hb5)
    have hK2 : KidX w5 w1.heap.size none (d + 1) Z' m ts := fun w' hs => (hG5.kids (by omega)) w' ⟨hs.size, fun i h0 h1 h2 => hs.block i (by (try simp at hB5); omega) h1 h2⟩
    have hz5 := hO5'.size
    have hsz' := hsz
    clear hb5 hG5
    have hBz : Below w.heap.size w w5 := hB1.trans ((hO4.trans hO5').base (by omega) (by omega))
    obtain ⟨x0', x1', x2', x3'⟩ := (T2c.only ⟨x0, x1, x2, x3⟩ hO5' (by omega) : T2c w5 w.heap.size ⟨#[]⟩ (.slice none 0 0))
    obtain ⟨y0', y1', y2', y3'⟩ := (T2c.only ⟨y0, y1, y2, y3⟩ hO5' (by omega) : T2c w5 (w.heap.size + 1) ⟨#[]⟩ (.slice none 0 0))
    have hK5 := hK4.step (Same.only hO5' hgl)
    obtain ⟨e0, e1, e2⟩ : w5.cell? ⟨w3.heap.size, 0, none⟩ = some (.string s) ∧ w5.cell? ⟨w3.heap.size, 1, none⟩ = some (.slice Z m c) ∧ w5.cell? ⟨w2.heap.size, 0, none⟩ = some (.slice S n c0) := hHeld
    clear hHeld
    have hzw : w.heap.size < w3.heap.size := by omega
    have hzv : w.heap.size < w2.heap.size := by omega
    refine wpAnyT_ready (rs := [3]) (by kernel_rfl) (by kernel_rfl) ?_
    refine AllReadyT.cons (by simp only [List.getElem?_toArray, List.getElem?_cons_succ, List.getElem?_cons_zero]; rfl) (fun K hK => ?_) AllReadyT.nil
    go_simp
    refine hK.out _ _ ?_ (fun hHeld => ?_)
    · (try dsimp only)
      exact ⟨by go_simp, by go_simp, by go_simp⟩
    clear hK K
    (try simp only [Act.put, List.setIfInBounds_toArray, List.set_cons_zero, List.set_cons_succ])
    refine wpAnyT_done (by kernel_rfl) ?_
    simp only [List.drop_succ_cons, List.drop_zero]
    clear hHeld
    go_wp2
    refine bodyPost_ret (v := .tuple #[.agg #[.string s, .slice Z m c], .agg #[.string s, .slice Z' m c']]) (by simp only [results, Try.results33]; go_simp) rfl ⟨s, Z, m, c, ts, s, Z', m, c', ts, max d (d + 1), rfl, ⟨?_, hsz⟩, ⟨?_, hsz'⟩, ?_⟩
    · exact (((((hK5.step (Same.set (by dsimp only; omega) _)).step (Same.set (by dsimp only; omega) _)).step (Same.set (by dsimp only; omega) _)).step (Same.set (by dsimp only; omega) _)).here).le (by omega)
    · exact (((((hK2.step (Same.set (by dsimp only; omega) _)).step (Same.set (by dsimp only; omega) _)).step (Same.set (by dsimp only; omega) _)).step (Same.set (by dsimp only; omega) _)).here).le (by omega)
    · (repeat (first | with_reducible exact Below.refl _ _ | with_reducible assumption | (with_reducible refine below_drewN ?_ _) | (with_reducible refine Below.drew ?_) | (with_reducible refine Below.setCell ?_ (by first | omega | (simp; done) | (simp; omega)) _) | (with_reducible refine Below.alloc ?_ (by first | omega | (simp; done) | (simp; omega)) _) | refine Below.trans ?_ (Below.mono (by with_reducible assumption) (by first | omega | (simp; done) | (simp; omega)))))
end Go.Proofs.Ytgmeoblapnmpiaa

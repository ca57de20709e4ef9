/- Two rows put together: contracts. -/
import Derived.Test.YtccjbipmlpnhkaaWu
import Derived.Test.YtccjbipmlpnhkaaH
namespace Go.Proofs.Ytccjbipmlpnhkaa
set_option maxRecDepth 100000
open Go.RowKit Go.ChangeShapes Go.WideShapes Go.ChangeAt
set_option linter.unusedSimpArgs false
set_option linter.unusedVariables false

theorem own_drewN {w : World} {base : Nat} {t : TypeId} {sz : Nat} {v : Value} {k : Nat} {zs : List Value} (h : w.ownsRow base t sz v k zs) (m : Nat) : (w.drewN m).ownsRow base t sz v k zs := h
theorem news1 {W : World} {E : Nat} {a : Value} {t : TypeId} (hE : W.heap.size = E) : ∀ j u, [a][j]? = some u → (W.alloc (.cells #[a] t)).cell? ((⟨E, 0, none⟩ : Addr).add j) = some u := by
  subst hE
  exact World.news_of_block (cs := #[a]) (t := t) (fr := (0, 0)) (heap_alloc_new _ _)
theorem Ints.set {w : World} {A : Option Addr} {n : Nat} {xs : List Int} (h : Ints w A n xs) {p : Addr} (hne : 0 < n → ∀ a, A = some a → a.block ≠ p.block) (v : Value) : Ints (w.setCell p v) A n xs :=
  ⟨h.len, fun hn => by
    obtain ⟨b, o, e, hl, hc⟩ := h.cells hn
    refine ⟨b, o, e, by simpa [World.setCell] using hl, fun j hj => ?_⟩
    rw [World.cell?_setCell_other _ _ _ _ (fun e2 => hne hn _ e (by rw [e2]))]
    exact hc j hj, h.rng, h.few⟩
def Fresh (lo : Nat) (A : Option Addr) (n : Nat) : Prop := 0 < n → ∀ p, A = some p → lo ≤ p.block
/-- What a sum gives, or not. -/
def SumBk (ok : Bool) (zs : List Int) (z : Int) (t : Bool) (w : World) (e : Ending) (w' : World) : Prop :=
  ∃ (X : Option Addr) (q cap : Nat) (z' : Int) (t' : Bool), e = .returned (.tuple #[.agg #[.slice X q cap, .int .i64 z', .bool t'], .bool ok]) ∧ (ok = true → Ints w' X q zs ∧ Fresh w.heap.size X q ∧ z' = z ∧ t' = t) ∧ Below w.heap.size w w'

theorem iLinSum_bk{A A' : Option Addr} {n0 n0' c c' : Nat} {xs ys : List Int} (b b' : Int) (s s' : Bool) (m n : Int) {w : World} {ok : Bool} (h : Ints w A n0 xs) (h' : Ints w A' n0' ys) (hk : linSumOk m xs b n ys b' = ok) :
    Calls Try.prog 64 #[.agg #[.slice A n0 c, .int .i64 b, .bool s], .int .i64 m, .agg #[.slice A' n0' c', .int .i64 b', .bool s'], .int .i64 n] w (SumBk ok (combo m xs n ys) (m * b + n * b') (strictOr m n s s') w) := by
  cases ok
  · exact (iLinSum_no b b' s s' m n h h' hk).mono fun e w' he => by
      obtain ⟨rfl, hb⟩ := he
      exact ⟨none, 0, 0, 0, false, rfl, fun h => absurd h (by simp), hb⟩
  · obtain ⟨hx, hy, ⟨hm1, hm2⟩, ⟨hn1, hn2⟩, hfin⟩ := linSumOk_iff.1 hk
    exact (iLinSum_yes b b' s s' m n h h' hx hy hm1 hm2 hn1 hn2 hfin).mono fun e w' he => by
      obtain ⟨g, cap, rfl, ⟨hI, hF⟩, hcap, hg, hb⟩ := he
      exact ⟨_, _, _, _, _, rfl, fun _ => ⟨hI, fun _ p e => by obtain rfl := Option.some.inj e; exact hg, rfl, rfl⟩, hb⟩

theorem gcdIs (x y gg : Int) (h : (Int.gcd x (-y) : Int) = gg) (hx : 0 ≤ x ∧ x ≤ 1000000) (hy : -1000000 ≤ y ∧ y ≤ 0) (w : World) :
    Calls Try.prog 108 #[.int .i64 x, .int .i64 (-y)] w fun e w' => e = .returned (.int .i64 gg) ∧ ∃ n, w' = w.drewN n := by
  subst h; exact l1Gcd_any x (-y) (by omega) (by omega) (by omega) (by omega) w
theorem l2Add_bk {A A' : Option Addr} {n0 n0' c c' : Nat} {xs ys : List Int} (b b' : Int) (s s' : Bool) (m n : Int) {w : World} {ok : Bool} (h : Ints w A n0 xs) (h' : Ints w A' n0' ys) (hx : linOk xs b = true) (hy : linOk ys b' = true)
    (hm : 0 ≤ m ∧ m ≤ 1000000) (hn : 0 ≤ n ∧ n ≤ 1000000) (hk : linSumOk m xs b n ys b' = ok) :
    Calls Try.prog 95 #[.agg #[.slice A n0 c, .int .i64 b, .bool s], .int .i64 m, .agg #[.slice A' n0' c', .int .i64 b', .bool s'], .int .i64 n] w (SumBk ok (combo m xs n ys) (m * b + n * b') (strictOr m n s s') w) := by
  have hwm : within m 0 1000000 = true := within_iff.2 hm
  have hwn : within n 0 1000000 = true := within_iff.2 hn
  have hfin : linOk (combo m xs n ys) (m * b + n * b') = ok := by rw [← hk]; simp [linSumOk, hx, hy, hwm, hwn]
  cases ok
  · exact (l2Add_no b b' s s' m n h h' hx hy hm.1 hm.2 hn.1 hn.2 hfin).mono fun e w' he => by
      obtain ⟨rfl, hb⟩ := he
      exact ⟨none, 0, 0, 0, false, rfl, fun h => absurd h (by simp), hb⟩
  · exact (l2Add_yes b b' s s' m n h h' hx hy hm.1 hm.2 hn.1 hn.2 hfin).mono fun e w' he => by
      obtain ⟨g, cap, rfl, ⟨hI, hF⟩, hcap, hg, hb⟩ := he
      exact ⟨_, _, _, _, _, rfl, fun _ => ⟨hI, fun _ p e => by obtain rfl := Option.some.inj e; exact hg, rfl, rfl⟩, hb⟩
/-- Block G is a row whose uses are being appended: k so far, below G nothing turns. -/
structure UB (w : World) (G : Nat) (v : Value) (k : Nat) (us : List Int) (x0 x1 x2 : Value) : Prop where
  own : w.ownsRow (G + 1) 3 1 v k (us.map (Value.int .i64))
  c0 : w.cell? ⟨G, 0, none⟩ = some x0
  c1 : w.cell? ⟨G, 1, none⟩ = some x1
  c2 : w.cell? ⟨G, 2, none⟩ = some x2
  c3 : w.cell? ⟨G, 3, none⟩ = some v
  f3 : w.frozen? ⟨G, 3, none⟩ = false
theorem UB.lt {w : World} {G : Nat} {v : Value} {k : Nat} {us : List Int} {x0 x1 x2 : Value} (h : UB w G v k us x0 x1 x2) : G < w.heap.size := World.block_lt_of_cell? _ _ h.c0
theorem UB.step {w0 w wm w2 : World} {G : Nat} {v : Value} {k : Nat} {us : List Int} {x0 x1 x2 : Value} {x : Int} {g cap : Nat} (h : UB w G v k us x0 x1 x2) (hB : Below G w0 w) (hm : Below w.heap.size w wm) (hg : wm.grownBy w2 v.ownBlock)
    (ho : w2.ownsRow (G + 1) 3 1 (.slice (some ⟨g, 0, none⟩) (k + 1) cap) (k + 1) (us.map (Value.int .i64) ++ [.int .i64 x])) :
    UB (w2.setCell ⟨G, 3, none⟩ (.slice (some ⟨g, 0, none⟩) (k + 1) cap)) G (.slice (some ⟨g, 0, none⟩) (k + 1) cap) (k + 1) (us ++ [x]) x0 x1 x2 ∧ Below G w0 (w2.setCell ⟨G, 3, none⟩ (.slice (some ⟨g, 0, none⟩) (k + 1) cap)) ∧ w2.cell? ⟨G, 3, none⟩ = some v ∧ w2.frozen? ⟨G, 3, none⟩ = false := by
  have hl := h.lt
  have hlm : G < wm.heap.size := Nat.lt_of_lt_of_le hl hm.size
  have hne : v.ownBlock ≠ some G := fun e => by have := (h.own.lt G e).1; omega
  have hc : ∀ o, w2.cell? ⟨G, o, none⟩ = w.cell? ⟨G, o, none⟩ := fun o => (hg.cell_far ⟨G, o, none⟩ hlm (fun e => hne e.symm)).trans (hm.cell (p := ⟨G, o, none⟩) hl)
  have hf : w2.frozen? ⟨G, 3, none⟩ = w.frozen? ⟨G, 3, none⟩ := (hg.frozen_far ⟨G, 3, none⟩ hlm (fun e => hne e.symm)).trans (hm.frozen (p := ⟨G, 3, none⟩) hl)
  have hgG : G + 1 ≤ g := (ho.lt g rfl).1
  have c0 := (hc 0).trans h.c0
  have hl2 : G < w2.heap.size := World.block_lt_of_cell? _ _ c0
  refine ⟨⟨?_, ?_, ?_, ?_, ?_, ?_⟩, ?_, (hc 3).trans h.c3, hf.trans h.f3⟩
  · rw [List.map_append]
    exact Go.ownsRow_setCell_other ho (by simp [Value.ownBlock]; omega) _
  · rw [World.cell?_setCell_other _ _ _ _ (by simp)]; exact c0
  · rw [World.cell?_setCell_other _ _ _ _ (by simp)]; exact (hc 1).trans h.c1
  · rw [World.cell?_setCell_other _ _ _ _ (by simp)]; exact (hc 2).trans h.c2
  · exact World.cell?_setCell_same _ _ _ ((hc 3).trans h.c3)
  · rw [World.frozen?_setCell]; exact hf.trans h.f3
  · have hm' : Below G w wm := hm.mono (by omega)
    refine ((hB.trans hm').grown hg (by have := hm.size; omega) (fun j hj => ?_)).setCell (Nat.le_refl _) _
    have := (h.own.lt j hj).1
    omega
theorem UB.start (w : World) (x0 x1 x2 : Value) (t : TypeId) : UB (w.alloc (.cells #[x0, x1, x2, .slice none 0 0] t)) w.heap.size (.slice none 0 0) 0 [] x0 x1 x2 :=
  ⟨⟨by simp, .inl ⟨rfl, rfl⟩⟩, by simp [go_sem], by simp [go_sem], by simp [go_sem], by simp [go_sem], by simp [go_sem]⟩
theorem UB.ints {w : World} {G : Nat} {A : Option Addr} {k n c : Nat} {us : List Int} {x0 x1 x2 : Value} (h : UB w G (.slice A n c) k us x0 x1 x2) (hr : ∀ j, J64 (us.getD j 0)) (hk : k ≤ 9223372036854775807) : Ints w A k us ∧ Fresh G A k := by
  have hl : us.length = k := by have := h.own.1; simpa using this
  by_cases h0 : 0 < k
  · obtain ⟨g, cap, e, hg, _⟩ := h.own.form h0
    simp only [Value.slice.injEq] at e
    obtain ⟨rfl, rfl, rfl⟩ := e
    refine ⟨Ints.of_own h.own (fun j hj => ?_) hl hr hk, fun _ p e => by obtain rfl := Option.some.inj e; show G ≤ g; omega⟩
    rw [List.getElem?_map, List.getElem?_eq_getElem (show j < us.length by omega), List.getD_eq_getElem?_getD, List.getElem?_eq_getElem (show j < us.length by omega)]
    rfl
  · exact ⟨⟨hl, fun h => absurd h h0, hr, hk⟩, fun h => absurd h h0⟩
theorem UB.form {w : World} {G : Nat} {v : Value} {k : Nat} {us : List Int} {x0 x1 x2 : Value} (h : UB w G v k us x0 x1 x2) : ∃ A c, v = .slice A k c := by
  rcases h.own.2 with ⟨rfl, rfl⟩ | ⟨g, cap, _, rfl, _⟩
  · exact ⟨none, 0, rfl⟩
  · exact ⟨some ⟨g, 0, none⟩, cap, rfl⟩
theorem usesOk_succ {us : List Int} {k : Nat} (hk : k < us.length) : usesOk (us.take (k + 1)) = (usesOk (us.take k) && decide (us.getD k 0 ≤ 1000000)) := by
  rw [← take_snoc us hk]
  unfold usesOk
  rw [List.all_append]
  simp
/-- What two rows together give, or not. -/
def PairBack (ok : Bool) (r : RowV) (w : World) (e : Ending) (w' : World) : Prop :=
  ∃ (A : Option Addr) (m c : Nat) (z : Int) (t : Bool) (B : Option Addr) (p d : Nat), e = .returned (.tuple #[.agg #[.slice A m c, .int .i64 z, .bool t, .slice B p d], .bool ok]) ∧
    (ok = true → (Ints w' A m r.1.1 ∧ Ints w' B p r.2) ∧ (Fresh w.heap.size A m ∧ Fresh w.heap.size B p) ∧ z = r.1.2.1 ∧ t = r.1.2.2) ∧ Below w.heap.size w w'

set_option maxHeartbeats 16000000 in
theorem iPaired_any {xs ys us vs : List Int} {A A' B B' : Option Addr} {c c' d d' n0 n0' p0 p0' N v : Nat} (b b' : Int) (s s' : Bool) {w : World} (h : Ints w A n0 xs) (h' : Ints w A' n0' ys) (hu : Ints w B p0 us) (hu' : Ints w B' p0' vs)
    (ha : RowOk N ((xs, b, s), us)) (hb : RowOk N ((ys, b', s'), vs)) (hv : v < 4) (hN : N ≤ 1000) (h1 : 0 < cf ((xs, b, s), us) v) (h2 : cf ((ys, b', s'), vs) v < 0) :
    Calls Try.prog 81 #[.agg #[.slice A n0 c, .int .i64 b, .bool s, .slice B p0 d], .agg #[.slice A' n0' c', .int .i64 b', .bool s', .slice B' p0' d'], .int .i64 v] w (PairBack (pairOk ((xs, b, s), us) ((ys, b', s'), vs) v) (pairRow ((xs, b, s), us) ((ys, b', s'), vs) v) w) := by
  obtain ⟨ok, hok⟩ : ∃ ok, pairOk ((xs, b, s), us) ((ys, b', s'), vs) v = ok := ⟨_, rfl⟩
  rw [hok]
  obtain ⟨x, hx⟩ : ∃ x, xs.getD v 0 = x := ⟨_, rfl⟩
  obtain ⟨y, hy⟩ : ∃ y, ys.getD v 0 = y := ⟨_, rfl⟩
  have hg0 := pg_pos (b := ((ys, b', s'), vs)) h1
  have hpb := pp_bd (b := ((ys, b', s'), vs)) ha h1
  have hqb := qq_bd hb h1 h2
  have hca := ha.cf v
  have hcb := hb.cf v
  obtain ⟨gg, hgg⟩ : ∃ g, pg ((xs, b, s), us) ((ys, b', s'), vs) v = g := ⟨_, rfl⟩
  obtain ⟨pv, hpv⟩ : ∃ g, pp ((xs, b, s), us) ((ys, b', s'), vs) v = g := ⟨_, rfl⟩
  obtain ⟨qv, hqv⟩ : ∃ g, qq ((xs, b, s), us) ((ys, b', s'), vs) v = g := ⟨_, rfl⟩
  have hR : pairRow ((xs, b, s), us) ((ys, b', s'), vs) v = ((combo qv xs pv ys, qv * b + pv * b', strictOr qv pv s s'), combo qv us pv vs) := by rw [← hqv, ← hpv]; rfl
  have hO : (linSumOk qv xs b pv ys b' && usesOk (combo qv us pv vs)) = ok := by rw [← hqv, ← hpv]; exact hok
  rw [hR]
  rw [hgg] at hg0
  rw [hpv] at hpb
  rw [hqv] at hqb
  have HG : Hid ((Int.gcd x (-y) : Int) = gg) := Lib.hid (by rw [← hgg, ← hx, ← hy]; rfl)
  have HP : Hid (x.tdiv gg = pv) := Lib.hid (by rw [← hpv, ← hx, ← hgg]; rfl)
  have HQ : Hid ((-y).tdiv gg = qv) := Lib.hid (by rw [← hqv, ← hy, ← hgg]; rfl)
  have h1x : 0 < x := by rw [← hx]; exact h1
  have h2y : y < 0 := by rw [← hy]; exact h2
  have hca' : -1000000 ≤ x ∧ x ≤ 1000000 := by rw [← hx]; exact hca
  have hcb' : -1000000 ≤ y ∧ y ≤ 1000000 := by rw [← hy]; exact hcb
  clear hgg hpv hqv hR hca hcb hok h1 h2
  obtain ⟨hl4, _, _⟩ := linOk_len ha.lin
  obtain ⟨hl4', _, _⟩ := linOk_len hb.lin
  have hn4 : n0 = 4 := h.len.symm.trans hl4
  have hn4' : n0' = 4 := h'.len.symm.trans hl4'
  have hp4 : N = p0 := ha.len.symm.trans hu.len
  have hp4' : N = p0' := hb.len.symm.trans hu'.len
  subst hn4 hn4' hp4 hp4'
  clear hl4 hl4'
  obtain ⟨okl, hokl⟩ : ∃ o, linSumOk qv xs b pv ys b' = o := ⟨_, rfl⟩
  rw [hokl] at hO
  have HO := Lib.hid hO
  have HKL := Lib.hid hokl
  clear hO hokl
  obtain ⟨pa, oa, rfl, hpa, hcx⟩ := h.cells (by omega)
  obtain ⟨pb, ob, rfl, hpb2, hcy⟩ := h'.cells (by omega)
  have hcx1 := hcx v hv
  have hcy1 := hcy v hv
  rw [hx] at hcx1
  rw [hy] at hcy1
  clear hcx hcy hx hy
  have hNf := hu.few
  have hpa1 : pa < w.heap.size + 1 := by omega
  have hpa2 : pa < w.heap.size + 1 + 1 := by omega
  have hpb1 : pb < w.heap.size + 1 := by omega
  have hpb3 : pb < w.heap.size + 1 + 1 := by omega
  go_enter Try.func81, Try.ntmps81
  go_wp2
  go_quiet (fail)
  go_wp2_with fail
  refine (gcd_any x (-y) (by omega) (by omega) (by omega) (by omega) _).mono ?_
  rw [HG.out]
  rintro e w1 ⟨rfl, nq1, rfl⟩
  have e1 : x / gg = pv := by rw [← HP.out, Int.tdiv_eq_ediv_of_nonneg (by omega)]
  have e2 : wrap64 (-y.tdiv gg) = qv := by
    have h0 : -y.tdiv gg = qv := by rw [← HQ.out, Int.neg_tdiv]
    rw [h0]
    unfold wrap64; omega
  go_wp2
  go_quiet (fail)
  go_wp2_with fail
  refine (iLinSum_bk (xs := xs) (ys := ys) b b' s s' qv pv (h.later (by (repeat (first | with_reducible exact Below.refl _ _ | with_reducible assumption | (with_reducible refine below_drewN ?_ _) | (with_reducible refine Below.drew ?_) | (with_reducible refine Below.setCell ?_ (by first | omega | (simp; done) | (simp; omega)) _) | (with_reducible refine Below.alloc ?_ (by first | omega | (simp; done) | (simp; omega)) _) | refine Below.trans ?_ (Below.mono (by with_reducible assumption) (by first | omega | (simp; done) | (simp; omega))))))) (h'.later (by (repeat (first | with_reducible exact Below.refl _ _ | with_reducible assumption | (with_reducible refine below_drewN ?_ _) | (with_reducible refine Below.drew ?_) | (with_reducible refine Below.setCell ?_ (by first | omega | (simp; done) | (simp; omega)) _) | (with_reducible refine Below.alloc ?_ (by first | omega | (simp; done) | (simp; omega)) _) | refine Below.trans ?_ (Below.mono (by with_reducible assumption) (by first | omega | (simp; done) | (simp; omega))))))) HKL.out).mono ?_
  rintro e w1 ⟨X, q, cap, z', t', rfl, hS, hb1⟩
  have HSX := Lib.hid hS
  have hz1 := hb1.size; (try simp at hz1); have hB1 : Below w.heap.size w w1 := (by refine Below.trans ?_ (Below.mono hb1 (by first | omega | (simp; done) | (simp; omega))); (repeat (first | with_reducible exact Below.refl _ _ | with_reducible assumption | (with_reducible refine below_drewN ?_ _) | (with_reducible refine Below.drew ?_) | (with_reducible refine Below.setCell ?_ (by first | omega | (simp; done) | (simp; omega)) _) | (with_reducible refine Below.alloc ?_ (by first | omega | (simp; done) | (simp; omega)) _) | refine Below.trans ?_ (Below.mono (by with_reducible assumption) (by first | omega | (simp; done) | (simp; omega)))))); obtain ⟨kc_, fc_, lc_⟩ := keep_later (a := ⟨w.heap.size, 0, none⟩) (v := .slice (some ⟨pa, oa, none⟩) 4 c) hb1 (by go_simp) (by go_simp); obtain ⟨kc_, fc_, lc_⟩ := keep_later (a := ⟨w.heap.size, 1, none⟩) (v := .int .i64 b) hb1 (by go_simp) (by go_simp); obtain ⟨kc_, fc_, lc_⟩ := keep_later (a := ⟨w.heap.size, 2, none⟩) (v := .bool s) hb1 (by go_simp) (by go_simp); obtain ⟨kc_, fc_, lc_⟩ := keep_later (a := ⟨w.heap.size, 3, none⟩) (v := .slice B N d) hb1 (by go_simp) (by go_simp); obtain ⟨kc_, fc_, lc_⟩ := keep_later (a := ⟨w.heap.size+1, 0, none⟩) (v := .slice (some ⟨pb, ob, none⟩) 4 c') hb1 (by go_simp) (by go_simp); obtain ⟨kc_, fc_, lc_⟩ := keep_later (a := ⟨w.heap.size+1, 1, none⟩) (v := .int .i64 b') hb1 (by go_simp) (by go_simp); obtain ⟨kc_, fc_, lc_⟩ := keep_later (a := ⟨w.heap.size+1, 2, none⟩) (v := .bool s') hb1 (by go_simp) (by go_simp); obtain ⟨kc_, fc_, lc_⟩ := keep_later (a := ⟨w.heap.size+1, 3, none⟩) (v := .slice B' N d') hb1 (by go_simp) (by go_simp); obtain ⟨kc_, fc_, lc_⟩ := keep_later (a := ⟨w.heap.size+1+1, 0, none⟩) (v := .slice none 0 0) hb1 (by go_simp) (by go_simp); obtain ⟨kc_, fc_, lc_⟩ := keep_later (a := ⟨w.heap.size+1+1, 1, none⟩) (v := .int .i64 0) hb1 (by go_simp) (by go_simp); obtain ⟨kc_, fc_, lc_⟩ := keep_later (a := ⟨w.heap.size+1+1, 2, none⟩) (v := .bool false) hb1 (by go_simp) (by go_simp); obtain ⟨kc_, fc_, lc_⟩ := keep_later (a := ⟨w.heap.size+1+1, 3, none⟩) (v := .slice none 0 0) hb1 (by go_simp) (by go_simp)
  clear hb1 hS
  have hst := UB.start (w1.alloc (.cells #[.slice X q cap, .int .i64 z', .bool t'] 34)) (.slice X q cap) (.int .i64 z') (.bool t') 72
  simp only [World.size_alloc] at hst
  obtain ⟨i0, hi, zi0, zi1, zi2⟩ := info_parts int_info
  have hlu := Lib.hid hu.len
  have hlv := Lib.hid hu'.len
  go_wp2_with fail
  go_loopw [12, 53] (fun t i wr => ∃ (k : Nat) (v0 : Value) (tt : Bool), k ≤ N ∧ i = .int .i64 k ∧ t = .bool tt ∧ Hid (tt = (okl && usesOk ((combo qv us pv vs).take k))) ∧ UB wr (w1.heap.size + 1) v0 k ((combo qv us pv vs).take k) (.slice X q cap) (.int .i64 z') (.bool t') ∧ Below (w1.heap.size + 1) (w1.alloc (.cells #[.slice X q cap, .int .i64 z', .bool t'] 34)) wr) (fun _ i _ => N - (intOf i).toNat)
  case atStart => exact ⟨0, _, okl, by omega, rfl, rfl, Lib.hid (by simp [usesOk]), hst, by (repeat (first | with_reducible exact Below.refl _ _ | with_reducible assumption | (with_reducible refine below_drewN ?_ _) | (with_reducible refine Below.drew ?_) | (with_reducible refine Below.setCell ?_ (by first | omega | (simp; done) | (simp; omega)) _) | (with_reducible refine Below.alloc ?_ (by first | omega | (simp; done) | (simp; omega)) _) | refine Below.trans ?_ (Below.mono (by with_reducible assumption) (by first | omega | (simp; done) | (simp; omega)))))⟩
  case round =>
    clear hst
    obtain ⟨k, v0, tt, hk, rfl, rfl, HT, hub, hBw⟩ := hrel
    have hzr := hBw.size
    simp only [World.size_alloc] at hzr
    have u0 := hub.c0
    have u1 := hub.c1
    have u2 := hub.c2
    have u3 := hub.c3
    have uf := hub.f3
    have hul := hub.lt
    have hb1 : Below (w1.alloc (.cells #[.slice X q cap, .int .i64 z', .bool t'] 34)).heap.size (w1.alloc (.cells #[.slice X q cap, .int .i64 z', .bool t'] 34)) wr := by simpa using hBw
    obtain ⟨kc_, fc_, lc_⟩ := keep_later (a := ⟨w.heap.size, 0, none⟩) (v := .slice (some ⟨pa, oa, none⟩) 4 c) hb1 (by go_simp) (by go_simp); obtain ⟨kc_, fc_, lc_⟩ := keep_later (a := ⟨w.heap.size, 1, none⟩) (v := .int .i64 b) hb1 (by go_simp) (by go_simp); obtain ⟨kc_, fc_, lc_⟩ := keep_later (a := ⟨w.heap.size, 2, none⟩) (v := .bool s) hb1 (by go_simp) (by go_simp); obtain ⟨kc_, fc_, lc_⟩ := keep_later (a := ⟨w.heap.size, 3, none⟩) (v := .slice B N d) hb1 (by go_simp) (by go_simp); obtain ⟨kc_, fc_, lc_⟩ := keep_later (a := ⟨w.heap.size+1, 0, none⟩) (v := .slice (some ⟨pb, ob, none⟩) 4 c') hb1 (by go_simp) (by go_simp); obtain ⟨kc_, fc_, lc_⟩ := keep_later (a := ⟨w.heap.size+1, 1, none⟩) (v := .int .i64 b') hb1 (by go_simp) (by go_simp); obtain ⟨kc_, fc_, lc_⟩ := keep_later (a := ⟨w.heap.size+1, 2, none⟩) (v := .bool s') hb1 (by go_simp) (by go_simp); obtain ⟨kc_, fc_, lc_⟩ := keep_later (a := ⟨w.heap.size+1, 3, none⟩) (v := .slice B' N d') hb1 (by go_simp) (by go_simp); obtain ⟨kc_, fc_, lc_⟩ := keep_later (a := ⟨w.heap.size+1+1, 0, none⟩) (v := .slice none 0 0) hb1 (by go_simp) (by go_simp); obtain ⟨kc_, fc_, lc_⟩ := keep_later (a := ⟨w.heap.size+1+1, 1, none⟩) (v := .int .i64 0) hb1 (by go_simp) (by go_simp); obtain ⟨kc_, fc_, lc_⟩ := keep_later (a := ⟨w.heap.size+1+1, 2, none⟩) (v := .bool false) hb1 (by go_simp) (by go_simp); obtain ⟨kc_, fc_, lc_⟩ := keep_later (a := ⟨w.heap.size+1+1, 3, none⟩) (v := .slice none 0 0) hb1 (by go_simp) (by go_simp)
    have hBW : Below w.heap.size w wr := by (repeat (first | with_reducible exact Below.refl _ _ | with_reducible assumption | (with_reducible refine below_drewN ?_ _) | (with_reducible refine Below.drew ?_) | (with_reducible refine Below.setCell ?_ (by first | omega | (simp; done) | (simp; omega)) _) | (with_reducible refine Below.alloc ?_ (by first | omega | (simp; done) | (simp; omega)) _) | refine Below.trans ?_ (Below.mono (by with_reducible assumption) (by first | omega | (simp; done) | (simp; omega)))))
    clear hb1
    by_cases hlt : k < N
    · obtain ⟨e, oe, rfl, he, hce⟩ := hu.cells (by omega)
      obtain ⟨e', oe', rfl, he', hce'⟩ := hu'.cells (by omega)
      have hck := (hBW.cell (p := ⟨e, oe + k, none⟩) he).trans (hce k hlt)
      have hck' := (hBW.cell (p := ⟨e', oe' + k, none⟩) he').trans (hce' k hlt)
      clear hce hce'
      have hua := ha.uses k
      have huv := hb.uses k
      dsimp only at hua huv
      have HN := Lib.hid ((congrArg (fun y => (combo qv us pv vs).take k ++ [y]) (combo_getD (m := qv) (n := pv) (by rw [hlu.out]; exact hlt) (by rw [hlv.out]; exact hlt))).symm.trans (take_snoc (combo qv us pv vs) (by rw [combo_len' hlu.out hlv.out]; exact hlt)))
      have HU := Lib.hid ((usesOk_succ (us := combo qv us pv vs) (k := k) (by rw [combo_len' hlu.out hlv.out]; exact hlt)).trans (by rw [combo_getD (m := qv) (n := pv) (by rw [hlu.out]; exact hlt) (by rw [hlv.out]; exact hlt)]))
      generalize us.getD k 0 = x1 at *
      generalize vs.getD k 0 = x2 at *
      obtain ⟨⟨q1, q2⟩, ⟨q3, q4⟩⟩ := uses_bd hqb hpb hua huv
      have hpr : e < wr.heap.size := by omega
      have hpr' : e' < wr.heap.size := by omega
      have hwx : IntKind.i64.wrap (qv * x1) = qv * x1 := IntWalk.i64_in _ (by omega)
      have hwy : IntKind.i64.wrap (pv * x2) = pv * x2 := IntWalk.i64_in _ (by omega)
      have hwz : IntKind.i64.wrap (qv * x1 + pv * x2) = qv * x1 + pv * x2 := IntWalk.i64_in _ (by omega)
      cases tt
      · go_wp2
        go_quiet (fail)
        go_wp2_with (first | (at_builtin; refine wpList_append_lies _ (by rfl) (.tmp 77) (.tmp 79) _ (by rfl) (w1.heap.size + 1 + 1) 3 i0 _ 1 8 Try.underlying29 hi zi0 zi1 zi2 rfl (by omega) v0 k _ (by rfl) ((own_drewN hub.own _).alloc _) ⟨wr.heap.size, 0, none⟩ 1 1 [.int .i64 (qv * x1 + pv * x2)] (by rfl) (by rfl) (news1 (by first | omega | (simp; done) | (simp; omega))) (by simp [Value.oneCell']) (by omega) (by unfold maxLen; omega) (by omega) (by first | omega | (simp; done) | (simp; omega)) (wr.heap.size + 1) (by simp) ?_; intro g' cap' wq hown3 hgrow hat hlt2; obtain ⟨hub4, hB4, hu3, hf3⟩ := hub.step hBw (by (repeat (first | with_reducible exact Below.refl _ _ | with_reducible assumption | (with_reducible refine below_drewN ?_ _) | (with_reducible refine Below.drew ?_) | (with_reducible refine Below.setCell ?_ (by first | omega | (simp; done) | (simp; omega)) _) | (with_reducible refine Below.alloc ?_ (by first | omega | (simp; done) | (simp; omega)) _) | refine Below.trans ?_ (Below.mono (by with_reducible assumption) (by first | omega | (simp; done) | (simp; omega)))))) hgrow hown3; have HS := Lib.hid (And.intro hub4 hB4); clear hub4 hB4 hown3 hgrow hat))
        go_roundw
        case rel =>
          have h1 := HS.out.1
          rw [HN.out] at h1
          exact ⟨k + 1, _, false, by omega, by go_num, rfl, Lib.hid (by rw [HU.out, ← Bool.and_assoc, ← HT.out]; simp), h1, HS.out.2⟩
        case measure => simp [intOf]; omega
      · go_wp2
        go_quiet (fail)
        go_wp2_with (first | (at_builtin; refine wpList_append_lies _ (by rfl) (.tmp 77) (.tmp 79) _ (by rfl) (w1.heap.size + 1 + 1) 3 i0 _ 1 8 Try.underlying29 hi zi0 zi1 zi2 rfl (by omega) v0 k _ (by rfl) ((own_drewN hub.own _).alloc _) ⟨wr.heap.size, 0, none⟩ 1 1 [.int .i64 (qv * x1 + pv * x2)] (by rfl) (by rfl) (news1 (by first | omega | (simp; done) | (simp; omega))) (by simp [Value.oneCell']) (by omega) (by unfold maxLen; omega) (by omega) (by first | omega | (simp; done) | (simp; omega)) (wr.heap.size + 1) (by simp) ?_; intro g' cap' wq hown3 hgrow hat hlt2; obtain ⟨hub4, hB4, hu3, hf3⟩ := hub.step hBw (by (repeat (first | with_reducible exact Below.refl _ _ | with_reducible assumption | (with_reducible refine below_drewN ?_ _) | (with_reducible refine Below.drew ?_) | (with_reducible refine Below.setCell ?_ (by first | omega | (simp; done) | (simp; omega)) _) | (with_reducible refine Below.alloc ?_ (by first | omega | (simp; done) | (simp; omega)) _) | refine Below.trans ?_ (Below.mono (by with_reducible assumption) (by first | omega | (simp; done) | (simp; omega)))))) hgrow hown3; have HS := Lib.hid (And.intro hub4 hB4); clear hub4 hB4 hown3 hgrow hat))
        go_roundw
        case rel =>
          have h1 := HS.out.1
          rw [HN.out] at h1
          exact ⟨k + 1, _, (decide (qv * x1 + pv * x2 ≤ 1000000)), by omega, by go_num, rfl, Lib.hid (by rw [HU.out, ← Bool.and_assoc, ← HT.out]; simp), h1, HS.out.2⟩
        case measure => simp [intOf]; omega
    · obtain rfl : k = N := by omega
      obtain ⟨U, cu, rfl⟩ := hub.form
      have hlc := combo_len' (m := qv) (n := pv) hlu.out hlv.out
      rw [List.take_of_length_le (by rw [hlc]; exact Nat.le_refl _)] at hub HT
      have htt : tt = ok := HT.out.trans HO.out
      subst htt
      obtain ⟨hIu, hFu⟩ := hub.ints (fun j => by have := combo_nn hqb hpb hlu.out hlv.out ha.uses hb.uses j; unfold J64; omega) hNf
      have HTT := Lib.hid HT.out
      have HIU := Lib.hid hIu
      clear hub HT hIu
      go_wp2
      refine bodyPost_ret (v := .tuple #[.agg #[.slice X q cap, .int .i64 z', .bool t', .slice U k cu], .bool tt]) (by simp only [results, Try.results81]; go_simp) rfl ⟨X, q, cap, z', t', U, k, cu, rfl, fun ht => ?_, ?_⟩
      · have h1 := HTT.out
        rw [ht] at h1
        have h2 : okl = true := by cases okl <;> simp at h1 ⊢
        obtain ⟨hIX, hFX, rfl, rfl⟩ := HSX.out h2
        have hIX' : Ints wr X q (combo qv xs pv ys) := Ints.later hIX (by (repeat (first | with_reducible exact Below.refl _ _ | with_reducible assumption | (with_reducible refine below_drewN ?_ _) | (with_reducible refine Below.drew ?_) | (with_reducible refine Below.setCell ?_ (by first | omega | (simp; done) | (simp; omega)) _) | (with_reducible refine Below.alloc ?_ (by first | omega | (simp; done) | (simp; omega)) _) | refine Below.trans ?_ (Below.mono (by with_reducible assumption) (by first | omega | (simp; done) | (simp; omega))))))
        have hFX' : Fresh (w.heap.size + 1 + 1 + 1) X q := by simpa using hFX
        refine ⟨⟨?_, ?_⟩, ⟨fun hn p e => by have := hFX' hn p e; omega, fun hn p e => by have := hFu hn p e; omega⟩, rfl, rfl⟩
        · (repeat (refine Ints.set ?_ (fun hn a e => by have := hFX' hn a e; dsimp only; omega) _))
          exact hIX'
        · (repeat (refine Ints.set ?_ (fun hn a e => by have := hFu hn a e; dsimp only; omega) _))
          exact HIU.out
      · (repeat (first | with_reducible exact Below.refl _ _ | with_reducible assumption | (with_reducible refine below_drewN ?_ _) | (with_reducible refine Below.drew ?_) | (with_reducible refine Below.setCell ?_ (by first | omega | (simp; done) | (simp; omega)) _) | (with_reducible refine Below.alloc ?_ (by first | omega | (simp; done) | (simp; omega)) _) | refine Below.trans ?_ (Below.mono (by with_reducible assumption) (by first | omega | (simp; done) | (simp; omega)))))

set_option maxHeartbeats 16000000 in
theorem l3Both_any {xs ys us vs : List Int} {A A' B B' : Option Addr} {c c' d d' n0 n0' p0 p0' N v : Nat} (b b' : Int) (s s' : Bool) {w : World} (h : Ints w A n0 xs) (h' : Ints w A' n0' ys) (hu : Ints w B p0 us) (hu' : Ints w B' p0' vs)
    (ha : RowOk N ((xs, b, s), us)) (hb : RowOk N ((ys, b', s'), vs)) (hv : v < 4) (hN : N ≤ 1000) (h1 : 0 < cf ((xs, b, s), us) v) (h2 : cf ((ys, b', s'), vs) v < 0) :
    Calls Try.prog 83 #[.agg #[.slice A n0 c, .int .i64 b, .bool s, .slice B p0 d], .agg #[.slice A' n0' c', .int .i64 b', .bool s', .slice B' p0' d'], .int .i64 v] w (PairBack (pairOk ((xs, b, s), us) ((ys, b', s'), vs) v) (pairRow ((xs, b, s), us) ((ys, b', s'), vs) v) w) := by
  have hlx := ha.lin
  have hly := hb.lin
  obtain ⟨ok, hok⟩ : ∃ ok, pairOk ((xs, b, s), us) ((ys, b', s'), vs) v = ok := ⟨_, rfl⟩
  rw [hok]
  obtain ⟨x, hx⟩ : ∃ x, xs.getD v 0 = x := ⟨_, rfl⟩
  obtain ⟨y, hy⟩ : ∃ y, ys.getD v 0 = y := ⟨_, rfl⟩
  have hg0 := pg_pos (b := ((ys, b', s'), vs)) h1
  have hpb := pp_bd (b := ((ys, b', s'), vs)) ha h1
  have hqb := qq_bd hb h1 h2
  have hca := ha.cf v
  have hcb := hb.cf v
  obtain ⟨gg, hgg⟩ : ∃ g, pg ((xs, b, s), us) ((ys, b', s'), vs) v = g := ⟨_, rfl⟩
  obtain ⟨pv, hpv⟩ : ∃ g, pp ((xs, b, s), us) ((ys, b', s'), vs) v = g := ⟨_, rfl⟩
  obtain ⟨qv, hqv⟩ : ∃ g, qq ((xs, b, s), us) ((ys, b', s'), vs) v = g := ⟨_, rfl⟩
  have hR : pairRow ((xs, b, s), us) ((ys, b', s'), vs) v = ((combo qv xs pv ys, qv * b + pv * b', strictOr qv pv s s'), combo qv us pv vs) := by rw [← hqv, ← hpv]; rfl
  have hO : (linSumOk qv xs b pv ys b' && usesOk (combo qv us pv vs)) = ok := by rw [← hqv, ← hpv]; exact hok
  rw [hR]
  rw [hgg] at hg0
  rw [hpv] at hpb
  rw [hqv] at hqb
  have HG : Hid ((Int.gcd x (-y) : Int) = gg) := Lib.hid (by rw [← hgg, ← hx, ← hy]; rfl)
  have HP : Hid (x.tdiv gg = pv) := Lib.hid (by rw [← hpv, ← hx, ← hgg]; rfl)
  have HQ : Hid ((-y).tdiv gg = qv) := Lib.hid (by rw [← hqv, ← hy, ← hgg]; rfl)
  have h1x : 0 < x := by rw [← hx]; exact h1
  have h2y : y < 0 := by rw [← hy]; exact h2
  have hca' : -1000000 ≤ x ∧ x ≤ 1000000 := by rw [← hx]; exact hca
  have hcb' : -1000000 ≤ y ∧ y ≤ 1000000 := by rw [← hy]; exact hcb
  clear hgg hpv hqv hR hca hcb hok h1 h2
  obtain ⟨hl4, _, _⟩ := linOk_len ha.lin
  obtain ⟨hl4', _, _⟩ := linOk_len hb.lin
  have hn4 : n0 = 4 := h.len.symm.trans hl4
  have hn4' : n0' = 4 := h'.len.symm.trans hl4'
  have hp4 : N = p0 := ha.len.symm.trans hu.len
  have hp4' : N = p0' := hb.len.symm.trans hu'.len
  subst hn4 hn4' hp4 hp4'
  clear hl4 hl4'
  obtain ⟨okl, hokl⟩ : ∃ o, linSumOk qv xs b pv ys b' = o := ⟨_, rfl⟩
  rw [hokl] at hO
  have HO := Lib.hid hO
  have HKL := Lib.hid hokl
  clear hO hokl
  obtain ⟨pa, oa, rfl, hpa, hcx⟩ := h.cells (by omega)
  obtain ⟨pb, ob, rfl, hpb2, hcy⟩ := h'.cells (by omega)
  have hcx1 := hcx v hv
  have hcy1 := hcy v hv
  rw [hx] at hcx1
  rw [hy] at hcy1
  clear hcx hcy hx hy
  have hNf := hu.few
  have hpa1 : pa < w.heap.size + 1 := by omega
  have hpa2 : pa < w.heap.size + 1 + 1 := by omega
  have hpb1 : pb < w.heap.size + 1 := by omega
  have hpb3 : pb < w.heap.size + 1 + 1 := by omega
  go_enter Try.func83, Try.ntmps83
  go_wp2
  go_quiet (first | (go_at_call 108; exact Calls.quiet_of (gcdIs x y gg HG.out (by omega) (by omega) _)))
  have e1 : x / gg = pv := by rw [← HP.out, Int.tdiv_eq_ediv_of_nonneg (by omega)]
  have e2 : wrap64 (-y.tdiv gg) = qv := by
    have h0 : -y.tdiv gg = qv := by rw [← HQ.out, Int.neg_tdiv]
    rw [h0]
    unfold wrap64; omega
  go_wp2_with fail
  refine (l2Add_bk (xs := xs) (ys := ys) b b' s s' qv pv (h.later (by (repeat (first | with_reducible exact Below.refl _ _ | with_reducible assumption | (with_reducible refine below_drewN ?_ _) | (with_reducible refine Below.drew ?_) | (with_reducible refine Below.setCell ?_ (by first | omega | (simp; done) | (simp; omega)) _) | (with_reducible refine Below.alloc ?_ (by first | omega | (simp; done) | (simp; omega)) _) | refine Below.trans ?_ (Below.mono (by with_reducible assumption) (by first | omega | (simp; done) | (simp; omega))))))) (h'.later (by (repeat (first | with_reducible exact Below.refl _ _ | with_reducible assumption | (with_reducible refine below_drewN ?_ _) | (with_reducible refine Below.drew ?_) | (with_reducible refine Below.setCell ?_ (by first | omega | (simp; done) | (simp; omega)) _) | (with_reducible refine Below.alloc ?_ (by first | omega | (simp; done) | (simp; omega)) _) | refine Below.trans ?_ (Below.mono (by with_reducible assumption) (by first | omega | (simp; done) | (simp; omega))))))) hlx hly hqb hpb HKL.out).mono ?_
  rintro e w1 ⟨X, q, cap, z', t', rfl, hS, hb1⟩
  have HSX := Lib.hid hS
  have hz1 := hb1.size; (try simp at hz1); have hB1 : Below w.heap.size w w1 := (by refine Below.trans ?_ (Below.mono hb1 (by first | omega | (simp; done) | (simp; omega))); (repeat (first | with_reducible exact Below.refl _ _ | with_reducible assumption | (with_reducible refine below_drewN ?_ _) | (with_reducible refine Below.drew ?_) | (with_reducible refine Below.setCell ?_ (by first | omega | (simp; done) | (simp; omega)) _) | (with_reducible refine Below.alloc ?_ (by first | omega | (simp; done) | (simp; omega)) _) | refine Below.trans ?_ (Below.mono (by with_reducible assumption) (by first | omega | (simp; done) | (simp; omega)))))); obtain ⟨kc_, fc_, lc_⟩ := keep_later (a := ⟨w.heap.size, 0, none⟩) (v := .slice (some ⟨pa, oa, none⟩) 4 c) hb1 (by go_simp) (by go_simp); obtain ⟨kc_, fc_, lc_⟩ := keep_later (a := ⟨w.heap.size, 1, none⟩) (v := .int .i64 b) hb1 (by go_simp) (by go_simp); obtain ⟨kc_, fc_, lc_⟩ := keep_later (a := ⟨w.heap.size, 2, none⟩) (v := .bool s) hb1 (by go_simp) (by go_simp); obtain ⟨kc_, fc_, lc_⟩ := keep_later (a := ⟨w.heap.size, 3, none⟩) (v := .slice B N d) hb1 (by go_simp) (by go_simp); obtain ⟨kc_, fc_, lc_⟩ := keep_later (a := ⟨w.heap.size+1, 0, none⟩) (v := .slice (some ⟨pb, ob, none⟩) 4 c') hb1 (by go_simp) (by go_simp); obtain ⟨kc_, fc_, lc_⟩ := keep_later (a := ⟨w.heap.size+1, 1, none⟩) (v := .int .i64 b') hb1 (by go_simp) (by go_simp); obtain ⟨kc_, fc_, lc_⟩ := keep_later (a := ⟨w.heap.size+1, 2, none⟩) (v := .bool s') hb1 (by go_simp) (by go_simp); obtain ⟨kc_, fc_, lc_⟩ := keep_later (a := ⟨w.heap.size+1, 3, none⟩) (v := .slice B' N d') hb1 (by go_simp) (by go_simp); obtain ⟨kc_, fc_, lc_⟩ := keep_later (a := ⟨w.heap.size+1+1, 0, none⟩) (v := .slice none 0 0) hb1 (by go_simp) (by go_simp); obtain ⟨kc_, fc_, lc_⟩ := keep_later (a := ⟨w.heap.size+1+1, 1, none⟩) (v := .int .i64 0) hb1 (by go_simp) (by go_simp); obtain ⟨kc_, fc_, lc_⟩ := keep_later (a := ⟨w.heap.size+1+1, 2, none⟩) (v := .bool false) hb1 (by go_simp) (by go_simp); obtain ⟨kc_, fc_, lc_⟩ := keep_later (a := ⟨w.heap.size+1+1, 3, none⟩) (v := .slice none 0 0) hb1 (by go_simp) (by go_simp)
  clear hb1 hS
  have hst := UB.start (w1.alloc (.cells #[.slice X q cap, .int .i64 z', .bool t'] 34)) (.slice X q cap) (.int .i64 z') (.bool t') 79
  simp only [World.size_alloc] at hst
  obtain ⟨i0, hi, zi0, zi1, zi2⟩ := info_parts int_info
  have hlu := Lib.hid hu.len
  have hlv := Lib.hid hu'.len
  go_wp2_with fail
  go_loopw [12, 14] (fun t i wr => ∃ (k : Nat) (v0 : Value) (tt : Bool), k ≤ N ∧ i = .int .i64 k ∧ t = .bool tt ∧ Hid (tt = (okl && usesOk ((combo qv us pv vs).take k))) ∧ UB wr (w1.heap.size + 1) v0 k ((combo qv us pv vs).take k) (.slice X q cap) (.int .i64 z') (.bool t') ∧ Below (w1.heap.size + 1) (w1.alloc (.cells #[.slice X q cap, .int .i64 z', .bool t'] 34)) wr) (fun _ i _ => N - (intOf i).toNat)
  case atStart => exact ⟨0, _, okl, by omega, rfl, rfl, Lib.hid (by simp [usesOk]), hst, by (repeat (first | with_reducible exact Below.refl _ _ | with_reducible assumption | (with_reducible refine below_drewN ?_ _) | (with_reducible refine Below.drew ?_) | (with_reducible refine Below.setCell ?_ (by first | omega | (simp; done) | (simp; omega)) _) | (with_reducible refine Below.alloc ?_ (by first | omega | (simp; done) | (simp; omega)) _) | refine Below.trans ?_ (Below.mono (by with_reducible assumption) (by first | omega | (simp; done) | (simp; omega)))))⟩
  case round =>
    clear hst
    obtain ⟨k, v0, tt, hk, rfl, rfl, HT, hub, hBw⟩ := hrel
    have hzr := hBw.size
    simp only [World.size_alloc] at hzr
    have u0 := hub.c0
    have u1 := hub.c1
    have u2 := hub.c2
    have u3 := hub.c3
    have uf := hub.f3
    have hul := hub.lt
    have hb1 : Below (w1.alloc (.cells #[.slice X q cap, .int .i64 z', .bool t'] 34)).heap.size (w1.alloc (.cells #[.slice X q cap, .int .i64 z', .bool t'] 34)) wr := by simpa using hBw
    obtain ⟨kc_, fc_, lc_⟩ := keep_later (a := ⟨w.heap.size, 0, none⟩) (v := .slice (some ⟨pa, oa, none⟩) 4 c) hb1 (by go_simp) (by go_simp); obtain ⟨kc_, fc_, lc_⟩ := keep_later (a := ⟨w.heap.size, 1, none⟩) (v := .int .i64 b) hb1 (by go_simp) (by go_simp); obtain ⟨kc_, fc_, lc_⟩ := keep_later (a := ⟨w.heap.size, 2, none⟩) (v := .bool s) hb1 (by go_simp) (by go_simp); obtain ⟨kc_, fc_, lc_⟩ := keep_later (a := ⟨w.heap.size, 3, none⟩) (v := .slice B N d) hb1 (by go_simp) (by go_simp); obtain ⟨kc_, fc_, lc_⟩ := keep_later (a := ⟨w.heap.size+1, 0, none⟩) (v := .slice (some ⟨pb, ob, none⟩) 4 c') hb1 (by go_simp) (by go_simp); obtain ⟨kc_, fc_, lc_⟩ := keep_later (a := ⟨w.heap.size+1, 1, none⟩) (v := .int .i64 b') hb1 (by go_simp) (by go_simp); obtain ⟨kc_, fc_, lc_⟩ := keep_later (a := ⟨w.heap.size+1, 2, none⟩) (v := .bool s') hb1 (by go_simp) (by go_simp); obtain ⟨kc_, fc_, lc_⟩ := keep_later (a := ⟨w.heap.size+1, 3, none⟩) (v := .slice B' N d') hb1 (by go_simp) (by go_simp); obtain ⟨kc_, fc_, lc_⟩ := keep_later (a := ⟨w.heap.size+1+1, 0, none⟩) (v := .slice none 0 0) hb1 (by go_simp) (by go_simp); obtain ⟨kc_, fc_, lc_⟩ := keep_later (a := ⟨w.heap.size+1+1, 1, none⟩) (v := .int .i64 0) hb1 (by go_simp) (by go_simp); obtain ⟨kc_, fc_, lc_⟩ := keep_later (a := ⟨w.heap.size+1+1, 2, none⟩) (v := .bool false) hb1 (by go_simp) (by go_simp); obtain ⟨kc_, fc_, lc_⟩ := keep_later (a := ⟨w.heap.size+1+1, 3, none⟩) (v := .slice none 0 0) hb1 (by go_simp) (by go_simp)
    have hBW : Below w.heap.size w wr := by (repeat (first | with_reducible exact Below.refl _ _ | with_reducible assumption | (with_reducible refine below_drewN ?_ _) | (with_reducible refine Below.drew ?_) | (with_reducible refine Below.setCell ?_ (by first | omega | (simp; done) | (simp; omega)) _) | (with_reducible refine Below.alloc ?_ (by first | omega | (simp; done) | (simp; omega)) _) | refine Below.trans ?_ (Below.mono (by with_reducible assumption) (by first | omega | (simp; done) | (simp; omega)))))
    clear hb1
    by_cases hlt : k < N
    · obtain ⟨e, oe, rfl, he, hce⟩ := hu.cells (by omega)
      obtain ⟨e', oe', rfl, he', hce'⟩ := hu'.cells (by omega)
      have hck := (hBW.cell (p := ⟨e, oe + k, none⟩) he).trans (hce k hlt)
      have hck' := (hBW.cell (p := ⟨e', oe' + k, none⟩) he').trans (hce' k hlt)
      clear hce hce'
      have hua := ha.uses k
      have huv := hb.uses k
      dsimp only at hua huv
      have HN := Lib.hid ((congrArg (fun y => (combo qv us pv vs).take k ++ [y]) (combo_getD (m := qv) (n := pv) (by rw [hlu.out]; exact hlt) (by rw [hlv.out]; exact hlt))).symm.trans (take_snoc (combo qv us pv vs) (by rw [combo_len' hlu.out hlv.out]; exact hlt)))
      have HU := Lib.hid ((usesOk_succ (us := combo qv us pv vs) (k := k) (by rw [combo_len' hlu.out hlv.out]; exact hlt)).trans (by rw [combo_getD (m := qv) (n := pv) (by rw [hlu.out]; exact hlt) (by rw [hlv.out]; exact hlt)]))
      generalize us.getD k 0 = x1 at *
      generalize vs.getD k 0 = x2 at *
      obtain ⟨⟨q1, q2⟩, ⟨q3, q4⟩⟩ := uses_bd hqb hpb hua huv
      have hpr : e < wr.heap.size := by omega
      have hpr' : e' < wr.heap.size := by omega
      have hwx : IntKind.i64.wrap (qv * x1) = qv * x1 := IntWalk.i64_in _ (by omega)
      have hwy : IntKind.i64.wrap (pv * x2) = pv * x2 := IntWalk.i64_in _ (by omega)
      have hwz : IntKind.i64.wrap (qv * x1 + pv * x2) = qv * x1 + pv * x2 := IntWalk.i64_in _ (by omega)
      cases tt
      · go_wp2
        go_quiet (fail)
        go_wp2_with (first | (at_builtin; refine wpList_append_lies _ (by rfl) (.tmp 87) (.tmp 89) _ (by rfl) (w1.heap.size + 1 + 1) 3 i0 _ 1 8 Try.underlying29 hi zi0 zi1 zi2 rfl (by omega) v0 k _ (by rfl) ((own_drewN hub.own _).alloc _) ⟨wr.heap.size, 0, none⟩ 1 1 [.int .i64 (qv * x1 + pv * x2)] (by rfl) (by rfl) (news1 (by first | omega | (simp; done) | (simp; omega))) (by simp [Value.oneCell']) (by omega) (by unfold maxLen; omega) (by omega) (by first | omega | (simp; done) | (simp; omega)) (wr.heap.size + 1) (by simp) ?_; intro g' cap' wq hown3 hgrow hat hlt2; obtain ⟨hub4, hB4, hu3, hf3⟩ := hub.step hBw (by (repeat (first | with_reducible exact Below.refl _ _ | with_reducible assumption | (with_reducible refine below_drewN ?_ _) | (with_reducible refine Below.drew ?_) | (with_reducible refine Below.setCell ?_ (by first | omega | (simp; done) | (simp; omega)) _) | (with_reducible refine Below.alloc ?_ (by first | omega | (simp; done) | (simp; omega)) _) | refine Below.trans ?_ (Below.mono (by with_reducible assumption) (by first | omega | (simp; done) | (simp; omega)))))) hgrow hown3; have HS := Lib.hid (And.intro hub4 hB4); clear hub4 hB4 hown3 hgrow hat))
        go_roundw
        case rel =>
          have h1 := HS.out.1
          rw [HN.out] at h1
          exact ⟨k + 1, _, false, by omega, by go_num, rfl, Lib.hid (by rw [HU.out, ← Bool.and_assoc, ← HT.out]; simp), h1, HS.out.2⟩
        case measure => simp [intOf]; omega
      · go_wp2
        go_quiet (fail)
        go_wp2_with (first | (at_builtin; refine wpList_append_lies _ (by rfl) (.tmp 87) (.tmp 89) _ (by rfl) (w1.heap.size + 1 + 1) 3 i0 _ 1 8 Try.underlying29 hi zi0 zi1 zi2 rfl (by omega) v0 k _ (by rfl) ((own_drewN hub.own _).alloc _) ⟨wr.heap.size, 0, none⟩ 1 1 [.int .i64 (qv * x1 + pv * x2)] (by rfl) (by rfl) (news1 (by first | omega | (simp; done) | (simp; omega))) (by simp [Value.oneCell']) (by omega) (by unfold maxLen; omega) (by omega) (by first | omega | (simp; done) | (simp; omega)) (wr.heap.size + 1) (by simp) ?_; intro g' cap' wq hown3 hgrow hat hlt2; obtain ⟨hub4, hB4, hu3, hf3⟩ := hub.step hBw (by (repeat (first | with_reducible exact Below.refl _ _ | with_reducible assumption | (with_reducible refine below_drewN ?_ _) | (with_reducible refine Below.drew ?_) | (with_reducible refine Below.setCell ?_ (by first | omega | (simp; done) | (simp; omega)) _) | (with_reducible refine Below.alloc ?_ (by first | omega | (simp; done) | (simp; omega)) _) | refine Below.trans ?_ (Below.mono (by with_reducible assumption) (by first | omega | (simp; done) | (simp; omega)))))) hgrow hown3; have HS := Lib.hid (And.intro hub4 hB4); clear hub4 hB4 hown3 hgrow hat))
        go_roundw
        case rel =>
          have h1 := HS.out.1
          rw [HN.out] at h1
          exact ⟨k + 1, _, (decide (qv * x1 + pv * x2 ≤ 1000000)), by omega, by go_num, rfl, Lib.hid (by rw [HU.out, ← Bool.and_assoc, ← HT.out]; simp), h1, HS.out.2⟩
        case measure => simp [intOf]; omega
    · obtain rfl : k = N := by omega
      obtain ⟨U, cu, rfl⟩ := hub.form
      have hlc := combo_len' (m := qv) (n := pv) hlu.out hlv.out
      rw [List.take_of_length_le (by rw [hlc]; exact Nat.le_refl _)] at hub HT
      have htt : tt = ok := HT.out.trans HO.out
      subst htt
      obtain ⟨hIu, hFu⟩ := hub.ints (fun j => by have := combo_nn hqb hpb hlu.out hlv.out ha.uses hb.uses j; unfold J64; omega) hNf
      have HTT := Lib.hid HT.out
      have HIU := Lib.hid hIu
      clear hub HT hIu
      go_wp2
      refine bodyPost_ret (v := .tuple #[.agg #[.slice X q cap, .int .i64 z', .bool t', .slice U k cu], .bool tt]) (by simp only [results, Try.results83]; go_simp) rfl ⟨X, q, cap, z', t', U, k, cu, rfl, fun ht => ?_, ?_⟩
      · have h1 := HTT.out
        rw [ht] at h1
        have h2 : okl = true := by cases okl <;> simp at h1 ⊢
        obtain ⟨hIX, hFX, rfl, rfl⟩ := HSX.out h2
        have hIX' : Ints wr X q (combo qv xs pv ys) := Ints.later hIX (by (repeat (first | with_reducible exact Below.refl _ _ | with_reducible assumption | (with_reducible refine below_drewN ?_ _) | (with_reducible refine Below.drew ?_) | (with_reducible refine Below.setCell ?_ (by first | omega | (simp; done) | (simp; omega)) _) | (with_reducible refine Below.alloc ?_ (by first | omega | (simp; done) | (simp; omega)) _) | refine Below.trans ?_ (Below.mono (by with_reducible assumption) (by first | omega | (simp; done) | (simp; omega))))))
        have hFX' : Fresh (w.heap.size + 1 + 1 + 1) X q := by simpa using hFX
        refine ⟨⟨?_, ?_⟩, ⟨fun hn p e => by have := hFX' hn p e; omega, fun hn p e => by have := hFu hn p e; omega⟩, rfl, rfl⟩
        · (repeat (refine Ints.set ?_ (fun hn a e => by have := hFX' hn a e; dsimp only; omega) _))
          exact hIX'
        · (repeat (refine Ints.set ?_ (fun hn a e => by have := hFu hn a e; dsimp only; omega) _))
          exact HIU.out
      · (repeat (first | with_reducible exact Below.refl _ _ | with_reducible assumption | (with_reducible refine below_drewN ?_ _) | (with_reducible refine Below.drew ?_) | (with_reducible refine Below.setCell ?_ (by first | omega | (simp; done) | (simp; omega)) _) | (with_reducible refine Below.alloc ?_ (by first | omega | (simp; done) | (simp; omega)) _) | refine Below.trans ?_ (Below.mono (by with_reducible assumption) (by first | omega | (simp; done) | (simp; omega)))))
end Go.Proofs.Ytccjbipmlpnhkaa

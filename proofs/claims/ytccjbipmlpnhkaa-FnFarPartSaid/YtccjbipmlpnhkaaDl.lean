/- Lists of constraints drawn. -/
import Derived.Test.YtccjbipmlpnhkaaWp
import Derived.Test.YtccjbipmlpnhkaaV
import Derived.Deep.DeepCutAuto
namespace Go.Proofs.Ytccjbipmlpnhkaa
set_option maxRecDepth 100000
open Go.RowKit Go.ChangeShapes Go.WideShapes Go.ChangeAt
set_option linter.unusedSimpArgs false
set_option linter.unusedVariables false

/-- Constraint j of what is being appended. -/
def LinZ (w : World) (B : Nat) (r : Option Nat) (zs : List Value) (j : Nat) (x : LinV) : Prop :=
  ∃ A m c, (Ints w A m x.1 ∧ Off A m r ∧ Fresh B A m) ∧ zs[j * 3]? = some (.slice A m c) ∧ zs[j * 3 + 1]? = some (.int .i64 x.2.1) ∧ zs[j * 3 + 2]? = some (.bool x.2.2)
/-- Constraints that are being appended: k so far. -/
structure LinG (w : World) (B : Nat) (v : Value) (k : Nat) (ls : List LinV) (zs : List Value) : Prop where
  own : w.ownsRow B 34 3 v k zs
  len : ls.length = k
  each : ∀ j, j < k → LinZ w B v.ownBlock zs j (ls.getD j lin0)
theorem LinG.later {w w' : World} {B : Nat} {v : Value} {k : Nat} {ls : List LinV} {zs : List Value} (h : LinG w B v k ls zs) (hb : Below w.heap.size w w') : LinG w' B v k ls zs :=
  ⟨h.own.kept (row := none) ⟨hb.os, hb.tape, hb.output, hb.size, fun i hi _ => hb.block i hi⟩ (by cases hv : v.ownBlock <;> simp), h.len, fun j hj => by
    obtain ⟨A, m, c, ⟨hI, h0⟩, h1⟩ := h.each j hj
    exact ⟨A, m, c, ⟨hI.later hb, h0⟩, h1⟩⟩
theorem LinG.only {w w' : World} {B g : Nat} {v : Value} {k : Nat} {ls : List LinV} {zs : List Value} (h : LinG w B v k ls zs) (ho : Only g w w') (hg : g < B) : LinG w' B v k ls zs :=
  ⟨h.own.kept ho (.inr (fun e => by have := (h.own.lt g e).1; omega)), h.len, fun j hj => by
    obtain ⟨A, m, c, ⟨hI, h0, hF⟩, h1⟩ := h.each j hj
    refine ⟨A, m, c, ⟨hI.off (fun hn p e e2 => ?_) ho, h0, hF⟩, h1⟩
    have := hF hn p e
    have := Option.some.inj e2
    omega⟩
theorem LinG.far {w : World} {B : Nat} {v : Value} {k : Nat} {ls : List LinV} {zs : List Value} (h : LinG w B v k ls zs) {p : Addr} (hp : w.heap.size ≤ p.block) (u : Value) : LinG (w.setCell p u) B v k ls zs :=
  h.later ((Below.refl _ _).setCell hp u)
theorem LinG.snoc {w w' : World} {B : Nat} {v : Value} {k : Nat} {ls : List LinV} {zs : List Value} (h : LinG w B v k ls zs) {g cap : Nat} {x : LinV} {A : Option Addr} {m c : Nat}
    (ho : w'.ownsRow B 34 3 (.slice (some ⟨g, 0, none⟩) (k + 1) cap) (k + 1) (zs ++ [.slice A m c, .int .i64 x.2.1, .bool x.2.2])) (hg : w.grownBy w' v.ownBlock) {H : Nat} (hat : v.ownBlock = some g ∨ g = H) (hH : H = w.heap.size)
    (hI : Ints w A m x.1) (hA : Off A m v.ownBlock) (hF : Fresh B A m) :
    LinG w' B (.slice (some ⟨g, 0, none⟩) (k + 1) cap) (k + 1) (ls ++ [x]) (zs ++ [.slice A m c, .int .i64 x.2.1, .bool x.2.2]) := by
  subst hH
  have hl := h.own.1
  have tr : ∀ {A : Option Addr} {m : Nat} {xs : List Int}, Ints w A m xs → Off A m v.ownBlock → Off A m (some g) := fun hI hA => by
    rcases hat with e | e
    · rw [← e]; exact hA
    · subst e; exact Off.lower hI (Nat.le_refl _)
  refine ⟨ho, by simp [h.len], fun j hj => ?_⟩
  show LinZ w' B (some g) _ j _
  by_cases e : j = k
  · subst e
    have hx : (ls ++ [x]).getD j lin0 = x := by rw [List.getD_eq_getElem?_getD, ← h.len]; simp
    rw [hx]
    refine ⟨A, m, c, ⟨hI.off hA hg, tr hI hA, hF⟩, ?_, ?_, ?_⟩
    · rw [List.getElem?_append_right (by omega), hl, Nat.sub_self]; rfl
    · rw [List.getElem?_append_right (by omega), hl, Nat.add_sub_cancel_left]; rfl
    · rw [List.getElem?_append_right (by omega), hl, Nat.add_sub_cancel_left]; rfl
  · obtain ⟨A', m', c', ⟨hI', hA', hF'⟩, h0, h1, h2⟩ := h.each j (by omega)
    have hx : (ls ++ [x]).getD j lin0 = ls.getD j lin0 := by rw [List.getD_eq_getElem?_getD, List.getElem?_append_left (by have := h.len; omega), ← List.getD_eq_getElem?_getD]
    rw [hx]
    refine ⟨A', m', c', ⟨hI'.off hA' hg, tr hI' hA', hF'⟩, ?_, ?_, ?_⟩
    · rw [List.getElem?_append_left (by omega)]; exact h0
    · rw [List.getElem?_append_left (by omega)]; exact h1
    · rw [List.getElem?_append_left (by omega)]; exact h2
theorem LinG.lins {w : World} {B : Nat} {A : Option Addr} {k n c : Nat} {ls : List LinV} {zs : List Value} (h : LinG w B (.slice A n c) k ls zs) (hk : k ≤ 9223372036854775807) : Lins w A k ls := by
  refine ⟨h.len, fun hn => ?_, hk⟩
  obtain ⟨g, cap, e, _⟩ := h.own.form hn
  simp only [Value.slice.injEq] at e
  obtain ⟨rfl, rfl, rfl⟩ := e
  refine ⟨g, 0, rfl, (h.own.lt g rfl).2, fun j hj => ?_⟩
  obtain ⟨A', m', c', ⟨hI', _⟩, h0, h1, h2⟩ := h.each j hj
  rw [Nat.zero_add]
  exact ⟨A', m', c', hI', by rw [h.own.cellAt _ (by omega)]; exact h0, by rw [h.own.cellAt _ (by omega)]; exact h1, by rw [h.own.cellAt _ (by omega)]; exact h2⟩
theorem LinG.form {w : World} {B : Nat} {v : Value} {k : Nat} {ls : List LinV} {zs : List Value} (h : LinG w B v k ls zs) : ∃ A c, v = .slice A k c := by
  rcases h.own.2 with ⟨rfl, rfl⟩ | ⟨g, cap, _, rfl, _⟩
  · exact ⟨none, 0, rfl⟩
  · exact ⟨some ⟨g, 0, none⟩, cap, rfl⟩
theorem LinG.empty {W : World} {E B : Nat} (hE : W.heap.size = E) (hb : B ≤ E) : LinG (W.alloc (.cells #[] 34)) B (.slice (some ⟨E, 0, none⟩) 0 0) 0 [] [] := by
  subst hE
  exact ⟨World.ownsRow_lit W #[] 0 hb (by simp) rfl, rfl, fun _ h => absurd h (by omega)⟩
theorem Kept.weak {B B' g : Nat} {a b : World} (h : Kept B g a b) (hB : B' ≤ B) : Kept B' g a b := ⟨h.os, h.tape, h.output, h.size, fun i hi hn => h.block i (by omega) hn⟩
theorem news3 {W : World} {E : Nat} {a b c : Value} {t : TypeId} (hE : W.heap.size = E) : ∀ j u, [a, b, c][j]? = some u → (W.alloc (.cells #[a, b, c] t)).cell? ((⟨E, 0, none⟩ : Addr).add j) = some u := by
  subst hE
  exact World.news_of_block (cs := #[a, b, c]) (t := t) (fr := (0, 0)) (heap_alloc_new _ _)
theorem lin_info3 : (Try.prog.info? 34).map (fun i => (i.zero, i.size, i.bytes)) = some (some (.agg #[.slice none 0 0, .int .i64 0, .bool false]), 3, 40) := by kernel_rfl

/-- A list was drawn. -/
def ListBack (N : Nat) (g : Nat) (A : Option Addr) (cap : Nat) (bs : List UInt8) (p k : Nat) (w : World) (e : Ending) (w' : World) : Prop :=
  ∃ (ls : List LinV) (v : Value) (n : Nat) (zs : List Value), e = .returned v ∧ (LinG w' w.heap.size v n ls zs ∧ n ≤ N) ∧ Moved g A cap bs p k w w'
set_option maxHeartbeats 8000000 in
theorem l3List_any {g : Nat} {A : Option Addr} {cap : Nat} {bs : List UInt8} {p : Nat} {w : World} (h : Rd w g A cap bs p) (hp : p ≤ 500000) :
    Calls Try.prog 77 #[.pointer (some ⟨g, 0, none⟩)] w (ListBack 7 g A cap bs p 100 w) := by
  have hg := h.lt
  obtain ⟨j0, hj, yj0, yj1, yj2⟩ := info_parts lin_info3
  go_enter Try.func77, Try.ntmps77
  go_wp2_with fail
  (with_reducible refine (num_any [3, 4, 5, 2, 1, 0, 7] (w.heap.size + 1) 0 7 7 ((h.alloc _).alloc _) (by omega) (by decide) (by decide) (by decide) (by omega) (fun j hj => ?_)).mono ?_)
  · have hx := alloc_list (w.alloc (.cells #[] 34)) [3, 4, 5, 2, 1, 0, 7] 3 j hj
    rw [World.size_alloc] at hx
    exact hx
  rintro e w1 ⟨iv, rfl, hn⟩
  have hz1 := hn.only.size
  simp only [World.size_alloc] at hz1
  have hR1 := hn.rd
  have hiv : 0 ≤ iv ∧ iv ≤ 7 := by have := hn.mem; simp at this; omega
  have hK1 : Kept w.heap.size g w w1 := (((Kept.refl _ _ _).alloc (Nat.le_refl _) _).alloc (by simp) _).then_only hn.only (by simp; omega)
  have hrow1 : LinG w1 w.heap.size (.slice (some ⟨w.heap.size, 0, none⟩) 0 0) 0 [] [] := ((LinG.empty rfl (Nat.le_refl _)).later ((Below.refl _ _).alloc (Nat.le_refl _) _)).only hn.only (by omega)
  clear hn
  go_wp2_with fail
  go_loopw [3, 4] (fun v0 i wr => ∃ (k : Nat) (iv : Int) (v : Value) (ls : List LinV) (zs : List Value) (pp : Nat), i = .int .i64 iv ∧ (0 ≤ iv ∧ iv + k ≤ 7) ∧ v = v0 ∧ LinG wr w.heap.size v k ls zs ∧ Rd wr g A cap bs pp ∧ pp ≤ p + 1 + 13 * k ∧ Kept w.heap.size g w wr) (fun _ i _ => (intOf i).toNat)
  case atStart => exact ⟨0, iv, _, [], [], p + 1, rfl, by omega, rfl, hrow1, hR1, by omega, hK1⟩
  case round =>
    clear hrow1 hR1 hK1 hiv hz1
    obtain ⟨k, iv, v, ls, zs, pp, rfl, hiv, rfl, hrow, hR, hpp, hK⟩ := hrel
    have hgw := hR.lt
    have hsz := hK.size
    by_cases hlt : 0 < iv
    · go_wp2_with fail
      refine (l2Any_any hR (by omega)).mono ?_
      rintro e w1 ⟨xs, b, s, q, c, rfl, hrx, hJb, ⟨⟨p1, hp1, hR1⟩, hO1⟩⟩
      have hs1 := hO1.size
      have hKW1 : Kept wr.heap.size g wr w1 := (Kept.refl _ _ _).then_only hO1 (Nat.le_refl _)
      obtain ⟨hq1, hq2⟩ := hrx.lt
      clear hR hO1
      go_wp2_with fail
      refine (pick_any 2 (hR1.alloc _) (by omega) (by omega) (by omega)).mono ?_
      rintro e w2 ⟨r, rfl, hr⟩
      have hs2 := hr.only.size
      simp only [World.size_alloc] at hs2
      obtain ⟨kc_, fc_, lc_⟩ := keep_only (a := ⟨w1.heap.size, 0, none⟩) (v := .slice (some ⟨q, 0, none⟩) 4 c) hr.only (by show w1.heap.size ≠ g; omega) (by go_simp) (by go_simp); obtain ⟨kc_, fc_, lc_⟩ := keep_only (a := ⟨w1.heap.size, 1, none⟩) (v := .int .i64 b) hr.only (by show w1.heap.size ≠ g; omega) (by go_simp) (by go_simp); obtain ⟨kc_, fc_, lc_⟩ := keep_only (a := ⟨w1.heap.size, 2, none⟩) (v := .bool s) hr.only (by show w1.heap.size ≠ g; omega) (by go_simp) (by go_simp)
      have hR2 := hr.rd
      have hrx2 := (hrx.alloc (.cells #[.slice (some ⟨q, 0, none⟩) 4 c, .int .i64 b, .bool s] 34)).only hr.only (by omega)
      have hKW2 : Kept wr.heap.size g wr w2 := (hKW1.alloc (by omega) (.cells #[.slice (some ⟨q, 0, none⟩) 4 c, .int .i64 b, .bool s] 34)).then_only hr.only (by simp; omega)
      clear hr hrx hR1 hKW1
      have hx2 := hrx2.cellAt (k := 2) (by omega)
      have hx3 := hrx2.cellAt (k := 3) (by omega)
      have hy2 := hrx2.own.frozenAt 2
      have hy3 := hrx2.own.frozenAt 3
      generalize xs.getD 2 0 = z2 at hx2
      generalize xs.getD 3 0 = z3 at hx3
      go_upto_if 18 with fail
      go_cut [5] (fun s5 wx => ∃ xs' : List Int, s5 = .pointer (some ⟨w1.heap.size, 0, none⟩) ∧ Row64 wx wr.heap.size q 4 c xs' ∧ L3 wx w1.heap.size (.slice (some ⟨q, 0, none⟩) 4 c) (.int .i64 b) (.bool s) ∧ Rd wx g A cap bs (p1 + 1) ∧ Kept wr.heap.size g wr wx ∧ w1.heap.size < wx.heap.size)
      case first =>
        have hqw : q ≠ w1.heap.size := by omega
        by_cases q0 : r = 0
        · subst q0
          go_wp2
          go_meet
          refine ⟨_, rfl, (hrx2.stored 2 (x := 0) (by unfold J64; omega)).stored 3 (x := 0) (by unfold J64; omega), ⟨by go_simp, by go_simp, by go_simp, by go_simp, by go_simp, by go_simp⟩, ?_, ?_, by simp [World.setCell]; omega⟩
          · (repeat (first | with_reducible exact hR2 | refine Rd.far ?_ (by first | omega | (simp; done) | (simp; omega)) _ | refine Rd.alloc ?_ _ | refine Rd.drewN ?_ _ | refine Rd.drew ?_))
          · (repeat (first | with_reducible exact hKW2 | (with_reducible refine Kept.set ?_ (by first | omega | (simp; done) | (simp; omega)) _) | (with_reducible refine Kept.alloc ?_ (by first | omega | (simp; done) | (simp; omega)) _) | (with_reducible refine Kept.drewN ?_ _) | (with_reducible refine Kept.drew ?_)))
        · have q0' : (r == 0) = false := by simpa using q0
          go_wp2
          go_meet
          exact ⟨xs, rfl, hrx2, ⟨by go_simp, by go_simp, by go_simp, by go_simp, by go_simp, by go_simp⟩, hR2, hKW2, by omega⟩
      case rest =>
        obtain ⟨xs', rfl, hrx3, ⟨l0, l1, l2, l3, l4, l5⟩, hR3, hKW, hlx⟩ := hcut
        have hown0 := hrow.own
        have hrow3 := hrow.only hKW.only (by omega)
        have hKW3 := hKW
        have hKw := hK.trans (hKW.weak hsz)
        have hI3 : Ints wc (some ⟨q, 0, none⟩) 4 xs' := hrx3.ints (by omega)
        have hOq : Off (some ⟨q, 0, none⟩) 4 v.ownBlock := Off.fresh hrow.own hq1
        have hFq : Fresh w.heap.size (some ⟨q, 0, none⟩) 4 := fun _ p e => by obtain rfl := Option.some.inj e; show w.heap.size ≤ q; omega
        obtain ⟨Av, cv, hvf⟩ := hrow.form
        clear hrx2 hKW2 hR2 hx2 hx3 hy2 hy3 hrx3
        have hsc := hKw.size
        by_cases hk0 : k = 0
        · subst hvf hk0
          have hrow := hrow3
          go_wp2_with (first | (at_builtin; refine wpList_append_lies _ (by rfl) (.tmp 41) (.tmp 43) _ (by rfl) w.heap.size 34 j0 _ 3 40 Try.underlying23 hj yj0 yj1 yj2 rfl (by omega) (.slice Av 0 cv) 0 zs (by rfl) (LinG.later hrow (by (repeat (first | with_reducible exact Below.refl _ _ | with_reducible assumption | (with_reducible refine below_drewN ?_ _) | (with_reducible refine Below.drew ?_) | (with_reducible refine Below.setCell ?_ (by first | omega | (simp; done) | (simp; omega)) _) | (with_reducible refine Below.alloc ?_ (by first | omega | (simp; done) | (simp; omega)) _) | refine Below.trans ?_ (Below.mono (by with_reducible assumption) (by first | omega | (simp; done) | (simp; omega))))))).own ⟨wc.heap.size, 0, none⟩ 1 1 [.slice (some ⟨q, 0, none⟩) 4 c, .int .i64 b, .bool s] (by rfl) (by rfl) (news3 (by first | omega | (simp; done) | (simp; omega))) (by simp [Value.oneCell']) (by omega) (by unfold maxLen; omega) (by omega) (by first | omega | (simp; done) | (simp; omega)) (wc.heap.size + 1) (by simp) ?_; intro g' cap' wq hown3 hgrow hat hlt2; (have hrowN := (LinG.later hrow (by (repeat (first | with_reducible exact Below.refl _ _ | with_reducible assumption | (with_reducible refine below_drewN ?_ _) | (with_reducible refine Below.drew ?_) | (with_reducible refine Below.setCell ?_ (by first | omega | (simp; done) | (simp; omega)) _) | (with_reducible refine Below.alloc ?_ (by first | omega | (simp; done) | (simp; omega)) _) | refine Below.trans ?_ (Below.mono (by with_reducible assumption) (by first | omega | (simp; done) | (simp; omega))))))).snoc (x := (xs', b, s)) hown3 hgrow hat (by simp) (Ints.later hI3 (by (repeat (first | with_reducible exact Below.refl _ _ | with_reducible assumption | (with_reducible refine below_drewN ?_ _) | (with_reducible refine Below.drew ?_) | (with_reducible refine Below.setCell ?_ (by first | omega | (simp; done) | (simp; omega)) _) | (with_reducible refine Below.alloc ?_ (by first | omega | (simp; done) | (simp; omega)) _) | refine Below.trans ?_ (Below.mono (by with_reducible assumption) (by first | omega | (simp; done) | (simp; omega))))))) hOq hFq; have hRN : Rd wq g A cap bs (p1 + 1) := Rd.aside (by (repeat (first | with_reducible exact hR3 | refine Rd.far ?_ (by first | omega | (simp; done) | (simp; omega)) _ | refine Rd.alloc ?_ _ | refine Rd.drewN ?_ _ | refine Rd.drew ?_))) hgrow (fun j hj => by have := (hrow.own.lt j hj).1; omega); have hKN : Kept w.heap.size g w wq := Kept.grown (by (repeat (first | with_reducible exact hKw | (with_reducible refine Kept.set ?_ (by first | omega | (simp; done) | (simp; omega)) _) | (with_reducible refine Kept.alloc ?_ (by first | omega | (simp; done) | (simp; omega)) _) | (with_reducible refine Kept.drewN ?_ _) | (with_reducible refine Kept.drew ?_)))) hgrow (by first | omega | (simp; done) | (simp; omega)) (fun j hj => (hrow.own.lt j hj).1); clear hown3 hgrow hat hlt2 hrow)))
          go_roundw
          case rel => refine ⟨_, iv - 1, _, _, _, p1 + 1, rfl, ?_, rfl, hrowN, hRN, ?_, hKN⟩ <;> omega
          case measure => simp [intOf]; omega
        have hk1 : decide ((0 : Int) < (k : Int)) = true := by simp; omega
        subst hvf
        go_wp2_with fail
        refine (pick_any 4 hR3 (by omega) (by omega) (by omega)).mono ?_
        rintro e w4 ⟨r4, rfl, hr4⟩
        have hs4 := hr4.only.size
        have hwg : w1.heap.size ≠ g := by omega
        obtain ⟨kc_, fc_, lc_⟩ := keep_only (a := ⟨w1.heap.size, 0, none⟩) (v := .slice (some ⟨q, 0, none⟩) 4 c) hr4.only (by show w1.heap.size ≠ g; omega) (by go_simp) (by go_simp); obtain ⟨kc_, fc_, lc_⟩ := keep_only (a := ⟨w1.heap.size, 1, none⟩) (v := .int .i64 b) hr4.only (by show w1.heap.size ≠ g; omega) (by go_simp) (by go_simp); obtain ⟨kc_, fc_, lc_⟩ := keep_only (a := ⟨w1.heap.size, 2, none⟩) (v := .bool s) hr4.only (by show w1.heap.size ≠ g; omega) (by go_simp) (by go_simp)
        have hR4 := hr4.rd
        have hrow4 := hrow3.only hr4.only (by omega)
        have hK4 := hKw.then_only hr4.only (by omega)
        have hI4 := Ints.aside hI3 hr4.only (by omega)
        have hKW4 := hKW3.then_only hr4.only (by omega)
        clear hr4 hrow3 hR3 hKw hI3 l0 l1 l2 l3 l4 l5
        by_cases q1 : r4 = 0
        · subst q1
          go_wp2_with fail
          refine (pick_any (k : Int) hR4 (by omega) (by omega) (by omega)).mono ?_
          rintro e w5 ⟨r5, rfl, hr5⟩
          have hlo := hr5.lo
          have hhi := hr5.hi (by omega)
          obtain ⟨t, rfl⟩ : ∃ t : Nat, r5 = (t : Int) := ⟨r5.toNat, by omega⟩
          have ht : t < k := by omega
          have hs5 := hr5.only.size
          obtain ⟨kc_, fc_, lc_⟩ := keep_only (a := ⟨w1.heap.size, 0, none⟩) (v := .slice (some ⟨q, 0, none⟩) 4 c) hr5.only (by show w1.heap.size ≠ g; omega) (by go_simp) (by go_simp); obtain ⟨kc_, fc_, lc_⟩ := keep_only (a := ⟨w1.heap.size, 1, none⟩) (v := .int .i64 b) hr5.only (by show w1.heap.size ≠ g; omega) (by go_simp) (by go_simp); obtain ⟨kc_, fc_, lc_⟩ := keep_only (a := ⟨w1.heap.size, 2, none⟩) (v := .bool s) hr5.only (by show w1.heap.size ≠ g; omega) (by go_simp) (by go_simp)
          have hR5 := hr5.rd
          have hrow5 := hrow4.only hr5.only (by omega)
          have hK5 := hK4.then_only hr5.only (by omega)
          have hL5 := hrow5.lins (by omega)
          have hKW5 := hKW4.then_only hr5.only (by omega)
          clear hr5 hrow4 hR4 hK4 hI4 hlo hhi
          obtain ⟨pb, ob, rfl, hpb, hcs⟩ := hL5.cells (by omega)
          obtain ⟨B5, m5, c5, hI5, hc1, hc2, hc3⟩ := (hcs t ht).ex
          clear hcs hL5
          generalize (ls.getD t lin0).1 = ys at *
          generalize (ls.getD t lin0).2.1 = b5 at *
          generalize (ls.getD t lin0).2.2 = s5 at *
          cases hy : linOk ys b5
          · go_wp2_with fail
            refine (sLinNot_no (xs := ys) b5 s5 hI5 hy).mono ?_
            rintro e w6 ⟨rfl, hb1⟩
            have hs6 := hb1.size
            obtain ⟨kc_, fc_, lc_⟩ := keep_later (a := ⟨w1.heap.size, 0, none⟩) (v := .slice (some ⟨q, 0, none⟩) 4 c) hb1 (by go_simp) (by go_simp); obtain ⟨kc_, fc_, lc_⟩ := keep_later (a := ⟨w1.heap.size, 1, none⟩) (v := .int .i64 b) hb1 (by go_simp) (by go_simp); obtain ⟨kc_, fc_, lc_⟩ := keep_later (a := ⟨w1.heap.size, 2, none⟩) (v := .bool s) hb1 (by go_simp) (by go_simp)
            have hR6 := hR5.grown hb1
            have hrow6 := hrow5.later hb1
            have hK6 := hK5.below hb1 (by omega)
            have hKW6 := hKW5.below hb1 (by omega)
            clear hb1 hR5 hrow5 hK5
            go_wp2_with (first | (at_builtin; refine wpList_append_lies _ (by rfl) (.tmp 41) (.tmp 43) _ (by rfl) w.heap.size 34 j0 _ 3 40 Try.underlying23 hj yj0 yj1 yj2 rfl (by omega) (.slice (some ⟨pb, ob, none⟩) k cv) k zs (by rfl) (LinG.only (g := g) hrow (Kept.only (g := g) (by (repeat (first | with_reducible exact hKW6 | (with_reducible refine Kept.set ?_ (by first | omega | (simp; done) | (simp; omega)) _) | (with_reducible refine Kept.alloc ?_ (by first | omega | (simp; done) | (simp; omega)) _) | (with_reducible refine Kept.drewN ?_ _) | (with_reducible refine Kept.drew ?_))))) (by omega)).own ⟨w6.heap.size, 0, none⟩ 1 1 [.slice none 0 0, .int .i64 0, .bool false] (by rfl) (by rfl) (news3 (by first | omega | (simp; done) | (simp; omega))) (by simp [Value.oneCell']) (by omega) (by unfold maxLen; omega) (by omega) (by first | omega | (simp; done) | (simp; omega)) (w6.heap.size + 1) (by simp) ?_; intro g' cap' wq hown3 hgrow hat hlt2; (have hrowN := (LinG.only (g := g) hrow (Kept.only (g := g) (by (repeat (first | with_reducible exact hKW6 | (with_reducible refine Kept.set ?_ (by first | omega | (simp; done) | (simp; omega)) _) | (with_reducible refine Kept.alloc ?_ (by first | omega | (simp; done) | (simp; omega)) _) | (with_reducible refine Kept.drewN ?_ _) | (with_reducible refine Kept.drew ?_))))) (by omega)).snoc (x := ([], 0, false)) hown3 hgrow hat (by simp) (Ints.nil _) (show Off none 0 _ from fun h => absurd h (by omega)) (show Fresh w.heap.size none 0 from fun h => absurd h (by omega)); have hRN : Rd wq g A cap bs (p1 + 1 + 1 + 1) := Rd.aside (by (repeat (first | with_reducible exact hR6 | refine Rd.far ?_ (by first | omega | (simp; done) | (simp; omega)) _ | refine Rd.alloc ?_ _ | refine Rd.drewN ?_ _ | refine Rd.drew ?_))) hgrow (fun j hj => by have := (hrow.own.lt j hj).1; omega); have hKN : Kept w.heap.size g w wq := Kept.grown (by (repeat (first | with_reducible exact hK6 | (with_reducible refine Kept.set ?_ (by first | omega | (simp; done) | (simp; omega)) _) | (with_reducible refine Kept.alloc ?_ (by first | omega | (simp; done) | (simp; omega)) _) | (with_reducible refine Kept.drewN ?_ _) | (with_reducible refine Kept.drew ?_)))) hgrow (by first | omega | (simp; done) | (simp; omega)) (fun j hj => (hrow.own.lt j hj).1); clear hown3 hgrow hat hlt2 hrow)))
            go_roundw
            case rel => refine ⟨_, iv - 1, _, _, _, p1 + 1 + 1 + 1, rfl, ?_, rfl, hrowN, hRN, ?_, hKN⟩ <;> omega
            case measure => simp [intOf]; omega
          · go_wp2_with fail
            refine (sLinNot_free (xs := ys) b5 s5 hI5 hy).mono ?_
            rintro e w6 ⟨g6, c6, rfl, ⟨hI6, hF6⟩, hc6, hg6, hb1⟩
            have hs6 := hb1.size
            obtain ⟨kc_, fc_, lc_⟩ := keep_later (a := ⟨w1.heap.size, 0, none⟩) (v := .slice (some ⟨q, 0, none⟩) 4 c) hb1 (by go_simp) (by go_simp); obtain ⟨kc_, fc_, lc_⟩ := keep_later (a := ⟨w1.heap.size, 1, none⟩) (v := .int .i64 b) hb1 (by go_simp) (by go_simp); obtain ⟨kc_, fc_, lc_⟩ := keep_later (a := ⟨w1.heap.size, 2, none⟩) (v := .bool s) hb1 (by go_simp) (by go_simp)
            have hR6 := hR5.grown hb1
            have hrow6 := hrow5.later hb1
            have hK6 := hK5.below hb1 (by omega)
            have hKW6 := hKW5.below hb1 (by omega)
            have hO6 := Off.fresh (o := 0) (n := 4) hrow5.own hg6
            have hF6' : Fresh w.heap.size (some ⟨g6, 0, none⟩) 4 := fun _ p e => by obtain rfl := Option.some.inj e; show w.heap.size ≤ g6; omega
            clear hb1 hR5 hrow5 hK5
            go_wp2_with (first | (at_builtin; refine wpList_append_lies _ (by rfl) (.tmp 41) (.tmp 43) _ (by rfl) w.heap.size 34 j0 _ 3 40 Try.underlying23 hj yj0 yj1 yj2 rfl (by omega) (.slice (some ⟨pb, ob, none⟩) k cv) k zs (by rfl) (LinG.only (g := g) hrow (Kept.only (g := g) (by (repeat (first | with_reducible exact hKW6 | (with_reducible refine Kept.set ?_ (by first | omega | (simp; done) | (simp; omega)) _) | (with_reducible refine Kept.alloc ?_ (by first | omega | (simp; done) | (simp; omega)) _) | (with_reducible refine Kept.drewN ?_ _) | (with_reducible refine Kept.drew ?_))))) (by omega)).own ⟨w6.heap.size, 0, none⟩ 1 1 [.slice (some ⟨g6, 0, none⟩) 4 c6, .int .i64 (-b5), .bool (!s5)] (by rfl) (by rfl) (news3 (by first | omega | (simp; done) | (simp; omega))) (by simp [Value.oneCell']) (by omega) (by unfold maxLen; omega) (by omega) (by first | omega | (simp; done) | (simp; omega)) (w6.heap.size + 1) (by simp) ?_; intro g' cap' wq hown3 hgrow hat hlt2; (have hrowN := (LinG.only (g := g) hrow (Kept.only (g := g) (by (repeat (first | with_reducible exact hKW6 | (with_reducible refine Kept.set ?_ (by first | omega | (simp; done) | (simp; omega)) _) | (with_reducible refine Kept.alloc ?_ (by first | omega | (simp; done) | (simp; omega)) _) | (with_reducible refine Kept.drewN ?_ _) | (with_reducible refine Kept.drew ?_))))) (by omega)).snoc (x := (negs ys, -b5, !s5)) hown3 hgrow hat (by simp) (by (repeat (first | with_reducible exact hI6 | refine Ints.alloc ?_ _ | refine Ints.far ?_ (by first | omega | (simp; omega)) _))) hO6 hF6'; have hRN : Rd wq g A cap bs (p1 + 1 + 1 + 1) := Rd.aside (by (repeat (first | with_reducible exact hR6 | refine Rd.far ?_ (by first | omega | (simp; done) | (simp; omega)) _ | refine Rd.alloc ?_ _ | refine Rd.drewN ?_ _ | refine Rd.drew ?_))) hgrow (fun j hj => by have := (hrow.own.lt j hj).1; omega); have hKN : Kept w.heap.size g w wq := Kept.grown (by (repeat (first | with_reducible exact hK6 | (with_reducible refine Kept.set ?_ (by first | omega | (simp; done) | (simp; omega)) _) | (with_reducible refine Kept.alloc ?_ (by first | omega | (simp; done) | (simp; omega)) _) | (with_reducible refine Kept.drewN ?_ _) | (with_reducible refine Kept.drew ?_)))) hgrow (by first | omega | (simp; done) | (simp; omega)) (fun j hj => (hrow.own.lt j hj).1); clear hown3 hgrow hat hlt2 hrow)))
            go_roundw
            case rel => refine ⟨_, iv - 1, _, _, _, p1 + 1 + 1 + 1, rfl, ?_, rfl, hrowN, hRN, ?_, hKN⟩ <;> omega
            case measure => simp [intOf]; omega
        · have q1' : (r4 == 0) = false := by simpa using q1
          have hrow := hrow4
          go_wp2_with (first | (at_builtin; refine wpList_append_lies _ (by rfl) (.tmp 41) (.tmp 43) _ (by rfl) w.heap.size 34 j0 _ 3 40 Try.underlying23 hj yj0 yj1 yj2 rfl (by omega) (.slice Av k cv) k zs (by rfl) (LinG.later hrow (by (repeat (first | with_reducible exact Below.refl _ _ | with_reducible assumption | (with_reducible refine below_drewN ?_ _) | (with_reducible refine Below.drew ?_) | (with_reducible refine Below.setCell ?_ (by first | omega | (simp; done) | (simp; omega)) _) | (with_reducible refine Below.alloc ?_ (by first | omega | (simp; done) | (simp; omega)) _) | refine Below.trans ?_ (Below.mono (by with_reducible assumption) (by first | omega | (simp; done) | (simp; omega))))))).own ⟨w4.heap.size, 0, none⟩ 1 1 [.slice (some ⟨q, 0, none⟩) 4 c, .int .i64 b, .bool s] (by rfl) (by rfl) (news3 (by first | omega | (simp; done) | (simp; omega))) (by simp [Value.oneCell']) (by omega) (by unfold maxLen; omega) (by omega) (by first | omega | (simp; done) | (simp; omega)) (w4.heap.size + 1) (by simp) ?_; intro g' cap' wq hown3 hgrow hat hlt2; (have hrowN := (LinG.later hrow (by (repeat (first | with_reducible exact Below.refl _ _ | with_reducible assumption | (with_reducible refine below_drewN ?_ _) | (with_reducible refine Below.drew ?_) | (with_reducible refine Below.setCell ?_ (by first | omega | (simp; done) | (simp; omega)) _) | (with_reducible refine Below.alloc ?_ (by first | omega | (simp; done) | (simp; omega)) _) | refine Below.trans ?_ (Below.mono (by with_reducible assumption) (by first | omega | (simp; done) | (simp; omega))))))).snoc (x := (xs', b, s)) hown3 hgrow hat (by simp) (Ints.later hI4 (by (repeat (first | with_reducible exact Below.refl _ _ | with_reducible assumption | (with_reducible refine below_drewN ?_ _) | (with_reducible refine Below.drew ?_) | (with_reducible refine Below.setCell ?_ (by first | omega | (simp; done) | (simp; omega)) _) | (with_reducible refine Below.alloc ?_ (by first | omega | (simp; done) | (simp; omega)) _) | refine Below.trans ?_ (Below.mono (by with_reducible assumption) (by first | omega | (simp; done) | (simp; omega))))))) hOq hFq; have hRN : Rd wq g A cap bs (p1 + 1 + 1) := Rd.aside (by (repeat (first | with_reducible exact hR4 | refine Rd.far ?_ (by first | omega | (simp; done) | (simp; omega)) _ | refine Rd.alloc ?_ _ | refine Rd.drewN ?_ _ | refine Rd.drew ?_))) hgrow (fun j hj => by have := (hrow.own.lt j hj).1; omega); have hKN : Kept w.heap.size g w wq := Kept.grown (by (repeat (first | with_reducible exact hK4 | (with_reducible refine Kept.set ?_ (by first | omega | (simp; done) | (simp; omega)) _) | (with_reducible refine Kept.alloc ?_ (by first | omega | (simp; done) | (simp; omega)) _) | (with_reducible refine Kept.drewN ?_ _) | (with_reducible refine Kept.drew ?_)))) hgrow (by first | omega | (simp; done) | (simp; omega)) (fun j hj => (hrow.own.lt j hj).1); clear hown3 hgrow hat hlt2 hrow)))
          go_roundw
          case rel => refine ⟨_, iv - 1, _, _, _, p1 + 1 + 1, rfl, ?_, rfl, hrowN, hRN, ?_, hKN⟩ <;> omega
          case measure => simp [intOf]; omega
    · obtain rfl : iv = 0 := by omega
      obtain ⟨A', c', rfl⟩ := hrow.form
      go_wp2
      go_ret
      exact ⟨ls, _, k, zs, rfl, ⟨hrow, by omega⟩, ⟨⟨pp, by omega, hR⟩, hK.only⟩⟩
end Go.Proofs.Ytccjbipmlpnhkaa

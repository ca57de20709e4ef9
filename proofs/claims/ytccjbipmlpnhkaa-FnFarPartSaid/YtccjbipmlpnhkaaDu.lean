/- How many times each is taken, drawn. -/
import Derived.Test.YtccjbipmlpnhkaaDs
import Derived.Test.YtccjbipmlpnhkaaPl
import Derived.Test.YtccjbipmlpnhkaaWo
import Derived.Test.YtccjbipmlpnhkaaJ
import Derived.Deep.DeepCutAuto
namespace Go.Proofs.Ytccjbipmlpnhkaa
set_option maxRecDepth 100000
open Go.RowKit Go.ChangeShapes Go.WideShapes Go.ChangeAt
set_option linter.unusedSimpArgs false
set_option linter.unusedVariables false

theorem Ints.freshOnly {w w' : World} {B n g : Nat} {A : Option Addr} {xs : List Int} (h : Ints w A n xs) (hF : Fresh B A n) (ho : Only g w w') (hg : g < B) : Ints w' A n xs :=
  h.off (fun hn p e e2 => by
    have := hF hn p e
    have := Option.some.inj e2
    omega) ho
theorem Rats.freshOnly {w w' : World} {B n g : Nat} {A : Option Addr} {vs : List (Int × Int)} (h : Rats w A n vs) (hF : Fresh B A n) (ho : Only g w w') (hg : g < B) : Rats w' A n vs := by
  rcases Nat.eq_zero_or_pos n with e | hn
  · exact ⟨h.len, fun k => absurd k (by omega), h.rng, h.few⟩
  · obtain ⟨b, o, rfl, hb, hc⟩ := h.cells hn
    have := hF hn _ rfl
    exact h.aside ho (fun e => by subst e; exact absurd hg (Nat.not_lt.2 this))
/-- What deciding a system gives, whatever it is. -/
theorem run_any {ls : List LinV} (hls : ls.length ≤ 21) {w w' : World} {e : Ending} (h : RunBack (farRun ls) w e w') :
    ∃ (A : Option Addr) (n c : Nat) (B : Option Addr) (m d : Nat) (code : Int) (vs : List (Int × Int)) (ts : List Int), e = .returned (.tuple #[.slice A n c, .slice B m d, .int .i64 code]) ∧ ((Rats w' A n vs ∧ n ≤ 4 ∧ Fresh w.heap.size A n) ∧ (Ints w' B m ts ∧ m ≤ 21 ∧ Fresh w.heap.size B m)) ∧ Below w.heap.size w w' := by
  have hr0 : ∀ (W : World) (A : Option Addr), Rats W A 0 [] := fun W A => ⟨rfl, fun h => absurd h (by omega), fun j => by simp [J64], by omega⟩
  have hi0 : ∀ (W : World) (A : Option Addr), Ints W A 0 [] := fun W A => ⟨rfl, fun h => absurd h (by omega), fun j => by simp [J64], by omega⟩
  have hf0 : ∀ A, Fresh w.heap.size A 0 := fun A h => absurd h (by omega)
  cases hr : farRun ls with
  | form => rw [hr] at h; obtain ⟨A, c, B, d, e, hb⟩ := h; exact ⟨_, _, _, _, _, _, _, [], [], e, ⟨⟨hr0 _ _, by omega, hf0 _⟩, hi0 _ _, by omega, hf0 _⟩, hb⟩
  | much => rw [hr] at h; obtain ⟨A, c, B, d, e, hb⟩ := h; exact ⟨_, _, _, _, _, _, _, [], [], e, ⟨⟨hr0 _ _, by omega, hf0 _⟩, hi0 _ _, by omega, hf0 _⟩, hb⟩
  | no ts =>
    have hlen : ts.length = ls.length := (farOk_len (run_no' hr)).2
    rw [hr] at h; obtain ⟨A, c, g, cap, e, ⟨hI, _, hg⟩, hb⟩ := h; exact ⟨_, _, _, _, _, _, _, [], ts, e, ⟨⟨hr0 _ _, by omega, hf0 _⟩, hI, by omega, fresh_at hg⟩, hb⟩
  | yes vs => rw [hr] at h; obtain ⟨g, cap, B, d, e, ⟨hV, _, hg⟩, hb⟩ := h; exact ⟨_, _, _, _, _, _, _, vs, [], e, ⟨⟨hV, by omega, fresh_at hg⟩, hi0 _ _, by omega, hf0 _⟩, hb⟩
/-- Numbers that are being appended. -/
structure IntG (w : World) (B : Nat) (v : Value) (k : Nat) (ys : List Int) : Prop where
  own : w.ownsRow B 3 1 v k (ys.map (Value.int .i64))
  rng : ∀ j, J64 (ys.getD j 0)
theorem IntG.later {w w' : World} {B : Nat} {v : Value} {k : Nat} {ys : List Int} (h : IntG w B v k ys) (hb : Below w.heap.size w w') : IntG w' B v k ys :=
  ⟨h.own.kept (row := none) ⟨hb.os, hb.tape, hb.output, hb.size, fun i hi _ => hb.block i hi⟩ (by cases hv : v.ownBlock <;> simp), h.rng⟩
theorem IntG.only {w w' : World} {B g : Nat} {v : Value} {k : Nat} {ys : List Int} (h : IntG w B v k ys) (ho : Only g w w') (hg : g < B) : IntG w' B v k ys :=
  ⟨h.own.kept ho (.inr (fun e => by have := (h.own.lt g e).1; omega)), h.rng⟩
theorem IntG.len {w : World} {B : Nat} {v : Value} {k : Nat} {ys : List Int} (h : IntG w B v k ys) : ys.length = k := by have := h.own.1; simpa using this
theorem IntG.form {w : World} {B : Nat} {v : Value} {k : Nat} {ys : List Int} (h : IntG w B v k ys) : ∃ A c, v = .slice A k c := by
  rcases h.own.2 with ⟨rfl, rfl⟩ | ⟨g, cap, _, rfl, _⟩
  · exact ⟨none, 0, rfl⟩
  · exact ⟨some ⟨g, 0, none⟩, cap, rfl⟩
theorem IntG.row {w : World} {B : Nat} {A : Option Addr} {n c k : Nat} {ys : List Int} (h : IntG w B (.slice A n c) k ys) (hk : 0 < k) : n = k ∧ ∃ q, A = some ⟨q, 0, none⟩ ∧ Row64 w B q k c ys := by
  obtain ⟨g, cap, e, _⟩ := h.own.form hk
  simp only [Value.slice.injEq] at e
  obtain ⟨rfl, rfl, rfl⟩ := e
  exact ⟨rfl, g, rfl, h.own, h.rng⟩
theorem IntG.ints {w : World} {B : Nat} {A : Option Addr} {n c k : Nat} {ys : List Int} (h : IntG w B (.slice A n c) k ys) (hk : k ≤ 1000000) : Ints w A k ys := by
  rcases Nat.eq_zero_or_pos k with e | e
  · subst e
    have hl := h.len
    exact ⟨hl, fun h => absurd h (by omega), h.rng, by omega⟩
  · obtain ⟨rfl, q, rfl, hr⟩ := h.row e
    exact hr.ints hk
theorem IntG.empty {W : World} {E B : Nat} (hE : W.heap.size = E) (hb : B ≤ E) : IntG (W.alloc (.cells #[] 3)) B (.slice (some ⟨E, 0, none⟩) 0 0) 0 [] := by
  subst hE
  exact ⟨World.ownsRow_lit W #[] 0 hb (by simp) rfl, fun j => by simp [J64]⟩

/-- How many times each is taken was drawn. -/
def TimesBack (g : Nat) (A : Option Addr) (cap : Nat) (bs : List UInt8) (p k : Nat) (w : World) (e : Ending) (w' : World) : Prop :=
  ∃ (ts : List Int) (q : Option Addr) (m c : Nat), e = .returned (.slice q m c) ∧ (Ints w' q m ts ∧ m ≤ 22) ∧ Moved g A cap bs p k w w'
theorem l3Times_any {g : Nat} {A : Option Addr} {cap : Nat} {bs : List UInt8} {p : Nat} {w : World} (h : Rd w g A cap bs p) (hp : p ≤ 300000) {Al : Option Addr} {n cl : Nat} {ls : List LinV} (hL : Lins w Al n ls) (hn : n ≤ 21) :
    Calls Try.prog 65 #[.pointer (some ⟨g, 0, none⟩), .slice Al n cl] w (TimesBack g A cap bs p 100 w) := by
  have hg := h.lt
  have hlen := hL.len
  obtain ⟨i0, hi, zi0, zi1, zi2⟩ := info_parts int_info
  go_enter Try.func65, Try.ntmps65
  go_wp2_with fail
  refine (sFarRun_any hL).mono ?_
  rintro e w1 hrb
  obtain ⟨A1, n1, c1, B1, m1, d1, code, vs1, ts1, rfl, ⟨_, ⟨hT1, hm1, hF1⟩⟩, hb1⟩ := run_any (by omega) hrb
  have hs1 := hb1.size
  have hR1 := h.grown hb1
  have hK1 : Kept w.heap.size g w w1 := (Kept.refl _ _ _).below hb1 (Nat.le_refl _)
  clear hrb hb1 hL h hlen
  by_cases hc1 : code = 1
  · subst hc1
    go_wp2_with fail
    refine (pick_any 3 hR1 (by omega) (by omega) (by omega)).mono ?_
    rintro e w2 ⟨r, rfl, hr⟩
    have hs2 := hr.only.size
    have hR2 := hr.rd
    have hK2 := hK1.then_only hr.only (by omega)
    by_cases hr0 : 0 < r
    · have hT2 := hT1.freshOnly hF1 hr.only hg
      clear hr
      go_wp2
      go_ret
      exact ⟨_, _, _, _, rfl, ⟨hT2, by omega⟩, ⟨⟨_, by omega, hR2⟩, hK2.only⟩⟩
    · clear hr hT1 hR1 hK1
      obtain ⟨pp0, hpp0⟩ : ∃ q, p + 1 = q := ⟨_, rfl⟩
      go_wp2_with fail
      go_loopw [8, 9] (fun v0 i wr => ∃ (k : Nat) (v : Value) (ys : List Int) (pp : Nat), k ≤ n ∧ i = .int .i64 k ∧ v = v0 ∧ IntG wr w.heap.size v k ys ∧ Rd wr g A cap bs pp ∧ pp ≤ p + 1 + k ∧ Kept w.heap.size g w wr) (fun _ i _ => n - (intOf i).toNat)
      case atStart => exact ⟨0, _, [], _, by omega, rfl, rfl, IntG.empty rfl (by omega), (hR2).alloc _, by omega, (hK2).alloc (by omega) _⟩
      case round =>
        clear hR2 hK2 hs2
        obtain ⟨k, v, ys, pp, hk, rfl, rfl, hrow, hR, hpp, hK⟩ := hrel
        have hgw := hR.lt
        have hsz := hK.size
        by_cases hlt : k < n
        · go_wp2_with fail
          (with_reducible refine (num_any [0, 1, 2, 0, 1, 3] wr.heap.size 0 6 6 (hR.alloc _) (by omega) (by decide) (by decide) (by decide) (by omega) (fun j hj => ?_)).mono ?_)
          · exact alloc_list wr [0, 1, 2, 0, 1, 3] 3 j hj
          rintro e w4 ⟨x, rfl, h1⟩
          have hJx : J64 x := by have := h1.mem; simp at this; unfold J64; omega
          have hs4 := h1.only.size
          simp only [World.size_alloc] at hs4
          have hrow4 := (hrow.later ((Below.refl _ _).alloc (Nat.le_refl _) (.cells #[.int .i64 0, .int .i64 1, .int .i64 2, .int .i64 0, .int .i64 1, .int .i64 3] 3))).only h1.only (by omega)
          have hR4 := h1.rd
          have hK4 := (hK.alloc (by omega) _).then_only h1.only (by simp; omega)
          clear h1 hR hK hrow
          have hrow := hrow4
          go_wp2_with (first | (at_builtin; refine wpList_append_lies _ (by rfl) (.tmp 31) (.tmp 35) _ (by rfl) w.heap.size 3 i0 _ 1 8 Try.underlying29 hi zi0 zi1 zi2 rfl (by omega) v k _ (by rfl) ((IntG.later hrow (by (repeat (first | with_reducible exact Below.refl _ _ | with_reducible assumption | (with_reducible refine below_drewN ?_ _) | (with_reducible refine Below.drew ?_) | (with_reducible refine Below.setCell ?_ (by first | omega | (simp; done) | (simp; omega)) _) | (with_reducible refine Below.alloc ?_ (by first | omega | (simp; done) | (simp; omega)) _) | refine Below.trans ?_ (Below.mono (by with_reducible assumption) (by first | omega | (simp; done) | (simp; omega)))))))).own ⟨w4.heap.size, 0, none⟩ 1 1 [.int .i64 (x)] (by rfl) (by rfl) (news9 (by first | omega | (simp; done) | (simp; omega))) (by simp [Value.oneCell']) (by omega) (by unfold maxLen; omega) (by omega) (by first | omega | (simp; done) | (simp; omega)) (w4.heap.size + 1) (by simp) ?_; intro g' cap' wq hown3 hgrow hat hlt2; have hrowN : IntG wq w.heap.size (.slice (some ⟨g', 0, none⟩) (k + 1) cap') (k + 1) (ys ++ [x]) := ⟨by rw [List.map_append]; exact hown3, snoc_rng hrow.rng hJx⟩; have hRN : Rd wq g A cap bs (pp + 1) := Rd.aside (by (repeat (first | with_reducible exact hR4 | refine Rd.far ?_ (by first | omega | (simp; done) | (simp; omega)) _ | refine Rd.alloc ?_ _ | refine Rd.drewN ?_ _ | refine Rd.drew ?_))) hgrow (fun j hj => by have := (hrow.own.lt j hj).1; omega); have hKN : Kept w.heap.size g w wq := Kept.grown (by (repeat (first | with_reducible exact hK4 | (with_reducible refine Kept.set ?_ (by first | omega | (simp; done) | (simp; omega)) _) | (with_reducible refine Kept.alloc ?_ (by first | omega | (simp; done) | (simp; omega)) _) | (with_reducible refine Kept.drewN ?_ _) | (with_reducible refine Kept.drew ?_)))) hgrow (by first | omega | (simp; done) | (simp; omega)) (fun j hj => (hrow.own.lt j hj).1); clear hown3 hgrow hat hlt2 hrow))
          go_roundw
          case rel => exact ⟨k + 1, _, _, pp + 1, by omega, by go_num, rfl, hrowN, hRN, by omega, hKN⟩
          case measure => simp [intOf]; omega
        · obtain rfl : k = n := by omega
          obtain ⟨Av, cv, rfl⟩ := hrow.form
          go_wp2_with fail
          refine (pick_any 20 hR (by omega) (by omega) (by omega)).mono ?_
          rintro e w3 ⟨r3, rfl, hr3⟩
          have hs3 := hr3.only.size
          have hR3 := hr3.rd
          have hK3 := hK.then_only hr3.only (by omega)
          have hrow3 := hrow.only hr3.only (by omega)
          clear hr3 hrow hK hR
          by_cases q0 : r3 = 0
          · subst q0
            have hrow := hrow3
            go_wp2_with (first | (at_builtin; refine wpList_append_lies _ (by rfl) (.tmp 41) (.tmp 42) _ (by rfl) w.heap.size 3 i0 _ 1 8 Try.underlying29 hi zi0 zi1 zi2 rfl (by omega) (.slice Av k cv) k _ (by rfl) ((IntG.later hrow (by (repeat (first | with_reducible exact Below.refl _ _ | with_reducible assumption | (with_reducible refine below_drewN ?_ _) | (with_reducible refine Below.drew ?_) | (with_reducible refine Below.setCell ?_ (by first | omega | (simp; done) | (simp; omega)) _) | (with_reducible refine Below.alloc ?_ (by first | omega | (simp; done) | (simp; omega)) _) | refine Below.trans ?_ (Below.mono (by with_reducible assumption) (by first | omega | (simp; done) | (simp; omega)))))))).own ⟨w3.heap.size, 0, none⟩ 1 1 [.int .i64 (1)] (by rfl) (by rfl) (news9 (by first | omega | (simp; done) | (simp; omega))) (by simp [Value.oneCell']) (by omega) (by unfold maxLen; omega) (by omega) (by first | omega | (simp; done) | (simp; omega)) (w3.heap.size + 1) (by simp) ?_; intro g' cap' wq hown3 hgrow hat hlt2; have hrowN : IntG wq w.heap.size (.slice (some ⟨g', 0, none⟩) (k + 1) cap') (k + 1) (ys ++ [1]) := ⟨by rw [List.map_append]; exact hown3, snoc_rng hrow.rng (by unfold J64; omega)⟩; have hRN : Rd wq g A cap bs (pp + 1) := Rd.aside (by (repeat (first | with_reducible exact hR3 | refine Rd.far ?_ (by first | omega | (simp; done) | (simp; omega)) _ | refine Rd.alloc ?_ _ | refine Rd.drewN ?_ _ | refine Rd.drew ?_))) hgrow (fun j hj => by have := (hrow.own.lt j hj).1; omega); have hKN : Kept w.heap.size g w wq := Kept.grown (by (repeat (first | with_reducible exact hK3 | (with_reducible refine Kept.set ?_ (by first | omega | (simp; done) | (simp; omega)) _) | (with_reducible refine Kept.alloc ?_ (by first | omega | (simp; done) | (simp; omega)) _) | (with_reducible refine Kept.drewN ?_ _) | (with_reducible refine Kept.drew ?_)))) hgrow (by first | omega | (simp; done) | (simp; omega)) (fun j hj => (hrow.own.lt j hj).1); clear hown3 hgrow hat hlt2 hrow))
            go_ret
            exact ⟨_, _, _, _, rfl, ⟨hrowN.ints (by omega), by omega⟩, ⟨⟨_, by omega, hRN⟩, hKN.only⟩⟩
          · have q0' : (r3 == 0) = false := by simpa using q0
            by_cases q1 : r3 = 1
            · subst q1
              by_cases hk0 : 0 < k
              · have hk0' : decide ((0 : Int) < (k : Int)) = true := by simp; omega
                go_wp2_with fail
                (with_reducible refine (num_any [-1, 1000000, 1000001, 9223372036854775807] w3.heap.size 0 4 4 (hR3.alloc _) (by omega) (by decide) (by decide) (by decide) (by omega) (fun j hj => ?_)).mono ?_)
                · exact alloc_list w3 [-1, 1000000, 1000001, 9223372036854775807] 3 j hj
                rintro e w5 ⟨x, rfl, h1⟩
                have hJx : J64 x := by have := h1.mem; simp at this; unfold J64; omega
                have hs5 := h1.only.size
                simp only [World.size_alloc] at hs5
                have hrow5 := (hrow3.later ((Below.refl _ _).alloc (Nat.le_refl _) (.cells #[.int .i64 (-1), .int .i64 1000000, .int .i64 1000001, .int .i64 9223372036854775807] 3))).only h1.only (by omega)
                have hR5 := h1.rd
                have hK5 := (hK3.alloc (by omega) _).then_only h1.only (by simp; omega)
                clear h1 hR3 hK3 hrow3
                obtain ⟨_, q, rfl, hrx⟩ := hrow5.row hk0
                obtain ⟨hq1, hq2⟩ := hrx.lt
                have hx0 := hrx.cellAt (k := 0) (by omega)
                have hy0 := hrx.own.frozenAt 0
                generalize ys.getD 0 0 = z0 at hx0
                go_wp2
                go_ret
                refine ⟨_, _, _, _, rfl, ⟨(hrx.stored 0 hJx).ints (by omega), by omega⟩, ⟨⟨pp + 1 + 1, by omega, ?_⟩, ?_⟩⟩
                · (repeat (first | with_reducible exact hR5 | refine Rd.far ?_ (by first | omega | (simp; done) | (simp; omega)) _ | refine Rd.alloc ?_ _ | refine Rd.drewN ?_ _ | refine Rd.drew ?_))
                · refine Kept.only ?_
                  (repeat (first | with_reducible exact hK5 | (with_reducible refine Kept.set ?_ (by first | omega | (simp; done) | (simp; omega)) _) | (with_reducible refine Kept.alloc ?_ (by first | omega | (simp; done) | (simp; omega)) _) | (with_reducible refine Kept.drewN ?_ _) | (with_reducible refine Kept.drew ?_)))
              · obtain rfl : k = 0 := by omega
                go_wp2
                go_ret
                exact ⟨_, _, _, _, rfl, ⟨hrow3.ints (by omega), by omega⟩, ⟨⟨_, by omega, hR3⟩, hK3.only⟩⟩
            · have q1' : (r3 == 1) = false := by simpa using q1
              go_wp2
              go_ret
              exact ⟨_, _, _, _, rfl, ⟨hrow3.ints (by omega), by omega⟩, ⟨⟨_, by omega, hR3⟩, hK3.only⟩⟩
  · have hR2 := hR1
    have hK2 := hK1
    have hs2 := hs1
    clear hR1 hK1 hT1
    go_wp2_with fail
    go_loopw [8, 9] (fun v0 i wr => ∃ (k : Nat) (v : Value) (ys : List Int) (pp : Nat), k ≤ n ∧ i = .int .i64 k ∧ v = v0 ∧ IntG wr w.heap.size v k ys ∧ Rd wr g A cap bs pp ∧ pp ≤ p + 1 + k ∧ Kept w.heap.size g w wr) (fun _ i _ => n - (intOf i).toNat)
    case atStart => exact ⟨0, _, [], _, by omega, rfl, rfl, IntG.empty rfl (by omega), (hR2).alloc _, by omega, (hK2).alloc (by omega) _⟩
    case round =>
      clear hR2 hK2 hs2
      obtain ⟨k, v, ys, pp, hk, rfl, rfl, hrow, hR, hpp, hK⟩ := hrel
      have hgw := hR.lt
      have hsz := hK.size
      by_cases hlt : k < n
      · go_wp2_with fail
        (with_reducible refine (num_any [0, 1, 2, 0, 1, 3] wr.heap.size 0 6 6 (hR.alloc _) (by omega) (by decide) (by decide) (by decide) (by omega) (fun j hj => ?_)).mono ?_)
        · exact alloc_list wr [0, 1, 2, 0, 1, 3] 3 j hj
        rintro e w4 ⟨x, rfl, h1⟩
        have hJx : J64 x := by have := h1.mem; simp at this; unfold J64; omega
        have hs4 := h1.only.size
        simp only [World.size_alloc] at hs4
        have hrow4 := (hrow.later ((Below.refl _ _).alloc (Nat.le_refl _) (.cells #[.int .i64 0, .int .i64 1, .int .i64 2, .int .i64 0, .int .i64 1, .int .i64 3] 3))).only h1.only (by omega)
        have hR4 := h1.rd
        have hK4 := (hK.alloc (by omega) _).then_only h1.only (by simp; omega)
        clear h1 hR hK hrow
        have hrow := hrow4
        go_wp2_with (first | (at_builtin; refine wpList_append_lies _ (by rfl) (.tmp 31) (.tmp 35) _ (by rfl) w.heap.size 3 i0 _ 1 8 Try.underlying29 hi zi0 zi1 zi2 rfl (by omega) v k _ (by rfl) ((IntG.later hrow (by (repeat (first | with_reducible exact Below.refl _ _ | with_reducible assumption | (with_reducible refine below_drewN ?_ _) | (with_reducible refine Below.drew ?_) | (with_reducible refine Below.setCell ?_ (by first | omega | (simp; done) | (simp; omega)) _) | (with_reducible refine Below.alloc ?_ (by first | omega | (simp; done) | (simp; omega)) _) | refine Below.trans ?_ (Below.mono (by with_reducible assumption) (by first | omega | (simp; done) | (simp; omega)))))))).own ⟨w4.heap.size, 0, none⟩ 1 1 [.int .i64 (x)] (by rfl) (by rfl) (news9 (by first | omega | (simp; done) | (simp; omega))) (by simp [Value.oneCell']) (by omega) (by unfold maxLen; omega) (by omega) (by first | omega | (simp; done) | (simp; omega)) (w4.heap.size + 1) (by simp) ?_; intro g' cap' wq hown3 hgrow hat hlt2; have hrowN : IntG wq w.heap.size (.slice (some ⟨g', 0, none⟩) (k + 1) cap') (k + 1) (ys ++ [x]) := ⟨by rw [List.map_append]; exact hown3, snoc_rng hrow.rng hJx⟩; have hRN : Rd wq g A cap bs (pp + 1) := Rd.aside (by (repeat (first | with_reducible exact hR4 | refine Rd.far ?_ (by first | omega | (simp; done) | (simp; omega)) _ | refine Rd.alloc ?_ _ | refine Rd.drewN ?_ _ | refine Rd.drew ?_))) hgrow (fun j hj => by have := (hrow.own.lt j hj).1; omega); have hKN : Kept w.heap.size g w wq := Kept.grown (by (repeat (first | with_reducible exact hK4 | (with_reducible refine Kept.set ?_ (by first | omega | (simp; done) | (simp; omega)) _) | (with_reducible refine Kept.alloc ?_ (by first | omega | (simp; done) | (simp; omega)) _) | (with_reducible refine Kept.drewN ?_ _) | (with_reducible refine Kept.drew ?_)))) hgrow (by first | omega | (simp; done) | (simp; omega)) (fun j hj => (hrow.own.lt j hj).1); clear hown3 hgrow hat hlt2 hrow))
        go_roundw
        case rel => exact ⟨k + 1, _, _, pp + 1, by omega, by go_num, rfl, hrowN, hRN, by omega, hKN⟩
        case measure => simp [intOf]; omega
      · obtain rfl : k = n := by omega
        obtain ⟨Av, cv, rfl⟩ := hrow.form
        go_wp2_with fail
        refine (pick_any 20 hR (by omega) (by omega) (by omega)).mono ?_
        rintro e w3 ⟨r3, rfl, hr3⟩
        have hs3 := hr3.only.size
        have hR3 := hr3.rd
        have hK3 := hK.then_only hr3.only (by omega)
        have hrow3 := hrow.only hr3.only (by omega)
        clear hr3 hrow hK hR
        by_cases q0 : r3 = 0
        · subst q0
          have hrow := hrow3
          go_wp2_with (first | (at_builtin; refine wpList_append_lies _ (by rfl) (.tmp 41) (.tmp 42) _ (by rfl) w.heap.size 3 i0 _ 1 8 Try.underlying29 hi zi0 zi1 zi2 rfl (by omega) (.slice Av k cv) k _ (by rfl) ((IntG.later hrow (by (repeat (first | with_reducible exact Below.refl _ _ | with_reducible assumption | (with_reducible refine below_drewN ?_ _) | (with_reducible refine Below.drew ?_) | (with_reducible refine Below.setCell ?_ (by first | omega | (simp; done) | (simp; omega)) _) | (with_reducible refine Below.alloc ?_ (by first | omega | (simp; done) | (simp; omega)) _) | refine Below.trans ?_ (Below.mono (by with_reducible assumption) (by first | omega | (simp; done) | (simp; omega)))))))).own ⟨w3.heap.size, 0, none⟩ 1 1 [.int .i64 (1)] (by rfl) (by rfl) (news9 (by first | omega | (simp; done) | (simp; omega))) (by simp [Value.oneCell']) (by omega) (by unfold maxLen; omega) (by omega) (by first | omega | (simp; done) | (simp; omega)) (w3.heap.size + 1) (by simp) ?_; intro g' cap' wq hown3 hgrow hat hlt2; have hrowN : IntG wq w.heap.size (.slice (some ⟨g', 0, none⟩) (k + 1) cap') (k + 1) (ys ++ [1]) := ⟨by rw [List.map_append]; exact hown3, snoc_rng hrow.rng (by unfold J64; omega)⟩; have hRN : Rd wq g A cap bs (pp + 1) := Rd.aside (by (repeat (first | with_reducible exact hR3 | refine Rd.far ?_ (by first | omega | (simp; done) | (simp; omega)) _ | refine Rd.alloc ?_ _ | refine Rd.drewN ?_ _ | refine Rd.drew ?_))) hgrow (fun j hj => by have := (hrow.own.lt j hj).1; omega); have hKN : Kept w.heap.size g w wq := Kept.grown (by (repeat (first | with_reducible exact hK3 | (with_reducible refine Kept.set ?_ (by first | omega | (simp; done) | (simp; omega)) _) | (with_reducible refine Kept.alloc ?_ (by first | omega | (simp; done) | (simp; omega)) _) | (with_reducible refine Kept.drewN ?_ _) | (with_reducible refine Kept.drew ?_)))) hgrow (by first | omega | (simp; done) | (simp; omega)) (fun j hj => (hrow.own.lt j hj).1); clear hown3 hgrow hat hlt2 hrow))
          go_ret
          exact ⟨_, _, _, _, rfl, ⟨hrowN.ints (by omega), by omega⟩, ⟨⟨_, by omega, hRN⟩, hKN.only⟩⟩
        · have q0' : (r3 == 0) = false := by simpa using q0
          by_cases q1 : r3 = 1
          · subst q1
            by_cases hk0 : 0 < k
            · have hk0' : decide ((0 : Int) < (k : Int)) = true := by simp; omega
              go_wp2_with fail
              (with_reducible refine (num_any [-1, 1000000, 1000001, 9223372036854775807] w3.heap.size 0 4 4 (hR3.alloc _) (by omega) (by decide) (by decide) (by decide) (by omega) (fun j hj => ?_)).mono ?_)
              · exact alloc_list w3 [-1, 1000000, 1000001, 9223372036854775807] 3 j hj
              rintro e w5 ⟨x, rfl, h1⟩
              have hJx : J64 x := by have := h1.mem; simp at this; unfold J64; omega
              have hs5 := h1.only.size
              simp only [World.size_alloc] at hs5
              have hrow5 := (hrow3.later ((Below.refl _ _).alloc (Nat.le_refl _) (.cells #[.int .i64 (-1), .int .i64 1000000, .int .i64 1000001, .int .i64 9223372036854775807] 3))).only h1.only (by omega)
              have hR5 := h1.rd
              have hK5 := (hK3.alloc (by omega) _).then_only h1.only (by simp; omega)
              clear h1 hR3 hK3 hrow3
              obtain ⟨_, q, rfl, hrx⟩ := hrow5.row hk0
              obtain ⟨hq1, hq2⟩ := hrx.lt
              have hx0 := hrx.cellAt (k := 0) (by omega)
              have hy0 := hrx.own.frozenAt 0
              generalize ys.getD 0 0 = z0 at hx0
              go_wp2
              go_ret
              refine ⟨_, _, _, _, rfl, ⟨(hrx.stored 0 hJx).ints (by omega), by omega⟩, ⟨⟨pp + 1 + 1, by omega, ?_⟩, ?_⟩⟩
              · (repeat (first | with_reducible exact hR5 | refine Rd.far ?_ (by first | omega | (simp; done) | (simp; omega)) _ | refine Rd.alloc ?_ _ | refine Rd.drewN ?_ _ | refine Rd.drew ?_))
              · refine Kept.only ?_
                (repeat (first | with_reducible exact hK5 | (with_reducible refine Kept.set ?_ (by first | omega | (simp; done) | (simp; omega)) _) | (with_reducible refine Kept.alloc ?_ (by first | omega | (simp; done) | (simp; omega)) _) | (with_reducible refine Kept.drewN ?_ _) | (with_reducible refine Kept.drew ?_)))
            · obtain rfl : k = 0 := by omega
              go_wp2
              go_ret
              exact ⟨_, _, _, _, rfl, ⟨hrow3.ints (by omega), by omega⟩, ⟨⟨_, by omega, hR3⟩, hK3.only⟩⟩
          · have q1' : (r3 == 1) = false := by simpa using q1
            go_wp2
            go_ret
            exact ⟨_, _, _, _, rfl, ⟨hrow3.ints (by omega), by omega⟩, ⟨⟨_, by omega, hR3⟩, hK3.only⟩⟩

/-- A list was drawn. -/
def ListOne (w : World) (e : Ending) (w' : World) : Prop :=
  ∃ (ls : List LinV) (A : Option Addr) (n c : Nat), e = .returned (.slice A n c) ∧ (Lins w' A n ls ∧ n ≤ 21) ∧ Below w.heap.size w w'
theorem DrawFarRun_any {A : Option Addr} {cap : Nat} {bs : List UInt8} {w : World} (h : Code8 w A cap bs) (hl : bs.length ≤ 1048576) :
    Calls Try.prog 18 #[.slice A bs.length cap] w (ListOne w) := by
  go_enter Try.func18, Try.ntmps18
  go_wp2_with fail
  refine (l16Open_any (h).bytes hl (h).cap).mono ?_
  rintro e w1 ⟨bs', rfl, hR1, hb1⟩
  have hs1 := hb1.size
  have hB1 : Below w.heap.size w w1 := hb1
  clear hb1
  have hgl := hR1.lt
  obtain ⟨g, hg⟩ : ∃ g, w.heap.size = g := ⟨_, rfl⟩
  rw [hg] at hR1 hgl ⊢
  go_wp2_with fail
  refine (l3Some_any hR1 (by omega)).mono ?_
  rintro e w2 ⟨ls, v, n, zs, rfl, ⟨hrow, hn⟩, ⟨⟨p2, hp2, hR2⟩, hO2⟩⟩
  have hs2 := hO2.size
  have hB2 : Below w.heap.size w w2 := hB1.trans (hO2.base (by omega) (by omega))
  clear hO2 hB1 hR1
  obtain ⟨Av, cv, rfl⟩ := hrow.form
  have hL2 := hrow.lins (by omega)
  go_wp2
  go_ret
  exact ⟨ls, Av, n, cv, rfl, ⟨hL2, hn⟩, hB2⟩

/-- A list was drawn, and how many times each is taken. -/
def ListTimes (w : World) (e : Ending) (w' : World) : Prop :=
  ∃ (ls : List LinV) (A : Option Addr) (n c : Nat) (ts : List Int) (B : Option Addr) (m d : Nat), e = .returned (.tuple #[.slice A n c, .slice B m d]) ∧ ((Lins w' A n ls ∧ n ≤ 21) ∧ (Ints w' B m ts ∧ m ≤ 22)) ∧ Below w.heap.size w w'
theorem DrawFarSum_any {A : Option Addr} {cap : Nat} {bs : List UInt8} {w : World} (h : Code8 w A cap bs) (hl : bs.length ≤ 1048576) :
    Calls Try.prog 26 #[.slice A bs.length cap] w (ListTimes w) := by
  go_enter Try.func26, Try.ntmps26
  go_wp2_with fail
  refine (l16Open_any (h).bytes hl (h).cap).mono ?_
  rintro e w1 ⟨bs', rfl, hR1, hb1⟩
  have hs1 := hb1.size
  have hB1 : Below w.heap.size w w1 := hb1
  clear hb1
  have hgl := hR1.lt
  obtain ⟨g, hg⟩ : ∃ g, w.heap.size = g := ⟨_, rfl⟩
  rw [hg] at hR1 hgl ⊢
  go_wp2_with fail
  refine (l3Some_any hR1 (by omega)).mono ?_
  rintro e w2 ⟨ls, v, n, zs, rfl, ⟨hrow, hn⟩, ⟨⟨p2, hp2, hR2⟩, hO2⟩⟩
  have hs2 := hO2.size
  have hB2 : Below w.heap.size w w2 := hB1.trans (hO2.base (by omega) (by omega))
  clear hO2 hB1 hR1
  obtain ⟨Av, cv, rfl⟩ := hrow.form
  have hL2 := hrow.lins (by omega)
  go_wp2_with fail
  refine (l3Times_any hR2 (by omega) hL2 hn).mono ?_
  rintro e w3 ⟨ts, B, m, d, rfl, ⟨hT, hm⟩, ⟨⟨p3, hp3, hR3⟩, hO3⟩⟩
  have hs3 := hO3.size
  have hrow3 := hrow.only hO3 hgl
  have hL3 := hrow3.lins (by omega)
  have hB3 : Below w.heap.size w w3 := hB2.trans (hO3.base (by omega) (by omega))
  clear hO3
  go_wp2
  refine bodyPost_ret (v := .tuple #[.slice Av n cv, .slice B m d]) (by simp only [results, Try.results26]; go_simp) rfl ?_
  exact ⟨ls, Av, n, cv, ts, B, m, d, rfl, ⟨⟨hL3, hn⟩, hT, hm⟩, hB3⟩

theorem DrawFarOk_any {A : Option Addr} {cap : Nat} {bs : List UInt8} {w : World} (h : Code8 w A cap bs) (hl : bs.length ≤ 1048576) :
    Calls Try.prog 41 #[.slice A bs.length cap] w (ListTimes w) := by
  go_enter Try.func41, Try.ntmps41
  go_wp2_with fail
  refine (DrawFarSum_any h hl).mono ?_
  rintro e w1 ⟨ls, Av, n, cv, ts, B, m, d, rfl, ⟨⟨hL3, hn⟩, hT, hm⟩, hB3⟩
  go_wp2
  refine bodyPost_ret (v := .tuple #[.slice Av n cv, .slice B m d]) (by simp only [results, Try.results41]; go_simp) rfl ?_
  exact ⟨ls, Av, n, cv, ts, B, m, d, rfl, ⟨⟨hL3, hn⟩, hT, hm⟩, hB3⟩

/-- A list was drawn, and numbers. -/
def ListNums (w : World) (e : Ending) (w' : World) : Prop :=
  ∃ (ls : List LinV) (A : Option Addr) (n c : Nat) (vs : List (Int × Int)) (B : Option Addr) (m d : Nat), e = .returned (.tuple #[.slice A n c, .slice B m d]) ∧ ((Lins w' A n ls ∧ n ≤ 21) ∧ (Rats w' B m vs ∧ m ≤ 4)) ∧ Below w.heap.size w w'
theorem DrawFarAll_any {A : Option Addr} {cap : Nat} {bs : List UInt8} {w : World} (h : Code8 w A cap bs) (hl : bs.length ≤ 1048576) :
    Calls Try.prog 29 #[.slice A bs.length cap] w (ListNums w) := by
  go_enter Try.func29, Try.ntmps29
  go_wp2_with fail
  refine (l16Open_any (h).bytes hl (h).cap).mono ?_
  rintro e w1 ⟨bs', rfl, hR1, hb1⟩
  have hs1 := hb1.size
  have hB1 : Below w.heap.size w w1 := hb1
  clear hb1
  have hgl := hR1.lt
  obtain ⟨g, hg⟩ : ∃ g, w.heap.size = g := ⟨_, rfl⟩
  rw [hg] at hR1 hgl ⊢
  go_wp2_with fail
  refine (l3Some_any hR1 (by omega)).mono ?_
  rintro e w2 ⟨ls, v, n, zs, rfl, ⟨hrow, hn⟩, ⟨⟨p2, hp2, hR2⟩, hO2⟩⟩
  have hs2 := hO2.size
  have hB2 : Below w.heap.size w w2 := hB1.trans (hO2.base (by omega) (by omega))
  clear hO2 hB1 hR1
  obtain ⟨Av, cv, rfl⟩ := hrow.form
  have hL2 := hrow.lins (by omega)
  have hlen := hL2.len
  go_wp2_with fail
  refine (sFarRun_any hL2).mono ?_
  rintro e w3 hrb
  obtain ⟨A1, n1, c1, B1, m1, d1, code, vs1, ts1, rfl, ⟨⟨hV1, hn1, hF1⟩, _⟩, hb1⟩ := run_any (by omega) hrb
  have hs3 := hb1.size
  have hR3 := hR2.grown hb1
  have hrow3 := hrow.later hb1
  have hB3 : Below w.heap.size w w3 := hB2.trans (hb1.mono (by omega))
  clear hrb hb1 hL2 hrow hB2 hR2 hlen
  by_cases hc0 : code = 0
  · subst hc0
    go_wp2_with fail
    refine (pick_any 2 hR3 (by omega) (by omega) (by omega)).mono ?_
    rintro e w5 ⟨r, rfl, hr⟩
    have hs5 := hr.only.size
    have hR5 := hr.rd
    have hV5 := hV1.freshOnly hF1 hr.only (by omega)
    have hrow5 := hrow3.only hr.only hgl
    have hB5 : Below w.heap.size w w5 := hB3.trans (hr.only.base (by omega) (by omega))
    clear hr hV1 hrow3 hB3 hR3
    by_cases q0 : r = 0
    · subst q0
      have hL5 := hrow5.lins (by omega)
      go_wp2
      refine bodyPost_ret (v := .tuple #[.slice Av n cv, .slice A1 n1 c1]) (by simp only [results, Try.results29]; go_simp) rfl ?_
      exact ⟨ls, Av, n, cv, vs1, _, n1, c1, rfl, ⟨⟨hL5, hn⟩, hV5, hn1⟩, hB5⟩
    · have q0' : (r == 0) = false := by simpa using q0
      have hrow3 := hrow5
      have hB3 := hB5
      go_wp2_with fail
      refine (l2Numbers_any hR5 (by omega)).mono ?_
      rintro e w4 ⟨vs, q', o', n', c', rfl, ⟨hV, hn', hq'⟩, ⟨⟨p4, hp4, hR4⟩, hO4⟩⟩
      have hrow4 := hrow3.only hO4 hgl
      have hL4 := hrow4.lins (by omega)
      have hB4 : Below w.heap.size w w4 := hB3.trans (hO4.base (by omega) (by omega))
      clear hO4
      go_wp2
      refine bodyPost_ret (v := .tuple #[.slice Av n cv, .slice (some ⟨q', o', none⟩) n' c']) (by simp only [results, Try.results29]; go_simp) rfl ?_
      exact ⟨ls, Av, n, cv, vs, _, n', c', rfl, ⟨⟨hL4, hn⟩, hV, by omega⟩, hB4⟩
  · have hc0' : (code == 0) = false := by simpa using hc0
    go_wp2_with fail
    refine (l2Numbers_any hR3 (by omega)).mono ?_
    rintro e w4 ⟨vs, q', o', n', c', rfl, ⟨hV, hn', hq'⟩, ⟨⟨p4, hp4, hR4⟩, hO4⟩⟩
    have hrow4 := hrow3.only hO4 hgl
    have hL4 := hrow4.lins (by omega)
    have hB4 : Below w.heap.size w w4 := hB3.trans (hO4.base (by omega) (by omega))
    clear hO4
    go_wp2
    refine bodyPost_ret (v := .tuple #[.slice Av n cv, .slice (some ⟨q', o', none⟩) n' c']) (by simp only [results, Try.results29]; go_simp) rfl ?_
    exact ⟨ls, Av, n, cv, vs, _, n', c', rfl, ⟨⟨hL4, hn⟩, hV, by omega⟩, hB4⟩

/-- A list was drawn, and a place. -/
def ListAt (w : World) (e : Ending) (w' : World) : Prop :=
  ∃ (ls : List LinV) (A : Option Addr) (n c : Nat) (u : Int), e = .returned (.tuple #[.slice A n c, .int .i64 u]) ∧ (Lins w' A n ls ∧ n ≤ 21 ∧ -1 ≤ u ∧ u ≤ 4) ∧ Below w.heap.size w w'
theorem DrawFarLess_any {A : Option Addr} {cap : Nat} {bs : List UInt8} {w : World} (h : Code8 w A cap bs) (hl : bs.length ≤ 1048576) :
    Calls Try.prog 12 #[.slice A bs.length cap] w (ListAt w) := by
  go_enter Try.func12, Try.ntmps12
  go_wp2_with fail
  refine (l16Open_any (h).bytes hl (h).cap).mono ?_
  rintro e w1 ⟨bs', rfl, hR1, hb1⟩
  have hs1 := hb1.size
  have hB1 : Below w.heap.size w w1 := hb1
  clear hb1
  have hgl := hR1.lt
  obtain ⟨g, hg⟩ : ∃ g, w.heap.size = g := ⟨_, rfl⟩
  rw [hg] at hR1 hgl ⊢
  go_wp2_with fail
  refine (l3Some_any hR1 (by omega)).mono ?_
  rintro e w2 ⟨ls, v, n, zs, rfl, ⟨hrow, hn⟩, ⟨⟨p2, hp2, hR2⟩, hO2⟩⟩
  have hs2 := hO2.size
  have hB2 : Below w.heap.size w w2 := hB1.trans (hO2.base (by omega) (by omega))
  clear hO2 hB1 hR1
  obtain ⟨Av, cv, rfl⟩ := hrow.form
  have hL2 := hrow.lins (by omega)
  go_wp2_with fail
  (with_reducible refine (num_any [0, 1, 2, 3, 0, 1, -1, 4] w2.heap.size 0 8 8 (hR2.alloc _) (by omega) (by decide) (by decide) (by decide) (by omega) (fun j hj => ?_)).mono ?_)
  · exact alloc_list w2 [0, 1, 2, 3, 0, 1, -1, 4] 3 j hj
  rintro e w3 ⟨u, rfl, hr⟩
  have hu : -1 ≤ u ∧ u ≤ 4 := by have := hr.mem; simp at this; omega
  have hs3 := hr.only.size
  simp only [World.size_alloc] at hs3
  have hrow3 := (hrow.later ((Below.refl _ _).alloc (Nat.le_refl _) (.cells #[.int .i64 0, .int .i64 1, .int .i64 2, .int .i64 3, .int .i64 0, .int .i64 1, .int .i64 (-1), .int .i64 4] 3))).only hr.only hgl
  have hL3 := hrow3.lins (by omega)
  have hB3 : Below w.heap.size w w3 := (hB2.alloc (by omega) _).trans (hr.only.base (by omega) (by simp; omega))
  clear hr
  go_wp2
  refine bodyPost_ret (v := .tuple #[.slice Av n cv, .int .i64 u]) (by simp only [results, Try.results12]; go_simp) rfl ?_
  exact ⟨ls, Av, n, cv, u, rfl, ⟨hL3, hn, hu⟩, hB3⟩
end Go.Proofs.Ytccjbipmlpnhkaa

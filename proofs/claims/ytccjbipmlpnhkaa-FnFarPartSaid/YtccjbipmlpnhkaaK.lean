/- What the draws of constraints give. -/
import Derived.Test.YtccjbipmlpnhkaaS
import Derived.Test.YtccjbipmlpnhkaaI
namespace Go.Proofs.Ytccjbipmlpnhkaa
set_option maxRecDepth 100000
open Go.RowKit Go.ChangeShapes Go.WideShapes Go.ChangeAt
set_option linter.unusedSimpArgs false
set_option linter.unusedVariables false

/-- What stood below B is as it was, but for block g. -/
structure Kept (B g : Nat) (w w' : World) : Prop where
  os : w'.os = w.os
  tape : w'.tape = w.tape
  output : w'.output = w.output
  size : w.heap.size ≤ w'.heap.size
  block : ∀ i, i < B → i ≠ g → w'.heap[i]? = w.heap[i]?
theorem Kept.refl (B g : Nat) (w : World) : Kept B g w w := ⟨rfl, rfl, rfl, Nat.le_refl _, fun _ _ _ => rfl⟩
theorem Kept.trans {B g : Nat} {a b c : World} (h : Kept B g a b) (k : Kept B g b c) : Kept B g a c :=
  ⟨k.os.trans h.os, k.tape.trans h.tape, k.output.trans h.output, Nat.le_trans h.size k.size, fun i hi hn => (k.block i hi hn).trans (h.block i hi hn)⟩
theorem Kept.of_only {B g : Nat} {a b : World} (h : Only g a b) (hB : B ≤ a.heap.size) : Kept B g a b := ⟨h.os, h.tape, h.output, h.size, fun i hi hn => h.block i (by omega) (fun e => hn (by injection e))⟩
theorem Kept.then_only {B g : Nat} {a b c : World} (h : Kept B g a b) (k : Only g b c) (hB : B ≤ b.heap.size) : Kept B g a c := h.trans (Kept.of_only k hB)
theorem Kept.below {B B' g : Nat} {a b c : World} (h : Kept B g a b) (k : Below B' b c) (hB : B ≤ B') : Kept B g a c := h.trans ⟨k.os, k.tape, k.output, k.size, fun i hi _ => k.block i (by omega)⟩
theorem Kept.alloc {B g : Nat} {a b : World} (h : Kept B g a b) (hB : B ≤ b.heap.size) (o : Obj) : Kept B g a (b.alloc o) := h.below ((Below.refl _ _).alloc (Nat.le_refl _) o) hB
theorem Kept.drewN {B g : Nat} {a b : World} (h : Kept B g a b) (m : Nat) : Kept B g a (b.drewN m) := ⟨h.os, h.tape, h.output, h.size, h.block⟩
theorem Kept.drew {B g : Nat} {a b : World} (h : Kept B g a b) : Kept B g a b.drew := ⟨h.os, h.tape, h.output, h.size, h.block⟩
theorem Kept.set {B g : Nat} {a b : World} (h : Kept B g a b) {p : Addr} (hp : B ≤ p.block) (v : Value) : Kept B g a (b.setCell p v) :=
  ⟨h.os, h.tape, h.output, by simpa [World.setCell] using h.size, fun i hi hn => (Below.heap_setCell b p v i (by omega)).trans (h.block i hi hn)⟩
theorem Kept.grown {B g : Nat} {a b c : World} {row : Option Nat} (h : Kept B g a b) (k : b.grownBy c row) (hB : B ≤ b.heap.size) (hr : ∀ j, row = some j → B ≤ j) : Kept B g a c :=
  h.trans ⟨k.os, k.tape, k.output, k.size, fun i hi _ => k.block i (by omega) (fun e => by have := hr i e.symm; omega)⟩
theorem Kept.only {g : Nat} {a b : World} (h : Kept a.heap.size g a b) : Only g a b := ⟨h.os, h.tape, h.output, h.size, fun i hi hn => h.block i hi (fun e => hn (by rw [e]))⟩
theorem Kept.cell {B g : Nat} {a b : World} (h : Kept B g a b) {p : Addr} (hp : p.block < B) (hn : p.block ≠ g) : b.cell? p = a.cell? p := World.cell?_of_block (w := a) (h.block p.block hp hn)

theorem Bld.alloc {w : World} {G : Nat} {v : Value} {k : Nat} {ys : List Int} {b : Int} {s : Bool} (h : Bld w G v k ys b s) (o : Obj) : Bld (w.alloc o) G v k ys b s := by
  have hl := h.lt
  refine ⟨h.own.alloc o, ?_, ?_, ?_, ?_⟩
  · rw [World.cell?_alloc_lt _ _ _ hl]; exact h.c0
  · rw [World.cell?_alloc_lt _ _ _ hl]; exact h.c1
  · rw [World.cell?_alloc_lt _ _ _ hl]; exact h.c2
  · rw [World.frozen?_alloc_past _ _ _ hl]; exact h.f0
theorem Bld.only {w w' : World} {G g : Nat} {v : Value} {k : Nat} {ys : List Int} {b : Int} {s : Bool} (h : Bld w G v k ys b s) (ho : Only g w w') (hg : g < G) : Bld w' G v k ys b s := by
  have hl := h.lt
  have hb : w'.heap[G]? = w.heap[G]? := ho.block G hl (fun e => by injection e with e; omega)
  refine ⟨h.own.kept ho ?_, (World.cell?_of_block (w := w) (a := ⟨G, 0, none⟩) hb).trans h.c0, (World.cell?_of_block (w := w) (a := ⟨G, 1, none⟩) hb).trans h.c1, (World.cell?_of_block (w := w) (a := ⟨G, 2, none⟩) hb).trans h.c2, (World.frozen?_of_block (w := w) (a := ⟨G, 0, none⟩) hb).trans h.f0⟩
  exact .inr (fun e => by have := (h.own.lt g e).1; omega)
theorem L3.only {w w' : World} {r g : Nat} {v0 v1 v2 : Value} (h : L3 w r v0 v1 v2) (ho : Only g w w') (hg : r ≠ g) : L3 w' r v0 v1 v2 := by
  have hl := World.block_lt_of_cell? _ _ h.c0
  have hb : w'.heap[r]? = w.heap[r]? := ho.block r hl (fun e => hg (by injection e))
  exact ⟨(World.cell?_of_block (w := w) (a := ⟨r, 0, none⟩) hb).trans h.c0, (World.cell?_of_block (w := w) (a := ⟨r, 1, none⟩) hb).trans h.c1, (World.cell?_of_block (w := w) (a := ⟨r, 2, none⟩) hb).trans h.c2, (World.frozen?_of_block (w := w) (a := ⟨r, 0, none⟩) hb).trans h.f0, (World.frozen?_of_block (w := w) (a := ⟨r, 1, none⟩) hb).trans h.f1, (World.frozen?_of_block (w := w) (a := ⟨r, 2, none⟩) hb).trans h.f2⟩
theorem L3.far {w : World} {r : Nat} {v0 v1 v2 : Value} (h : L3 w r v0 v1 v2) {p : Addr} (hp : p.block ≠ r) (v : Value) : L3 (w.setCell p v) r v0 v1 v2 :=
  ⟨(World.cell?_setCell_other _ _ _ _ (fun e => hp (by rw [e]))).trans h.c0, (World.cell?_setCell_other _ _ _ _ (fun e => hp (by rw [e]))).trans h.c1, (World.cell?_setCell_other _ _ _ _ (fun e => hp (by rw [e]))).trans h.c2, by rw [World.frozen?_setCell]; exact h.f0, by rw [World.frozen?_setCell]; exact h.f1, by rw [World.frozen?_setCell]; exact h.f2⟩
theorem L3.grown {w w' : World} {r : Nat} {row : Option Nat} {v0 v1 v2 : Value} (h : L3 w r v0 v1 v2) (ho : w.grownBy w' row) (hg : row ≠ some r) : L3 w' r v0 v1 v2 := by
  have hl := World.block_lt_of_cell? _ _ h.c0
  have hb : w'.heap[r]? = w.heap[r]? := ho.block r hl (fun e => hg e.symm)
  exact ⟨(World.cell?_of_block (w := w) (a := ⟨r, 0, none⟩) hb).trans h.c0, (World.cell?_of_block (w := w) (a := ⟨r, 1, none⟩) hb).trans h.c1, (World.cell?_of_block (w := w) (a := ⟨r, 2, none⟩) hb).trans h.c2, (World.frozen?_of_block (w := w) (a := ⟨r, 0, none⟩) hb).trans h.f0, (World.frozen?_of_block (w := w) (a := ⟨r, 1, none⟩) hb).trans h.f1, (World.frozen?_of_block (w := w) (a := ⟨r, 2, none⟩) hb).trans h.f2⟩
theorem Rd.aside {w w' : World} {g : Nat} {A : Option Addr} {cap : Nat} {bs : List UInt8} {p : Nat} {row : Option Nat} (h : Rd w g A cap bs p) (ho : w.grownBy w' row) (hr : ∀ j, row = some j → g < j) : Rd w' g A cap bs p := by
  have hl := h.lt
  refine ⟨(ho.block g hl (fun e => by have := hr g e.symm; omega)).trans h.block, ?_, h.few⟩
  exact h.bytes.keep fun b o hb => World.cell?_of_block (w := w) (a := ⟨b, o, none⟩) (ho.block b (by omega) (fun e => by have := hr b e.symm; omega))

/-- One round of a draw: the number is appended. -/
theorem draw_step {w0 w wm w2 : World} {B g G r : Nat} {v z0 z1 z2 : Value} {k p : Nat} {ys : List Int} {b : Int} {s : Bool} {x : Int} {q c : Nat} {A : Option Addr} {cap : Nat} {bs : List UInt8}
    (h : Bld w G v k ys b s) (hK : Kept B g w0 w) (hR : Rd w g A cap bs p) (hL : L3 w r z0 z1 z2) (hBG : B ≤ G) (hgG : g < G) (hrG : r < G) (hrg : r ≠ g) (hm : Below w.heap.size w wm) (hg : wm.grownBy w2 v.ownBlock)
    (ho : w2.ownsRow (G + 1) 3 1 (.slice (some ⟨q, 0, none⟩) (k + 1) c) (k + 1) (ys.map (Value.int .i64) ++ [.int .i64 x])) :
    Bld (w2.setCell ⟨G, 0, none⟩ (.slice (some ⟨q, 0, none⟩) (k + 1) c)) G (.slice (some ⟨q, 0, none⟩) (k + 1) c) (k + 1) (ys ++ [x]) b s ∧ Kept B g w0 (w2.setCell ⟨G, 0, none⟩ (.slice (some ⟨q, 0, none⟩) (k + 1) c)) ∧
      Rd (w2.setCell ⟨G, 0, none⟩ (.slice (some ⟨q, 0, none⟩) (k + 1) c)) g A cap bs p ∧ L3 (w2.setCell ⟨G, 0, none⟩ (.slice (some ⟨q, 0, none⟩) (k + 1) c)) r z0 z1 z2 := by
  have hl := h.lt
  have hrow : ∀ j, v.ownBlock = some j → G + 1 ≤ j := fun j hj => (h.own.lt j hj).1
  refine ⟨(Bld.step (w0 := w) h (Below.refl _ _) hm hg ho).1, ?_, ?_, ?_⟩
  · refine (((hK.below hm (by omega)).grown hg (by have := hm.size; omega) (fun j hj => by have := hrow j hj; omega)).set ?_ _)
    exact hBG
  · exact ((hR.grown hm).aside hg (fun j hj => by have := hrow j hj; omega)).far (by show g < G; exact hgG) _
  · exact ((hL.later hm).grown hg (fun e => by have := hrow r e; omega)).far (by show G ≠ r; omega) _

theorem own_base {w : World} {base B : Nat} {e : TypeId} {size n : Nat} {v : Value} {xs : List Value} (h : w.ownsRow base e size v n xs) (hB : B ≤ base) : w.ownsRow B e size v n xs := by
  refine ⟨h.1, ?_⟩
  rcases h.2 with h0 | ⟨g, cap, cur, h1, h2, h3⟩
  · exact .inl h0
  · exact .inr ⟨g, cap, cur, h1, by omega, h3⟩
/-- A row of numbers that the draw has made. -/
structure Row64 (w : World) (B q n c : Nat) (xs : List Int) : Prop where
  own : w.ownsRow B 3 1 (.slice (some ⟨q, 0, none⟩) n c) n (xs.map (Value.int .i64))
  rng : ∀ j, J64 (xs.getD j 0)
theorem snoc_rng {ys : List Int} {x : Int} (h : ∀ j, J64 (ys.getD j 0)) (hx : J64 x) (j : Nat) : J64 ((ys ++ [x]).getD j 0) := by
  rw [List.getD_eq_getElem?_getD]
  rcases Nat.lt_or_ge j ys.length with hj | hj
  · rw [List.getElem?_append_left hj, ← List.getD_eq_getElem?_getD]; exact h j
  · rw [List.getElem?_append_right hj]
    cases h0 : j - ys.length with
    | zero => simpa using hx
    | succ m => simp [J64]

set_option maxRecDepth 100000 in
set_option maxHeartbeats 4000000 in
theorem l2Any_any {g : Nat} {A : Option Addr} {cap : Nat} {bs : List UInt8} {p : Nat} {w : World} (h : Rd w g A cap bs p) (hp : p ≤ 700000) :
    Calls Try.prog 78 #[.pointer (some ⟨g, 0, none⟩)] w fun e w' => ∃ (xs : List Int) (b : Int) (s : Bool) (q c : Nat), e = .returned (.agg #[.slice (some ⟨q, 0, none⟩) 4 c, .int .i64 b, .bool s]) ∧ Row64 w' w.heap.size q 4 c xs ∧ J64 b ∧ Moved g A cap bs p 10 w w' := by
  have hg := h.lt
  obtain ⟨i0, hi, zi0, zi1, zi2⟩ := info_parts int_info
  go_enter Try.func78, Try.ntmps78
  go_wp2_with fail
  (with_reducible refine (num_any [0, 1, -1, 2, 5, -4, 7] (w.heap.size + 1) 0 7 7 ((h.alloc _).alloc _) (by omega) (by decide) (by decide) (by decide) (by omega) (fun j hj => ?_)).mono ?_)
  · have hx := alloc_list (w.alloc (.cells #[.slice none 0 0, .int .i64 0, .bool false] 34)) [0, 1, -1, 2, 5, -4, 7] 3 j hj
    rw [World.size_alloc] at hx
    exact hx
  rintro e w1 ⟨b, rfl, hn⟩
  have hz1 := hn.only.size
  simp only [World.size_alloc] at hz1
  have hR1 := hn.rd
  have hJb : J64 b := by have := hn.mem; simp at this; unfold J64; omega
  have hK1 : Kept w.heap.size g w w1 := (((Kept.refl _ _ _).alloc (Nat.le_refl _) _).alloc (by simp) _).then_only hn.only (by simp; omega)
  have hL1 : L3 w1 w.heap.size (.slice none 0 0) (.int .i64 0) (.bool false) := L3.only (w := (w.alloc (.cells #[.slice none 0 0, .int .i64 0, .bool false] 34)).alloc _) ⟨by simp [go_sem], by simp [go_sem], by simp [go_sem], by simp [go_sem], by simp [go_sem], by simp [go_sem]⟩ hn.only (by omega)
  clear hn
  go_wp2_with fail
  refine (pick_any 3 hR1 (by omega) (by omega) (by omega)).mono ?_
  rintro e w2 ⟨r, rfl, hr⟩
  have hz2 := hr.only.size
  have hR2 := hr.rd
  have hK2 := hK1.then_only hr.only (by omega)
  have hL2 := hL1.only hr.only (by omega)
  clear hr hK1 hL1 hR1 h
  obtain ⟨s, hs⟩ : ∃ s, (r == 0) = s := ⟨_, rfl⟩
  go_wp2_with fail
  clear hs
  have hst := Bld.start w2 b s
  go_loopw [4] (fun i wr => ∃ (k : Nat) (v : Value) (ys : List Int) (pp : Nat), k ≤ 4 ∧ i = .int .i64 k ∧ Bld wr w2.heap.size v k ys b s ∧ (∀ j, J64 (ys.getD j 0)) ∧ Rd wr g A cap bs pp ∧ pp ≤ p + 2 + 2 * k ∧ Kept w.heap.size g w wr ∧ L3 wr w.heap.size (.slice none 0 0) (.int .i64 0) (.bool false)) (fun i _ => 4 - (intOf i).toNat)
  case atStart => exact ⟨0, _, [], p + 1 + 1, by omega, rfl, hst, fun j => by simp [J64], hR2.alloc _, by omega, hK2.alloc (by omega) _, hL2.later ((Below.refl _ _).alloc (Nat.le_refl _) _)⟩
  case round =>
    clear hst hR2 hK2 hL2
    obtain ⟨k, v, ys, pp, hk, rfl, hbld, hrng, hR, hpp, hK, hL⟩ := hrel
    have hgw := hR.lt
    have hbl := hbld.lt
    by_cases hlt : k < 4
    · by_cases hk2 : k < 2
      · go_wp2_with fail
        (with_reducible refine (num_any [0, 1, -1, 1, -1, 2, -2, 3] wr.heap.size 0 8 8 ((hR).alloc _) (by omega) (by decide) (by decide) (by decide) (by omega) (fun j hj => ?_)).mono ?_)
        · exact alloc_list wr [0, 1, -1, 1, -1, 2, -2, 3] 3 j hj
        rintro e w3 ⟨x, rfl, hn⟩
        have hJx : J64 x := by have := hn.mem; simp at this; unfold J64; omega
        have hb3 := (hbld.alloc (.cells #[.int .i64 0, .int .i64 1, .int .i64 (-1), .int .i64 1, .int .i64 (-1), .int .i64 2, .int .i64 (-2), .int .i64 3] 3)).only hn.only (by omega)
        have hR3 := hn.rd
        have hK3 := (hK.alloc (by omega) _).then_only hn.only (by simp; omega)
        have hL3 := (hL.later ((Below.refl _ _).alloc (Nat.le_refl _) _)).only hn.only (by omega)
        clear hn hbld hR hK hL
        have hblz := hb3.lt
        have k0 := hb3.c0
        have f0 := hb3.f0
        go_wp2_with (first | ((at_builtin; refine wpList_append_lies _ (by rfl) (.tmp 28) (.tmp 30) _ (by rfl) (w2.heap.size + 1) 3 i0 _ 1 8 Try.underlying29 hi zi0 zi1 zi2 rfl (by omega) v k _ (by rfl) (hb3.own.alloc _) ⟨w3.heap.size, 0, none⟩ 1 1 [.int .i64 (x)] (by rfl) (by rfl) (World.news_of_block (cs := #[.int .i64 (x)]) (t := 3) (fr := (0, 0)) (heap_alloc_new _ _)) (by simp [Value.oneCell']) (by omega) (by unfold maxLen; omega) (by omega) (by simp; omega) (w3.heap.size + 1) (by simp) ?_; intro g cap wq hown2 hgrow hat hlt2); have hmid := hb3.mid ((Below.refl _ _).alloc (Nat.le_refl _) _) hgrow; obtain ⟨m0, m1, m2, m3⟩ := hmid; have HS := Lib.hid (draw_step hb3 hK3 hR3 hL3 (by omega) (by omega) (by omega) (by omega) ((Below.refl _ _).alloc (Nat.le_refl _) _) hgrow hown2); clear hown2 hgrow hat))
        go_roundw
        case rel => exact ⟨k + 1, _, ys ++ [x], pp + 1, by omega, by go_num, HS.out.1, snoc_rng hrng hJx, HS.out.2.2.1, by omega, HS.out.2.1, HS.out.2.2.2⟩
        case measure => simp [intOf]; omega
      · go_wp2_with fail
        (with_reducible refine (pick_any 2 hR (by omega) (by omega) (by omega)).mono ?_)
        rintro e w3 ⟨r2, rfl, hr2⟩
        have hz3 := hr2.only.size
        have hb3 := hbld.only hr2.only (by omega)
        have hR3 := hr2.rd
        have hK3 := hK.then_only hr2.only (by omega)
        have hL3 := hL.only hr2.only (by omega)
        clear hr2 hbld hR hK hL
        by_cases h0 : r2 = 0
        · subst h0
          have hgw3 := hR3.lt
          have hbl3 := hb3.lt
          go_wp2_with fail
          (with_reducible refine (num_any [0, 1, -1, 1, -1, 2, -2, 3] w3.heap.size 0 8 8 ((hR3).alloc _) (by omega) (by decide) (by decide) (by decide) (by omega) (fun j hj => ?_)).mono ?_)
          · exact alloc_list w3 [0, 1, -1, 1, -1, 2, -2, 3] 3 j hj
          rintro e w4 ⟨x, rfl, hn⟩
          have hJx : J64 x := by have := hn.mem; simp at this; unfold J64; omega
          replace hb3 := (hb3.alloc (.cells #[.int .i64 0, .int .i64 1, .int .i64 (-1), .int .i64 1, .int .i64 (-1), .int .i64 2, .int .i64 (-2), .int .i64 3] 3)).only hn.only (by omega)
          replace hK3 := (hK3.alloc (by omega) _).then_only hn.only (by simp; omega)
          replace hL3 := (hL3.later ((Below.refl _ _).alloc (Nat.le_refl _) _)).only hn.only (by omega)
          replace hR3 := hn.rd
          clear hn
          have hblz := hb3.lt
          have k0 := hb3.c0
          have f0 := hb3.f0
          go_wp2_with (first | ((at_builtin; refine wpList_append_lies _ (by rfl) (.tmp 28) (.tmp 30) _ (by rfl) (w2.heap.size + 1) 3 i0 _ 1 8 Try.underlying29 hi zi0 zi1 zi2 rfl (by omega) v k _ (by rfl) (hb3.own.alloc _) ⟨w4.heap.size, 0, none⟩ 1 1 [.int .i64 (x)] (by rfl) (by rfl) (World.news_of_block (cs := #[.int .i64 (x)]) (t := 3) (fr := (0, 0)) (heap_alloc_new _ _)) (by simp [Value.oneCell']) (by omega) (by unfold maxLen; omega) (by omega) (by simp; omega) (w4.heap.size + 1) (by simp) ?_; intro g cap wq hown2 hgrow hat hlt2); have hmid := hb3.mid ((Below.refl _ _).alloc (Nat.le_refl _) _) hgrow; obtain ⟨m0, m1, m2, m3⟩ := hmid; have HS := Lib.hid (draw_step hb3 hK3 hR3 hL3 (by omega) (by omega) (by omega) (by omega) ((Below.refl _ _).alloc (Nat.le_refl _) _) hgrow hown2); clear hown2 hgrow hat))
          go_roundw
          case rel => exact ⟨k + 1, _, ys ++ [x], pp + 1 + 1, by omega, by go_num, HS.out.1, snoc_rng hrng hJx, HS.out.2.2.1, by omega, HS.out.2.1, HS.out.2.2.2⟩
          case measure => simp [intOf]; omega
        · have h1 : (r2 == 0) = false := by simpa using h0
          have hJx : J64 0 := by unfold J64; omega
          have hblz := hb3.lt
          have k0 := hb3.c0
          have f0 := hb3.f0
          go_wp2_with (first | ((at_builtin; refine wpList_append_lies _ (by rfl) (.tmp 28) (.tmp 30) _ (by rfl) (w2.heap.size + 1) 3 i0 _ 1 8 Try.underlying29 hi zi0 zi1 zi2 rfl (by omega) v k _ (by rfl) (hb3.own.alloc _) ⟨w3.heap.size, 0, none⟩ 1 1 [.int .i64 (0)] (by rfl) (by rfl) (World.news_of_block (cs := #[.int .i64 (0)]) (t := 3) (fr := (0, 0)) (heap_alloc_new _ _)) (by simp [Value.oneCell']) (by omega) (by unfold maxLen; omega) (by omega) (by simp; omega) (w3.heap.size + 1) (by simp) ?_; intro g cap wq hown2 hgrow hat hlt2); have hmid := hb3.mid ((Below.refl _ _).alloc (Nat.le_refl _) _) hgrow; obtain ⟨m0, m1, m2, m3⟩ := hmid; have HS := Lib.hid (draw_step hb3 hK3 hR3 hL3 (by omega) (by omega) (by omega) (by omega) ((Below.refl _ _).alloc (Nat.le_refl _) _) hgrow hown2); clear hown2 hgrow hat))
          go_roundw
          case rel => exact ⟨k + 1, _, ys ++ [0], pp + 1, by omega, by go_num, HS.out.1, snoc_rng hrng hJx, HS.out.2.2.1, by omega, HS.out.2.1, HS.out.2.2.2⟩
          case measure => simp [intOf]; omega
    · obtain rfl : k = 4 := by omega
      obtain ⟨q, c, rfl, hqG, hcap⟩ := hbld.form (by omega)
      have hown := hbld.own
      have c0 := hbld.c0
      have c1 := hbld.c1
      have c2 := hbld.c2
      have l0 := hL.c0
      have l1 := hL.c1
      have l2 := hL.c2
      have l3 := hL.f0
      have l4 := hL.f1
      have l5 := hL.f2
      have hlG := hbld.lt
      clear hbld hL
      go_wp2
      refine bodyPost_ret (v := .agg #[.slice (some ⟨q, 0, none⟩) 4 c, .int .i64 b, .bool s]) (by simp only [results, Try.results78]; go_simp) rfl ⟨ys, b, s, q, c, rfl, ⟨?_, hrng⟩, hJb, ⟨pp, by omega, ?_⟩, ?_⟩
      · have hown' := own_base hown (B := w.heap.size) (by omega)
        (repeat (first | with_reducible exact hown' | (with_reducible refine Go.ownsRow_setCell_other ?_ (by first | (simp [Value.ownBlock]; done) | (simp [Value.ownBlock]; omega)) _) | (with_reducible refine World.ownsRow.alloc ?_ _)))
      · (repeat (first | with_reducible exact hR | refine Rd.far ?_ (by first | omega | (simp; done) | (simp; omega)) _ | refine Rd.alloc ?_ _ | refine Rd.drewN ?_ _ | refine Rd.drew ?_))
      · exact Kept.only (by (repeat (first | with_reducible exact hK | (with_reducible refine Kept.set ?_ (by first | omega | (simp; done) | (simp; omega)) _) | (with_reducible refine Kept.alloc ?_ (by first | omega | (simp; done) | (simp; omega)) _) | (with_reducible refine Kept.drewN ?_ _) | (with_reducible refine Kept.drew ?_))))
end Go.Proofs.Ytccjbipmlpnhkaa

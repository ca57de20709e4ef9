/- Constraints that are marked, each with a block of its own. -/
import Derived.Test.YthamgdinhlnldaaLe
import Derived.Test.YthamgdinhlnldaaFr
namespace Go.Proofs.Ythamgdinhlnldaa
set_option maxRecDepth 100000
open Go.RowKit Go.ChangeShapes Go.WideShapes Go.ChangeAt
set_option linter.unusedSimpArgs false
set_option linter.unusedVariables false

theorem LinD.span {w w' : World} {B a b : Nat} {v : Value} {k : Nat} {ls : List LinV} {zs : List Value} {G : List Nat} (h : LinD w B v k ls zs G) (s : Span a b w w') (hb : b ≤ B) : LinD w' B v k ls zs G := by
  refine ⟨⟨h.own.1, h.own.2.imp_right fun ⟨g, cap, cur, e, hB, hg, h'⟩ => ⟨g, cap, cur, e, hB, by rw [s.block g (Array.getElem?_eq_some_iff.1 hg).1 (.inr (by omega))]; exact hg, h'⟩⟩, h.len, h.glen, h.nodup, fun j hj => ?_⟩
  · obtain ⟨c, ⟨hI, hF⟩, ⟨h2, h3⟩, h4⟩ := h.each j hj
    exact ⟨c, ⟨hI.span s (.inr (by omega)), hF.span s (.inr (by omega))⟩, ⟨h2, h3⟩, h4⟩
/-- what a mark is strict by -/
def third (q : Int) : Bool := q % 3 == 0
/-- all marked -/
def linMarks (n : Nat) (a : Int) : List LinV := (List.range n).map fun (j : Nat) => (marks 4 (a + 6 * (j : Int)), a + 6 * (j : Int) + 4, third (a + 6 * (j : Int) + 5))
theorem linMarks_len (n : Nat) (a : Int) : (linMarks n a).length = n := by simp [linMarks]
theorem linMarks_getD {n j : Nat} {a : Int} (h : j < n) : (linMarks n a).getD j lin0 = (marks 4 (a + 6 * (j : Int)), a + 6 * (j : Int) + 4, third (a + 6 * (j : Int) + 5)) := by
  unfold linMarks
  rw [List.getD_eq_getElem?_getD, List.getElem?_map, List.getElem?_range h]; rfl
/-- Block R holds the list; the rows lie elsewhere, each in a block of its own. -/
structure MarkD (w : World) (B R n : Nat) (G : List Nat) : Prop where
  own : Row w R (n * 3)
  lt : R < w.heap.size
  rows : ∀ j, j < n → ∃ c, w.cell? ⟨R, j * 3, none⟩ = some (.slice (some ⟨G.getD j 0, 0, none⟩) 4 c) ∧ Row w (G.getD j 0) 4 ∧ (B ≤ G.getD j 0 ∧ G.getD j 0 ≠ R ∧ G.getD j 0 < w.heap.size)
theorem LinD.markD {w : World} {B R n c : Nat} {ls : List LinV} {zs : List Value} {G : List Nat} (h : LinD w B (.slice (some ⟨R, 0, none⟩) n c) n ls zs G) : MarkD w B R n G := by
  have hz : zs.length = n * 3 := h.own.1
  refine ⟨⟨fun j hj => ⟨zs[j]'(by omega), ?_⟩, fun j => h.own.frozenAt j⟩, (h.own.lt R rfl).2, fun j hj => ?_⟩
  · rw [h.own.cellAt j hj, List.getElem?_eq_getElem]
  · obtain ⟨c', ⟨hI, hF⟩, ⟨h2, h3⟩, h0, _, _⟩ := h.each j hj
    exact ⟨c', by rw [h.own.cellAt _ (by omega)]; exact h0, Row.of hI hF, h2, fun e => h3 (by rw [e]; rfl), hF.lt⟩
theorem nodup_ne {G : List Nat} (h : G.Nodup) {i j : Nat} (hi : i < G.length) (hj : j < G.length) (hne : i ≠ j) : G.getD i 0 ≠ G.getD j 0 := by
  rw [List.getD_eq_getElem?_getD, List.getD_eq_getElem?_getD, List.getElem?_eq_getElem hi, List.getElem?_eq_getElem hj]
  have hp := List.pairwise_iff_getElem.1 h
  rcases Nat.lt_or_gt_of_ne hne with hl | hl
  · exact hp i j hi hj hl
  · exact fun e => hp j i hj hi hl e.symm
/-- The first k rows are marked. -/
def DoneD (w : World) (R : Nat) (G : List Nat) (a : Int) (k : Nat) : Prop := ∀ j, j < k → Ints w (some ⟨G.getD j 0, 0, none⟩) 4 (marks 4 (a + 6 * (j : Int))) ∧ w.cell? ⟨R, j * 3 + 1, none⟩ = some (.int .i64 (a + 6 * (j : Int) + 4)) ∧ w.cell? ⟨R, j * 3 + 2, none⟩ = some (.bool (third (a + 6 * (j : Int) + 5)))
theorem MarkD.step {w w' : World} {B R n k : Nat} {G : List Nat} (h : MarkD w B R n G) (hN : G.Nodup) (hl : G.length = n) (hk : k < n) (hg : w.grownBy w' (some (G.getD k 0))) (hr : Row w' (G.getD k 0) 4) : MarkD w' B R n G := by
  obtain ⟨_, _, _, _, hne, _⟩ := h.rows k hk
  refine ⟨h.own.aside h.lt hg (fun e => hne e.symm), Nat.lt_of_lt_of_le h.lt hg.size, fun j hj => ?_⟩
  obtain ⟨c', h0, h1, h2, h3, h4⟩ := h.rows j hj
  refine ⟨c', keep_aside hg h0 (fun e => hne e.symm), ?_, h2, h3, Nat.lt_of_lt_of_le h4 hg.size⟩
  by_cases e : j = k
  · rw [e]; exact hr
  · exact h1.aside h4 hg (nodup_ne hN (by omega) (by omega) e)
theorem MarkD.set {w : World} {B R n : Nat} {G : List Nat} (h : MarkD w B R n G) (o : Nat) (ho : o % 3 ≠ 0) (v : Value) : MarkD (w.setCell ⟨R, o, none⟩ v) B R n G :=
  ⟨h.own.set _ _, by simpa [World.setCell] using h.lt, fun j hj => by
    obtain ⟨c', h0, h1, h2, h3, h4⟩ := h.rows j hj
    refine ⟨c', ?_, h1.set _ _, h2, h3, by simpa [World.setCell] using h4⟩
    rw [World.cell?_setCell_other _ _ _ _ (fun e => by have e2 := congrArg Addr.off e; dsimp only at e2; omega)]
    exact h0⟩
theorem DoneD.step {w w' : World} {R n k : Nat} {G : List Nat} {a : Int} (h : DoneD w R G a k) (hN : G.Nodup) (hl : G.length = n) (hk : k < n) (hg : w.grownBy w' (some (G.getD k 0))) (hne : G.getD k 0 ≠ R) : DoneD w' R G a k := fun j hj => by
  obtain ⟨h0, h1, h2⟩ := h j hj
  exact ⟨h0.off (fun _ a e => by obtain rfl := Option.some.inj e; exact fun e => nodup_ne hN (i := j) (j := k) (by omega) (by omega) (by omega) (Option.some.inj e)) hg, keep_aside hg h1 (fun e => hne e.symm), keep_aside hg h2 (fun e => hne e.symm)⟩
theorem DoneD.set {w : World} {R k : Nat} {G : List Nat} {a : Int} (h : DoneD w R G a k) (hne : ∀ j, j < k → G.getD j 0 ≠ R) (o : Nat) (ho : k * 3 ≤ o) (v : Value) : DoneD (w.setCell ⟨R, o, none⟩ v) R G a k := fun j hj => by
  obtain ⟨h0, h1, h2⟩ := h j hj
  refine ⟨h0.far (fun e => hne j hj (by simpa using e.symm)) v, ?_, ?_⟩
  · rw [World.cell?_setCell_other _ _ _ _ (fun e => by have e2 := congrArg Addr.off e; dsimp only at e2; omega)]; exact h1
  · rw [World.cell?_setCell_other _ _ _ _ (fun e => by have e2 := congrArg Addr.off e; dsimp only at e2; omega)]; exact h2
theorem DoneD.lins {w : World} {B R n : Nat} {G : List Nat} {a : Int} (h : DoneD w R G a n) (hm : MarkD w B R n G) (hn : n ≤ 9223372036854775807) : Lins w (some ⟨R, 0, none⟩) n (linMarks n a) := by
  refine ⟨linMarks_len _ _, fun _ => ⟨R, 0, rfl, hm.lt, fun j hj => ?_⟩, hn⟩
  obtain ⟨h0, h1, h2⟩ := h j hj
  obtain ⟨c', h3, _⟩ := hm.rows j hj
  rw [Nat.zero_add, linMarks_getD hj]
  exact ⟨_, 4, c', h0, h3, h1, h2⟩

theorem markLinS_none {A : Option Addr} {c : Nat} (a : Int) (w : World) :
    Calls Try.prog 25 #[.slice A 0 c, .int .i64 a] w fun e w' => e = .returned (.int .i64 a) ∧ w = w' := by
  go_enter Try.func25, Try.ntmps25
  go_wp2
  refine wp_loop_rounds 1 ?_
  rw [rounds_succ]
  go_wp2
  go_ret
  exact ⟨rfl, rfl⟩
set_option maxHeartbeats 4000000 in
theorem markLinD_any {B R n c : Nat} {G : List Nat} (a : Int) {w : World} (h : MarkD w B R n G) (hN : G.Nodup) (hl : G.length = n) (hBR : B ≤ R) (ha : 0 ≤ a) (ha' : a ≤ 10) (hn : n ≤ 200) (hB : B ≤ w.heap.size) :
    Calls Try.prog 25 #[.slice (some ⟨R, 0, none⟩) n c, .int .i64 a] w fun e w' => e = .returned (.int .i64 (a + 6 * n)) ∧ Lins w' (some ⟨R, 0, none⟩) n (linMarks n a) ∧ Below B w w' := by
  go_enter Try.func25, Try.ntmps25
  go_wp2_with fail
  go_loopw [1, 5] (fun x i wr => ∃ (k : Nat), k ≤ n ∧ i = .int .i64 k ∧ x = .int .i64 (a + 6 * k) ∧ MarkD wr B R n G ∧ Hid (DoneD wr R G a k) ∧ Below B w wr) (fun _ i _ => n - (intOf i).toNat)
  case atStart => exact ⟨0, by omega, rfl, by simp, h, Lib.hid (fun j hj => absurd hj (by omega)), Below.refl _ _⟩
  case round =>
    obtain ⟨k, hk, rfl, rfl, hM, HD, hb⟩ := hrel
    by_cases hlt : k < n
    · obtain ⟨cg, hc0, hrg, hBg, hgR, hgl⟩ := hM.rows k hlt
      have hRl := hM.lt
      have hNE : ∀ j, j < k → G.getD j 0 ≠ R := fun j hj => by
        obtain ⟨_, _, _, _, h3, _⟩ := hM.rows j (by omega)
        exact h3
      obtain ⟨g, hg⟩ : ∃ g, G.getD k 0 = g := ⟨_, rfl⟩
      have HG := Lib.hid hg
      have HNE := Lib.hid hNE
      rw [hg] at hc0 hrg hBg hgR hgl
      clear hg hNE
      go_wp2_with fail
      refine (markIntS_any (a + 6 * k) hrg hgl (by omega) (by omega) (by omega)).mono ?_
      rintro e w1 ⟨rfl, hI1, hr1, hgr⟩
      have hs1 := hgr.size
      have hM1 : MarkD w1 B R n G := hM.step hN hl hlt (by rw [HG.out]; exact hgr) (by rw [HG.out]; exact hr1)
      have hD1 := DoneD.step HD.out hN hl hlt (by rw [HG.out]; exact hgr) (by rw [HG.out]; exact hgR)
      have hb1 : Below B w w1 := Below.grown hb hgr (by have := hb.size; omega) (fun j hj => by obtain rfl := Option.some.inj hj; exact hBg)
      obtain ⟨v1, hv1⟩ := hM1.own.cell (k * 3 + 1) (by omega)
      obtain ⟨v2, hv2⟩ := hM1.own.cell (k * 3 + 2) (by omega)
      have hv0 := keep_aside (a := ⟨R, k * 3, none⟩) hgr hc0 (by show R ≠ g; omega)
      have hf1 := hM1.own.free (k * 3 + 1)
      have hf2 := hM1.own.free (k * 3 + 2)
      have hb1' := hb1
      have HE := Lib.hid (And.intro hM1 (And.intro hD1 (And.intro hI1 hb1)))
      have HV := Lib.hid (And.intro hv1 hv2)
      clear hM hM1 hD1 hI1 hb1 hgr hrg hr1 HD hb
      have HB := Lib.hid hb1'
      clear hb1'
      go_wp2
      go_roundw
      case rel =>
        refine ⟨k + 1, by omega, by go_num, (by first | rfl | (congr 1; omega)), (HE.out.1.set _ (by omega) _).set _ (by omega) _, Lib.hid ?_, ?_⟩
        · intro j hj
          by_cases e : j = k
          · subst e
            rw [HG.out]
            refine ⟨(HE.out.2.2.1.far (by show R ≠ g; omega) _).far (by show R ≠ g; omega) _, ?_, ?_⟩
            · rw [World.cell?_setCell_other _ _ _ _ (by first | (simp; done) | (simp; omega))]
              rw [World.cell?_setCell_same _ _ _ HV.out.1]
            · rw [World.cell?_setCell_same _ _ _ (by rw [World.cell?_setCell_other _ _ _ _ (by first | (simp; done) | (simp; omega))]; exact HV.out.2)]
              rw [show a + 6 * (j : Int) + 4 + 1 = a + 6 * (j : Int) + 5 by omega]
              rfl
          · exact ((HE.out.2.1.set HNE.out _ (by omega) _).set HNE.out _ (by omega) _) j (by omega)
        · have hb1 := HB.out
          (repeat (first | with_reducible exact Below.refl _ _ | with_reducible assumption | (with_reducible refine below_drewN ?_ _) | (with_reducible refine Below.drew ?_) | (with_reducible refine Below.setCell ?_ (by first | omega | (simp; done) | (simp; omega)) _) | (with_reducible refine Below.alloc ?_ (by first | omega | (simp; done) | (simp; omega)) _) | refine Below.trans ?_ (Below.mono (by with_reducible assumption) (by first | omega | (simp; done) | (simp; omega)))))
      case measure => simp [intOf]; omega
    · obtain rfl : k = n := by omega
      go_wp2
      go_ret
      exact ⟨rfl, HD.out.lins hM (by omega), hb⟩
theorem markLinD_gen {B n c : Nat} {A : Option Addr} {ls : List LinV} {zs : List Value} {G : List Nat} (a : Int) {w : World} (h : LinD w B (.slice A n c) n ls zs G) (ha : 0 ≤ a) (ha' : a ≤ 10) (hn : n ≤ 200) (hB : B ≤ w.heap.size) :
    Calls Try.prog 25 #[.slice A n c, .int .i64 a] w fun e w' => e = .returned (.int .i64 (a + 6 * n)) ∧ Lins w' A n (linMarks n a) ∧ Below B w w' := by
  by_cases h0 : 0 < n
  · obtain ⟨g, cap, e, hg⟩ := h.own.form h0
    simp only [Value.slice.injEq] at e
    obtain ⟨rfl, -, rfl⟩ := e
    exact markLinD_any a h.markD h.nodup h.glen (h.own.lt g rfl).1 ha ha' hn hB
  · obtain rfl : n = 0 := by omega
    refine (markLinS_none a w).mono ?_
    rintro e w' ⟨rfl, rfl⟩
    exact ⟨by simp, ⟨rfl, fun h => absurd h (by omega), by omega⟩, Below.refl _ _⟩

theorem heldLinS_any {A : Option Addr} {n c : Nat} (a : Int) {w : World} (h : Lins w A n (linMarks n a)) (ha : 0 ≤ a) (ha' : a ≤ 10) (hn : n ≤ 200) :
    Calls Try.prog 53 #[.slice A n c, .int .i64 a] w fun e w' => e = .returned (.int .i64 (a + 6 * n)) ∧ w = w' := by
  go_enter Try.func53, Try.ntmps53
  go_wp2_with fail
  go_loop [1, 5] (fun x i => ∃ k : Nat, k ≤ n ∧ i = .int .i64 k ∧ x = .int .i64 (a + 6 * k)) (fun _ i => n - (intOf i).toNat)
  case atStart => exact ⟨0, by omega, rfl, by simp⟩
  case round =>
    obtain ⟨k, hk, rfl, rfl⟩ := hrel
    by_cases hlt : k < n
    · obtain ⟨p, o, rfl, hp, hcs⟩ := (h).cells (by omega)
      obtain ⟨B, m, cb, hIk, hc1, hc2, hc3⟩ := (hcs k hlt).ex
      clear hcs
      rw [linMarks_getD hlt] at hIk hc2 hc3
      dsimp only at hIk hc2 hc3
      obtain rfl : 4 = m := (marks_len _ _).symm.trans hIk.len
      rw [show third (a + 6 * (k : Int) + 5) = ((a + 6 * (k : Int) + 4 + 1) % 3 == 0) by rw [show a + 6 * (k : Int) + 4 + 1 = a + 6 * (k : Int) + 5 by omega]; rfl] at hc3
      generalize hth : ((a + 6 * (k : Int) + 4 + 1) % 3 == 0) = th at hc3
      go_wp2_with fail
      refine (heldIntS_any (a + 6 * k) hIk (by omega) (by omega) (by omega)).mono ?_
      rintro e w1 ⟨rfl, rfl⟩
      go_wp2
      go_round
      case rel => exact ⟨k + 1, by omega, by go_num, by first | (congr 1; done) | (congr 1; omega)⟩
      case measure => simp [intOf]; omega
    · obtain rfl : k = n := by omega
      go_wp2
      go_ret
      exact ⟨rfl, rfl⟩
end Go.Proofs.Ythamgdinhlnldaa

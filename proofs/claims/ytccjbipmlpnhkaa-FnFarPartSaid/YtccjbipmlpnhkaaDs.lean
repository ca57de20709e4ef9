/- Lists of constraints drawn, one in sixteen bent. -/
import Derived.Test.YtccjbipmlpnhkaaDl
namespace Go.Proofs.Ytccjbipmlpnhkaa
set_option maxRecDepth 100000
open Go.RowKit Go.ChangeShapes Go.WideShapes Go.ChangeAt
set_option linter.unusedSimpArgs false
set_option linter.unusedVariables false

def lenV : Value → Nat
  | .slice _ n _ => n
  | _ => 0
theorem LinZ.at {w : World} {B : Nat} {r : Option Nat} {zs : List Value} {j : Nat} {x : LinV} {A : Option Addr} {m c : Nat} (hI : Ints w A m x.1) (hO : Off A m r) (hF : Fresh B A m) (h0 : zs[j * 3]? = some (.slice A m c)) (h1 : zs[j * 3 + 1]? = some (.int .i64 x.2.1)) (h2 : zs[j * 3 + 2]? = some (.bool x.2.2)) : LinZ w B r zs j x := ⟨A, m, c, ⟨hI, hO, hF⟩, h0, h1, h2⟩
theorem fresh_at {B q o n : Nat} (h : B ≤ q) : Fresh B (some ⟨q, o, none⟩) n := fun _ p e => by obtain rfl := Option.some.inj e; exact h
theorem news9 {W : World} {E : Nat} {zs : List Value} {t : TypeId} (hE : W.heap.size = E) : ∀ j u, zs[j]? = some u → (W.alloc (.cells zs.toArray t)).cell? ((⟨E, 0, none⟩ : Addr).add j) = some u := by
  subst hE
  exact World.news_of_block (cs := zs.toArray) (t := t) (fr := (0, 0)) (heap_alloc_new _ _)
theorem LinG.app {w w' : World} {B : Nat} {v : Value} {k : Nat} {ls : List LinV} {zs : List Value} (h : LinG w B v k ls zs) {g cap d : Nat} {xs : List LinV} {ys : List Value}
    (ho : w'.ownsRow B 34 3 (.slice (some ⟨g, 0, none⟩) (k + d) cap) (k + d) (zs ++ ys)) (hg : w.grownBy w' v.ownBlock) {H : Nat} (hat : v.ownBlock = some g ∨ g = H) (hH : H = w.heap.size)
    (hd : xs.length = d) (hx : ∀ j, j < d → LinZ w B v.ownBlock ys j (xs.getD j lin0)) :
    LinG w' B (.slice (some ⟨g, 0, none⟩) (k + d) cap) (k + d) (ls ++ xs) (zs ++ ys) := by
  subst hH
  have hl := h.own.1
  have hk := h.len
  have tr : ∀ {A : Option Addr} {m : Nat} {xs : List Int}, Ints w A m xs → Off A m v.ownBlock → Off A m (some g) := fun hI hA => by
    rcases hat with e | e
    · rw [← e]; exact hA
    · subst e; exact Off.lower hI (Nat.le_refl _)
  refine ⟨ho, by simp [hk, hd], fun j hj => ?_⟩
  show LinZ w' B (some g) _ j _
  by_cases e : k ≤ j
  · obtain ⟨A, m, c, ⟨hI, hA, hF⟩, h0, h1, h2⟩ := hx (j - k) (by omega)
    have hxx : (ls ++ xs).getD j lin0 = xs.getD (j - k) lin0 := by rw [List.getD_eq_getElem?_getD, List.getElem?_append_right (by omega), hk, ← List.getD_eq_getElem?_getD]
    rw [hxx]
    refine ⟨A, m, c, ⟨hI.off hA hg, tr hI hA, hF⟩, ?_, ?_, ?_⟩
    · rw [List.getElem?_append_right (by omega), hl, show j * 3 - k * 3 = (j - k) * 3 by omega]; exact h0
    · rw [List.getElem?_append_right (by omega), hl, show j * 3 + 1 - k * 3 = (j - k) * 3 + 1 by omega]; exact h1
    · rw [List.getElem?_append_right (by omega), hl, show j * 3 + 2 - k * 3 = (j - k) * 3 + 2 by omega]; exact h2
  · obtain ⟨A', m', c', ⟨hI', hA', hF'⟩, h0, h1, h2⟩ := h.each j (by omega)
    have hx : (ls ++ xs).getD j lin0 = ls.getD j lin0 := by rw [List.getD_eq_getElem?_getD, List.getElem?_append_left (by omega), ← List.getD_eq_getElem?_getD]
    rw [hx]
    refine ⟨A', m', c', ⟨hI'.off hA' hg, tr hI' hA', hF'⟩, ?_, ?_, ?_⟩
    · rw [List.getElem?_append_left (by omega)]; exact h0
    · rw [List.getElem?_append_left (by omega)]; exact h1
    · rw [List.getElem?_append_left (by omega)]; exact h2

theorem l3Some_any {g : Nat} {A : Option Addr} {cap : Nat} {bs : List UInt8} {p : Nat} {w : World} (h : Rd w g A cap bs p) (hp : p ≤ 400000) :
    Calls Try.prog 44 #[.pointer (some ⟨g, 0, none⟩)] w (ListBack 21 g A cap bs p 400 w) := by
  have hg := h.lt
  obtain ⟨j0, hj, yj0, yj1, yj2⟩ := info_parts lin_info3
  go_enter Try.func44, Try.ntmps44
  go_wp2_with fail
  refine (l3List_any h (by omega)).mono ?_
  rintro e w1 ⟨ls, v, n, zs, rfl, ⟨hrow, hn⟩, ⟨⟨p1, hp1, hR1⟩, hO1⟩⟩
  have hs1 := hO1.size
  have hK1 : Kept w.heap.size g w w1 := (Kept.refl _ _ _).then_only hO1 (Nat.le_refl _)
  clear hO1
  go_wp2_with fail
  refine (pick_any 48 hR1 (by omega) (by omega) (by omega)).mono ?_
  rintro e w2 ⟨r, rfl, hr⟩
  have hs2 := hr.only.size
  have hR2 := hr.rd
  have hrow2 := hrow.only hr.only (by omega)
  have hK2 := hK1.then_only hr.only (by omega)
  clear hr hrow hR1 hK1
  obtain ⟨Av, cv, rfl⟩ := hrow2.form
  by_cases q0 : r = 0
  · subst q0
    go_wp2_with fail
    refine (l2Some_any hR2 (by omega)).mono ?_
    rintro e w3 ⟨xa, ba, sa, qa, oa, na, ca, rfl, ⟨hIa, hna, hqa, hJa⟩, ⟨⟨p3, hp3, hR3⟩, hO3⟩⟩
    have hs3 := hO3.size
    have hrow3 := hrow2.only hO3 (by omega)
    have hK3 := hK2.then_only hO3 (by omega)
    clear hO3
    go_wp2_with fail
    refine (l2Some_any hR3 (by omega)).mono ?_
    rintro e w4 ⟨xb, bb, sb, qb, ob, nb, cb, rfl, ⟨hIb, hnb, hqb, hJb⟩, ⟨⟨p4, hp4, hR4⟩, hO4⟩⟩
    have hs4 := hO4.size
    have hrow4 := hrow3.only hO4 (by omega)
    have hK4 := hK3.then_only hO4 (by omega)
    have hIa4 := hIa.aside hO4 (by omega)
    clear hO4
    go_wp2_with fail
    refine (l2Some_any hR4 (by omega)).mono ?_
    rintro e w5 ⟨xc, bc, sc, qc, oc, nc, cc, rfl, ⟨hIc, hnc, hqc, hJc⟩, ⟨⟨p5, hp5, hR5⟩, hO5⟩⟩
    have hs5 := hO5.size
    have hrow := hrow4.only hO5 (by omega)
    have hK5 := hK4.then_only hO5 (by omega)
    have hIa5 := hIa4.aside hO5 (by omega)
    have hIb5 := hIb.aside hO5 (by omega)
    clear hO5
    have hOa : Off (some ⟨qa, oa, none⟩) na (Value.slice Av n cv).ownBlock := Off.fresh hrow2.own hqa
    have hOb : Off (some ⟨qb, ob, none⟩) nb (Value.slice Av n cv).ownBlock := Off.fresh hrow3.own hqb
    have hOc : Off (some ⟨qc, oc, none⟩) nc (Value.slice Av n cv).ownBlock := Off.fresh hrow4.own hqc
    clear hrow2 hrow3 hrow4 hK2 hK3 hK4 hR2 hR3 hR4 hIa hIa4 hIb
    go_wp2_with (first | (at_builtin; refine wpList_append_lies _ (by rfl) (.tmp 10) (.tmp 17) _ (by rfl) w.heap.size 34 j0 _ 3 40 Try.underlying23 hj yj0 yj1 yj2 rfl (by omega) (.slice Av n cv) n zs (by rfl) (LinG.later hrow (by (repeat (first | with_reducible exact Below.refl _ _ | with_reducible assumption | (with_reducible refine below_drewN ?_ _) | (with_reducible refine Below.drew ?_) | (with_reducible refine Below.setCell ?_ (by first | omega | (simp; done) | (simp; omega)) _) | (with_reducible refine Below.alloc ?_ (by first | omega | (simp; done) | (simp; omega)) _) | refine Below.trans ?_ (Below.mono (by with_reducible assumption) (by first | omega | (simp; done) | (simp; omega))))))).own ⟨w5.heap.size, 0, none⟩ 3 3 [.slice (some ⟨qa, oa, none⟩) na ca, .int .i64 ba, .bool sa, .slice (some ⟨qb, ob, none⟩) nb cb, .int .i64 bb, .bool sb, .slice (some ⟨qc, oc, none⟩) nc cc, .int .i64 bc, .bool sc] (by rfl) (by rfl) (news9 rfl) (by simp [Value.oneCell']) (by omega) (by unfold maxLen; omega) (by omega) (by first | omega | (simp; done) | (simp; omega)) (w5.heap.size + 1) (by simp) ?_; intro g' cap' wq hown3 hgrow hat hlt2; have hrowN := (LinG.later hrow (by (repeat (first | with_reducible exact Below.refl _ _ | with_reducible assumption | (with_reducible refine below_drewN ?_ _) | (with_reducible refine Below.drew ?_) | (with_reducible refine Below.setCell ?_ (by first | omega | (simp; done) | (simp; omega)) _) | (with_reducible refine Below.alloc ?_ (by first | omega | (simp; done) | (simp; omega)) _) | refine Below.trans ?_ (Below.mono (by with_reducible assumption) (by first | omega | (simp; done) | (simp; omega))))))).app (xs := [(xa, ba, sa), (xb, bb, sb), (xc, bc, sc)]) hown3 hgrow hat (by simp) rfl (fun j hj => by
      match j, hj with
      | 0, _ => exact .at (Ints.later hIa5 (by (repeat (first | with_reducible exact Below.refl _ _ | with_reducible assumption | (with_reducible refine below_drewN ?_ _) | (with_reducible refine Below.drew ?_) | (with_reducible refine Below.setCell ?_ (by first | omega | (simp; done) | (simp; omega)) _) | (with_reducible refine Below.alloc ?_ (by first | omega | (simp; done) | (simp; omega)) _) | refine Below.trans ?_ (Below.mono (by with_reducible assumption) (by first | omega | (simp; done) | (simp; omega))))))) hOa (fresh_at (by omega)) rfl rfl rfl
      | 1, _ => exact .at (Ints.later hIb5 (by (repeat (first | with_reducible exact Below.refl _ _ | with_reducible assumption | (with_reducible refine below_drewN ?_ _) | (with_reducible refine Below.drew ?_) | (with_reducible refine Below.setCell ?_ (by first | omega | (simp; done) | (simp; omega)) _) | (with_reducible refine Below.alloc ?_ (by first | omega | (simp; done) | (simp; omega)) _) | refine Below.trans ?_ (Below.mono (by with_reducible assumption) (by first | omega | (simp; done) | (simp; omega))))))) hOb (fresh_at (by omega)) rfl rfl rfl
      | 2, _ => exact .at (Ints.later hIc (by (repeat (first | with_reducible exact Below.refl _ _ | with_reducible assumption | (with_reducible refine below_drewN ?_ _) | (with_reducible refine Below.drew ?_) | (with_reducible refine Below.setCell ?_ (by first | omega | (simp; done) | (simp; omega)) _) | (with_reducible refine Below.alloc ?_ (by first | omega | (simp; done) | (simp; omega)) _) | refine Below.trans ?_ (Below.mono (by with_reducible assumption) (by first | omega | (simp; done) | (simp; omega))))))) hOc (fresh_at (by omega)) rfl rfl rfl); have hRN : Rd wq g A cap bs p5 := Rd.aside (by (repeat (first | with_reducible exact hR5 | refine Rd.far ?_ (by first | omega | (simp; done) | (simp; omega)) _ | refine Rd.alloc ?_ _ | refine Rd.drewN ?_ _ | refine Rd.drew ?_))) hgrow (fun j hj => by have := (hrow.own.lt j hj).1; omega); have hKN : Kept w.heap.size g w wq := Kept.grown (by (repeat (first | with_reducible exact hK5 | (with_reducible refine Kept.set ?_ (by first | omega | (simp; done) | (simp; omega)) _) | (with_reducible refine Kept.alloc ?_ (by first | omega | (simp; done) | (simp; omega)) _) | (with_reducible refine Kept.drewN ?_ _) | (with_reducible refine Kept.drew ?_)))) hgrow (by first | omega | (simp; done) | (simp; omega)) (fun j hj => (hrow.own.lt j hj).1); clear hown3 hgrow hat hlt2 hrow))
    go_ret
    exact ⟨_, _, n + 3, _, rfl, ⟨hrowN, by omega⟩, ⟨⟨_, by omega, hRN⟩, hKN.only⟩⟩
  have q0' : (r == 0) = false := by simpa using q0
  by_cases q1 : r = 1
  · subst q1
    go_wp2_with fail
    go_loopw [3] (fun v0 wr => ∃ (k : Nat) (v : Value) (ls : List LinV) (zs : List Value) (pp : Nat), v = v0 ∧ k ≤ 21 ∧ LinG wr w.heap.size v k ls zs ∧ Rd wr g A cap bs pp ∧ pp ≤ p + 101 + 10 * k ∧ Kept w.heap.size g w wr) (fun v wr => 21 - lenV v)
    case atStart => exact ⟨n, _, ls, zs, p1 + 1, rfl, by omega, hrow2, hR2, by omega, hK2⟩
    case round =>
      clear hrow2 hR2 hK2
      obtain ⟨k, v, ls, zs, pp, rfl, hk, hrow0, hR0, hpp, hK0⟩ := hrel
      have hsz := hK0.size
      have hgw := hR0.lt
      obtain ⟨Av, cv, rfl⟩ := hrow0.form
      by_cases hlt : k ≤ 20
      · go_wp2_with fail
        refine (l2Any_any hR0 (by omega)).mono ?_
        rintro e w3 ⟨xs, b, s, q, c, rfl, hrx, hJb, ⟨⟨p3, hp3, hR3⟩, hO3⟩⟩
        have hs3 := hO3.size
        have hrow := hrow0.only hO3 (by omega)
        have hK3 := hK0.then_only hO3 (by omega)
        obtain ⟨hq1, hq2⟩ := hrx.lt
        have hI3 := hrx.ints (by omega)
        have hOq : Off (some ⟨q, 0, none⟩) 4 (Value.slice Av k cv).ownBlock := Off.fresh hrow0.own hq1
        clear hO3 hrx hrow0 hK0 hR0
        go_wp2_with (first | (have n := k; (at_builtin; refine wpList_append_lies _ (by rfl) (.tmp 24) (.tmp 27) _ (by rfl) w.heap.size 34 j0 _ 3 40 Try.underlying23 hj yj0 yj1 yj2 rfl (by omega) (.slice Av k cv) k zs (by rfl) (LinG.later hrow (by (repeat (first | with_reducible exact Below.refl _ _ | with_reducible assumption | (with_reducible refine below_drewN ?_ _) | (with_reducible refine Below.drew ?_) | (with_reducible refine Below.setCell ?_ (by first | omega | (simp; done) | (simp; omega)) _) | (with_reducible refine Below.alloc ?_ (by first | omega | (simp; done) | (simp; omega)) _) | refine Below.trans ?_ (Below.mono (by with_reducible assumption) (by first | omega | (simp; done) | (simp; omega))))))).own ⟨w3.heap.size, 0, none⟩ 1 1 [.slice (some ⟨q, 0, none⟩) 4 c, .int .i64 b, .bool s] (by rfl) (by rfl) (news3 (by first | omega | (simp; done) | (simp; omega))) (by simp [Value.oneCell']) (by omega) (by unfold maxLen; omega) (by omega) (by first | omega | (simp; done) | (simp; omega)) (w3.heap.size + 1) (by simp) ?_; intro g' cap' wq hown3 hgrow hat hlt2; (have hrowN := (LinG.later hrow (by (repeat (first | with_reducible exact Below.refl _ _ | with_reducible assumption | (with_reducible refine below_drewN ?_ _) | (with_reducible refine Below.drew ?_) | (with_reducible refine Below.setCell ?_ (by first | omega | (simp; done) | (simp; omega)) _) | (with_reducible refine Below.alloc ?_ (by first | omega | (simp; done) | (simp; omega)) _) | refine Below.trans ?_ (Below.mono (by with_reducible assumption) (by first | omega | (simp; done) | (simp; omega))))))).snoc (x := (xs, b, s)) hown3 hgrow hat (by simp) (Ints.later hI3 (by (repeat (first | with_reducible exact Below.refl _ _ | with_reducible assumption | (with_reducible refine below_drewN ?_ _) | (with_reducible refine Below.drew ?_) | (with_reducible refine Below.setCell ?_ (by first | omega | (simp; done) | (simp; omega)) _) | (with_reducible refine Below.alloc ?_ (by first | omega | (simp; done) | (simp; omega)) _) | refine Below.trans ?_ (Below.mono (by with_reducible assumption) (by first | omega | (simp; done) | (simp; omega))))))) hOq (fresh_at (by omega)); have hRN : Rd wq g A cap bs (p3) := Rd.aside (by (repeat (first | with_reducible exact hR3 | refine Rd.far ?_ (by first | omega | (simp; done) | (simp; omega)) _ | refine Rd.alloc ?_ _ | refine Rd.drewN ?_ _ | refine Rd.drew ?_))) hgrow (fun j hj => by have := (hrow.own.lt j hj).1; omega); have hKN : Kept w.heap.size g w wq := Kept.grown (by (repeat (first | with_reducible exact hK3 | (with_reducible refine Kept.set ?_ (by first | omega | (simp; done) | (simp; omega)) _) | (with_reducible refine Kept.alloc ?_ (by first | omega | (simp; done) | (simp; omega)) _) | (with_reducible refine Kept.drewN ?_ _) | (with_reducible refine Kept.drew ?_)))) hgrow (by first | omega | (simp; done) | (simp; omega)) (fun j hj => (hrow.own.lt j hj).1); clear hown3 hgrow hat hlt2 hrow))))
        go_roundw
        case rel => refine ⟨k + 1, _, _, _, p3, rfl, by omega, hrowN, hRN, ?_, hKN⟩; omega
        case measure => simp [lenV]; omega
      · go_wp2
        go_ret
        exact ⟨ls, _, k, zs, rfl, ⟨hrow0, by omega⟩, ⟨⟨pp, by omega, hR0⟩, hK0.only⟩⟩
  have q1' : (r == 1) = false := by simpa using q1
  by_cases q2 : r = 2
  · subst q2
    have hrow := hrow2
    go_wp2_with (first | (at_builtin; refine wpList_append_lies _ (by rfl) (.tmp 31) (.tmp 33) _ (by rfl) w.heap.size 34 j0 _ 3 40 Try.underlying23 hj yj0 yj1 yj2 rfl (by omega) (.slice Av n cv) n zs (by rfl) (LinG.later hrow (by (repeat (first | with_reducible exact Below.refl _ _ | with_reducible assumption | (with_reducible refine below_drewN ?_ _) | (with_reducible refine Below.drew ?_) | (with_reducible refine Below.setCell ?_ (by first | omega | (simp; done) | (simp; omega)) _) | (with_reducible refine Below.alloc ?_ (by first | omega | (simp; done) | (simp; omega)) _) | refine Below.trans ?_ (Below.mono (by with_reducible assumption) (by first | omega | (simp; done) | (simp; omega))))))).own ⟨w2.heap.size, 0, none⟩ 1 1 [.slice none 0 0, .int .i64 0, .bool false] (by rfl) (by rfl) (news3 (by first | omega | (simp; done) | (simp; omega))) (by simp [Value.oneCell']) (by omega) (by unfold maxLen; omega) (by omega) (by first | omega | (simp; done) | (simp; omega)) (w2.heap.size + 1) (by simp) ?_; intro g' cap' wq hown3 hgrow hat hlt2; (have hrowN := (LinG.later hrow (by (repeat (first | with_reducible exact Below.refl _ _ | with_reducible assumption | (with_reducible refine below_drewN ?_ _) | (with_reducible refine Below.drew ?_) | (with_reducible refine Below.setCell ?_ (by first | omega | (simp; done) | (simp; omega)) _) | (with_reducible refine Below.alloc ?_ (by first | omega | (simp; done) | (simp; omega)) _) | refine Below.trans ?_ (Below.mono (by with_reducible assumption) (by first | omega | (simp; done) | (simp; omega))))))).snoc (x := ([], 0, false)) hown3 hgrow hat (by simp) (Ints.nil _) (show Off none 0 _ from fun h => absurd h (by omega)) (show Fresh w.heap.size none 0 from fun h => absurd h (by omega)); have hRN : Rd wq g A cap bs (p1 + 1) := Rd.aside (by (repeat (first | with_reducible exact hR2 | refine Rd.far ?_ (by first | omega | (simp; done) | (simp; omega)) _ | refine Rd.alloc ?_ _ | refine Rd.drewN ?_ _ | refine Rd.drew ?_))) hgrow (fun j hj => by have := (hrow.own.lt j hj).1; omega); have hKN : Kept w.heap.size g w wq := Kept.grown (by (repeat (first | with_reducible exact hK2 | (with_reducible refine Kept.set ?_ (by first | omega | (simp; done) | (simp; omega)) _) | (with_reducible refine Kept.alloc ?_ (by first | omega | (simp; done) | (simp; omega)) _) | (with_reducible refine Kept.drewN ?_ _) | (with_reducible refine Kept.drew ?_)))) hgrow (by first | omega | (simp; done) | (simp; omega)) (fun j hj => (hrow.own.lt j hj).1); clear hown3 hgrow hat hlt2 hrow)))
    go_ret
    exact ⟨_, _, n + 1, _, rfl, ⟨hrowN, by omega⟩, ⟨⟨_, by omega, hRN⟩, hKN.only⟩⟩
  have q2' : (r == 2) = false := by simpa using q2
  go_wp2
  go_ret
  exact ⟨ls, _, n, zs, rfl, ⟨hrow2, by omega⟩, ⟨⟨_, by omega, hR2⟩, hK2.only⟩⟩
end Go.Proofs.Ytccjbipmlpnhkaa

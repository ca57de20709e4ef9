/- Elimination. -/
import Derived.Test.YtccjbipmlpnhkaaWl
import Derived.Test.YtccjbipmlpnhkaaWd
import Derived.Test.YtccjbipmlpnhkaaWc
import Derived.Test.YtccjbipmlpnhkaaT
import Derived.Deep.RegionLawGrows
namespace Go.Proofs.Ytccjbipmlpnhkaa
set_option maxRecDepth 100000
open Go.RowKit Go.ChangeShapes Go.WideShapes Go.ChangeAt
set_option linter.unusedSimpArgs false
set_option linter.unusedVariables false

/-- what is left without a number -/
def farLess (ls : List LinV) (u : Int) : Option (List LinV) :=
  if (sysOk ls && within u 0 3) = true then (lessRows (rowsOf ls) u.toNat).map (fun rs => rs.map (·.1)) else none
theorem farLess_sys {ls : List LinV} {u : Int} (h : sysOk ls = false) : farLess ls u = none := by unfold farLess; rw [h]; rfl
theorem farLess_at {ls : List LinV} {u : Int} (h : within u 0 3 = false) : farLess ls u = none := by unfold farLess; rw [h]; simp
theorem farLess_go {ls : List LinV} {u : Nat} (h : sysOk ls = true) (hu : within (u : Int) 0 3 = true) : farLess ls u = (lessRows (rowsOf ls) u).map (fun rs => rs.map (·.1)) := by
  unfold farLess; rw [h, hu]; rfl
theorem le_few {ls : List LinV} (h : sysOk ls = true) : ls.length ≤ 20 := by simp [sysOk] at h; exact h.2
/-- the first k rows' constraints -/
def linsTo (rs : List RowV) (k : Nat) : List LinV := (rs.take k).map (·.1)
theorem linsTo_succ {rs : List RowV} {k : Nat} (hk : k < rs.length) : linsTo rs (k + 1) = linsTo rs k ++ [(rs.getD k row0).1] := by
  unfold linsTo
  rw [List.take_add_one, List.getElem?_eq_getElem hk, List.map_append, List.getD_eq_getElem?_getD, List.getElem?_eq_getElem hk]
  rfl
theorem linsTo_all (rs : List RowV) : linsTo rs rs.length = rs.map (·.1) := by unfold linsTo; rw [List.take_length]
theorem linsTo_len {rs : List RowV} {k : Nat} (hk : k ≤ rs.length) : (linsTo rs k).length = k := by simp [linsTo]; omega

/-- Constraints of which each has a block of its own. -/
structure LinD (w : World) (B : Nat) (v : Value) (k : Nat) (ls : List LinV) (zs : List Value) (G : List Nat) : Prop where
  own : w.ownsRow B 34 3 v k zs
  len : ls.length = k
  glen : G.length = k
  nodup : G.Nodup
  each : ∀ j, j < k → ∃ c, (Ints w (some ⟨G.getD j 0, 0, none⟩) 4 (ls.getD j lin0).1 ∧ Free w (G.getD j 0)) ∧ (B ≤ G.getD j 0 ∧ some (G.getD j 0) ≠ v.ownBlock) ∧ zs[j * 3]? = some (.slice (some ⟨G.getD j 0, 0, none⟩) 4 c) ∧ zs[j * 3 + 1]? = some (.int .i64 (ls.getD j lin0).2.1) ∧ zs[j * 3 + 2]? = some (.bool (ls.getD j lin0).2.2)
theorem LinD.nil (w : World) (B : Nat) : LinD w B (.slice none 0 0) 0 [] [] [] := ⟨⟨rfl, .inl ⟨rfl, rfl⟩⟩, rfl, rfl, List.nodup_nil, fun _ h => absurd h (by omega)⟩
theorem LinD.later {w w' : World} {B : Nat} {v : Value} {k : Nat} {ls : List LinV} {zs : List Value} {G : List Nat} (h : LinD w B v k ls zs G) (hb : Below w.heap.size w w') : LinD w' B v k ls zs G :=
  ⟨h.own.kept (row := none) ⟨hb.os, hb.tape, hb.output, hb.size, fun i hi _ => hb.block i hi⟩ (by cases hv : v.ownBlock <;> simp), h.len, h.glen, h.nodup, fun j hj => by
    obtain ⟨c, ⟨hI, hF⟩, h1⟩ := h.each j hj
    exact ⟨c, ⟨hI.later hb, hF.later hb⟩, h1⟩⟩
theorem LinD.form {w : World} {B : Nat} {v : Value} {k : Nat} {ls : List LinV} {zs : List Value} {G : List Nat} (h : LinD w B v k ls zs G) : ∃ A c, v = .slice A k c := by
  rcases h.own.2 with ⟨rfl, rfl⟩ | ⟨g, cap, _, rfl, _⟩
  · exact ⟨none, 0, rfl⟩
  · exact ⟨some ⟨g, 0, none⟩, cap, rfl⟩
theorem LinD.glt {w : World} {B : Nat} {v : Value} {k : Nat} {ls : List LinV} {zs : List Value} {G : List Nat} (h : LinD w B v k ls zs G) {j : Nat} (hj : j < k) : G.getD j 0 < w.heap.size := by
  obtain ⟨c, ⟨_, hF⟩, _⟩ := h.each j hj
  exact hF.lt
theorem LinD.weak {w : World} {B B' : Nat} {v : Value} {k : Nat} {ls : List LinV} {zs : List Value} {G : List Nat} (h : LinD w B v k ls zs G) (hB : B' ≤ B) : LinD w B' v k ls zs G :=
  ⟨⟨h.own.1, h.own.2.imp_right fun ⟨g, cap, cur, e, hb, h'⟩ => ⟨g, cap, cur, e, by omega, h'⟩⟩, h.len, h.glen, h.nodup, fun j hj => by
    obtain ⟨c, h1, ⟨h2, h3⟩, h4⟩ := h.each j hj
    exact ⟨c, h1, ⟨by omega, h3⟩, h4⟩⟩
theorem LinD.snoc {w w' : World} {B : Nat} {v : Value} {k : Nat} {ls : List LinV} {zs : List Value} {G : List Nat} (h : LinD w B v k ls zs G) {g cap q c : Nat} {x : LinV}
    (ho : w'.ownsRow B 34 3 (.slice (some ⟨g, 0, none⟩) (k + 1) cap) (k + 1) (zs ++ [.slice (some ⟨q, 0, none⟩) 4 c, .int .i64 x.2.1, .bool x.2.2])) (hg : w.grownBy w' v.ownBlock) (hat : v.ownBlock = some g ∨ w.heap.size ≤ g)
    (hI : Ints w (some ⟨q, 0, none⟩) 4 x.1) (hF : Free w q) (hB : B ≤ q) (hO : some q ≠ v.ownBlock) (hN : ∀ j, j < k → G.getD j 0 ≠ q) :
    LinD w' B (.slice (some ⟨g, 0, none⟩) (k + 1) cap) (k + 1) (ls ++ [x]) (zs ++ [.slice (some ⟨q, 0, none⟩) 4 c, .int .i64 x.2.1, .bool x.2.2]) (G ++ [q]) := by
  have hl := h.own.1
  have hgl := h.glen
  have tr : ∀ {p : Nat}, p < w.heap.size → some p ≠ v.ownBlock → some p ≠ some g := fun {p} hp hA => by
    rcases hat with e | e
    · rw [← e]; exact hA
    · intro e2; injection e2 with e2; omega
  have fr : ∀ {p : Nat}, Free w p → some p ≠ v.ownBlock → Free w' p := fun {p} hp hA => ⟨Nat.lt_of_lt_of_le hp.lt hg.size, fun j => (World.frozen?_of_block (w := w) (a := ⟨p, j, none⟩) (hg.block p hp.lt hA)).trans (hp.free j)⟩
  have io : ∀ {p : Nat} {xs : List Int}, Ints w (some ⟨p, 0, none⟩) 4 xs → some p ≠ v.ownBlock → Ints w' (some ⟨p, 0, none⟩) 4 xs := fun {p xs} hI hA => hI.off (fun _ a e => by obtain rfl := Option.some.inj e; exact hA) hg
  refine ⟨ho, by simp [h.len], by simp [hgl], ?_, fun j hj => ?_⟩
  · rw [List.nodup_append]
    refine ⟨h.nodup, by simp, fun a ha b hb => ?_⟩
    rw [List.mem_singleton] at hb
    subst hb
    obtain ⟨j, hj, rfl⟩ := List.mem_iff_getElem.1 ha
    have := hN j (by omega)
    rwa [List.getD_eq_getElem?_getD, List.getElem?_eq_getElem hj] at this
  · show ∃ c, _ ∧ (_ ∧ some _ ≠ some g) ∧ _
    by_cases e : j = k
    · subst e
      have hx : (ls ++ [x]).getD j lin0 = x := by rw [List.getD_eq_getElem?_getD, ← h.len]; simp
      have hq : (G ++ [q]).getD j 0 = q := by rw [List.getD_eq_getElem?_getD, ← hgl]; simp
      rw [hx, hq]
      refine ⟨c, ⟨io hI hO, fr hF hO⟩, ⟨hB, tr hF.lt hO⟩, ?_, ?_, ?_⟩
      · rw [List.getElem?_append_right (by omega), hl, Nat.sub_self]; rfl
      · rw [List.getElem?_append_right (by omega), hl, Nat.add_sub_cancel_left]; rfl
      · rw [List.getElem?_append_right (by omega), hl, Nat.add_sub_cancel_left]; rfl
    · obtain ⟨c', ⟨hI', hF'⟩, ⟨hB', hO'⟩, h0, h1, h2⟩ := h.each j (by omega)
      have hx : (ls ++ [x]).getD j lin0 = ls.getD j lin0 := by rw [List.getD_eq_getElem?_getD, List.getElem?_append_left (by have := h.len; omega), ← List.getD_eq_getElem?_getD]
      have hq : (G ++ [q]).getD j 0 = G.getD j 0 := by rw [List.getD_eq_getElem?_getD, List.getElem?_append_left (by omega), ← List.getD_eq_getElem?_getD]
      rw [hx, hq]
      refine ⟨c', ⟨io hI' hO', fr hF' hO'⟩, ⟨hB', tr hF'.lt hO'⟩, ?_, ?_, ?_⟩
      · rw [List.getElem?_append_left (by omega)]; exact h0
      · rw [List.getElem?_append_left (by omega)]; exact h1
      · rw [List.getElem?_append_left (by omega)]; exact h2
theorem LinD.lins {w : World} {B : Nat} {A : Option Addr} {k n c : Nat} {ls : List LinV} {zs : List Value} {G : List Nat} (h : LinD w B (.slice A n c) k ls zs G) (hk : k ≤ 9223372036854775807) : Lins w A k ls := by
  refine ⟨h.len, fun hn => ?_, hk⟩
  obtain ⟨g, cap, e, _⟩ := h.own.form hn
  simp only [Value.slice.injEq] at e
  obtain ⟨rfl, rfl, rfl⟩ := e
  refine ⟨g, 0, rfl, (h.own.lt g rfl).2, fun j hj => ?_⟩
  obtain ⟨c', ⟨hI', _⟩, _, h0, h1, h2⟩ := h.each j hj
  rw [Nat.zero_add]
  exact ⟨_, 4, c', hI', by rw [h.own.cellAt _ (by omega)]; exact h0, by rw [h.own.cellAt _ (by omega)]; exact h1, by rw [h.own.cellAt _ (by omega)]; exact h2⟩
theorem news_le {W : World} {E : Nat} {zs : List Value} {t : TypeId} (hE : W.heap.size = E) : ∀ j u, zs[j]? = some u → (W.alloc (.cells zs.toArray t)).cell? ((⟨E, 0, none⟩ : Addr).add j) = some u := by
  subst hE
  exact World.news_of_block (cs := zs.toArray) (t := t) (fr := (0, 0)) (heap_alloc_new _ _)
theorem lin_info_le : (Try.prog.info? 34).map (fun i => (i.zero, i.size, i.bytes)) = some (some (.agg #[.slice none 0 0, .int .i64 0, .bool false]), 3, 40) := by kernel_rfl
/-- What elimination gives; the result is the call's own. -/
def LessD (o : Option (List LinV)) (w : World) (e : Ending) (w' : World) : Prop :=
  ∃ A c zs G, e = .returned (.tuple #[.slice A (o.getD []).length c, .bool o.isSome]) ∧ LinD w' w.heap.size (.slice A (o.getD []).length c) (o.getD []).length (o.getD []) zs G ∧ Below w.heap.size w w'
theorem lessD_none {o : Option (List LinV)} {w w' : World} {e : Ending} (h : o = none) (he : e = .returned (.tuple #[.slice none 0 0, .bool false])) (hb : Below w.heap.size w w') : LessD o w e w' := by
  subst h; exact ⟨none, 0, [], [], he, LinD.nil _ _, hb⟩
theorem lessD_some {o : Option (List LinV)} {xs : List LinV} {A : Option Addr} {n c : Nat} {zs : List Value} {G : List Nat} {w w' : World} {e : Ending} (h : o = some xs) (hn : xs.length = n) (he : e = .returned (.tuple #[.slice A n c, .bool true])) (hd : LinD w' w.heap.size (.slice A n c) n xs zs G) (hb : Below w.heap.size w w') : LessD o w e w' := by
  subst h hn; exact ⟨A, c, zs, G, he, hd, hb⟩

theorem iFarLess_any {A : Option Addr} {n c : Nat} {ls : List LinV} (u : Int) {w : World} (h : Lins w A n ls) :
    Calls Try.prog 13 #[.slice A n c, .int .i64 u] w (LessD (farLess ls u) w) := by
  have hlen := h.len
  obtain ⟨j0, hj, yj0, yj1, yj2⟩ := info_parts lin_info_le
  obtain ⟨r, hr⟩ : ∃ r, farLess ls u = r := ⟨_, rfl⟩
  rw [hr]
  have HR := Lib.hid hr
  clear hr
  cases hs : sysOk ls
  · go_enter Try.func13, Try.ntmps13
    go_wp2_with fail
    refine (isSystem_any (h.later (by (repeat (first | with_reducible exact Below.refl _ _ | with_reducible assumption | (with_reducible refine below_drewN ?_ _) | (with_reducible refine Below.drew ?_) | (with_reducible refine Below.setCell ?_ (by first | omega | (simp; done) | (simp; omega)) _) | (with_reducible refine Below.alloc ?_ (by first | omega | (simp; done) | (simp; omega)) _) | refine Below.trans ?_ (Below.mono (by with_reducible assumption) (by first | omega | (simp; done) | (simp; omega)))))))).mono ?_
    rw [hs]
    rintro e w1 ⟨rfl, hb1⟩
    have hz1 := hb1.size; (try simp at hz1); have hB1 : Below w.heap.size w w1 := (by refine Below.trans ?_ (Below.mono hb1 (by first | omega | (simp; done) | (simp; omega))); (repeat (first | with_reducible exact Below.refl _ _ | with_reducible assumption | (with_reducible refine below_drewN ?_ _) | (with_reducible refine Below.drew ?_) | (with_reducible refine Below.setCell ?_ (by first | omega | (simp; done) | (simp; omega)) _) | (with_reducible refine Below.alloc ?_ (by first | omega | (simp; done) | (simp; omega)) _) | refine Below.trans ?_ (Below.mono (by with_reducible assumption) (by first | omega | (simp; done) | (simp; omega))))))
    clear hb1
    go_wp2
    refine bodyPost_ret (v := .tuple #[.slice none 0 0, .bool false]) (by simp only [results, Try.results13]; go_simp) rfl ?_
    exact lessD_none (HR.out.symm.trans (farLess_sys hs)) rfl (by (repeat (first | with_reducible exact Below.refl _ _ | with_reducible assumption | (with_reducible refine below_drewN ?_ _) | (with_reducible refine Below.drew ?_) | (with_reducible refine Below.setCell ?_ (by first | omega | (simp; done) | (simp; omega)) _) | (with_reducible refine Below.alloc ?_ (by first | omega | (simp; done) | (simp; omega)) _) | refine Below.trans ?_ (Below.mono (by with_reducible assumption) (by first | omega | (simp; done) | (simp; omega))))))
  have hn20 : n ≤ 20 := by have := le_few hs; omega
  have HS := Lib.hid hs
  go_enter Try.func13, Try.ntmps13
  go_wp2_with fail
  refine (isSystem_any (h.later (by (repeat (first | with_reducible exact Below.refl _ _ | with_reducible assumption | (with_reducible refine below_drewN ?_ _) | (with_reducible refine Below.drew ?_) | (with_reducible refine Below.setCell ?_ (by first | omega | (simp; done) | (simp; omega)) _) | (with_reducible refine Below.alloc ?_ (by first | omega | (simp; done) | (simp; omega)) _) | refine Below.trans ?_ (Below.mono (by with_reducible assumption) (by first | omega | (simp; done) | (simp; omega)))))))).mono ?_
  rw [hs]
  clear hs
  rintro e w1 ⟨rfl, hb1⟩
  have hz1 := hb1.size; (try simp at hz1); have hB1 : Below w.heap.size w w1 := (by refine Below.trans ?_ (Below.mono hb1 (by first | omega | (simp; done) | (simp; omega))); (repeat (first | with_reducible exact Below.refl _ _ | with_reducible assumption | (with_reducible refine below_drewN ?_ _) | (with_reducible refine Below.drew ?_) | (with_reducible refine Below.setCell ?_ (by first | omega | (simp; done) | (simp; omega)) _) | (with_reducible refine Below.alloc ?_ (by first | omega | (simp; done) | (simp; omega)) _) | refine Below.trans ?_ (Below.mono (by with_reducible assumption) (by first | omega | (simp; done) | (simp; omega))))))
  clear hb1
  go_wp2_with fail
  refine (within_any u 0 3 _).mono ?_
  rintro e w' ⟨rfl, rfl⟩
  cases hw : within u 0 3
  · go_wp2
    refine bodyPost_ret (v := .tuple #[.slice none 0 0, .bool false]) (by simp only [results, Try.results13]; go_simp) rfl ?_
    exact lessD_none (HR.out.symm.trans (farLess_at hw)) rfl (by (repeat (first | with_reducible exact Below.refl _ _ | with_reducible assumption | (with_reducible refine below_drewN ?_ _) | (with_reducible refine Below.drew ?_) | (with_reducible refine Below.setCell ?_ (by first | omega | (simp; done) | (simp; omega)) _) | (with_reducible refine Below.alloc ?_ (by first | omega | (simp; done) | (simp; omega)) _) | refine Below.trans ?_ (Below.mono (by with_reducible assumption) (by first | omega | (simp; done) | (simp; omega))))))
  obtain ⟨hu0, hu3⟩ := within_iff.1 hw
  obtain ⟨v, rfl⟩ : ∃ v : Nat, u = (v : Int) := ⟨u.toNat, by omega⟩
  have hv4 : v < 4 := by omega
  have HW := Lib.hid hw
  clear hw hu0 hu3
  go_wp2_with fail
  refine (usedLins_any (h.later (by (repeat (first | with_reducible exact Below.refl _ _ | with_reducible assumption | (with_reducible refine below_drewN ?_ _) | (with_reducible refine Below.drew ?_) | (with_reducible refine Below.setCell ?_ (by first | omega | (simp; done) | (simp; omega)) _) | (with_reducible refine Below.alloc ?_ (by first | omega | (simp; done) | (simp; omega)) _) | refine Below.trans ?_ (Below.mono (by with_reducible assumption) (by first | omega | (simp; done) | (simp; omega))))))) hn20).mono ?_
  rintro e w2 ⟨A1, c1, rfl, hR, hb1⟩
  have hz1 := hb1.size; (try simp at hz1); have hB1 : Below w.heap.size w w2 := (by refine Below.trans ?_ (Below.mono hb1 (by first | omega | (simp; done) | (simp; omega))); (repeat (first | with_reducible exact Below.refl _ _ | with_reducible assumption | (with_reducible refine below_drewN ?_ _) | (with_reducible refine Below.drew ?_) | (with_reducible refine Below.setCell ?_ (by first | omega | (simp; done) | (simp; omega)) _) | (with_reducible refine Below.alloc ?_ (by first | omega | (simp; done) | (simp; omega)) _) | refine Below.trans ?_ (Below.mono (by with_reducible assumption) (by first | omega | (simp; done) | (simp; omega))))))
  clear hb1
  go_wp2_with fail
  obtain ⟨ol, hol⟩ : ∃ ol, lessRows (rowsOf ls) v = ol := ⟨_, rfl⟩
  refine (less_any (N := ls.length) hR (rowsOf_ok HS.out) hv4 (by omega)).mono ?_
  rw [hol]
  rintro e w3 ⟨B', m', d', rfl, hRn, hb1⟩
  have HRn := Lib.hid hRn
  have hz1 := hb1.size; (try simp at hz1); have hB1 : Below w.heap.size w w3 := (by refine Below.trans ?_ (Below.mono hb1 (by first | omega | (simp; done) | (simp; omega))); (repeat (first | with_reducible exact Below.refl _ _ | with_reducible assumption | (with_reducible refine below_drewN ?_ _) | (with_reducible refine Below.drew ?_) | (with_reducible refine Below.setCell ?_ (by first | omega | (simp; done) | (simp; omega)) _) | (with_reducible refine Below.alloc ?_ (by first | omega | (simp; done) | (simp; omega)) _) | refine Below.trans ?_ (Below.mono (by with_reducible assumption) (by first | omega | (simp; done) | (simp; omega))))))
  clear hb1 hRn hR
  have HO := Lib.hid hol
  clear hol
  cases ol with
  | none =>
    go_wp2
    refine bodyPost_ret (v := .tuple #[.slice none 0 0, .bool false]) (by simp only [results, Try.results13]; go_simp) rfl ?_
    exact lessD_none (HR.out.symm.trans ((farLess_go HS.out HW.out).trans (by rw [HO.out]; rfl))) rfl (by (repeat (first | with_reducible exact Below.refl _ _ | with_reducible assumption | (with_reducible refine below_drewN ?_ _) | (with_reducible refine Below.drew ?_) | (with_reducible refine Below.setCell ?_ (by first | omega | (simp; done) | (simp; omega)) _) | (with_reducible refine Below.alloc ?_ (by first | omega | (simp; done) | (simp; omega)) _) | refine Below.trans ?_ (Below.mono (by with_reducible assumption) (by first | omega | (simp; done) | (simp; omega))))))
  | some rs =>
    have hRs := HRn.out rs rfl
    have HOK := Lib.hid (lessRows_ok (rowsOf_ok HS.out) HO.out)
    have hlr := hRs.len
    have hmany : m' ≤ 200 := by rw [← hlr]; exact HOK.out.many
    have HF : Hid (r = some (linsTo rs m')) := Lib.hid (HR.out.symm.trans ((farLess_go HS.out HW.out).trans (by rw [HO.out, ← hlr, linsTo_all]; rfl)))
    have HLR := Lib.hid hlr
    clear HRn hlr
    go_wp2_with fail
    go_loopw [8, 30] (fun v0 i wr => ∃ (k : Nat) (v : Value) (zs : List Value) (G : List Nat), k ≤ m' ∧ i = .int .i64 k ∧ v = v0 ∧ LinD wr w3.heap.size v k (linsTo rs k) zs G ∧ Below w3.heap.size w3 wr) (fun _ i _ => m' - (intOf i).toNat)
    case atStart => exact ⟨0, _, [], [], by omega, rfl, rfl, LinD.nil _ _, Below.refl _ _⟩
    case round =>
      obtain ⟨k, v, zs, G, hk, rfl, rfl, hrow, hbr⟩ := hrel
      have hsz := hbr.size
      by_cases hlt : k < m'
      · obtain ⟨p, o, rfl, hp, hcs⟩ := (hRs.later hbr).cells (by omega)
        obtain ⟨A5, m5, c5, B5, p5, d5, ⟨hI5, _⟩, hc0, hc1, hc2, hc3⟩ := (hcs k hlt).ex
        have hlin := (HOK.out.each k (by rw [HLR.out]; exact hlt)).lin
        obtain rfl : 4 = m5 := (linOk_len hlin).1.symm.trans hI5.len
        have HN := Lib.hid (linsTo_succ (rs := rs) (k := k) (by rw [HLR.out]; exact hlt))
        clear hcs hlin
        generalize (rs.getD k row0).1 = x at *
        obtain ⟨xs, b, s⟩ := x
        dsimp only at hI5 hc1 hc2
        go_wp2_with fail
        refine (clone_any (hI5.later (by (repeat (first | with_reducible exact Below.refl _ _ | with_reducible assumption | (with_reducible refine below_drewN ?_ _) | (with_reducible refine Below.drew ?_) | (with_reducible refine Below.setCell ?_ (by first | omega | (simp; done) | (simp; omega)) _) | (with_reducible refine Below.alloc ?_ (by first | omega | (simp; done) | (simp; omega)) _) | refine Below.trans ?_ (Below.mono (by with_reducible assumption) (by first | omega | (simp; done) | (simp; omega))))))) (by omega) (by omega)).mono ?_
        rintro e w4 ⟨g4, c4, rfl, ⟨hI4, hF4⟩, hg4, hb1⟩
        have hs4 := hb1.size
        simp only [World.size_alloc] at hs4 hg4
        obtain ⟨kc_, fc_, lc_⟩ := keep_later (a := ⟨wr.heap.size, 0, none⟩) (v := .slice A5 4 c5) hb1 (by go_simp) (by go_simp); obtain ⟨kc_, fc_, lc_⟩ := keep_later (a := ⟨wr.heap.size, 1, none⟩) (v := .int .i64 b) hb1 (by go_simp) (by go_simp); obtain ⟨kc_, fc_, lc_⟩ := keep_later (a := ⟨wr.heap.size, 2, none⟩) (v := .bool s) hb1 (by go_simp) (by go_simp)
        have hx4 := hF4.lt
        have hbr4 : Below w3.heap.size w3 w4 := Below.trans (by (repeat (first | with_reducible exact Below.refl _ _ | with_reducible assumption | (with_reducible refine below_drewN ?_ _) | (with_reducible refine Below.drew ?_) | (with_reducible refine Below.setCell ?_ (by first | omega | (simp; done) | (simp; omega)) _) | (with_reducible refine Below.alloc ?_ (by first | omega | (simp; done) | (simp; omega)) _) | refine Below.trans ?_ (Below.mono (by with_reducible assumption) (by first | omega | (simp; done) | (simp; omega)))))) (hb1.mono (by first | omega | (simp; done) | (simp; omega)))
        have hwr4 : Below wr.heap.size wr w4 := Below.trans (by (repeat (first | with_reducible exact Below.refl _ _ | with_reducible assumption | (with_reducible refine below_drewN ?_ _) | (with_reducible refine Below.drew ?_) | (with_reducible refine Below.setCell ?_ (by first | omega | (simp; done) | (simp; omega)) _) | (with_reducible refine Below.alloc ?_ (by first | omega | (simp; done) | (simp; omega)) _) | refine Below.trans ?_ (Below.mono (by with_reducible assumption) (by first | omega | (simp; done) | (simp; omega)))))) (hb1.mono (by first | omega | (simp; done) | (simp; omega)))
        have hO4 : some g4 ≠ v.ownBlock := fun e => by
          have := (hrow.own.lt g4 e.symm).2; omega
        have hN4 : ∀ j, j < k → G.getD j 0 ≠ g4 := fun j hj e => by have := hrow.glt hj; omega
        clear hb1
        go_wp2_with (first | (at_builtin; refine wpList_append_lies _ (by rfl) (.tmp 40) (.tmp 43) _ (by rfl) w3.heap.size 34 j0 _ 3 40 Try.underlying23 hj yj0 yj1 yj2 rfl (by omega) v k zs (by rfl) (LinD.later hrow (by (repeat (first | with_reducible exact Below.refl _ _ | with_reducible assumption | (with_reducible refine below_drewN ?_ _) | (with_reducible refine Below.drew ?_) | (with_reducible refine Below.setCell ?_ (by first | omega | (simp; done) | (simp; omega)) _) | (with_reducible refine Below.alloc ?_ (by first | omega | (simp; done) | (simp; omega)) _) | refine Below.trans ?_ (Below.mono (by with_reducible assumption) (by first | omega | (simp; done) | (simp; omega))))))).own ⟨w4.heap.size, 0, none⟩ 1 1 [.slice (some ⟨g4, 0, none⟩) 4 c4, .int .i64 b, .bool s] (by rfl) (by rfl) (news_le (by first | omega | (simp; done) | (simp; omega))) (by simp [Value.oneCell']) (by omega) (by unfold maxLen; omega) (by omega) (by first | omega | (simp; done) | (simp; omega)) (w4.heap.size + 1) (by simp) ?_; intro g' cap' wq hown3 hgrow hat hlt2; have hrowN := (LinD.later hrow (by (repeat (first | with_reducible exact Below.refl _ _ | with_reducible assumption | (with_reducible refine below_drewN ?_ _) | (with_reducible refine Below.drew ?_) | (with_reducible refine Below.setCell ?_ (by first | omega | (simp; done) | (simp; omega)) _) | (with_reducible refine Below.alloc ?_ (by first | omega | (simp; done) | (simp; omega)) _) | refine Below.trans ?_ (Below.mono (by with_reducible assumption) (by first | omega | (simp; done) | (simp; omega))))))).snoc (x := (xs, b, s)) (q := g4) hown3 hgrow (hat.imp_right fun e => by simp; omega) (by (repeat (first | with_reducible exact hI4 | refine Ints.alloc ?_ _ | refine Ints.far ?_ (by first | omega | (simp; omega)) _))) (by (repeat (first | with_reducible exact hF4 | refine Free.alloc ?_ _ | refine Free.set ?_ _ _))) (by omega) hO4 hN4; have hbN : Below w3.heap.size w3 wq := Below.grown (by (repeat (first | with_reducible exact Below.refl _ _ | with_reducible assumption | (with_reducible refine below_drewN ?_ _) | (with_reducible refine Below.drew ?_) | (with_reducible refine Below.setCell ?_ (by first | omega | (simp; done) | (simp; omega)) _) | (with_reducible refine Below.alloc ?_ (by first | omega | (simp; done) | (simp; omega)) _) | refine Below.trans ?_ (Below.mono (by with_reducible assumption) (by first | omega | (simp; done) | (simp; omega)))))) hgrow (by first | omega | (simp; done) | (simp; omega)) (fun j hj => (hrow.own.lt j hj).1); clear hown3 hgrow hat hlt2 hrow))
        rw [← HN.out] at hrowN
        go_roundw
        case rel => exact ⟨k + 1, _, _, _, by omega, by go_num, rfl, hrowN, hbN⟩
        case measure => simp [intOf]; omega
      · obtain rfl : k = m' := by omega
        obtain ⟨Av, cv, rfl⟩ := hrow.form
        go_wp2
        refine bodyPost_ret (v := .tuple #[.slice Av k cv, .bool true]) (by simp only [results, Try.results13]; go_simp) rfl ?_
        exact lessD_some HF.out (linsTo_len (by rw [HLR.out]; exact Nat.le_refl _)) rfl (hrow.weak (by omega)) (by (repeat (first | with_reducible exact Below.refl _ _ | with_reducible assumption | (with_reducible refine below_drewN ?_ _) | (with_reducible refine Below.drew ?_) | (with_reducible refine Below.setCell ?_ (by first | omega | (simp; done) | (simp; omega)) _) | (with_reducible refine Below.alloc ?_ (by first | omega | (simp; done) | (simp; omega)) _) | refine Below.trans ?_ (Below.mono (by with_reducible assumption) (by first | omega | (simp; done) | (simp; omega))))))
theorem ints_news {w : World} {q o n : Nat} {xs : List Int} (h : Ints w (some ⟨q, o, none⟩) n xs) : ∀ j u, (xs.map (Value.int .i64))[j]? = some u → w.cell? ((⟨q, o, none⟩ : Addr).add j) = some u := fun j u hu => by
  have hadd : (⟨q, o, none⟩ : Addr).add j = ⟨q, o + j, none⟩ := by unfold Addr.add; split <;> simp_all
  have hl := h.len
  rw [List.getElem?_map] at hu
  rcases Nat.lt_or_ge j xs.length with hj | hj
  · obtain ⟨b, o', e, hb, hc⟩ := h.cells (by omega)
    injection e with e; injection e with e1 e2
    subst e1 e2
    rw [List.getElem?_eq_getElem hj] at hu
    have h0 := hc j (by omega)
    rw [List.getD_eq_getElem?_getD, List.getElem?_eq_getElem hj] at h0
    rw [hadd, h0]
    exact hu
  · rw [List.getElem?_eq_none hj] at hu
    cases hu
theorem ints_each (xs : List Int) : ∀ u ∈ xs.map (Value.int .i64), u.oneCell' = true := fun u hu => by
  obtain ⟨x, _, rfl⟩ := List.mem_map.1 hu
  rfl
theorem ints_own {w : World} {base g n c : Nat} {t : TypeId} {xs : List Int} (h : w.ownsRow base t 1 (.slice (some ⟨g, 0, none⟩) n c) n (xs.map (Value.int .i64))) (hr : ∀ j, J64 (xs.getD j 0)) (hn : n ≤ 9223372036854775807) : Ints w (some ⟨g, 0, none⟩) n xs := by
  have hl : xs.length = n := by have := h.1; simpa using this
  refine ⟨hl, fun _ => ⟨g, 0, rfl, (h.lt g rfl).2, fun j hj => ?_⟩, hr, hn⟩
  rw [Nat.zero_add, h.cellAt j (by omega), List.getElem?_map, List.getElem?_eq_getElem (show j < xs.length by omega), List.getD_eq_getElem?_getD, List.getElem?_eq_getElem (show j < xs.length by omega)]
  rfl
theorem own_free {w : World} {base g n c sz : Nat} {t : TypeId} {zs : List Value} (h : w.ownsRow base t sz (.slice (some ⟨g, 0, none⟩) n c) n zs) : Free w g := ⟨(h.lt g rfl).2, fun j => h.frozenAt j⟩
theorem LinD.lit {W : World} {E B : Nat} (hE : W.heap.size = E) (hb : B ≤ E) : LinD (W.alloc (.cells #[] 34)) B (.slice (some ⟨E, 0, none⟩) 0 0) 0 [] [] [] := by
  subst hE
  exact ⟨World.ownsRow_lit W #[] 0 hb (by simp) rfl, rfl, rfl, List.nodup_nil, fun _ h => absurd h (by omega)⟩
theorem lessD_no {o : Option (List LinV)} {A : Option Addr} {c : Nat} {w w' : World} {e : Ending} (h : o = none) (he : e = .returned (.tuple #[.slice A 0 c, .bool false])) (hd : LinD w' w.heap.size (.slice A 0 c) 0 [] [] []) (hb : Below w.heap.size w w') : LessD o w e w' := by
  subst h; exact ⟨A, c, [], [], he, hd, hb⟩

theorem int_info_le : (Try.prog.info? 3).map (fun i => (i.zero, i.size, i.bytes)) = some (some (.int .i64 0), 1, 8) := by kernel_rfl
theorem within_lt {u : Int} (h : within u 0 3 = false) : decide (u < 0) = true ∨ (decide (u < 0) = false ∧ decide (u ≥ 4) = true) := by
  have : ¬ (0 ≤ u ∧ u ≤ 3) := fun hh => by rw [within_iff.2 hh] at h; cases h
  by_cases h0 : u < 0
  · left; simpa using h0
  · right; exact ⟨by simpa using h0, by simp; omega⟩
/-- An empty list without room, whatever its address, or constraints of which each has a block of its own. -/
def LinE (w : World) (B : Nat) (v : Value) (k : Nat) (ls : List LinV) (zs : List Value) (G : List Nat) : Prop :=
  (k = 0 ∧ (∃ q, v = .slice (some ⟨q, 0, none⟩) 0 0) ∧ ls = [] ∧ zs = [] ∧ G = []) ∨ LinD w B v k ls zs G
theorem LinE.later {w w' : World} {B : Nat} {v : Value} {k : Nat} {ls : List LinV} {zs : List Value} {G : List Nat} (h : LinE w B v k ls zs G) (hb : Below w.heap.size w w') : LinE w' B v k ls zs G := h.imp_right fun h => h.later hb
theorem step_lin_append {P : Program} {ops : Array Oper} {o : Oper} {a : Act} {w : World} {K : Act → World → Prop} {Q : Exit → Act → World → Prop} {E : Prop} {B k q c : Nat} {v : Value} {x : LinV} {ls : List LinV} {zs : List Value} {G : List Nat} (hgd : o.guard = none) (s y : Operand) (t : TypeId)
    (ho : o.op = .call { callee := .builtin .append, args := #[s, y], argTypes := #[t, t] }) (i : TypeInfo) (z : Value) (ht : P.underlying t = some (.slice 34)) (hi : P.info? 34 = some i) (hz : i.zero = some z) (hsize : i.size = 3) (hby : i.bytes = 40) (hzs : z.cells.size = 3)
    {w0 : World} (hd0 : LinE w0 B v k ls zs G) (hb0 : Below w0.heap.size w0 w) (hq0 : w0.heap.size ≤ q) (hs : a.eval s = v) (ad : Addr) (hy : a.eval y = .slice (some ad) 1 1)
    (hnews : ∀ j u, [Value.slice (some ⟨q, 0, none⟩) 4 c, .int .i64 x.2.1, .bool x.2.2][j]? = some u → w.cell? (ad.add j) = some u) (hk : k ≤ 1000)
    (hI : Ints w (some ⟨q, 0, none⟩) 4 x.1) (hF : Free w q) (hB : B ≤ q) (hb : B ≤ w.heap.size)
    (h : ∀ g cap w', LinD w' B (.slice (some ⟨g, 0, none⟩) (k + 1) cap) (k + 1) (ls ++ [x]) (zs ++ [.slice (some ⟨q, 0, none⟩) 4 c, .int .i64 x.2.1, .bool x.2.2]) (G ++ [q]) → Below B w w' → K (a.put o.dst (.slice (some ⟨g, 0, none⟩) (k + 1) cap)) w') :
    if Region.wanted o (yielded ops a.tmps) = true then Oper.wp P o a w K Q else E := by
  have h1 : ∀ u ∈ [Value.slice (some ⟨q, 0, none⟩) 4 c, .int .i64 x.2.1, .bool x.2.2], u.oneCell' = true := by simp [Value.oneCell']
  rcases hd0 with ⟨rfl, ⟨p, rfl⟩, rfl, rfl, rfl⟩ | hd0
  · refine step_append_grows hgd s y t ho 34 i z 3 40 ht hi hz hsize hby hzs (by omega) (some ⟨p, 0, none⟩) 0 0 [] hs (fun e => by cases e) rfl (fun b _ j u hj => by simp at hj) ad 1 1 _ hy rfl hnews h1 (by omega) (by unfold maxLen; omega) (by omega) ?_
    intro v' w' hown hgr
    obtain ⟨g, cap, rfl, _⟩ := hown.form (by omega)
    have hlt := (hown.lt g rfl).1
    have hD := ((LinD.nil w w.heap.size).weak (B' := B) hb).snoc (w' := w') (x := x) (q := q) (c := c) (g := g) (cap := cap) ⟨hown.1, hown.2.imp_right fun ⟨g, cap, cur, e, hb', h'⟩ => ⟨g, cap, cur, e, by omega, h'⟩⟩ hgr (.inr hlt) hI hF hB (by simp [Value.ownBlock]) (fun j hj => absurd hj (by omega))
    exact h g cap w' hD (Below.grown (Below.refl _ _) hgr hb (fun j hj => by cases hj))
  · have hO1 : some q ≠ v.ownBlock := fun e => by
      have := (hd0.own.lt q e.symm).2; omega
    have hO2 : ∀ j, j < k → G.getD j 0 ≠ q := fun j hj e => by have := hd0.glt hj; omega
    have hd := hd0.later hb0
    refine step_append_lies w hgd s y t ho B 34 i z 3 40 ht hi hz hsize hby hzs (by omega) v k zs hs hd.own ad 1 1 _ hy rfl hnews h1 (by omega) (by unfold maxLen; omega) (by omega) hb w.heap.size rfl ?_
    intro g cap w' hown hgr hat _
    exact h g cap w' (hd.snoc hown hgr (hat.imp_right fun e => by omega) hI hF hB hO1 hO2) (Below.grown (Below.refl _ _) hgr hb (fun j hj => (hd.own.lt j hj).1))
set_option maxHeartbeats 4000000 in
theorem sFarLess_any {A : Option Addr} {n c : Nat} {ls : List LinV} (u : Int) {w : World} (h : Lins w A n ls) :
    Calls Try.prog 14 #[.slice A n c, .int .i64 u] w (LessD (farLess ls u) w) := by
  have hlen := h.len
  obtain ⟨j0, hj, yj0, yj1, yj2⟩ := info_parts lin_info_le
  obtain ⟨i0, hi, zi0, zi1, zi2⟩ := info_parts int_info_le
  obtain ⟨r, hr⟩ : ∃ r, farLess ls u = r := ⟨_, rfl⟩
  rw [hr]
  have HR := Lib.hid hr
  clear hr
  have hd0 : LinD (w.alloc (.cells #[] 34)) w.heap.size (.slice (some ⟨w.heap.size, 0, none⟩) 0 0) 0 [] [] [] := LinD.lit rfl (Nat.le_refl _)
  go_enter Try.func14, Try.ntmps14
  go_wp2_with fail
  refine (l3Ok_any (h.later (by (repeat (first | with_reducible exact Below.refl _ _ | with_reducible assumption | (with_reducible refine below_drewN ?_ _) | (with_reducible refine Below.drew ?_) | (with_reducible refine Below.setCell ?_ (by first | omega | (simp; done) | (simp; omega)) _) | (with_reducible refine Below.alloc ?_ (by first | omega | (simp; done) | (simp; omega)) _) | refine Below.trans ?_ (Below.mono (by with_reducible assumption) (by first | omega | (simp; done) | (simp; omega)))))))).mono ?_
  obtain ⟨so, hs⟩ : ∃ so, sysOk ls = so := ⟨_, rfl⟩
  rw [hs]
  rintro e w1 ⟨rfl, hb1⟩
  have hd1 := hd0.later hb1
  have hz1 := hb1.size; (try simp at hz1); have hB1 : Below w.heap.size w w1 := (by refine Below.trans ?_ (Below.mono hb1 (by first | omega | (simp; done) | (simp; omega))); (repeat (first | with_reducible exact Below.refl _ _ | with_reducible assumption | (with_reducible refine below_drewN ?_ _) | (with_reducible refine Below.drew ?_) | (with_reducible refine Below.setCell ?_ (by first | omega | (simp; done) | (simp; omega)) _) | (with_reducible refine Below.alloc ?_ (by first | omega | (simp; done) | (simp; omega)) _) | refine Below.trans ?_ (Below.mono (by with_reducible assumption) (by first | omega | (simp; done) | (simp; omega))))))
  clear hb1 hd0
  cases so
  · go_wp2
    refine bodyPost_ret (v := .tuple #[.slice (some ⟨w.heap.size, 0, none⟩) 0 0, .bool false]) (by simp only [results, Try.results14]; go_simp) rfl ?_
    exact lessD_no (HR.out.symm.trans (farLess_sys hs)) rfl hd1 (by (repeat (first | with_reducible exact Below.refl _ _ | with_reducible assumption | (with_reducible refine below_drewN ?_ _) | (with_reducible refine Below.drew ?_) | (with_reducible refine Below.setCell ?_ (by first | omega | (simp; done) | (simp; omega)) _) | (with_reducible refine Below.alloc ?_ (by first | omega | (simp; done) | (simp; omega)) _) | refine Below.trans ?_ (Below.mono (by with_reducible assumption) (by first | omega | (simp; done) | (simp; omega))))))
  have hn20 : n ≤ 20 := by have := le_few hs; omega
  have HS := Lib.hid hs
  clear hs
  cases hw : within u 0 3
  · have HN := Lib.hid (HR.out.symm.trans (farLess_at hw))
    rcases within_lt hw with h0 | ⟨h0, h1⟩
    · go_wp2
      refine bodyPost_ret (v := .tuple #[.slice (some ⟨w.heap.size, 0, none⟩) 0 0, .bool false]) (by simp only [results, Try.results14]; go_simp) rfl ?_
      exact lessD_no HN.out rfl hd1 (by (repeat (first | with_reducible exact Below.refl _ _ | with_reducible assumption | (with_reducible refine below_drewN ?_ _) | (with_reducible refine Below.drew ?_) | (with_reducible refine Below.setCell ?_ (by first | omega | (simp; done) | (simp; omega)) _) | (with_reducible refine Below.alloc ?_ (by first | omega | (simp; done) | (simp; omega)) _) | refine Below.trans ?_ (Below.mono (by with_reducible assumption) (by first | omega | (simp; done) | (simp; omega))))))
    · go_wp2
      refine bodyPost_ret (v := .tuple #[.slice (some ⟨w.heap.size, 0, none⟩) 0 0, .bool false]) (by simp only [results, Try.results14]; go_simp) rfl ?_
      exact lessD_no HN.out rfl hd1 (by (repeat (first | with_reducible exact Below.refl _ _ | with_reducible assumption | (with_reducible refine below_drewN ?_ _) | (with_reducible refine Below.drew ?_) | (with_reducible refine Below.setCell ?_ (by first | omega | (simp; done) | (simp; omega)) _) | (with_reducible refine Below.alloc ?_ (by first | omega | (simp; done) | (simp; omega)) _) | refine Below.trans ?_ (Below.mono (by with_reducible assumption) (by first | omega | (simp; done) | (simp; omega))))))
  obtain ⟨hu0, hu3⟩ := within_iff.1 hw
  obtain ⟨v, rfl⟩ : ∃ v : Nat, u = (v : Int) := ⟨u.toNat, by omega⟩
  have hv4 : v < 4 := by omega
  have h0 : decide ((v : Int) < 0) = false := by simp
  have h1 : decide ((v : Int) ≥ 4) = false := by first | (simp; done) | (simp; omega)
  have HW := Lib.hid hw
  clear hw hu0 hu3
  go_wp2_with fail
  refine (l3Rows_any (h.later (by (repeat (first | with_reducible exact Below.refl _ _ | with_reducible assumption | (with_reducible refine below_drewN ?_ _) | (with_reducible refine Below.drew ?_) | (with_reducible refine Below.setCell ?_ (by first | omega | (simp; done) | (simp; omega)) _) | (with_reducible refine Below.alloc ?_ (by first | omega | (simp; done) | (simp; omega)) _) | refine Below.trans ?_ (Below.mono (by with_reducible assumption) (by first | omega | (simp; done) | (simp; omega))))))) hn20).mono ?_
  rintro e w2 ⟨A1, c1, rfl, hR, hb1⟩
  have hd2 := hd1.later hb1
  have hz1 := hb1.size; (try simp at hz1); have hB1 : Below w.heap.size w w2 := (by refine Below.trans ?_ (Below.mono hb1 (by first | omega | (simp; done) | (simp; omega))); (repeat (first | with_reducible exact Below.refl _ _ | with_reducible assumption | (with_reducible refine below_drewN ?_ _) | (with_reducible refine Below.drew ?_) | (with_reducible refine Below.setCell ?_ (by first | omega | (simp; done) | (simp; omega)) _) | (with_reducible refine Below.alloc ?_ (by first | omega | (simp; done) | (simp; omega)) _) | refine Below.trans ?_ (Below.mono (by with_reducible assumption) (by first | omega | (simp; done) | (simp; omega))))))
  clear hb1 hd1
  go_wp2_with fail
  obtain ⟨ol, hol⟩ : ∃ ol, lessRows (rowsOf ls) v = ol := ⟨_, rfl⟩
  refine (l3Drop_any (N := ls.length) hR (rowsOf_ok HS.out) hv4 (by omega)).mono ?_
  rw [hol]
  rintro e w3 ⟨B', m', d', rfl, hRn, hb1⟩
  have HRn := Lib.hid hRn
  have hd3 := hd2.later hb1
  have hz1 := hb1.size; (try simp at hz1); have hB1 : Below w.heap.size w w3 := (by refine Below.trans ?_ (Below.mono hb1 (by first | omega | (simp; done) | (simp; omega))); (repeat (first | with_reducible exact Below.refl _ _ | with_reducible assumption | (with_reducible refine below_drewN ?_ _) | (with_reducible refine Below.drew ?_) | (with_reducible refine Below.setCell ?_ (by first | omega | (simp; done) | (simp; omega)) _) | (with_reducible refine Below.alloc ?_ (by first | omega | (simp; done) | (simp; omega)) _) | refine Below.trans ?_ (Below.mono (by with_reducible assumption) (by first | omega | (simp; done) | (simp; omega))))))
  clear hb1 hRn hR hd2
  have HO := Lib.hid hol
  clear hol
  cases ol with
  | none =>
    have HN : Hid (r = none) := Lib.hid (HR.out.symm.trans ((farLess_go HS.out HW.out).trans (by rw [HO.out]; rfl)))
    go_wp2_with fail
    go_loopw [6, 9] (fun v0 i wr => v0 = .slice (some ⟨w.heap.size, 0, none⟩) 0 0 ∧ i = .int .i64 0 ∧ wr = w3) (fun _ _ _ => 0)
    case atStart => exact ⟨rfl, rfl, rfl⟩
    case round =>
      obtain ⟨rfl, rfl, rfl⟩ := hrel
      go_wp2
      all_goals
        refine bodyPost_ret (v := .tuple #[.slice (some ⟨w.heap.size, 0, none⟩) 0 0, .bool false]) (by simp only [results, Try.results14]; go_simp) rfl ?_
        exact lessD_no HN.out rfl hd3 (by (repeat (first | with_reducible exact Below.refl _ _ | with_reducible assumption | (with_reducible refine below_drewN ?_ _) | (with_reducible refine Below.drew ?_) | (with_reducible refine Below.setCell ?_ (by first | omega | (simp; done) | (simp; omega)) _) | (with_reducible refine Below.alloc ?_ (by first | omega | (simp; done) | (simp; omega)) _) | refine Below.trans ?_ (Below.mono (by with_reducible assumption) (by first | omega | (simp; done) | (simp; omega))))))
  | some rs =>
    have hRs := HRn.out rs rfl
    have HOK := Lib.hid (lessRows_ok (rowsOf_ok HS.out) HO.out)
    have hlr := hRs.len
    have hmany : m' ≤ 200 := by rw [← hlr]; exact HOK.out.many
    have HF : Hid (r = some (linsTo rs m')) := Lib.hid (HR.out.symm.trans ((farLess_go HS.out HW.out).trans (by rw [HO.out, ← hlr, linsTo_all]; rfl)))
    have HLR := Lib.hid hlr
    clear HRn hlr
    go_wp2_with fail
    go_loopw [6, 9] (fun v0 i wr => ∃ (k : Nat) (v : Value) (zs : List Value) (G : List Nat), k ≤ m' ∧ i = .int .i64 k ∧ v = v0 ∧ LinE wr w3.heap.size v k (linsTo rs k) zs G ∧ Below w3.heap.size w3 wr ∧ (k = 0 → LinD wr w.heap.size v 0 [] [] [])) (fun _ i _ => m' - (intOf i).toNat)
    case atStart => exact ⟨0, _, [], [], by omega, rfl, rfl, .inl ⟨rfl, ⟨_, rfl⟩, rfl, rfl, rfl⟩, Below.refl _ _, fun _ => hd3⟩
    case round =>
      clear hd3
      obtain ⟨k, v, zs, G, hk, rfl, rfl, hrow, hbr, hE0⟩ := hrel
      have hsz := hbr.size
      by_cases hlt : k < m'
      · obtain ⟨p, o, rfl, hpl, _⟩ := hRs.cells (by omega)
        obtain ⟨p', o', e5, hp, hcs⟩ := (hRs.later hbr).cells (by omega)
        simp only [Option.some.injEq, Addr.mk.injEq, and_true] at e5
        obtain ⟨rfl, rfl⟩ := e5
        obtain ⟨A5, m5, c5, B5, p5, d5, ⟨hI5, _⟩, hc0, hc1, hc2, hc3⟩ := (hcs k hlt).ex
        have hlin := (HOK.out.each k (by rw [HLR.out]; exact hlt)).lin
        obtain rfl : 4 = m5 := (linOk_len hlin).1.symm.trans hI5.len
        have HN := Lib.hid (linsTo_succ (rs := rs) (k := k) (by rw [HLR.out]; exact hlt))
        clear hcs hlin hc3
        generalize (rs.getD k row0).1 = x at *
        obtain ⟨xs, b, s⟩ := x
        dsimp only at hI5 hc1 hc2
        obtain ⟨q5, o5, rfl, hq5, _⟩ := hI5.cells (by omega)
        have hw0 : w.heap.size < wr.heap.size := by omega
        go_wp2_with fail
        refine wp_region_T 24 (fun w' => w'.cell? ⟨p, o + k * 4, none⟩ = some (.slice (some ⟨q5, o5, none⟩) 4 c5) ∧ w'.cell? ⟨p, o + k * 4 + 1, none⟩ = some (.int .i64 b) ∧ w'.cell? ⟨p, o + k * 4 + 2, none⟩ = some (.bool s)) (by kernel_rfl) (by kernel_rfl) ?_ (fun hHeld => ?_)
        · simp [*]
        (refine wpAnyT_take (i := 0) (v := ?_) (by simp only [List.getElem?_toArray, List.getElem?_cons_succ, List.getElem?_cons_zero]; rfl) (by kernel_rfl) (by kernel_rfl) (by kernel_rfl) (by kernel_rfl) (by intro _ _ _ h; exact h) (Or.inl ⟨by rfl, ?_⟩) (by assumption) ?_; rotate_left; (focus (intro wS hSw; (try dsimp only at hSw); go_simp; (try with_reducible rfl))); (try simp only [Act.put, List.setIfInBounds_toArray, List.set_cons_zero, List.set_cons_succ]))
        (refine wpAnyT_take (i := 2) (v := ?_) (by simp only [List.getElem?_toArray, List.getElem?_cons_succ, List.getElem?_cons_zero]; rfl) (by kernel_rfl) (by kernel_rfl) (by kernel_rfl) (by kernel_rfl) (by intro _ _ _ h; exact h) (Or.inl ⟨by rfl, ?_⟩) (by assumption) ?_; rotate_left; (focus (intro wS hSw; (try dsimp only at hSw); go_simp; (try with_reducible rfl))); (try simp only [Act.put, List.setIfInBounds_toArray, List.set_cons_zero, List.set_cons_succ]))
        (refine wpAnyT_take (i := 3) (v := ?_) (by simp only [List.getElem?_toArray, List.getElem?_cons_succ, List.getElem?_cons_zero]; rfl) (by kernel_rfl) (by kernel_rfl) (by kernel_rfl) (by kernel_rfl) (by intro _ _ _ h; exact h) (Or.inl ⟨by rfl, ?_⟩) (by assumption) ?_; rotate_left; (focus (intro wS hSw; (try dsimp only at hSw); go_simp; (try with_reducible rfl))); (try simp only [Act.put, List.setIfInBounds_toArray, List.set_cons_zero, List.set_cons_succ]))
        (refine wpAnyT_take (i := 4) (v := ?_) (by simp only [List.getElem?_toArray, List.getElem?_cons_succ, List.getElem?_cons_zero]; rfl) (by kernel_rfl) (by kernel_rfl) (by kernel_rfl) (by kernel_rfl) (by intro _ _ _ h; exact h) (Or.inl ⟨by rfl, ?_⟩) (by assumption) ?_; rotate_left; (focus (intro wS hSw; (try dsimp only at hSw); go_simp; (try with_reducible rfl))); (try simp only [Act.put, List.setIfInBounds_toArray, List.set_cons_zero, List.set_cons_succ]))
        (refine wpAnyT_take (i := 5) (v := ?_) (by simp only [List.getElem?_toArray, List.getElem?_cons_succ, List.getElem?_cons_zero]; rfl) (by kernel_rfl) (by kernel_rfl) (by kernel_rfl) (by kernel_rfl) (by intro _ _ _ h; exact h) (Or.inl ⟨by rfl, ?_⟩) (by assumption) ?_; rotate_left; (focus (intro wS hSw; (try dsimp only at hSw); go_simp; (try with_reducible rfl))); (try simp only [Act.put, List.setIfInBounds_toArray, List.set_cons_zero, List.set_cons_succ]))
        (refine wpAnyT_take (i := 6) (v := ?_) (by simp only [List.getElem?_toArray, List.getElem?_cons_succ, List.getElem?_cons_zero]; rfl) (by kernel_rfl) (by kernel_rfl) (by kernel_rfl) (by kernel_rfl) (by intro _ _ _ h; exact h) (Or.inl ⟨by rfl, ?_⟩) (by assumption) ?_; rotate_left; (focus (intro wS hSw; (try dsimp only at hSw); go_simp; (try with_reducible rfl))); (try simp only [Act.put, List.setIfInBounds_toArray, List.set_cons_zero, List.set_cons_succ]))
        (refine wpAnyT_take (i := 7) (v := ?_) (by simp only [List.getElem?_toArray, List.getElem?_cons_succ, List.getElem?_cons_zero]; rfl) (by kernel_rfl) (by kernel_rfl) (by kernel_rfl) (by kernel_rfl) (by intro _ _ _ h; exact h) (Or.inl ⟨by rfl, ?_⟩) (by assumption) ?_; rotate_left; (focus (intro wS hSw; (try dsimp only at hSw); go_simp; (try with_reducible rfl))); (try simp only [Act.put, List.setIfInBounds_toArray, List.set_cons_zero, List.set_cons_succ]))
        (refine wpAnyT_take (i := 9) (v := ?_) (by simp only [List.getElem?_toArray, List.getElem?_cons_succ, List.getElem?_cons_zero]; rfl) (by kernel_rfl) (by kernel_rfl) (by kernel_rfl) (by kernel_rfl) (by intro _ _ _ h; exact h) (Or.inl ⟨by rfl, ?_⟩) (by assumption) ?_; rotate_left; (focus (intro wS hSw; (try dsimp only at hSw); go_simp; (try with_reducible rfl))); (try simp only [Act.put, List.setIfInBounds_toArray, List.set_cons_zero, List.set_cons_succ]))
        (refine wpAnyT_take (i := 10) (v := ?_) (by simp only [List.getElem?_toArray, List.getElem?_cons_succ, List.getElem?_cons_zero]; rfl) (by kernel_rfl) (by kernel_rfl) (by kernel_rfl) (by kernel_rfl) (by intro _ _ _ h; exact h) (Or.inl ⟨by rfl, ?_⟩) (by assumption) ?_; rotate_left; (focus (intro wS hSw; (try dsimp only at hSw); go_simp; (try with_reducible rfl))); (try simp only [Act.put, List.setIfInBounds_toArray, List.set_cons_zero, List.set_cons_succ]))
        (refine wpAnyT_take (i := 11) (v := ?_) (by simp only [List.getElem?_toArray, List.getElem?_cons_succ, List.getElem?_cons_zero]; rfl) (by kernel_rfl) (by kernel_rfl) (by kernel_rfl) (by kernel_rfl) (by intro _ _ _ h; exact h) (Or.inl ⟨by rfl, ?_⟩) (by assumption) ?_; rotate_left; (focus (intro wS hSw; (try dsimp only at hSw); go_simp; (try with_reducible rfl))); (try simp only [Act.put, List.setIfInBounds_toArray, List.set_cons_zero, List.set_cons_succ]))
        (refine wpAnyT_take (i := 12) (v := ?_) (by simp only [List.getElem?_toArray, List.getElem?_cons_succ, List.getElem?_cons_zero]; rfl) (by kernel_rfl) (by kernel_rfl) (by kernel_rfl) (by kernel_rfl) (by intro _ _ _ h; exact h) (Or.inl ⟨by rfl, ?_⟩) (by assumption) ?_; rotate_left; (focus (intro wS hSw; (try dsimp only at hSw); go_simp; (try with_reducible rfl))); (try simp only [Act.put, List.setIfInBounds_toArray, List.set_cons_zero, List.set_cons_succ]))
        (refine wpAnyT_take (i := 13) (v := ?_) (by simp only [List.getElem?_toArray, List.getElem?_cons_succ, List.getElem?_cons_zero]; rfl) (by kernel_rfl) (by kernel_rfl) (by kernel_rfl) (by kernel_rfl) (by intro _ _ _ h; exact h) (Or.inl ⟨by rfl, ?_⟩) (by assumption) ?_; rotate_left; (focus (intro wS hSw; (try dsimp only at hSw); go_simp; (try with_reducible rfl))); (try simp only [Act.put, List.setIfInBounds_toArray, List.set_cons_zero, List.set_cons_succ]))
        (refine wpAnyT_take (i := 14) (v := ?_) (by simp only [List.getElem?_toArray, List.getElem?_cons_succ, List.getElem?_cons_zero]; rfl) (by kernel_rfl) (by kernel_rfl) (by kernel_rfl) (by kernel_rfl) (by intro _ _ _ h; exact h) (Or.inl ⟨by rfl, ?_⟩) (by assumption) ?_; rotate_left; (focus (intro wS hSw; (try dsimp only at hSw); go_simp; (try with_reducible rfl))); (try simp only [Act.put, List.setIfInBounds_toArray, List.set_cons_zero, List.set_cons_succ]))
        (refine wpAnyT_take (i := 15) (v := ?_) (by simp only [List.getElem?_toArray, List.getElem?_cons_succ, List.getElem?_cons_zero]; rfl) (by kernel_rfl) (by kernel_rfl) (by kernel_rfl) (by kernel_rfl) (by intro _ _ _ h; exact h) (Or.inl ⟨by rfl, ?_⟩) (by assumption) ?_; rotate_left; (focus (intro wS hSw; (try dsimp only at hSw); go_simp; (try with_reducible rfl))); (try simp only [Act.put, List.setIfInBounds_toArray, List.set_cons_zero, List.set_cons_succ]))
        (refine wpAnyT_take (i := 16) (v := ?_) (by simp only [List.getElem?_toArray, List.getElem?_cons_succ, List.getElem?_cons_zero]; rfl) (by kernel_rfl) (by kernel_rfl) (by kernel_rfl) (by kernel_rfl) (by intro _ _ _ h; exact h) (Or.inl ⟨by rfl, ?_⟩) (by assumption) ?_; rotate_left; (focus (intro wS hSw; (try dsimp only at hSw); go_simp; (try with_reducible rfl))); (try simp only [Act.put, List.setIfInBounds_toArray, List.set_cons_zero, List.set_cons_succ]))
        (refine wpAnyT_take (i := 17) (v := ?_) (by simp only [List.getElem?_toArray, List.getElem?_cons_succ, List.getElem?_cons_zero]; rfl) (by kernel_rfl) (by kernel_rfl) (by kernel_rfl) (by kernel_rfl) (by intro _ _ _ h; exact h) (Or.inl ⟨by rfl, ?_⟩) (by assumption) ?_; rotate_left; (focus (intro wS hSw; (try dsimp only at hSw); go_simp; (try with_reducible rfl))); (try simp only [Act.put, List.setIfInBounds_toArray, List.set_cons_zero, List.set_cons_succ]))
        (refine wpAnyT_take (i := 18) (v := ?_) (by simp only [List.getElem?_toArray, List.getElem?_cons_succ, List.getElem?_cons_zero]; rfl) (by kernel_rfl) (by kernel_rfl) (by kernel_rfl) (by kernel_rfl) (by intro _ _ _ h; exact h) (Or.inl ⟨by rfl, ?_⟩) (by assumption) ?_; rotate_left; (focus (intro wS hSw; (try dsimp only at hSw); go_simp; (try with_reducible rfl))); (try simp only [Act.put, List.setIfInBounds_toArray, List.set_cons_zero, List.set_cons_succ]))
        (refine wpAnyT_take (i := 19) (v := ?_) (by simp only [List.getElem?_toArray, List.getElem?_cons_succ, List.getElem?_cons_zero]; rfl) (by kernel_rfl) (by kernel_rfl) (by kernel_rfl) (by kernel_rfl) (by intro _ _ _ h; exact h) (Or.inl ⟨by rfl, ?_⟩) (by assumption) ?_; rotate_left; (focus (intro wS hSw; (try dsimp only at hSw); go_simp; (try with_reducible rfl))); (try simp only [Act.put, List.setIfInBounds_toArray, List.set_cons_zero, List.set_cons_succ]))
        (refine wpAnyT_take (i := 20) (v := ?_) (by simp only [List.getElem?_toArray, List.getElem?_cons_succ, List.getElem?_cons_zero]; rfl) (by kernel_rfl) (by kernel_rfl) (by kernel_rfl) (by kernel_rfl) (by intro _ _ _ h; exact h) (Or.inl ⟨by rfl, ?_⟩) (by assumption) ?_; rotate_left; (focus (intro wS hSw; (try dsimp only at hSw); go_simp; (try with_reducible rfl))); (try simp only [Act.put, List.setIfInBounds_toArray, List.set_cons_zero, List.set_cons_succ]))
        have hm : Below wr.heap.size wr (wr.drew.alloc (.cells #[] 3)) := by (repeat (first | with_reducible exact Below.refl _ _ | with_reducible assumption | (with_reducible refine below_drewN ?_ _) | (with_reducible refine Below.drew ?_) | (with_reducible refine Below.setCell ?_ (by first | omega | (simp; done) | (simp; omega)) _) | (with_reducible refine Below.alloc ?_ (by first | omega | (simp; done) | (simp; omega)) _) | refine Below.trans ?_ (Below.mono (by with_reducible assumption) (by first | omega | (simp; done) | (simp; omega)))))
        refine wpAnyT_ready (rs := [1]) (by kernel_rfl) (by kernel_rfl) ?_
        refine AllReadyT.cons (by simp only [List.getElem?_toArray, List.getElem?_cons_succ, List.getElem?_cons_zero]; rfl) (fun K hK => ?_) AllReadyT.nil
        go_simp
        refine hK.out _ _ ?_ (fun hHeld => ?_)
        · (try dsimp only)
          simp [go_sem, World.cell?_alloc_past, *]
        clear hK K
        (try simp only [Act.put, List.setIfInBounds_toArray, List.set_cons_zero, List.set_cons_succ])
        refine wpAnyT_ready (rs := [8]) (by kernel_rfl) (by kernel_rfl) ?_
        refine AllReadyT.cons (by simp only [List.getElem?_toArray, List.getElem?_cons_succ, List.getElem?_cons_zero]; rfl) (fun K hK => ?_) AllReadyT.nil
        (refine step_append_lies _ (by rfl) (.tmp 40) (.tmp 46) _ (by rfl) wr.heap.size 3 i0 _ 1 8 Try.underlying29 hi zi0 zi1 zi2 rfl (by omega) (.slice (some ⟨wr.heap.size, 0, none⟩) 0 0) 0 [] (by rfl) (World.ownsRow_lit wr.drew #[] 0 (Nat.le_refl _) (by simp) rfl) ⟨q5, o5, none⟩ 4 c5 (xs.map (Value.int .i64)) (by rfl) (by simp [hI5.len]) (ints_news ((hI5.drew).alloc _)) (ints_each xs) (by omega) (by unfold maxLen; omega) (by omega) (by simp) (wr.heap.size + 1) (by simp) ?_; intro g6 c6 w6 hown6 hgr6 hat6 hlt6; have hI6 : Ints w6 (some ⟨g6, 0, none⟩) 4 xs := ints_own hown6 hI5.rng (by omega); have hF6 : Free w6 g6 := own_free hown6; have hg6 : wr.heap.size ≤ g6 := (hown6.lt g6 rfl).1; have hw6 : Below wr.heap.size wr w6 := Below.grown hm hgr6 (by simp) (fun j hj => (by obtain rfl := Option.some.inj hj; exact Nat.le_refl _)); have hs6 := hw6.size; have hp6 : p < w6.heap.size := (by omega); clear hown6 hgr6 hat6)
        refine hK.out _ _ ?_ (fun hHeld => ?_)
        · (try dsimp only)
          exact ⟨(hw6.cell (p := ⟨p, o + k * 4, none⟩) hp).trans hc0, (hw6.cell (p := ⟨p, o + k * 4 + 1, none⟩) hp).trans hc1, (hw6.cell (p := ⟨p, o + k * 4 + 2, none⟩) hp).trans hc2⟩
        clear hK K
        (try simp only [Act.put, List.setIfInBounds_toArray, List.set_cons_zero, List.set_cons_succ])
        (refine wpAnyT_take (i := 21) (v := ?_) (by simp only [List.getElem?_toArray, List.getElem?_cons_succ, List.getElem?_cons_zero]; rfl) (by kernel_rfl) (by kernel_rfl) (by kernel_rfl) (by kernel_rfl) (by intro _ _ _ h; exact h) (Or.inl ⟨by rfl, ?_⟩) (by assumption) ?_; rotate_left; (focus (intro wS hSw; (try dsimp only at hSw); go_simp; (try with_reducible rfl))); (try simp only [Act.put, List.setIfInBounds_toArray, List.set_cons_zero, List.set_cons_succ]))
        refine wpAnyT_ready (rs := [22]) (by kernel_rfl) (by kernel_rfl) ?_
        refine AllReadyT.cons (by simp only [List.getElem?_toArray, List.getElem?_cons_succ, List.getElem?_cons_zero]; rfl) (fun K hK => ?_) AllReadyT.nil
        go_simp
        refine hK.out _ _ ?_ (fun hHeld => ?_)
        · (try dsimp only)
          simp [go_sem, World.cell?_alloc_past, *]
        clear hK K
        (try simp only [Act.put, List.setIfInBounds_toArray, List.set_cons_zero, List.set_cons_succ])
        refine wpAnyT_ready (rs := [23]) (by kernel_rfl) (by kernel_rfl) ?_
        refine AllReadyT.cons (by simp only [List.getElem?_toArray, List.getElem?_cons_succ, List.getElem?_cons_zero]; rfl) (fun K hK => ?_) AllReadyT.nil
        (refine step_lin_append (x := (xs, b, s)) (q := g6) (c := c6) (B := w3.heap.size) (by rfl) (.tmp 39) (.tmp 61) _ (by rfl) j0 _ Try.underlying23 hj yj0 yj1 yj2 rfl hrow (by (repeat (first | with_reducible exact Below.refl _ _ | with_reducible assumption | (with_reducible refine below_drewN ?_ _) | (with_reducible refine Below.drew ?_) | (with_reducible refine Below.setCell ?_ (by first | omega | (simp; done) | (simp; omega)) _) | (with_reducible refine Below.alloc ?_ (by first | omega | (simp; done) | (simp; omega)) _) | refine Below.trans ?_ (Below.mono (by with_reducible assumption) (by first | omega | (simp; done) | (simp; omega)))))) (by omega) (by rfl) ⟨w6.heap.size, 0, none⟩ (by rfl) (news_le (by first | omega | (simp; done) | (simp; omega))) (by omega) (hI6.alloc _) (hF6.alloc _) (by omega) (by simp; omega) ?_; intro g' cap' wq hrowN hbq; have hbN : Below w3.heap.size w3 wq := Below.trans (by (repeat (first | with_reducible exact Below.refl _ _ | with_reducible assumption | (with_reducible refine below_drewN ?_ _) | (with_reducible refine Below.drew ?_) | (with_reducible refine Below.setCell ?_ (by first | omega | (simp; done) | (simp; omega)) _) | (with_reducible refine Below.alloc ?_ (by first | omega | (simp; done) | (simp; omega)) _) | refine Below.trans ?_ (Below.mono (by with_reducible assumption) (by first | omega | (simp; done) | (simp; omega)))))) hbq; have hcN : wq.cell? ⟨p, o + k * 4, none⟩ = some (.slice (some ⟨q5, o5, none⟩) 4 c5) ∧ wq.cell? ⟨p, o + k * 4 + 1, none⟩ = some (.int .i64 b) ∧ wq.cell? ⟨p, o + k * 4 + 2, none⟩ = some (.bool s) := ⟨(hbN.cell hpl).trans ((hbr.cell hpl).symm.trans hc0), (hbN.cell hpl).trans ((hbr.cell hpl).symm.trans hc1), (hbN.cell hpl).trans ((hbr.cell hpl).symm.trans hc2)⟩)
        refine hK.out _ _ ?_ (fun hHeld => ?_)
        · (try dsimp only)
          exact hcN
        clear hK K
        (try simp only [Act.put, List.setIfInBounds_toArray, List.set_cons_zero, List.set_cons_succ])
        refine wpAnyT_done (by kernel_rfl) ?_
        simp only [List.drop_succ_cons, List.drop_zero]
        go_wp2
        rw [← HN.out] at hrowN
        go_roundw
        case rel => exact ⟨k + 1, _, _, _, by omega, by go_num, rfl, .inr hrowN, hbN, fun e => by cases e⟩
        case measure => simp [intOf]; omega
      · obtain rfl : k = m' := by omega
        obtain ⟨zs', G', hrow'⟩ : ∃ zs' G', LinD wr w.heap.size v k (linsTo rs k) zs' G' := by
          rcases hrow with ⟨rfl, _, e, _⟩ | hrow
          · rw [e]; exact ⟨[], [], hE0 rfl⟩
          · exact ⟨zs, G, hrow.weak (by omega)⟩
        obtain ⟨Av, cv, rfl⟩ := hrow'.form
        clear hrow hE0
        go_wp2
        refine bodyPost_ret (v := .tuple #[.slice Av k cv, .bool true]) (by simp only [results, Try.results14]; go_simp) rfl ?_
        exact lessD_some HF.out (linsTo_len (by rw [HLR.out]; exact Nat.le_refl _)) rfl hrow' (by (repeat (first | with_reducible exact Below.refl _ _ | with_reducible assumption | (with_reducible refine below_drewN ?_ _) | (with_reducible refine Below.drew ?_) | (with_reducible refine Below.setCell ?_ (by first | omega | (simp; done) | (simp; omega)) _) | (with_reducible refine Below.alloc ?_ (by first | omega | (simp; done) | (simp; omega)) _) | refine Below.trans ?_ (Below.mono (by with_reducible assumption) (by first | omega | (simp; done) | (simp; omega))))))
end Go.Proofs.Ytccjbipmlpnhkaa

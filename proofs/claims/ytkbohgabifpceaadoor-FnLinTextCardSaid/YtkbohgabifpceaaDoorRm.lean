/- Constraints are read. -/
import Derived.Test.YtkbohgabifpceaaDoorRr
import Derived.Test.YtkbohgabifpceaaDoorRl
namespace Go.Proofs.YtkbohgabifpceaaDoor
set_option maxRecDepth 100000
open Go.RowKit Go.ChangeShapes Go.WideShapes Go.ChangeAt
set_option linter.unusedSimpArgs false
set_option linter.unusedVariables false

/-- Numbers that are being appended. -/
structure IntA (w : World) (B : Nat) (v : Value) (k : Nat) (ys : List Int) : Prop where
  own : w.ownsRow B 3 1 v k (ys.map (Value.int .i64))
theorem IntA.later {w w' : World} {B : Nat} {v : Value} {k : Nat} {ys : List Int} (h : IntA w B v k ys) (hb : Below w.heap.size w w') : IntA w' B v k ys :=
  ⟨h.own.kept (row := none) ⟨hb.os, hb.tape, hb.output, hb.size, fun i hi _ => hb.block i hi⟩ (by cases hv : v.ownBlock <;> simp)⟩
theorem IntA.set {w : World} {B g o : Nat} {v : Value} {k : Nat} {ys : List Int} (h : IntA w B v k ys) (hg : g < B) (x : Value) : IntA (w.setCell ⟨g, o, none⟩ x) B v k ys :=
  ⟨h.own.kept (row := some g) ⟨rfl, rfl, rfl, by simp [World.setCell], fun i hi hn => Below.heap_setCell w ⟨g, o, none⟩ x i (fun e => hn (by rw [e]))⟩ (.inr (fun e => by have := (h.own.lt g e).1; omega))⟩
theorem IntA.len {w : World} {B : Nat} {v : Value} {k : Nat} {ys : List Int} (h : IntA w B v k ys) : ys.length = k := by have := h.own.1; simpa using this
theorem IntA.nil (w : World) (B : Nat) : IntA w B (.slice none 0 0) 0 [] := ⟨⟨rfl, .inl ⟨rfl, rfl⟩⟩⟩
theorem IntA.ints {w : World} {B : Nat} {v : Value} {k : Nat} {ys : List Int} (h : IntA w B v k ys) (hk : 0 < k) (hk2 : k ≤ 1000) (hr : ∀ j, J64 (ys.getD j 0)) : ∃ g cap, v = .slice (some ⟨g, 0, none⟩) k cap ∧ (Ints w (some ⟨g, 0, none⟩) k ys ∧ Free w g) ∧ B ≤ g := by
  obtain ⟨g, cap, e, _⟩ := h.own.form hk
  subst e
  have hl := h.len
  refine ⟨g, cap, rfl, ⟨⟨hl, fun _ => ⟨g, 0, rfl, (h.own.lt g rfl).2, fun j hj => ?_⟩, hr, by omega⟩, (h.own.lt g rfl).2, fun j => h.own.frozenAt j⟩, (h.own.lt g rfl).1⟩
  rw [Nat.zero_add, h.own.cellAt j (by omega), List.getElem?_map, List.getElem?_eq_getElem (show j < ys.length by omega), List.getD_eq_getElem?_getD, List.getElem?_eq_getElem (show j < ys.length by omega)]
  rfl
theorem int_info' : (Tryd.prog.info? 3).map (fun i => (i.zero, i.size, i.bytes)) = some (some (.int .i64 0), 1, 8) := by kernel_rfl
/-- What reading a constraint gives. -/
def LinReadBack (o : Option LinR) (w : World) (e : Ending) (w' : World) : Prop :=
  match o with
  | none => e = .returned (.tuple #[.agg #[.slice none 0 0, .int .i64 0, .bool false], .bool false]) ∧ Below w.heap.size w w'
  | some (xs, b, s) => ∃ g cap, e = .returned (.tuple #[.agg #[.slice (some ⟨g, 0, none⟩) 4 cap, .int .i64 b, .bool s], .bool true]) ∧ (Ints w' (some ⟨g, 0, none⟩) 4 xs ∧ Free w' g) ∧ w.heap.size ≤ g ∧ Below w.heap.size w w'
theorem linBack_none {o : Option LinR} {w w' : World} {e : Ending} (h : o = none) (he : e = .returned (.tuple #[.agg #[.slice none 0 0, .int .i64 0, .bool false], .bool false])) (hb : Below w.heap.size w w') : LinReadBack o w e w' := by
  subst h; exact ⟨he, hb⟩
theorem linBack_some {o : Option LinR} {xs : List Int} {b : Int} {s : Bool} {g cap : Nat} {w w' : World} {e : Ending} (h : o = some (xs, b, s)) (he : e = .returned (.tuple #[.agg #[.slice (some ⟨g, 0, none⟩) 4 cap, .int .i64 b, .bool s], .bool true])) (hI : Ints w' (some ⟨g, 0, none⟩) 4 xs) (hF : Free w' g) (hg : w.heap.size ≤ g) (hb : Below w.heap.size w w') : LinReadBack o w e w' := by
  subst h; exact ⟨g, cap, he, ⟨hI, hF⟩, hg, hb⟩
theorem splitK_len (sep : List UInt8) : ∀ (k : Nat) (s p : List UInt8), p ∈ Lib.splitK sep 0 k s → p.length ≤ s.length
  | 0, s, p, h => by
    simp only [Lib.splitK, List.mem_singleton] at h
    subst h; exact Nat.le_refl _
  | k + 1, s, p, h => by
    rw [Lib.splitK] at h
    split at h
    · rw [List.mem_singleton] at h
      subst h; exact Nat.le_refl _
    · rw [List.mem_cons] at h
      rcases h with rfl | h
      · rw [List.length_take]; omega
      · have := splitK_len sep k _ p h
        rw [List.length_drop] at this
        omega
theorem word_len {l : List UInt8} (j : Nat) : ((Lib.split l [32]).getD j []).length ≤ l.length := by
  rw [List.getD_eq_getElem?_getD]
  cases h : (Lib.split l [32])[j]? with
  | none => simp
  | some p => exact splitK_len _ _ _ _ (List.mem_of_getElem? h)
/-- Splitting a text at its blanks. -/
theorem splitI (s : ByteArray) (hs : s.size ≤ 1048576) {w : World} (h : Vars w) :
    Calls Tryd.prog 60 #[.string s, .string ⟨#[32]⟩] w fun e w' => ∃ n, e = .returned (.slice (some ⟨w.heap.size, 0, none⟩) n n) ∧ Strs w' (some ⟨w.heap.size, 0, none⟩) n (Lib.split s.data.toList [32]) ∧ Below w.heap.size w w' ∧ w.heap.size < w'.heap.size := by
  obtain ⟨m, hm⟩ := h.max
  refine (Tryd.strings_Split s ⟨#[32]⟩ m w (by omega) hm (by decide)).mono ?_
  rintro e w' ⟨rfl, rfl⟩
  have hn : (Lib.splitB ⟨#[32]⟩ 0 (Lib.countB s ⟨#[32]⟩) s).length = Lib.countB s ⟨#[32]⟩ + 1 := Lib.splitB_all ⟨#[32]⟩ (by decide) 0 _ s rfl
  have hd : (Lib.splitB ⟨#[32]⟩ 0 (Lib.countB s ⟨#[32]⟩) s).map (·.data.toList) = Lib.split s.data.toList [32] := Lib.splitB_data ⟨#[32]⟩ 0 _ s
  refine ⟨_, rfl, ⟨by rw [← hd, List.length_map]; exact hn, fun _ => ⟨w.heap.size, 0, rfl, by simp, fun j hj => ?_⟩⟩, (Below.refl _ _).alloc (Nat.le_refl _) _, by simp⟩
  rw [← hd, Nat.zero_add]
  generalize Lib.splitB ⟨#[32]⟩ 0 (Lib.countB s ⟨#[32]⟩) s = ps at *
  have hj' : j < ps.length := by omega
  have h1 := World.news_of_block (cs := (ps.map Value.string).toArray) (t := 9) (fr := (0, 0)) (heap_alloc_new w _) j (.string ps[j]) (by simp [hj'])
  have e : (⟨w.heap.size, 0, none⟩ : Addr).add j = ⟨w.heap.size, j, none⟩ := by unfold Addr.add; split <;> simp_all
  rw [e] at h1
  rw [h1, List.getD_eq_getElem?_getD, List.getElem?_map, List.getElem?_eq_getElem hj']
  rfl

set_option maxRecDepth 100000 in
set_option maxHeartbeats 4000000 in
theorem iLinRead_any (s : ByteArray) (hs : s.size ≤ 1048576) {w : World} (hV : Vars w) :
    Calls Tryd.prog 20 #[.string s] w (LinReadBack (linReadL s.data.toList) w) := by
  obtain ⟨r, hr⟩ : ∃ r, linReadL s.data.toList = r := ⟨_, rfl⟩
  rw [hr]
  unfold linReadL at hr
  obtain ⟨i0, hi, zi0, zi1, zi2⟩ := info_parts int_info'
  have HWL := Lib.hid (fun j => by have := word_len (l := s.data.toList) j; rw [len_bytes] at this; exact Nat.le_trans this hs)
  go_enter Tryd.func20, Tryd.ntmps20
  go_wp2_with fail
  refine (splitI s hs (hV.later (by (repeat (first | with_reducible exact Below.refl _ _ | with_reducible assumption | (with_reducible refine below_drewN ?_ _) | (with_reducible refine Below.drew ?_) | (with_reducible refine Below.setCell ?_ (by first | omega | (simp; done) | (simp; omega)) _) | (with_reducible refine Below.alloc ?_ (by first | omega | (simp; done) | (simp; omega)) _) | refine Below.trans ?_ (Below.mono (by with_reducible assumption) (by first | omega | (simp; done) | (simp; omega)))))))).mono ?_
  rintro e w1 ⟨n, rfl, hS, hb1, hlt1⟩
  simp only [World.size_alloc] at hlt1
  have hz1 := hb1.size; (try simp at hz1); have hB1 : Below w.heap.size w w1 := (by refine Below.trans ?_ (Below.mono hb1 (by first | omega | (simp; done) | (simp; omega))); (repeat (first | with_reducible exact Below.refl _ _ | with_reducible assumption | (with_reducible refine below_drewN ?_ _) | (with_reducible refine Below.drew ?_) | (with_reducible refine Below.setCell ?_ (by first | omega | (simp; done) | (simp; omega)) _) | (with_reducible refine Below.alloc ?_ (by first | omega | (simp; done) | (simp; omega)) _) | refine Below.trans ?_ (Below.mono (by with_reducible assumption) (by first | omega | (simp; done) | (simp; omega)))))); obtain ⟨kc_, fc_, lc_⟩ := keep_later (a := ⟨w.heap.size, 0, none⟩) (v := .slice none 0 0) hb1 (by go_simp) (by go_simp); obtain ⟨kc_, fc_, lc_⟩ := keep_later (a := ⟨w.heap.size, 1, none⟩) (v := .int .i64 0) hb1 (by go_simp) (by go_simp); obtain ⟨kc_, fc_, lc_⟩ := keep_later (a := ⟨w.heap.size, 2, none⟩) (v := .bool false) hb1 (by go_simp) (by go_simp); clear hb1
  generalize Lib.split s.data.toList [32] = ws at *
  by_cases h6 : n = 6
  · subst h6
    have HL := Lib.hid hS.len
    obtain ⟨b9, o9, e9, hb9, hcs⟩ := hS.cells (by omega)
    simp only [World.size_alloc, Option.some.injEq, Addr.mk.injEq, and_true] at e9
    obtain ⟨rfl, rfl⟩ := e9
    have HR := Lib.hid hr
    clear hr
    have c4 : w1.cell? ⟨w.heap.size + 1, 4, none⟩ = _ := hcs 4 (by omega)
    have c5 : w1.cell? ⟨w.heap.size + 1, 5, none⟩ = _ := hcs 5 (by omega)
    have HC := Lib.hid (fun k (hk : k < 4) => (show w1.cell? ⟨w.heap.size + 1, k, none⟩ = some (.string (strB (ws.getD k []))) by have h9 := hcs k (by omega); rwa [Nat.zero_add] at h9))
    clear hcs hS
    obtain ⟨w4, hw4⟩ : ∃ x, ws.getD 4 [] = x := ⟨_, rfl⟩
    obtain ⟨w5, hw5⟩ : ∃ x, ws.getD 5 [] = x := ⟨_, rfl⟩
    obtain ⟨sb, hsb⟩ : ∃ x, (w4 == [60]) = x := ⟨_, rfl⟩
    rw [hw4] at c4
    rw [hw5] at c5
    have H45 := Lib.hid (And.intro hw4 (And.intro hw5 hsb))
    clear hw4 hw5
    have k1r := kc_
    go_wp2_with fail
    go_loopw [24] (fun i wr => ∃ (k : Nat) (v : Value) (ys : List Int), k ≤ 4 ∧ i = .int .i64 k ∧ ys = numsTo numI ws k ∧ wr.cell? ⟨w1.heap.size, 0, none⟩ = some v ∧ wr.cell? ⟨w1.heap.size, 1, none⟩ = some (.int .i64 0) ∧ wr.cell? ⟨w1.heap.size, 2, none⟩ = some (.bool sb) ∧ (wr.frozen? ⟨w1.heap.size, 0, none⟩ = false ∧ wr.frozen? ⟨w1.heap.size, 1, none⟩ = false ∧ wr.frozen? ⟨w1.heap.size, 2, none⟩ = false) ∧ IntA wr (w1.heap.size + 1) v k ys ∧ Below w1.heap.size w1 wr ∧ w1.heap.size < wr.heap.size) (fun i _ => 4 - (intOf i).toNat)
    case atStart =>
      refine ⟨0, .slice none 0 0, [], by omega, rfl, rfl, by go_simp, by go_simp, by go_simp, ⟨by go_simp, by go_simp, by go_simp⟩, IntA.nil _ _, by (repeat (first | with_reducible exact Below.refl _ _ | with_reducible assumption | (with_reducible refine below_drewN ?_ _) | (with_reducible refine Below.drew ?_) | (with_reducible refine Below.setCell ?_ (by first | omega | (simp; done) | (simp; omega)) _) | (with_reducible refine Below.alloc ?_ (by first | omega | (simp; done) | (simp; omega)) _) | refine Below.trans ?_ (Below.mono (by with_reducible assumption) (by first | omega | (simp; done) | (simp; omega))))), by simp⟩
    case round =>
      obtain ⟨k, v, ys, hk, rfl, hys, r0, r1, r2, ⟨f0, f1, f2⟩, hrow, hbr, hlr⟩ := hrel
      have HYS := Lib.hid hys
      clear hys
      have hBr : Below w.heap.size w wr := hB1.trans (hbr.mono (by omega))
      have hbsz : w.heap.size < w1.heap.size := by omega
      by_cases hlt : k < 4
      · have hck := (hbr.cell (p := ⟨w.heap.size + 1, k, none⟩) hb9).trans (HC.out k hlt)
        have hwl := HWL.out k
        have HN : Hid (numsTo numI ws (k + 1) = ys ++ [numI (ws.getD k [])]) := Lib.hid (by rw [HYS.out, numsTo_succ])
        generalize ws.getD k [] = wk at *
        have hwz : (strB wk).size ≤ 1048576 := by rw [strB_size]; exact hwl
        go_wp2_with fail
        refine (atoiI (strB wk) hwz (hV.later (by (repeat (first | with_reducible exact Below.refl _ _ | with_reducible assumption | (with_reducible refine below_drewN ?_ _) | (with_reducible refine Below.drew ?_) | (with_reducible refine Below.setCell ?_ (by first | omega | (simp; done) | (simp; omega)) _) | (with_reducible refine Below.alloc ?_ (by first | omega | (simp; done) | (simp; omega)) _) | refine Below.trans ?_ (Below.mono (by with_reducible assumption) (by first | omega | (simp; done) | (simp; omega)))))))).mono ?_
        rintro e w2 ⟨v2, rfl, hb1⟩
        have en : numI (strB wk).data.toList = numI wk := rfl
        rw [en]
        clear en
        generalize numI wk = nk at *
        have hz2 := hb1.size
        have hrow := hrow.later hb1
        have hbr2 : Below w1.heap.size w1 w2 := hbr.trans (hb1.mono (by omega))
        obtain ⟨z0, g0, _⟩ := keep_later (a := ⟨w1.heap.size, 0, none⟩) (v := v) hb1 r0 f0
        obtain ⟨z1, g1, _⟩ := keep_later (a := ⟨w1.heap.size, 1, none⟩) (v := .int .i64 0) hb1 r1 f1
        obtain ⟨z2, g2, _⟩ := keep_later (a := ⟨w1.heap.size, 2, none⟩) (v := .bool sb) hb1 r2 f2
        clear hb1 hbr
        go_wp2_with (first | (at_builtin; refine wpList_append_lies _ (by rfl) (.tmp 34) (.tmp 36) _ (by rfl) (w1.heap.size + 1) 3 i0 _ 1 8 Tryd.underlying32 hi zi0 zi1 zi2 rfl (by omega) v k _ (by rfl) (IntA.later hrow (by (repeat (first | with_reducible exact Below.refl _ _ | with_reducible assumption | (with_reducible refine below_drewN ?_ _) | (with_reducible refine Below.drew ?_) | (with_reducible refine Below.setCell ?_ (by first | omega | (simp; done) | (simp; omega)) _) | (with_reducible refine Below.alloc ?_ (by first | omega | (simp; done) | (simp; omega)) _) | refine Below.trans ?_ (Below.mono (by with_reducible assumption) (by first | omega | (simp; done) | (simp; omega))))))).own ⟨w2.heap.size, 0, none⟩ 1 1 [.int .i64 (nk)] (by rfl) (by rfl) (str_news (by first | omega | (simp; done) | (simp; omega))) (by simp [Value.oneCell']) (by omega) (by unfold maxLen; omega) (by omega) (by first | omega | (simp; done) | (simp; omega)) (w2.heap.size + 1) (by simp) ?_; intro g' cap' wq hown3 hgrow hat hlt2; have hown4 : wq.ownsRow (w1.heap.size + 1) 3 1 (.slice (some ⟨g', 0, none⟩) (k + 1) cap') (k + 1) (List.map (Value.int .i64) (ys ++ [nk])) := (by rw [List.map_append]; exact hown3); have hno : some w1.heap.size ≠ v.ownBlock := (fun e => by have := (hrow.own.lt _ e.symm).1; omega); have q0 := hgrow.cell (a := ⟨w1.heap.size, 0, none⟩) (v := v) (by go_simp) hno; have q1 := hgrow.cell (a := ⟨w1.heap.size, 1, none⟩) (v := .int .i64 0) (by go_simp) hno; have q2 := hgrow.cell (a := ⟨w1.heap.size, 2, none⟩) (v := .bool sb) (by go_simp) hno; have qf0 : wq.frozen? ⟨w1.heap.size, 0, none⟩ = false := ((World.frozen?_of_block (w := w2.alloc (.cells #[.int .i64 (nk)] 3)) (a := ⟨w1.heap.size, 0, none⟩) (hgrow.block w1.heap.size (by simp; omega) hno)).trans (by go_simp)); have qf1 : wq.frozen? ⟨w1.heap.size, 1, none⟩ = false := ((World.frozen?_of_block (w := w2.alloc (.cells #[.int .i64 (nk)] 3)) (a := ⟨w1.heap.size, 1, none⟩) (hgrow.block w1.heap.size (by simp; omega) hno)).trans (by go_simp)); have qf2 : wq.frozen? ⟨w1.heap.size, 2, none⟩ = false := ((World.frozen?_of_block (w := w2.alloc (.cells #[.int .i64 (nk)] 3)) (a := ⟨w1.heap.size, 2, none⟩) (hgrow.block w1.heap.size (by simp; omega) hno)).trans (by go_simp)); have hbq : Below w1.heap.size w1 wq := Below.grown (by (repeat (first | with_reducible exact Below.refl _ _ | with_reducible assumption | (with_reducible refine below_drewN ?_ _) | (with_reducible refine Below.drew ?_) | (with_reducible refine Below.setCell ?_ (by first | omega | (simp; done) | (simp; omega)) _) | (with_reducible refine Below.alloc ?_ (by first | omega | (simp; done) | (simp; omega)) _) | refine Below.trans ?_ (Below.mono (by with_reducible assumption) (by first | omega | (simp; done) | (simp; omega)))))) hgrow (by first | omega | (simp; done) | (simp; omega)) (fun j hj => by have := (hrow.own.lt j hj).1; omega); have hzq := hgrow.size; simp only [World.size_alloc] at hzq; clear hown3 hgrow hat hlt2 hno))
        go_roundw
        case rel =>
          refine ⟨k + 1, _, ys ++ [nk], by omega, by go_num, HN.out.symm, by go_simp, by go_simp, by go_simp, ⟨by go_simp, by go_simp, by go_simp⟩, IntA.set ⟨hown4⟩ (by omega) _, by (repeat (first | with_reducible exact Below.refl _ _ | with_reducible assumption | (with_reducible refine below_drewN ?_ _) | (with_reducible refine Below.drew ?_) | (with_reducible refine Below.setCell ?_ (by first | omega | (simp; done) | (simp; omega)) _) | (with_reducible refine Below.alloc ?_ (by first | omega | (simp; done) | (simp; omega)) _) | refine Below.trans ?_ (Below.mono (by with_reducible assumption) (by first | omega | (simp; done) | (simp; omega))))), by simp [World.setCell]; omega⟩
        case measure => first | (simp [intOf]; done) | (simp [intOf]; omega)
      · obtain rfl : k = 4 := by omega
        have hrl := hrow.ints (by omega) (by omega) (fun j => by rw [HYS.out]; exact numsTo_rng numI_rng ws 4 j)
        obtain ⟨g, cap, rfl, ⟨hI, hF⟩, hgB⟩ := hrl
        clear hrow
        have HB : Hid (linOk ys (numI w5) = false → r = none) := Lib.hid (fun h => HR.out.symm.trans (linBy_bad (by rw [← HYS.out, H45.out.2.1]; exact h)))
        have HO : Hid (linTextL ys (numI w5) sb ≠ s.data.toList → r = none) := Lib.hid (fun h => HR.out.symm.trans (linBy_other (by rw [← HYS.out, H45.out.2.1, H45.out.1, H45.out.2.2]; exact h)))
        have HG : Hid (linOk ys (numI w5) = true → linTextL ys (numI w5) sb = s.data.toList → r = some (ys, numI w5, sb)) := Lib.hid (fun h h' => HR.out.symm.trans (by
          have e := linBy_go (f := numI) (ws := ws) (t := s.data.toList) HL.out (by rw [← HYS.out, H45.out.2.1]; exact h) (by rw [← HYS.out, H45.out.2.1, H45.out.1, H45.out.2.2]; exact h')
          rw [e, ← HYS.out, H45.out.2.1, H45.out.1, H45.out.2.2]))
        have hz5 : (strB w5).size ≤ 1048576 := by rw [strB_size, ← H45.out.2.1]; exact HWL.out 5
        have d5 := (hbr.cell (p := ⟨w.heap.size + 1, 5, none⟩) hb9).trans c5
        clear HR HYS HL HC H45 HWL hsb c4 c5
        have hb1 := hbr
        obtain ⟨kc_, fc_, lc_⟩ := keep_later (a := ⟨w.heap.size, 0, none⟩) (v := .slice none 0 0) hb1 (by go_simp) (by go_simp); obtain ⟨kc_, fc_, lc_⟩ := keep_later (a := ⟨w.heap.size, 1, none⟩) (v := .int .i64 0) hb1 (by go_simp) (by go_simp); obtain ⟨kc_, fc_, lc_⟩ := keep_later (a := ⟨w.heap.size, 2, none⟩) (v := .bool false) hb1 (by go_simp) (by go_simp)
        clear hb1
        go_wp2_with fail
        refine (atoiI (strB w5) hz5 (hV.later (by (repeat (first | with_reducible exact Below.refl _ _ | with_reducible assumption | (with_reducible refine below_drewN ?_ _) | (with_reducible refine Below.drew ?_) | (with_reducible refine Below.setCell ?_ (by first | omega | (simp; done) | (simp; omega)) _) | (with_reducible refine Below.alloc ?_ (by first | omega | (simp; done) | (simp; omega)) _) | refine Below.trans ?_ (Below.mono (by with_reducible assumption) (by first | omega | (simp; done) | (simp; omega)))))))).mono ?_
        rintro e w6 ⟨v6, rfl, hb1⟩
        have en : numI (strB w5).data.toList = numI w5 := rfl
        rw [en]
        clear en
        generalize numI w5 = b5 at *
        have hB1 := hBr
        have hz1 := hb1.size; (try simp at hz1); have hB1 : Below w.heap.size w w6 := (by refine Below.trans ?_ (Below.mono hb1 (by first | omega | (simp; done) | (simp; omega))); (repeat (first | with_reducible exact Below.refl _ _ | with_reducible assumption | (with_reducible refine below_drewN ?_ _) | (with_reducible refine Below.drew ?_) | (with_reducible refine Below.setCell ?_ (by first | omega | (simp; done) | (simp; omega)) _) | (with_reducible refine Below.alloc ?_ (by first | omega | (simp; done) | (simp; omega)) _) | refine Below.trans ?_ (Below.mono (by with_reducible assumption) (by first | omega | (simp; done) | (simp; omega))))))
        obtain ⟨kc_, fc_, lc_⟩ := keep_later (a := ⟨w.heap.size, 0, none⟩) (v := .slice none 0 0) hb1 (by go_simp) (by go_simp); obtain ⟨kc_, fc_, lc_⟩ := keep_later (a := ⟨w.heap.size, 1, none⟩) (v := .int .i64 0) hb1 (by go_simp) (by go_simp); obtain ⟨kc_, fc_, lc_⟩ := keep_later (a := ⟨w.heap.size, 2, none⟩) (v := .bool false) hb1 (by go_simp) (by go_simp)
        obtain ⟨kc_, fc_, lc_⟩ := keep_later (a := ⟨w1.heap.size, 0, none⟩) (v := .slice (some ⟨g, 0, none⟩) 4 cap) hb1 (by go_simp) (by go_simp); obtain ⟨kc_, fc_, lc_⟩ := keep_later (a := ⟨w1.heap.size, 1, none⟩) (v := .int .i64 0) hb1 (by go_simp) (by go_simp); obtain ⟨kc_, fc_, lc_⟩ := keep_later (a := ⟨w1.heap.size, 2, none⟩) (v := .bool sb) hb1 (by go_simp) (by go_simp)
        replace hI := hI.later hb1
        replace hF := hF.later hb1
        clear hb1
        have hgl := hF.lt
        cases hk : linOk ys b5
        · have HX := Lib.hid (HB.out hk)
          go_wp2_with fail
          refine (iLinOk_any (xs := ys) b5 sb (by (repeat (first | with_reducible exact hI | (with_reducible refine Ints.far ?_ (by first | omega | (simp; done) | (simp; omega)) _) | (with_reducible refine Ints.alloc ?_ _) | (with_reducible refine Ints.drewN ?_ _) | (with_reducible refine Ints.drew ?_))))).mono ?_
          rw [hk]
          rintro e w8 ⟨rfl, hb1⟩
          clear hk
          have hz1 := hb1.size; (try simp at hz1); have hB1 : Below w.heap.size w w8 := (by refine Below.trans ?_ (Below.mono hb1 (by first | omega | (simp; done) | (simp; omega))); (repeat (first | with_reducible exact Below.refl _ _ | with_reducible assumption | (with_reducible refine below_drewN ?_ _) | (with_reducible refine Below.drew ?_) | (with_reducible refine Below.setCell ?_ (by first | omega | (simp; done) | (simp; omega)) _) | (with_reducible refine Below.alloc ?_ (by first | omega | (simp; done) | (simp; omega)) _) | refine Below.trans ?_ (Below.mono (by with_reducible assumption) (by first | omega | (simp; done) | (simp; omega)))))); obtain ⟨kc_, fc_, lc_⟩ := keep_later (a := ⟨w.heap.size, 0, none⟩) (v := .slice none 0 0) hb1 (by go_simp) (by go_simp); obtain ⟨kc_, fc_, lc_⟩ := keep_later (a := ⟨w.heap.size, 1, none⟩) (v := .int .i64 0) hb1 (by go_simp) (by go_simp); obtain ⟨kc_, fc_, lc_⟩ := keep_later (a := ⟨w.heap.size, 2, none⟩) (v := .bool false) hb1 (by go_simp) (by go_simp); clear hb1
          go_wp2
          refine bodyPost_ret (v := .tuple #[.agg #[.slice none 0 0, .int .i64 0, .bool false], .bool false]) (by simp only [results, Tryd.results20]; go_simp) rfl ?_
          exact linBack_none HX.out rfl (by (repeat (first | with_reducible exact Below.refl _ _ | with_reducible assumption | (with_reducible refine below_drewN ?_ _) | (with_reducible refine Below.drew ?_) | (with_reducible refine Below.setCell ?_ (by first | omega | (simp; done) | (simp; omega)) _) | (with_reducible refine Below.alloc ?_ (by first | omega | (simp; done) | (simp; omega)) _) | refine Below.trans ?_ (Below.mono (by with_reducible assumption) (by first | omega | (simp; done) | (simp; omega))))))
        · have HK := Lib.hid hk
          clear hk
          go_wp2_with fail
          refine (iLinOk_any (xs := ys) b5 sb (by (repeat (first | with_reducible exact hI | (with_reducible refine Ints.far ?_ (by first | omega | (simp; done) | (simp; omega)) _) | (with_reducible refine Ints.alloc ?_ _) | (with_reducible refine Ints.drewN ?_ _) | (with_reducible refine Ints.drew ?_))))).mono ?_
          rw [HK.out]
          rintro e w8 ⟨rfl, hb1⟩
          replace hI : Ints w8 (some ⟨g, 0, none⟩) 4 ys := Ints.later (by (repeat (first | with_reducible exact hI | (with_reducible refine Ints.far ?_ (by first | omega | (simp; done) | (simp; omega)) _) | (with_reducible refine Ints.alloc ?_ _) | (with_reducible refine Ints.drewN ?_ _) | (with_reducible refine Ints.drew ?_)))) hb1
          replace hF : Free w8 g := Free.later (by (repeat (first | with_reducible exact hF | (with_reducible refine Free.set ?_ _ _) | (with_reducible refine Free.alloc ?_ _) | (with_reducible refine Free.drewN ?_ _) | (with_reducible refine Free.drew ?_)))) hb1
          have hz1 := hb1.size; (try simp at hz1); have hB1 : Below w.heap.size w w8 := (by refine Below.trans ?_ (Below.mono hb1 (by first | omega | (simp; done) | (simp; omega))); (repeat (first | with_reducible exact Below.refl _ _ | with_reducible assumption | (with_reducible refine below_drewN ?_ _) | (with_reducible refine Below.drew ?_) | (with_reducible refine Below.setCell ?_ (by first | omega | (simp; done) | (simp; omega)) _) | (with_reducible refine Below.alloc ?_ (by first | omega | (simp; done) | (simp; omega)) _) | refine Below.trans ?_ (Below.mono (by with_reducible assumption) (by first | omega | (simp; done) | (simp; omega)))))); obtain ⟨kc_, fc_, lc_⟩ := keep_later (a := ⟨w.heap.size, 0, none⟩) (v := .slice none 0 0) hb1 (by go_simp) (by go_simp); obtain ⟨kc_, fc_, lc_⟩ := keep_later (a := ⟨w.heap.size, 1, none⟩) (v := .int .i64 0) hb1 (by go_simp) (by go_simp); obtain ⟨kc_, fc_, lc_⟩ := keep_later (a := ⟨w.heap.size, 2, none⟩) (v := .bool false) hb1 (by go_simp) (by go_simp); obtain ⟨kc_, fc_, lc_⟩ := keep_later (a := ⟨w1.heap.size, 0, none⟩) (v := .slice (some ⟨g, 0, none⟩) 4 cap) hb1 (by go_simp) (by go_simp); obtain ⟨kc_, fc_, lc_⟩ := keep_later (a := ⟨w1.heap.size, 1, none⟩) (v := .int .i64 b5) hb1 (by go_simp) (by go_simp); obtain ⟨kc_, fc_, lc_⟩ := keep_later (a := ⟨w1.heap.size, 2, none⟩) (v := .bool sb) hb1 (by go_simp) (by go_simp); clear hb1
          have hgl8 := hF.lt
          go_wp2_with fail
          refine (ilinText_any (xs := ys) HK (by (repeat (first | with_reducible exact hI | (with_reducible refine Ints.far ?_ (by first | omega | (simp; done) | (simp; omega)) _) | (with_reducible refine Ints.alloc ?_ _) | (with_reducible refine Ints.drewN ?_ _) | (with_reducible refine Ints.drew ?_)))) (Vars.tab (hV.later (by (repeat (first | with_reducible exact Below.refl _ _ | with_reducible assumption | (with_reducible refine below_drewN ?_ _) | (with_reducible refine Below.drew ?_) | (with_reducible refine Below.setCell ?_ (by first | omega | (simp; done) | (simp; omega)) _) | (with_reducible refine Below.alloc ?_ (by first | omega | (simp; done) | (simp; omega)) _) | refine Below.trans ?_ (Below.mono (by with_reducible assumption) (by first | omega | (simp; done) | (simp; omega))))))))).mono ?_
          by_cases ht : linTextL ys b5 sb = s.data.toList
          · have HX := Lib.hid (HG.out HK.out ht)
            have hne := text_eq ht
            clear ht
            rintro e w9 ⟨rfl, hb1⟩
            replace hI : Ints w9 (some ⟨g, 0, none⟩) 4 ys := Ints.later (by (repeat (first | with_reducible exact hI | (with_reducible refine Ints.far ?_ (by first | omega | (simp; done) | (simp; omega)) _) | (with_reducible refine Ints.alloc ?_ _) | (with_reducible refine Ints.drewN ?_ _) | (with_reducible refine Ints.drew ?_)))) hb1
            replace hF : Free w9 g := Free.later (by (repeat (first | with_reducible exact hF | (with_reducible refine Free.set ?_ _ _) | (with_reducible refine Free.alloc ?_ _) | (with_reducible refine Free.drewN ?_ _) | (with_reducible refine Free.drew ?_)))) hb1
            have hz1 := hb1.size; (try simp at hz1); have hB1 : Below w.heap.size w w9 := (by refine Below.trans ?_ (Below.mono hb1 (by first | omega | (simp; done) | (simp; omega))); (repeat (first | with_reducible exact Below.refl _ _ | with_reducible assumption | (with_reducible refine below_drewN ?_ _) | (with_reducible refine Below.drew ?_) | (with_reducible refine Below.setCell ?_ (by first | omega | (simp; done) | (simp; omega)) _) | (with_reducible refine Below.alloc ?_ (by first | omega | (simp; done) | (simp; omega)) _) | refine Below.trans ?_ (Below.mono (by with_reducible assumption) (by first | omega | (simp; done) | (simp; omega)))))); obtain ⟨kc_, fc_, lc_⟩ := keep_later (a := ⟨w.heap.size, 0, none⟩) (v := .slice none 0 0) hb1 (by go_simp) (by go_simp); obtain ⟨kc_, fc_, lc_⟩ := keep_later (a := ⟨w.heap.size, 1, none⟩) (v := .int .i64 0) hb1 (by go_simp) (by go_simp); obtain ⟨kc_, fc_, lc_⟩ := keep_later (a := ⟨w.heap.size, 2, none⟩) (v := .bool false) hb1 (by go_simp) (by go_simp); obtain ⟨kc_, fc_, lc_⟩ := keep_later (a := ⟨w1.heap.size, 0, none⟩) (v := .slice (some ⟨g, 0, none⟩) 4 cap) hb1 (by go_simp) (by go_simp); obtain ⟨kc_, fc_, lc_⟩ := keep_later (a := ⟨w1.heap.size, 1, none⟩) (v := .int .i64 b5) hb1 (by go_simp) (by go_simp); obtain ⟨kc_, fc_, lc_⟩ := keep_later (a := ⟨w1.heap.size, 2, none⟩) (v := .bool sb) hb1 (by go_simp) (by go_simp); clear hb1
            have hgl9 := hF.lt
            go_wp2
            refine bodyPost_ret (v := .tuple #[.agg #[.slice (some ⟨g, 0, none⟩) 4 cap, .int .i64 b5, .bool sb], .bool true]) (by simp only [results, Tryd.results20]; go_simp) rfl ?_
            exact linBack_some HX.out rfl (by (repeat (first | with_reducible exact hI | (with_reducible refine Ints.far ?_ (by first | omega | (simp; done) | (simp; omega)) _) | (with_reducible refine Ints.alloc ?_ _) | (with_reducible refine Ints.drewN ?_ _) | (with_reducible refine Ints.drew ?_)))) (by (repeat (first | with_reducible exact hF | (with_reducible refine Free.set ?_ _ _) | (with_reducible refine Free.alloc ?_ _) | (with_reducible refine Free.drewN ?_ _) | (with_reducible refine Free.drew ?_)))) (by omega) (by (repeat (first | with_reducible exact Below.refl _ _ | with_reducible assumption | (with_reducible refine below_drewN ?_ _) | (with_reducible refine Below.drew ?_) | (with_reducible refine Below.setCell ?_ (by first | omega | (simp; done) | (simp; omega)) _) | (with_reducible refine Below.alloc ?_ (by first | omega | (simp; done) | (simp; omega)) _) | refine Below.trans ?_ (Below.mono (by with_reducible assumption) (by first | omega | (simp; done) | (simp; omega))))))
          · have HX := Lib.hid (HO.out ht)
            have hne := text_ne ht
            clear ht
            rintro e w9 ⟨rfl, hb1⟩
            have hz1 := hb1.size; (try simp at hz1); have hB1 : Below w.heap.size w w9 := (by refine Below.trans ?_ (Below.mono hb1 (by first | omega | (simp; done) | (simp; omega))); (repeat (first | with_reducible exact Below.refl _ _ | with_reducible assumption | (with_reducible refine below_drewN ?_ _) | (with_reducible refine Below.drew ?_) | (with_reducible refine Below.setCell ?_ (by first | omega | (simp; done) | (simp; omega)) _) | (with_reducible refine Below.alloc ?_ (by first | omega | (simp; done) | (simp; omega)) _) | refine Below.trans ?_ (Below.mono (by with_reducible assumption) (by first | omega | (simp; done) | (simp; omega)))))); obtain ⟨kc_, fc_, lc_⟩ := keep_later (a := ⟨w.heap.size, 0, none⟩) (v := .slice none 0 0) hb1 (by go_simp) (by go_simp); obtain ⟨kc_, fc_, lc_⟩ := keep_later (a := ⟨w.heap.size, 1, none⟩) (v := .int .i64 0) hb1 (by go_simp) (by go_simp); obtain ⟨kc_, fc_, lc_⟩ := keep_later (a := ⟨w.heap.size, 2, none⟩) (v := .bool false) hb1 (by go_simp) (by go_simp); obtain ⟨kc_, fc_, lc_⟩ := keep_later (a := ⟨w1.heap.size, 0, none⟩) (v := .slice (some ⟨g, 0, none⟩) 4 cap) hb1 (by go_simp) (by go_simp); obtain ⟨kc_, fc_, lc_⟩ := keep_later (a := ⟨w1.heap.size, 1, none⟩) (v := .int .i64 b5) hb1 (by go_simp) (by go_simp); obtain ⟨kc_, fc_, lc_⟩ := keep_later (a := ⟨w1.heap.size, 2, none⟩) (v := .bool sb) hb1 (by go_simp) (by go_simp); clear hb1
            go_wp2
            refine bodyPost_ret (v := .tuple #[.agg #[.slice none 0 0, .int .i64 0, .bool false], .bool false]) (by simp only [results, Tryd.results20]; go_simp) rfl ?_
            exact linBack_none HX.out rfl (by (repeat (first | with_reducible exact Below.refl _ _ | with_reducible assumption | (with_reducible refine below_drewN ?_ _) | (with_reducible refine Below.drew ?_) | (with_reducible refine Below.setCell ?_ (by first | omega | (simp; done) | (simp; omega)) _) | (with_reducible refine Below.alloc ?_ (by first | omega | (simp; done) | (simp; omega)) _) | refine Below.trans ?_ (Below.mono (by with_reducible assumption) (by first | omega | (simp; done) | (simp; omega))))))
  · have hne : ((n : Int) != 6) = true := by rw [bne_iff_ne]; omega
    have HX : Hid (r = none) := Lib.hid (hr.symm.trans (linBy_few (by rw [hS.len]; exact h6)))
    clear hr
    go_wp2
    refine bodyPost_ret (v := .tuple #[.agg #[.slice none 0 0, .int .i64 0, .bool false], .bool false]) (by simp only [results, Tryd.results20]; go_simp) rfl ?_
    exact linBack_none HX.out rfl (by (repeat (first | with_reducible exact Below.refl _ _ | with_reducible assumption | (with_reducible refine below_drewN ?_ _) | (with_reducible refine Below.drew ?_) | (with_reducible refine Below.setCell ?_ (by first | omega | (simp; done) | (simp; omega)) _) | (with_reducible refine Below.alloc ?_ (by first | omega | (simp; done) | (simp; omega)) _) | refine Below.trans ?_ (Below.mono (by with_reducible assumption) (by first | omega | (simp; done) | (simp; omega))))))

set_option maxRecDepth 100000 in
set_option maxHeartbeats 4000000 in
theorem sLinRead_any (s : ByteArray) (hs : s.size ≤ 1048576) (w : World) :
    Calls Tryd.prog 19 #[.string s] w (LinReadBack (linReadL s.data.toList) w) := by
  obtain ⟨r, hr⟩ : ∃ r, linReadL s.data.toList = r := ⟨_, rfl⟩
  rw [hr]
  rw [← linRead_same] at hr
  unfold linReadS at hr
  obtain ⟨i0, hi, zi0, zi1, zi2⟩ := info_parts int_info'
  have HWL := Lib.hid (fun j => by have := piece_len (c := 32) (l := s.data.toList) j; rw [len_bytes] at this; exact Nat.le_trans this hs)
  have HNE : Hid ((cutL 32 s.data.toList).length = 6 → ([] : List UInt8) ≠ s.data.toList) := Lib.hid (fun h e => by rw [← e] at h; simp [cutL, cutFrom] at h)
  go_enter Tryd.func19, Tryd.ntmps19
  go_wp2_with fail
  refine (l16Cut_any s hs 32 (by rfl) _).mono ?_
  rintro e w1 ⟨A, n, c, rfl, hS, hb1⟩
  have hz1 := hb1.size; (try simp at hz1); have hB1 : Below w.heap.size w w1 := (by refine Below.trans ?_ (Below.mono hb1 (by first | omega | (simp; done) | (simp; omega))); (repeat (first | with_reducible exact Below.refl _ _ | with_reducible assumption | (with_reducible refine below_drewN ?_ _) | (with_reducible refine Below.drew ?_) | (with_reducible refine Below.setCell ?_ (by first | omega | (simp; done) | (simp; omega)) _) | (with_reducible refine Below.alloc ?_ (by first | omega | (simp; done) | (simp; omega)) _) | refine Below.trans ?_ (Below.mono (by with_reducible assumption) (by first | omega | (simp; done) | (simp; omega)))))); obtain ⟨kc_, fc_, lc_⟩ := keep_later (a := ⟨w.heap.size, 0, none⟩) (v := .slice none 0 0) hb1 (by go_simp) (by go_simp); obtain ⟨kc_, fc_, lc_⟩ := keep_later (a := ⟨w.heap.size, 1, none⟩) (v := .int .i64 0) hb1 (by go_simp) (by go_simp); obtain ⟨kc_, fc_, lc_⟩ := keep_later (a := ⟨w.heap.size, 2, none⟩) (v := .bool false) hb1 (by go_simp) (by go_simp); clear hb1
  have hlt1 : w.heap.size < w1.heap.size := by omega
  generalize cutL 32 s.data.toList = ws at *
  by_cases h6 : n = 6
  · subst h6
    have HL := Lib.hid hS.len
    obtain ⟨b9, o9, rfl, hb9, hcs⟩ := hS.cells (by omega)
    have HR := Lib.hid hr
    clear hr
    have c4 : w1.cell? ⟨b9, o9 + 4, none⟩ = _ := hcs 4 (by omega)
    have c5 : w1.cell? ⟨b9, o9 + 5, none⟩ = _ := hcs 5 (by omega)
    have HC := Lib.hid (fun k (hk : k < 4) => hcs k (by omega))
    clear hcs hS
    obtain ⟨w4, hw4⟩ : ∃ x, ws.getD 4 [] = x := ⟨_, rfl⟩
    obtain ⟨w5, hw5⟩ : ∃ x, ws.getD 5 [] = x := ⟨_, rfl⟩
    obtain ⟨sf, hsf⟩ : ∃ sf : Bool, sf = false := ⟨_, rfl⟩
    rw [hw4] at c4
    rw [hw5] at c5
    have H45 := Lib.hid (And.intro hw4 hw5)
    clear hw4 hw5
    go_wp2_with fail
    go_loopw [6] (fun i wr => ∃ (k : Nat) (v : Value) (ys : List Int), k ≤ 4 ∧ i = .int .i64 k ∧ ys = numsTo (fun l => (numS l).1) ws k ∧ wr.cell? ⟨w1.heap.size, 0, none⟩ = some v ∧ wr.cell? ⟨w1.heap.size, 1, none⟩ = some (.int .i64 0) ∧ wr.cell? ⟨w1.heap.size, 2, none⟩ = some (.bool sf) ∧ (wr.frozen? ⟨w1.heap.size, 0, none⟩ = false ∧ wr.frozen? ⟨w1.heap.size, 1, none⟩ = false ∧ wr.frozen? ⟨w1.heap.size, 2, none⟩ = false) ∧ IntA wr (w1.heap.size + 1) v k ys ∧ Below w1.heap.size w1 wr ∧ w1.heap.size < wr.heap.size) (fun i _ => 4 - (intOf i).toNat)
    case atStart =>
      refine ⟨0, .slice none 0 0, [], by omega, rfl, rfl, by go_simp, by go_simp, by rw [hsf]; go_simp, ⟨by go_simp, by go_simp, by go_simp⟩, IntA.nil _ _, by (repeat (first | with_reducible exact Below.refl _ _ | with_reducible assumption | (with_reducible refine below_drewN ?_ _) | (with_reducible refine Below.drew ?_) | (with_reducible refine Below.setCell ?_ (by first | omega | (simp; done) | (simp; omega)) _) | (with_reducible refine Below.alloc ?_ (by first | omega | (simp; done) | (simp; omega)) _) | refine Below.trans ?_ (Below.mono (by with_reducible assumption) (by first | omega | (simp; done) | (simp; omega))))), by simp⟩
    case round =>
      obtain ⟨k, v, ys, hk, rfl, hys, r0, r1, r2, ⟨f0, f1, f2⟩, hrow, hbr, hlr⟩ := hrel
      have HSF := Lib.hid hsf
      clear hsf
      have HYS := Lib.hid hys
      clear hys
      have hBr : Below w.heap.size w wr := hB1.trans (hbr.mono (by omega))
      by_cases hlt : k < 4
      · have hck := (hbr.cell (p := ⟨b9, o9 + k, none⟩) hb9).trans (HC.out k hlt)
        have hwl := HWL.out k
        have HN : Hid (numsTo (fun l => (numS l).1) ws (k + 1) = ys ++ [(numS (ws.getD k [])).1]) := Lib.hid (by rw [HYS.out, numsTo_succ])
        generalize ws.getD k [] = wk at *
        have hwz : (strB wk).size ≤ 1048576 := by rw [strB_size]; exact hwl
        go_wp2_with fail
        refine (l16Num_any (strB wk) hwz _).mono ?_
        rintro e w' ⟨rfl, rfl⟩
        have en : numS (strB wk).data.toList = numS wk := rfl
        rw [en]
        clear en
        generalize (numS wk).1 = nk at *
        generalize (numS wk).2 = okk at *
        go_wp2_with (first | (at_builtin; refine wpList_append_lies _ (by rfl) (.tmp 29) (.tmp 31) _ (by rfl) (w1.heap.size + 1) 3 i0 _ 1 8 Tryd.underlying32 hi zi0 zi1 zi2 rfl (by omega) v k _ (by rfl) (IntA.later hrow (by (repeat (first | with_reducible exact Below.refl _ _ | with_reducible assumption | (with_reducible refine below_drewN ?_ _) | (with_reducible refine Below.drew ?_) | (with_reducible refine Below.setCell ?_ (by first | omega | (simp; done) | (simp; omega)) _) | (with_reducible refine Below.alloc ?_ (by first | omega | (simp; done) | (simp; omega)) _) | refine Below.trans ?_ (Below.mono (by with_reducible assumption) (by first | omega | (simp; done) | (simp; omega))))))).own ⟨wr.heap.size, 0, none⟩ 1 1 [.int .i64 (nk)] (by rfl) (by rfl) (str_news (by first | omega | (simp; done) | (simp; omega))) (by simp [Value.oneCell']) (by omega) (by unfold maxLen; omega) (by omega) (by first | omega | (simp; done) | (simp; omega)) (wr.heap.size + 1) (by simp) ?_; intro g' cap' wq hown3 hgrow hat hlt2; have hown4 : wq.ownsRow (w1.heap.size + 1) 3 1 (.slice (some ⟨g', 0, none⟩) (k + 1) cap') (k + 1) (List.map (Value.int .i64) (ys ++ [nk])) := (by rw [List.map_append]; exact hown3); have hno : some w1.heap.size ≠ v.ownBlock := (fun e => by have := (hrow.own.lt _ e.symm).1; omega); have q0 := hgrow.cell (a := ⟨w1.heap.size, 0, none⟩) (v := v) (by go_simp) hno; have q1 := hgrow.cell (a := ⟨w1.heap.size, 1, none⟩) (v := .int .i64 0) (by go_simp) hno; have q2 := hgrow.cell (a := ⟨w1.heap.size, 2, none⟩) (v := .bool sf) (by go_simp) hno; have qf0 : wq.frozen? ⟨w1.heap.size, 0, none⟩ = false := ((World.frozen?_of_block (w := wr.alloc (.cells #[.int .i64 (nk)] 3)) (a := ⟨w1.heap.size, 0, none⟩) (hgrow.block w1.heap.size (by simp; omega) hno)).trans (by go_simp)); have qf1 : wq.frozen? ⟨w1.heap.size, 1, none⟩ = false := ((World.frozen?_of_block (w := wr.alloc (.cells #[.int .i64 (nk)] 3)) (a := ⟨w1.heap.size, 1, none⟩) (hgrow.block w1.heap.size (by simp; omega) hno)).trans (by go_simp)); have qf2 : wq.frozen? ⟨w1.heap.size, 2, none⟩ = false := ((World.frozen?_of_block (w := wr.alloc (.cells #[.int .i64 (nk)] 3)) (a := ⟨w1.heap.size, 2, none⟩) (hgrow.block w1.heap.size (by simp; omega) hno)).trans (by go_simp)); have hbq : Below w1.heap.size w1 wq := Below.grown (by (repeat (first | with_reducible exact Below.refl _ _ | with_reducible assumption | (with_reducible refine below_drewN ?_ _) | (with_reducible refine Below.drew ?_) | (with_reducible refine Below.setCell ?_ (by first | omega | (simp; done) | (simp; omega)) _) | (with_reducible refine Below.alloc ?_ (by first | omega | (simp; done) | (simp; omega)) _) | refine Below.trans ?_ (Below.mono (by with_reducible assumption) (by first | omega | (simp; done) | (simp; omega)))))) hgrow (by first | omega | (simp; done) | (simp; omega)) (fun j hj => by have := (hrow.own.lt j hj).1; omega); have hzq := hgrow.size; simp only [World.size_alloc] at hzq; clear hown3 hgrow hat hlt2 hno))
        go_roundw
        case rel =>
          refine ⟨k + 1, _, ys ++ [nk], by omega, by go_num, HN.out.symm, by go_simp, by go_simp, by go_simp, ⟨by go_simp, by go_simp, by go_simp⟩, IntA.set ⟨hown4⟩ (by omega) _, by (repeat (first | with_reducible exact Below.refl _ _ | with_reducible assumption | (with_reducible refine below_drewN ?_ _) | (with_reducible refine Below.drew ?_) | (with_reducible refine Below.setCell ?_ (by first | omega | (simp; done) | (simp; omega)) _) | (with_reducible refine Below.alloc ?_ (by first | omega | (simp; done) | (simp; omega)) _) | refine Below.trans ?_ (Below.mono (by with_reducible assumption) (by first | omega | (simp; done) | (simp; omega))))), by simp [World.setCell]; omega⟩
        case measure => first | (simp [intOf]; done) | (simp [intOf]; omega)
      · obtain rfl : k = 4 := by omega
        have hrl := hrow.ints (by omega) (by omega) (fun j => by rw [HYS.out]; exact numsTo_rng (fun l => numS_rng l) ws 4 j)
        obtain ⟨g, cap, rfl, ⟨hI, hF⟩, hgB⟩ := hrl
        clear hrow
        obtain ⟨sb, hsb⟩ : ∃ x, (w4 == [60]) = x := ⟨_, rfl⟩
        have HSB := Lib.hid hsb
        have HB : Hid (linOk ys (numS w5).1 = false → r = none) := Lib.hid (fun h => HR.out.symm.trans (linBy_bad (by rw [← HYS.out, H45.out.2]; exact h)))
        have HO : Hid (linTextL ys (numS w5).1 sb ≠ s.data.toList → r = none) := Lib.hid (fun h => HR.out.symm.trans (linBy_other (by rw [← HYS.out, H45.out.2, H45.out.1, HSB.out]; exact h)))
        have HG : Hid (linOk ys (numS w5).1 = true → linTextL ys (numS w5).1 sb = s.data.toList → r = some (ys, (numS w5).1, sb)) := Lib.hid (fun h h' => HR.out.symm.trans (by
          have e := linBy_go (f := fun l => (numS l).1) (ws := ws) (t := s.data.toList) HL.out (by rw [← HYS.out, H45.out.2]; exact h) (by rw [← HYS.out, H45.out.2, H45.out.1, HSB.out]; exact h')
          rw [e, ← HYS.out, H45.out.2, H45.out.1, HSB.out]))
        have hz5 : (strB w5).size ≤ 1048576 := by rw [strB_size, ← H45.out.2]; exact HWL.out 5
        have HNT := Lib.hid (HNE.out HL.out)
        have d4 := (hbr.cell (p := ⟨b9, o9 + 4, none⟩) hb9).trans c4
        have d5 := (hbr.cell (p := ⟨b9, o9 + 5, none⟩) hb9).trans c5
        have hgl := hF.lt
        have hb9r : b9 < wr.heap.size := by omega
        clear HR HYS HL HC H45 HWL c4 c5 HNE HSF
        have hb1 := hbr
        obtain ⟨kc_, fc_, lc_⟩ := keep_later (a := ⟨w.heap.size, 0, none⟩) (v := .slice none 0 0) hb1 (by go_simp) (by go_simp); obtain ⟨kc_, fc_, lc_⟩ := keep_later (a := ⟨w.heap.size, 1, none⟩) (v := .int .i64 0) hb1 (by go_simp) (by go_simp); obtain ⟨kc_, fc_, lc_⟩ := keep_later (a := ⟨w.heap.size, 2, none⟩) (v := .bool false) hb1 (by go_simp) (by go_simp)
        clear hb1
        have hB1 := hBr
        go_wp2_with fail
        refine (l16Num_any (strB w5) hz5 _).mono ?_
        rintro e w' ⟨rfl, rfl⟩
        have en : numS (strB w5).data.toList = numS w5 := rfl
        rw [en]
        clear en
        generalize (numS w5).1 = b5 at *
        generalize (numS w5).2 = ok5 at *
        cases hk : linOk ys b5
        · have HX := Lib.hid (HB.out hk)
          have HK := Lib.hid hk
          clear hk
          have hne := text_ne HNT.out
          go_wp2_with fail
          refine (sLinText_no (xs := ys) (s := sb) HK (by (repeat (first | with_reducible exact hI | (with_reducible refine Ints.far ?_ (by first | omega | (simp; done) | (simp; omega)) _) | (with_reducible refine Ints.alloc ?_ _) | (with_reducible refine Ints.drewN ?_ _) | (with_reducible refine Ints.drew ?_))))).mono ?_
          rintro e w8 ⟨rfl, hb1⟩
          have hz1 := hb1.size; (try simp at hz1); have hB1 : Below w.heap.size w w8 := (by refine Below.trans ?_ (Below.mono hb1 (by first | omega | (simp; done) | (simp; omega))); (repeat (first | with_reducible exact Below.refl _ _ | with_reducible assumption | (with_reducible refine below_drewN ?_ _) | (with_reducible refine Below.drew ?_) | (with_reducible refine Below.setCell ?_ (by first | omega | (simp; done) | (simp; omega)) _) | (with_reducible refine Below.alloc ?_ (by first | omega | (simp; done) | (simp; omega)) _) | refine Below.trans ?_ (Below.mono (by with_reducible assumption) (by first | omega | (simp; done) | (simp; omega)))))); obtain ⟨kc_, fc_, lc_⟩ := keep_later (a := ⟨w.heap.size, 0, none⟩) (v := .slice none 0 0) hb1 (by go_simp) (by go_simp); obtain ⟨kc_, fc_, lc_⟩ := keep_later (a := ⟨w.heap.size, 1, none⟩) (v := .int .i64 0) hb1 (by go_simp) (by go_simp); obtain ⟨kc_, fc_, lc_⟩ := keep_later (a := ⟨w.heap.size, 2, none⟩) (v := .bool false) hb1 (by go_simp) (by go_simp); clear hb1
          go_wp2
          refine bodyPost_ret (v := .tuple #[.agg #[.slice none 0 0, .int .i64 0, .bool false], .bool false]) (by simp only [results, Tryd.results19]; go_simp) rfl ?_
          exact linBack_none HX.out rfl (by (repeat (first | with_reducible exact Below.refl _ _ | with_reducible assumption | (with_reducible refine below_drewN ?_ _) | (with_reducible refine Below.drew ?_) | (with_reducible refine Below.setCell ?_ (by first | omega | (simp; done) | (simp; omega)) _) | (with_reducible refine Below.alloc ?_ (by first | omega | (simp; done) | (simp; omega)) _) | refine Below.trans ?_ (Below.mono (by with_reducible assumption) (by first | omega | (simp; done) | (simp; omega))))))
        · have HK := Lib.hid hk
          clear hk
          go_wp2_with fail
          refine (sLinText_any (xs := ys) (s := sb) HK (by (repeat (first | with_reducible exact hI | (with_reducible refine Ints.far ?_ (by first | omega | (simp; done) | (simp; omega)) _) | (with_reducible refine Ints.alloc ?_ _) | (with_reducible refine Ints.drewN ?_ _) | (with_reducible refine Ints.drew ?_))))).mono ?_
          by_cases ht : linTextL ys b5 sb = s.data.toList
          · have HX := Lib.hid (HG.out HK.out ht)
            have hne := text_eq ht
            clear ht
            rintro e w9 ⟨rfl, hb1⟩
            replace hI : Ints w9 (some ⟨g, 0, none⟩) 4 ys := Ints.later (by (repeat (first | with_reducible exact hI | (with_reducible refine Ints.far ?_ (by first | omega | (simp; done) | (simp; omega)) _) | (with_reducible refine Ints.alloc ?_ _) | (with_reducible refine Ints.drewN ?_ _) | (with_reducible refine Ints.drew ?_)))) hb1
            replace hF : Free w9 g := Free.later (by (repeat (first | with_reducible exact hF | (with_reducible refine Free.set ?_ _ _) | (with_reducible refine Free.alloc ?_ _) | (with_reducible refine Free.drewN ?_ _) | (with_reducible refine Free.drew ?_)))) hb1
            have hz1 := hb1.size; (try simp at hz1); have hB1 : Below w.heap.size w w9 := (by refine Below.trans ?_ (Below.mono hb1 (by first | omega | (simp; done) | (simp; omega))); (repeat (first | with_reducible exact Below.refl _ _ | with_reducible assumption | (with_reducible refine below_drewN ?_ _) | (with_reducible refine Below.drew ?_) | (with_reducible refine Below.setCell ?_ (by first | omega | (simp; done) | (simp; omega)) _) | (with_reducible refine Below.alloc ?_ (by first | omega | (simp; done) | (simp; omega)) _) | refine Below.trans ?_ (Below.mono (by with_reducible assumption) (by first | omega | (simp; done) | (simp; omega)))))); obtain ⟨kc_, fc_, lc_⟩ := keep_later (a := ⟨w.heap.size, 0, none⟩) (v := .slice none 0 0) hb1 (by go_simp) (by go_simp); obtain ⟨kc_, fc_, lc_⟩ := keep_later (a := ⟨w.heap.size, 1, none⟩) (v := .int .i64 0) hb1 (by go_simp) (by go_simp); obtain ⟨kc_, fc_, lc_⟩ := keep_later (a := ⟨w.heap.size, 2, none⟩) (v := .bool false) hb1 (by go_simp) (by go_simp); obtain ⟨kc_, fc_, lc_⟩ := keep_later (a := ⟨w1.heap.size, 0, none⟩) (v := .slice (some ⟨g, 0, none⟩) 4 cap) hb1 (by go_simp) (by go_simp); obtain ⟨kc_, fc_, lc_⟩ := keep_later (a := ⟨w1.heap.size, 1, none⟩) (v := .int .i64 b5) hb1 (by go_simp) (by go_simp); obtain ⟨kc_, fc_, lc_⟩ := keep_later (a := ⟨w1.heap.size, 2, none⟩) (v := .bool sb) hb1 (by go_simp) (by go_simp); clear hb1
            have hgl9 := hF.lt
            go_wp2
            refine bodyPost_ret (v := .tuple #[.agg #[.slice (some ⟨g, 0, none⟩) 4 cap, .int .i64 b5, .bool sb], .bool true]) (by simp only [results, Tryd.results19]; go_simp) rfl ?_
            exact linBack_some HX.out rfl (by (repeat (first | with_reducible exact hI | (with_reducible refine Ints.far ?_ (by first | omega | (simp; done) | (simp; omega)) _) | (with_reducible refine Ints.alloc ?_ _) | (with_reducible refine Ints.drewN ?_ _) | (with_reducible refine Ints.drew ?_)))) (by (repeat (first | with_reducible exact hF | (with_reducible refine Free.set ?_ _ _) | (with_reducible refine Free.alloc ?_ _) | (with_reducible refine Free.drewN ?_ _) | (with_reducible refine Free.drew ?_)))) (by omega) (by (repeat (first | with_reducible exact Below.refl _ _ | with_reducible assumption | (with_reducible refine below_drewN ?_ _) | (with_reducible refine Below.drew ?_) | (with_reducible refine Below.setCell ?_ (by first | omega | (simp; done) | (simp; omega)) _) | (with_reducible refine Below.alloc ?_ (by first | omega | (simp; done) | (simp; omega)) _) | refine Below.trans ?_ (Below.mono (by with_reducible assumption) (by first | omega | (simp; done) | (simp; omega))))))
          · have HX := Lib.hid (HO.out ht)
            have hne := text_ne ht
            clear ht
            rintro e w9 ⟨rfl, hb1⟩
            have hz1 := hb1.size; (try simp at hz1); have hB1 : Below w.heap.size w w9 := (by refine Below.trans ?_ (Below.mono hb1 (by first | omega | (simp; done) | (simp; omega))); (repeat (first | with_reducible exact Below.refl _ _ | with_reducible assumption | (with_reducible refine below_drewN ?_ _) | (with_reducible refine Below.drew ?_) | (with_reducible refine Below.setCell ?_ (by first | omega | (simp; done) | (simp; omega)) _) | (with_reducible refine Below.alloc ?_ (by first | omega | (simp; done) | (simp; omega)) _) | refine Below.trans ?_ (Below.mono (by with_reducible assumption) (by first | omega | (simp; done) | (simp; omega)))))); obtain ⟨kc_, fc_, lc_⟩ := keep_later (a := ⟨w.heap.size, 0, none⟩) (v := .slice none 0 0) hb1 (by go_simp) (by go_simp); obtain ⟨kc_, fc_, lc_⟩ := keep_later (a := ⟨w.heap.size, 1, none⟩) (v := .int .i64 0) hb1 (by go_simp) (by go_simp); obtain ⟨kc_, fc_, lc_⟩ := keep_later (a := ⟨w.heap.size, 2, none⟩) (v := .bool false) hb1 (by go_simp) (by go_simp); obtain ⟨kc_, fc_, lc_⟩ := keep_later (a := ⟨w1.heap.size, 0, none⟩) (v := .slice (some ⟨g, 0, none⟩) 4 cap) hb1 (by go_simp) (by go_simp); obtain ⟨kc_, fc_, lc_⟩ := keep_later (a := ⟨w1.heap.size, 1, none⟩) (v := .int .i64 b5) hb1 (by go_simp) (by go_simp); obtain ⟨kc_, fc_, lc_⟩ := keep_later (a := ⟨w1.heap.size, 2, none⟩) (v := .bool sb) hb1 (by go_simp) (by go_simp); clear hb1
            go_wp2
            refine bodyPost_ret (v := .tuple #[.agg #[.slice none 0 0, .int .i64 0, .bool false], .bool false]) (by simp only [results, Tryd.results19]; go_simp) rfl ?_
            exact linBack_none HX.out rfl (by (repeat (first | with_reducible exact Below.refl _ _ | with_reducible assumption | (with_reducible refine below_drewN ?_ _) | (with_reducible refine Below.drew ?_) | (with_reducible refine Below.setCell ?_ (by first | omega | (simp; done) | (simp; omega)) _) | (with_reducible refine Below.alloc ?_ (by first | omega | (simp; done) | (simp; omega)) _) | refine Below.trans ?_ (Below.mono (by with_reducible assumption) (by first | omega | (simp; done) | (simp; omega))))))
  · have hne : ((n : Int) != 6) = true := by rw [bne_iff_ne]; omega
    have HX : Hid (r = none) := Lib.hid (hr.symm.trans (linBy_few (by rw [hS.len]; exact h6)))
    clear hr
    go_wp2
    refine bodyPost_ret (v := .tuple #[.agg #[.slice none 0 0, .int .i64 0, .bool false], .bool false]) (by simp only [results, Tryd.results19]; go_simp) rfl ?_
    exact linBack_none HX.out rfl (by (repeat (first | with_reducible exact Below.refl _ _ | with_reducible assumption | (with_reducible refine below_drewN ?_ _) | (with_reducible refine Below.drew ?_) | (with_reducible refine Below.setCell ?_ (by first | omega | (simp; done) | (simp; omega)) _) | (with_reducible refine Below.alloc ?_ (by first | omega | (simp; done) | (simp; omega)) _) | refine Below.trans ?_ (Below.mono (by with_reducible assumption) (by first | omega | (simp; done) | (simp; omega))))))
end Go.Proofs.YtkbohgabifpceaaDoor

/- Texts are cut. -/
import Derived.Test.YtkbohgabifpceaaDoorRd
import Derived.Laws.OwnMore
import Derived.Deep.AppendLies
import Derived.Deep.Draws
import Derived.Laws.Rows
namespace Go.Proofs.YtkbohgabifpceaaDoor
set_option maxRecDepth 100000
open Go.RowKit Go.ChangeShapes Go.WideShapes Go.ChangeAt
set_option linter.unusedSimpArgs false
set_option linter.unusedVariables false

/-- The slice value '.slice A n c' reads as these texts. -/
structure Strs (w : World) (A : Option Addr) (n : Nat) (ps : List (List UInt8)) : Prop where
  len : ps.length = n
  cells : 0 < n → ∃ b o, A = some ⟨b, o, none⟩ ∧ b < w.heap.size ∧ ∀ j, j < n → w.cell? ⟨b, o + j, none⟩ = some (.string (strB (ps.getD j [])))
theorem Strs.later {w w' : World} {A : Option Addr} {n : Nat} {ps : List (List UInt8)} (h : Strs w A n ps) (hb : Below w.heap.size w w') : Strs w' A n ps :=
  ⟨h.len, fun hn => by
    obtain ⟨b, o, e, hl, hc⟩ := h.cells hn
    exact ⟨b, o, e, Nat.lt_of_lt_of_le hl hb.size, fun j hj => (hb.cell (p := ⟨b, o + j, none⟩) hl).trans (hc j hj)⟩⟩
def strVals (ps : List (List UInt8)) : List Value := ps.map fun p => Value.string (strB p)
/-- Texts that are being appended. -/
structure StrG (w : World) (B : Nat) (v : Value) (k : Nat) (ps : List (List UInt8)) : Prop where
  own : w.ownsRow B 9 1 v k (strVals ps)
theorem StrG.later {w w' : World} {B : Nat} {v : Value} {k : Nat} {ps : List (List UInt8)} (h : StrG w B v k ps) (hb : Below w.heap.size w w') : StrG w' B v k ps :=
  ⟨h.own.kept (row := none) ⟨hb.os, hb.tape, hb.output, hb.size, fun i hi _ => hb.block i hi⟩ (by cases hv : v.ownBlock <;> simp)⟩
theorem StrG.len {w : World} {B : Nat} {v : Value} {k : Nat} {ps : List (List UInt8)} (h : StrG w B v k ps) : ps.length = k := by have := h.own.1; simpa [strVals] using this
theorem StrG.form {w : World} {B : Nat} {v : Value} {k : Nat} {ps : List (List UInt8)} (h : StrG w B v k ps) : ∃ A c, v = .slice A k c := by
  rcases h.own.2 with ⟨rfl, rfl⟩ | ⟨g, cap, _, rfl, _⟩
  · exact ⟨none, 0, rfl⟩
  · exact ⟨some ⟨g, 0, none⟩, cap, rfl⟩
theorem StrG.empty {W : World} {E B : Nat} (hE : W.heap.size = E) (hb : B ≤ E) : StrG (W.alloc (.cells #[] 9)) B (.slice (some ⟨E, 0, none⟩) 0 0) 0 [] := by
  subst hE
  exact ⟨World.ownsRow_lit W #[] 0 hb (by simp) rfl⟩
theorem StrG.strs {w : World} {B : Nat} {A : Option Addr} {n c k : Nat} {ps : List (List UInt8)} (h : StrG w B (.slice A n c) k ps) : Strs w A k ps := by
  refine ⟨h.len, fun hn => ?_⟩
  obtain ⟨g, cap, e, _⟩ := h.own.form hn
  simp only [Value.slice.injEq] at e
  obtain ⟨rfl, rfl, rfl⟩ := e
  refine ⟨g, 0, rfl, (h.own.lt g rfl).2, fun j hj => ?_⟩
  have hl := h.len
  rw [Nat.zero_add, h.own.cellAt j (by omega)]
  unfold strVals
  rw [List.getElem?_map, List.getElem?_eq_getElem (show j < ps.length by omega), List.getD_eq_getElem?_getD, List.getElem?_eq_getElem (show j < ps.length by omega)]
  rfl
theorem string_info : (Tryd.prog.info? 9).map (fun i => (i.zero, i.size, i.bytes)) = some (some (.string ⟨#[]⟩), 1, 16) := by kernel_rfl
theorem str_news {W : World} {E : Nat} {v : Value} {t : TypeId} (hE : W.heap.size = E) : ∀ j u, [v][j]? = some u → (W.alloc (.cells #[v] t)).cell? ((⟨E, 0, none⟩ : Addr).add j) = some u := by
  subst hE
  exact World.news_of_block (cs := #[v]) (t := t) (fr := (0, 0)) (heap_alloc_new _ _)

set_option maxRecDepth 100000 in
set_option maxHeartbeats 2000000 in
theorem l16Cut_any (s : ByteArray) (hs : s.size ≤ 1048576) (cb : UInt8) {z : Int} (hz : z = (cb.toNat : Int)) (w : World) :
    Calls Tryd.prog 56 #[.string s, .int .u8 z] w fun e w' => ∃ A n c, e = .returned (.slice A n c) ∧ Strs w' A n (cutL cb s.data.toList) ∧ Below w.heap.size w w' := by
  subst hz
  have HL := Lib.hid (len_bytes s)
  obtain ⟨i0, hi, zi0, zi1, zi2⟩ := info_parts string_info
  go_enter Tryd.func56, Tryd.ntmps56
  go_wp2_with fail
  go_loopw [5, 6, 7] (fun v f i wr => ∃ (k fr : Nat) (ps : List (List UInt8)) (v0 : Value), i = .int .i64 k ∧ f = .int .i64 fr ∧ v0 = v ∧ StrG wr w.heap.size v0 ps.length ps ∧ ps.length ≤ k ∧ Below w.heap.size w wr ∧ ((k ≤ s.size ∧ fr ≤ k ∧ Hid (ps ++ cutFrom cb (s.data.toList.drop k) ((s.data.toList.drop fr).take (k - fr)) = cutL cb s.data.toList)) ∨ (k = s.size + 1 ∧ Hid (ps = cutL cb s.data.toList)))) (fun _ _ i _ => s.size + 1 - (intOf i).toNat)
  case atStart => exact ⟨0, 0, [], _, rfl, rfl, rfl, StrG.empty rfl (Nat.le_refl _), by simp, by (repeat (first | with_reducible exact Below.refl _ _ | with_reducible assumption | (with_reducible refine below_drewN ?_ _) | (with_reducible refine Below.drew ?_) | (with_reducible refine Below.setCell ?_ (by first | omega | (simp; done) | (simp; omega)) _) | (with_reducible refine Below.alloc ?_ (by first | omega | (simp; done) | (simp; omega)) _) | refine Below.trans ?_ (Below.mono (by with_reducible assumption) (by first | omega | (simp; done) | (simp; omega))))), .inl ⟨by omega, by omega, Lib.hid (by simp [cutL])⟩⟩
  case round =>
    obtain ⟨k, fr, ps, v0, rfl, rfl, rfl, hrow, hpl, hb, hst⟩ := hrel
    have hsz := hb.size
    rcases hst with ⟨hk, hfr, HI⟩ | ⟨rfl, HE⟩
    · by_cases hlt : k < s.size
      · have ek := at_bytes s hlt
        have hdrop : s.data.toList.drop k = s[k] :: s.data.toList.drop (k + 1) := by
          rw [← ek, List.getD_eq_getElem?_getD, List.getElem?_eq_getElem (show k < s.data.toList.length by rw [HL.out]; exact hlt)]
          exact List.drop_eq_getElem_cons _
        have g0 : ((k : Int) == (s.size : Int)) = false := by rw [beq_eq_false_iff_ne]; omega
        by_cases hc : s[k].toNat = cb.toNat
        · have hc1 : ((s[k].toNat : Int) == (cb.toNat : Int)) = true := by rw [beq_iff_eq]; omega
          have HN : Hid ((ps ++ [(s.data.toList.drop fr).take (k - fr)]) ++ cutFrom cb (s.data.toList.drop (k + 1)) ((s.data.toList.drop (k + 1)).take (k + 1 - (k + 1))) = cutL cb s.data.toList) := Lib.hid (by
            rw [← HI.out, hdrop, cutFrom, if_pos hc, Nat.sub_self, List.take_zero, List.append_assoc]
            rfl)
          clear ek hdrop
          go_wp2_with (first | (at_builtin; refine wpList_append_lies _ (by rfl) (.tmp 26) (.tmp 31) _ (by rfl) w.heap.size 9 i0 _ 1 16 Tryd.underlying73 hi zi0 zi1 zi2 rfl (by omega) v0 ps.length _ (by rfl) (StrG.later hrow (by (repeat (first | with_reducible exact Below.refl _ _ | with_reducible assumption | (with_reducible refine below_drewN ?_ _) | (with_reducible refine Below.drew ?_) | (with_reducible refine Below.setCell ?_ (by first | omega | (simp; done) | (simp; omega)) _) | (with_reducible refine Below.alloc ?_ (by first | omega | (simp; done) | (simp; omega)) _) | refine Below.trans ?_ (Below.mono (by with_reducible assumption) (by first | omega | (simp; done) | (simp; omega))))))).own ⟨wr.heap.size, 0, none⟩ 1 1 [.string (s.extract fr k)] (by rfl) (by rfl) (str_news (by first | omega | (simp; done) | (simp; omega))) (by simp [Value.oneCell']) (by omega) (by unfold maxLen; omega) (by omega) (by first | omega | (simp; done) | (simp; omega)) (wr.heap.size + 1) (by simp) ?_; intro g' cap' wq hown3 hgrow hat hlt2; have hrowN : StrG wq w.heap.size (.slice (some ⟨g', 0, none⟩) (ps.length + 1) cap') (ps.length + 1) (ps ++ [(s.data.toList.drop fr).take (k - fr)]) := (by refine ⟨?_⟩; have e9 : strVals (ps ++ [(s.data.toList.drop fr).take (k - fr)]) = strVals ps ++ [.string (s.extract fr k)] := (by unfold strVals; rw [List.map_append, ← extract_bytes]; rfl); rw [e9]; exact hown3); have hbN : Below w.heap.size w wq := Below.grown (by (repeat (first | with_reducible exact Below.refl _ _ | with_reducible assumption | (with_reducible refine below_drewN ?_ _) | (with_reducible refine Below.drew ?_) | (with_reducible refine Below.setCell ?_ (by first | omega | (simp; done) | (simp; omega)) _) | (with_reducible refine Below.alloc ?_ (by first | omega | (simp; done) | (simp; omega)) _) | refine Below.trans ?_ (Below.mono (by with_reducible assumption) (by first | omega | (simp; done) | (simp; omega)))))) hgrow (by first | omega | (simp; done) | (simp; omega)) (fun j hj => (hrow.own.lt j hj).1); clear hown3 hgrow hat hlt2))
          go_roundw
          case rel => exact ⟨k + 1, k + 1, _, _, by go_num, by go_num, rfl, (by rw [List.length_append]; exact hrowN), by simp; omega, hbN, .inl ⟨by omega, by omega, HN⟩⟩
          case measure => first | (simp [intOf]; done) | (simp [intOf]; omega)
        · have hc1 : ((s[k].toNat : Int) == (cb.toNat : Int)) = false := by rw [beq_eq_false_iff_ne]; omega
          have HN : Hid (ps ++ cutFrom cb (s.data.toList.drop (k + 1)) ((s.data.toList.drop fr).take (k + 1 - fr)) = cutL cb s.data.toList) := Lib.hid (by
            rw [← HI.out, hdrop, cutFrom, if_neg hc, show k + 1 - fr = (k - fr) + 1 by omega, List.take_add_one, List.getElem?_drop, show fr + (k - fr) = k by omega, List.getElem?_eq_getElem (show k < s.data.toList.length by rw [HL.out]; exact hlt)]
            rfl)
          clear ek hdrop
          go_wp2_with fail
          go_roundw
          case rel => exact ⟨k + 1, fr, ps, _, by go_num, rfl, rfl, hrow, by omega, hb, .inl ⟨by omega, by omega, HN⟩⟩
          case measure => first | (simp [intOf]; done) | (simp [intOf]; omega)
      · obtain rfl : k = s.size := by omega
        have g0 : ((s.size : Int) == (s.size : Int)) = true := by simp
        have HN : Hid (ps ++ [(s.data.toList.drop fr).take (s.size - fr)] = cutL cb s.data.toList) := Lib.hid (by
          have hd0 : s.data.toList.drop s.size = [] := List.drop_of_length_le (by rw [HL.out]; exact Nat.le_refl _)
          rw [← HI.out, hd0, cutFrom])
        go_wp2_with (first | (at_builtin; refine wpList_append_lies _ (by rfl) (.tmp 26) (.tmp 31) _ (by rfl) w.heap.size 9 i0 _ 1 16 Tryd.underlying73 hi zi0 zi1 zi2 rfl (by omega) v0 ps.length _ (by rfl) (StrG.later hrow (by (repeat (first | with_reducible exact Below.refl _ _ | with_reducible assumption | (with_reducible refine below_drewN ?_ _) | (with_reducible refine Below.drew ?_) | (with_reducible refine Below.setCell ?_ (by first | omega | (simp; done) | (simp; omega)) _) | (with_reducible refine Below.alloc ?_ (by first | omega | (simp; done) | (simp; omega)) _) | refine Below.trans ?_ (Below.mono (by with_reducible assumption) (by first | omega | (simp; done) | (simp; omega))))))).own ⟨wr.heap.size, 0, none⟩ 1 1 [.string (s.extract fr s.size)] (by rfl) (by rfl) (str_news (by first | omega | (simp; done) | (simp; omega))) (by simp [Value.oneCell']) (by omega) (by unfold maxLen; omega) (by omega) (by first | omega | (simp; done) | (simp; omega)) (wr.heap.size + 1) (by simp) ?_; intro g' cap' wq hown3 hgrow hat hlt2; have hrowN : StrG wq w.heap.size (.slice (some ⟨g', 0, none⟩) (ps.length + 1) cap') (ps.length + 1) (ps ++ [(s.data.toList.drop fr).take (s.size - fr)]) := (by refine ⟨?_⟩; have e9 : strVals (ps ++ [(s.data.toList.drop fr).take (s.size - fr)]) = strVals ps ++ [.string (s.extract fr s.size)] := (by unfold strVals; rw [List.map_append, ← extract_bytes]; rfl); rw [e9]; exact hown3); have hbN : Below w.heap.size w wq := Below.grown (by (repeat (first | with_reducible exact Below.refl _ _ | with_reducible assumption | (with_reducible refine below_drewN ?_ _) | (with_reducible refine Below.drew ?_) | (with_reducible refine Below.setCell ?_ (by first | omega | (simp; done) | (simp; omega)) _) | (with_reducible refine Below.alloc ?_ (by first | omega | (simp; done) | (simp; omega)) _) | refine Below.trans ?_ (Below.mono (by with_reducible assumption) (by first | omega | (simp; done) | (simp; omega)))))) hgrow (by first | omega | (simp; done) | (simp; omega)) (fun j hj => (hrow.own.lt j hj).1); clear hown3 hgrow hat hlt2))
        go_roundw
        case rel => exact ⟨s.size + 1, s.size + 1, _, _, by go_num, by go_num, rfl, (by rw [List.length_append]; exact hrowN), by simp; omega, hbN, .inr ⟨rfl, HN⟩⟩
        case measure => first | (simp [intOf]; done) | (simp [intOf]; omega)
    · have g0 : decide (((s.size + 1 : Nat) : Int) ≤ (s.size : Int)) = false := by rw [decide_eq_false_iff_not]; omega
      obtain ⟨Av, cv, rfl⟩ := hrow.form
      go_wp2_with fail
      go_ret
      exact ⟨_, _, _, rfl, HE.out ▸ hrow.strs, hb⟩
end Go.Proofs.YtkbohgabifpceaaDoor

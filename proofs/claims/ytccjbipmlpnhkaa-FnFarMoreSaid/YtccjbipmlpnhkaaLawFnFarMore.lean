/- 'laws.FnFarMore': for every input the call returns true and leaves its arguments as they were. No condition. -/
import Derived.Test.YtccjbipmlpnhkaaPl
import Derived.Test.YtccjbipmlpnhkaaDu
import Derived.Test.YtccjbipmlpnhkaaDs
import Derived.Test.YtccjbipmlpnhkaaT2
import Derived.Test.YtccjbipmlpnhkaaWn
import Derived.Test.YtccjbipmlpnhkaaFr
import Derived.Test.YtccjbipmlpnhkaaWo
import Derived.Test.YtccjbipmlpnhkaaL
namespace Go.Proofs.Ytccjbipmlpnhkaa
set_option maxRecDepth 100000
open Go.ChangeShapes Go.WideShapes Go.ChangeAt Go.RowKit
set_option linter.unusedSimpArgs false
set_option linter.unusedVariables false

theorem runI {A : Option Addr} {n c : Nat} {ls : List LinV} {r : FarRes} (hr : Hid (farRun ls = r)) {w : World} (h : Lins w A n ls) :
    Calls Try.prog 15 #[.slice A n c] w fun e w' => ∃ A n c B m d, e = .returned (.tuple #[.slice A n c, .slice B m d, .int .i64 r.code]) ∧ Rats w' A n r.vals ∧ Below w.heap.size w w' := by
  refine (iFarRun_any h).mono fun e w' hb => ?_
  rw [hr.out] at hb
  obtain ⟨A, n, c, B, m, d, he, ⟨hV, _⟩, _, _, _, hb⟩ := run_all_kinds hb
  exact ⟨A, n, c, B, m, d, he, hV, hb⟩
theorem runS {A : Option Addr} {n c : Nat} {ls : List LinV} {r : FarRes} (hr : Hid (farRun ls = r)) {w : World} (h : Lins w A n ls) :
    Calls Try.prog 19 #[.slice A n c] w fun e w' => ∃ A n c B m d, e = .returned (.tuple #[.slice A n c, .slice B m d, .int .i64 r.code]) ∧ Below w.heap.size w w' := by
  refine (sFarRun_any h).mono fun e w' hb => ?_
  rw [hr.out] at hb
  obtain ⟨A, n, c, B, m, d, he, _, _, _, _, hb⟩ := run_all_kinds hb
  exact ⟨A, n, c, B, m, d, he, hb⟩
/-- numbers that meet all and one more: nothing follows of all these -/
theorem more_no {ls : List LinV} {l : LinV} {vs : List (Int × Int)} (hv : farRun ls = .yes vs) (h : linAt l.1 l.2.1 l.2.2 vs = (true, true)) : ((farRun (ls ++ [l])).code == 1) = false := by
  cases hr : farRun (ls ++ [l]) with
  | form => rfl
  | much => rfl
  | yes vs => rfl
  | no ts =>
    exfalso
    refine never_both (vs := vs) (fun x hx => ?_) (run_no' hr)
    rcases List.mem_append.1 hx with hx | hx
    · exact (farAll_iff.1 (run_yes' hv)).1 x hx
    · rw [List.mem_singleton.1 hx]; exact h
/-- the cells of a list, as a list -/
def cellsAt (w : World) (p o m : Nat) : List Value := (List.range m).map fun j => (w.cell? ⟨p, o + j, none⟩).getD (.bool false)
theorem cellsAt_len (w : World) (p o m : Nat) : (cellsAt w p o m).length = m := by simp [cellsAt]
theorem cellsAt_get {w : World} {p o m j : Nat} {v : Value} (hj : j < m) (h : w.cell? ⟨p, o + j, none⟩ = some v) : (cellsAt w p o m)[j]? = some v := by
  unfold cellsAt
  rw [List.getElem?_map, List.getElem?_range hj]
  show some ((w.cell? ⟨p, o + j, none⟩).getD _) = some v
  rw [h]; rfl
/-- each of the first n lies in its three cells -/
def Cells3 (w : World) (p o n : Nat) (ls : List LinV) : Prop := ∀ k, k < n → ∃ A m c, Ints w A m (ls.getD k lin0).1 ∧ w.cell? ⟨p, o + k * 3, none⟩ = some (.slice A m c) ∧ w.cell? ⟨p, o + k * 3 + 1, none⟩ = some (.int .i64 (ls.getD k lin0).2.1) ∧ w.cell? ⟨p, o + k * 3 + 2, none⟩ = some (.bool (ls.getD k lin0).2.2)
theorem three_of {j n : Nat} (h : j < n * 3) : ∃ k, k < n ∧ (j = k * 3 ∨ j = k * 3 + 1 ∨ j = k * 3 + 2) := ⟨j / 3, by omega, by omega⟩
theorem Cells3.news {w w' : World} {p o n : Nat} {ls : List LinV} (h : Cells3 w p o n ls) (hp : p < w.heap.size) (hb : Below w.heap.size w w') :
    ∀ j u, (cellsAt w p o (n * 3))[j]? = some u → w'.cell? ((⟨p, o, none⟩ : Addr).add j) = some u := fun j u hu => by
  have hadd : (⟨p, o, none⟩ : Addr).add j = ⟨p, o + j, none⟩ := by unfold Addr.add; split <;> simp_all
  have hj : j < n * 3 := by
    rcases Nat.lt_or_ge j (n * 3) with hj | hj
    · exact hj
    · rw [List.getElem?_eq_none (by rw [cellsAt_len]; exact hj)] at hu; cases hu
  obtain ⟨v, hv⟩ : ∃ v, w.cell? ⟨p, o + j, none⟩ = some v := by
    obtain ⟨k, hk, e⟩ := three_of hj
    obtain ⟨A, m, c, _, h0, h1, h2⟩ := h k hk
    rcases e with rfl | rfl | rfl
    · exact ⟨_, h0⟩
    · exact ⟨_, h1⟩
    · exact ⟨_, h2⟩
  rw [cellsAt_get hj hv] at hu
  rw [hadd, (hb.cell (p := ⟨p, o + j, none⟩) hp).trans hv, ← hu]
theorem Cells3.one {w : World} {p o n : Nat} {ls : List LinV} (h : Cells3 w p o n ls) : ∀ u ∈ cellsAt w p o (n * 3), u.oneCell' = true := fun u hu => by
  obtain ⟨j, hu⟩ := List.mem_iff_getElem?.1 hu
  have hj := (List.getElem?_eq_some_iff.1 hu).1
  rw [cellsAt_len] at hj
  obtain ⟨k, hk, e⟩ := three_of hj
  obtain ⟨A, m, c, _, h0, h1, h2⟩ := h k hk
  rcases e with rfl | rfl | rfl
  · rw [cellsAt_get hj h0] at hu; injection hu with hu; rw [← hu]; rfl
  · rw [cellsAt_get hj h1] at hu; injection hu with hu; rw [← hu]; rfl
  · rw [cellsAt_get hj h2] at hu; injection hu with hu; rw [← hu]; rfl
theorem Cells3.z {w w' : World} {p o n E : Nat} {ls : List LinV} (h : Cells3 w p o n ls) (hb : Below w.heap.size w w') (hE : w.heap.size ≤ E) : ∀ j, j < n → LinZ w' 0 (some E) (cellsAt w p o (n * 3)) j (ls.getD j lin0) := fun j hj => by
  obtain ⟨A, m, c, hI, h0, h1, h2⟩ := h j hj
  exact ⟨A, m, c, ⟨hI.later hb, Off.lower hI hE, fun _ _ _ => Nat.zero_le _⟩, cellsAt_get (by omega) h0, cellsAt_get (by omega) h1, cellsAt_get (by omega) h2⟩
theorem keep3 {w w' : World} {B : Nat} {v0 v1 v2 : Value} (h : w.cell? ⟨B, 0, none⟩ = some v0 ∧ w.cell? ⟨B, 1, none⟩ = some v1 ∧ w.cell? ⟨B, 2, none⟩ = some v2) (hb : Below w.heap.size w w') :
    w'.cell? ⟨B, 0, none⟩ = some v0 ∧ w'.cell? ⟨B, 1, none⟩ = some v1 ∧ w'.cell? ⟨B, 2, none⟩ = some v2 :=
  ⟨(hb.cell (World.block_lt_of_cell? _ _ h.1)).trans h.1, (hb.cell (World.block_lt_of_cell? _ _ h.2.1)).trans h.2.1, (hb.cell (World.block_lt_of_cell? _ _ h.2.2)).trans h.2.2⟩
theorem news3_kept {W w w' : World} {E : Nat} {a b c : Value} {t : TypeId} {row : Option Nat} (hE : W.heap.size = E) (hb : Below (W.alloc (.cells #[a, b, c] t)).heap.size (W.alloc (.cells #[a, b, c] t)) w) (hg : w.grownBy w' row) (hr : row ≠ some E) :
    ∀ j u, [a, b, c][j]? = some u → w'.cell? ((⟨E, 0, none⟩ : Addr).add j) = some u := fun j u hu => by
  have hadd : (⟨E, 0, none⟩ : Addr).add j = ⟨E, j, none⟩ := by unfold Addr.add; split <;> simp_all
  have h := news3 (t := t) hE j u hu
  have hlt : E < (W.alloc (.cells #[a, b, c] t)).heap.size := by subst hE; simp
  rw [hadd] at h ⊢
  have h2 := (hb.cell (p := ⟨E, j, none⟩) hlt).trans h
  exact (World.cell?_of_block (w := w) (a := ⟨E, j, none⟩) (hg.block E (Nat.lt_of_lt_of_le hlt hb.size) (fun e => hr e.symm))).trans h2
theorem add_block (a : Addr) (j : Nat) : (a.add j).block = a.block := by unfold Addr.add; split <;> rfl
set_option maxRecDepth 100000 in
theorem fnFarMore_long {A : Option Addr} {cap : Nat} {bs : List UInt8} {w : World} (hl : ¬ bs.length ≤ 1048576) :
    Calls Try.prog 8 #[.slice A bs.length cap] w fun e w' => e = .returned (.bool true) ∧ Below w.heap.size w w' := by
  go_enter Try.func8, Try.ntmps8
  go_wp2
  go_ret
  exact ⟨rfl, Below.refl _ _⟩
set_option maxRecDepth 100000 in
set_option maxHeartbeats 8000000 in
theorem fnFarMore_walk {A : Option Addr} {cap : Nat} {bs : List UInt8} {w : World} (h : Code8 w A cap bs) :
    Calls Try.prog 8 #[.slice A bs.length cap] w fun e w' => e = .returned (.bool true) ∧ Below w.heap.size w w' := by
  by_cases hl0 : ¬ bs.length ≤ 1048576
  · exact fnFarMore_long hl0
  have hl : bs.length ≤ 1048576 := by omega
  go_enter Try.func8, Try.ntmps8
  go_wp2_with fail
  refine (DrawFarRun_any h hl).mono ?_
  rintro e w1 ⟨ls, A1, n, c, rfl, ⟨hL, hn⟩, hb1⟩
  have hz1 := hb1.size
  have hB1 : Below w.heap.size w w1 := hb1
  clear hb1
  obtain ⟨r, hr⟩ : ∃ r, farRun ls = r := ⟨_, rfl⟩
  have HR := Lib.hid hr
  clear hr
  go_wp2_with fail
  refine (DrawLinAt_any (h.later (by (repeat (first | with_reducible exact Below.refl _ _ | with_reducible assumption | (with_reducible refine below_drewN ?_ _) | (with_reducible refine Below.drew ?_) | (with_reducible refine Below.setCell ?_ (by first | omega | (simp; done) | (simp; omega)) _) | (with_reducible refine Below.alloc ?_ (by first | omega | (simp; done) | (simp; omega)) _) | refine Below.trans ?_ (Below.mono (by with_reducible assumption) (by first | omega | (simp; done) | (simp; omega))))))) hl).mono ?_
  rintro e w2 ⟨xs, b, s, q, o, m, c2, vs, q3, o3, n3, c3, rfl, ⟨hI, hm, hJb⟩, _, hb1⟩
  have hz1 := hb1.size; (try simp at hz1); have hB1 : Below w.heap.size w w2 := (by refine Below.trans ?_ (Below.mono hb1 (by first | omega | (simp; done) | (simp; omega))); (repeat (first | with_reducible exact Below.refl _ _ | with_reducible assumption | (with_reducible refine below_drewN ?_ _) | (with_reducible refine Below.drew ?_) | (with_reducible refine Below.setCell ?_ (by first | omega | (simp; done) | (simp; omega)) _) | (with_reducible refine Below.alloc ?_ (by first | omega | (simp; done) | (simp; omega)) _) | refine Below.trans ?_ (Below.mono (by with_reducible assumption) (by first | omega | (simp; done) | (simp; omega)))))); (replace hL : Lins _ A1 n ls := Lins.later (by (repeat (first | with_reducible exact hL | (with_reducible refine Lins.alloc ?_ _) | (with_reducible refine Lins.drewN ?_ _) | (with_reducible refine Lins.drew ?_)))) hb1); clear hb1
  go_wp2_with fail
  refine (runI HR (by (repeat (first | with_reducible exact hL | (with_reducible refine Lins.alloc ?_ _) | (with_reducible refine Lins.drewN ?_ _) | (with_reducible refine Lins.drew ?_))))).mono ?_
  rintro e w3 ⟨A4, n4, c4, B4, m4, d4, rfl, hV, hb1⟩
  have hz1 := hb1.size; (try simp at hz1); have hB1 : Below w.heap.size w w3 := (by refine Below.trans ?_ (Below.mono hb1 (by first | omega | (simp; done) | (simp; omega))); (repeat (first | with_reducible exact Below.refl _ _ | with_reducible assumption | (with_reducible refine below_drewN ?_ _) | (with_reducible refine Below.drew ?_) | (with_reducible refine Below.setCell ?_ (by first | omega | (simp; done) | (simp; omega)) _) | (with_reducible refine Below.alloc ?_ (by first | omega | (simp; done) | (simp; omega)) _) | refine Below.trans ?_ (Below.mono (by with_reducible assumption) (by first | omega | (simp; done) | (simp; omega)))))); (replace hL : Lins _ A1 n ls := Lins.later (by (repeat (first | with_reducible exact hL | (with_reducible refine Lins.alloc ?_ _) | (with_reducible refine Lins.drewN ?_ _) | (with_reducible refine Lins.drew ?_)))) hb1; obtain ⟨kc_, fc_, lc_⟩ := keep_later (a := ⟨w2.heap.size, 0, none⟩) (v := .slice (some ⟨q, o, none⟩) m c2) hb1 (by go_simp) (by go_simp); obtain ⟨kc_, fc_, lc_⟩ := keep_later (a := ⟨w2.heap.size, 1, none⟩) (v := .int .i64 b) hb1 (by go_simp) (by go_simp); obtain ⟨kc_, fc_, lc_⟩ := keep_later (a := ⟨w2.heap.size, 2, none⟩) (v := .bool s) hb1 (by go_simp) (by go_simp); replace hI : Ints _ (some ⟨q, o, none⟩) m xs := Ints.later (by (repeat (first | with_reducible exact hI | (with_reducible refine Ints.far ?_ (by first | omega | (simp; done) | (simp; omega)) _) | (with_reducible refine Ints.alloc ?_ _) | (with_reducible refine Ints.drewN ?_ _) | (with_reducible refine Ints.drew ?_)))) hb1); clear hb1
  go_wp2_with fail
  refine (runS HR (by (repeat (first | with_reducible exact hL | (with_reducible refine Lins.alloc ?_ _) | (with_reducible refine Lins.drewN ?_ _) | (with_reducible refine Lins.drew ?_))))).mono ?_
  rintro e w4 ⟨A5, n5, c5, B5, m5, d5, rfl, hb1⟩
  have hz1 := hb1.size; (try simp at hz1); have hB1 : Below w.heap.size w w4 := (by refine Below.trans ?_ (Below.mono hb1 (by first | omega | (simp; done) | (simp; omega))); (repeat (first | with_reducible exact Below.refl _ _ | with_reducible assumption | (with_reducible refine below_drewN ?_ _) | (with_reducible refine Below.drew ?_) | (with_reducible refine Below.setCell ?_ (by first | omega | (simp; done) | (simp; omega)) _) | (with_reducible refine Below.alloc ?_ (by first | omega | (simp; done) | (simp; omega)) _) | refine Below.trans ?_ (Below.mono (by with_reducible assumption) (by first | omega | (simp; done) | (simp; omega)))))); (replace hL : Lins _ A1 n ls := Lins.later (by (repeat (first | with_reducible exact hL | (with_reducible refine Lins.alloc ?_ _) | (with_reducible refine Lins.drewN ?_ _) | (with_reducible refine Lins.drew ?_)))) hb1; obtain ⟨kc_, fc_, lc_⟩ := keep_later (a := ⟨w2.heap.size, 0, none⟩) (v := .slice (some ⟨q, o, none⟩) m c2) hb1 (by go_simp) (by go_simp); obtain ⟨kc_, fc_, lc_⟩ := keep_later (a := ⟨w2.heap.size, 1, none⟩) (v := .int .i64 b) hb1 (by go_simp) (by go_simp); obtain ⟨kc_, fc_, lc_⟩ := keep_later (a := ⟨w2.heap.size, 2, none⟩) (v := .bool s) hb1 (by go_simp) (by go_simp); replace hI : Ints _ (some ⟨q, o, none⟩) m xs := Ints.later (by (repeat (first | with_reducible exact hI | (with_reducible refine Ints.far ?_ (by first | omega | (simp; done) | (simp; omega)) _) | (with_reducible refine Ints.alloc ?_ _) | (with_reducible refine Ints.drewN ?_ _) | (with_reducible refine Ints.drew ?_)))) hb1; replace hV : Rats _ A4 n4 r.vals := Rats.later (by (repeat (first | with_reducible exact hV | (with_reducible refine Rats.far ?_ (by first | omega | (simp; done) | (simp; omega)) _) | (with_reducible refine Rats.alloc ?_ _) | (with_reducible refine Rats.drewN ?_ _) | (with_reducible refine Rats.drew ?_)))) hb1); clear hb1
  generalize hcode : r.code = code at *
  cases r with
  | form =>
    obtain rfl : 3 = code := hcode
    go_wp2
    go_ret
    exact ⟨rfl, by (repeat (first | with_reducible exact Below.refl _ _ | with_reducible assumption | (with_reducible refine below_drewN ?_ _) | (with_reducible refine Below.drew ?_) | (with_reducible refine Below.setCell ?_ (by first | omega | (simp; done) | (simp; omega)) _) | (with_reducible refine Below.alloc ?_ (by first | omega | (simp; done) | (simp; omega)) _) | refine Below.trans ?_ (Below.mono (by with_reducible assumption) (by first | omega | (simp; done) | (simp; omega)))))⟩
  | much =>
    obtain rfl : 2 = code := hcode
    go_wp2
    go_ret
    exact ⟨rfl, by (repeat (first | with_reducible exact Below.refl _ _ | with_reducible assumption | (with_reducible refine below_drewN ?_ _) | (with_reducible refine Below.drew ?_) | (with_reducible refine Below.setCell ?_ (by first | omega | (simp; done) | (simp; omega)) _) | (with_reducible refine Below.alloc ?_ (by first | omega | (simp; done) | (simp; omega)) _) | refine Below.trans ?_ (Below.mono (by with_reducible assumption) (by first | omega | (simp; done) | (simp; omega)))))⟩
  | no ts =>
    obtain rfl : 1 = code := hcode
    go_wp2
    go_ret
    exact ⟨rfl, by (repeat (first | with_reducible exact Below.refl _ _ | with_reducible assumption | (with_reducible refine below_drewN ?_ _) | (with_reducible refine Below.drew ?_) | (with_reducible refine Below.setCell ?_ (by first | omega | (simp; done) | (simp; omega)) _) | (with_reducible refine Below.alloc ?_ (by first | omega | (simp; done) | (simp; omega)) _) | refine Below.trans ?_ (Below.mono (by with_reducible assumption) (by first | omega | (simp; done) | (simp; omega)))))⟩
  | yes vs' =>
    obtain rfl : 0 = code := hcode
    obtain ⟨so, ok, hla⟩ : ∃ so ok, linAt xs b s vs' = (so, ok) := ⟨_, _, rfl⟩
    have hV : Rats _ A4 n4 vs' := hV
    have hLa : linAt xs b s vs' = (so, ok) → so = true → ok = true → ((farRun (ls ++ [(xs, b, s)])).code == 1) = false := fun h h1 h2 => more_no HR.out (by subst h1 h2; exact h)
    obtain ⟨r2, hr2⟩ : ∃ r2, farRun (ls ++ [(xs, b, s)]) = r2 := ⟨_, rfl⟩
    have HM : Hid (so = true → ok = true → (r2.code == 1) = false) := Lib.hid (by rw [← hr2]; exact hLa hla)
    have HR2 := Lib.hid hr2
    clear hLa hr2
    go_wp2_with fail
    refine (iLinAt_any (xs := xs) (vs := vs') b s (by (repeat (first | with_reducible exact hI | (with_reducible refine Ints.far ?_ (by first | omega | (simp; done) | (simp; omega)) _) | (with_reducible refine Ints.alloc ?_ _) | (with_reducible refine Ints.drewN ?_ _) | (with_reducible refine Ints.drew ?_)))) (by (repeat (first | with_reducible exact hV | (with_reducible refine Rats.far ?_ (by first | omega | (simp; done) | (simp; omega)) _) | (with_reducible refine Rats.alloc ?_ _) | (with_reducible refine Rats.drewN ?_ _) | (with_reducible refine Rats.drew ?_))))).mono ?_
    rintro e w5 ⟨rfl, hb1⟩
    have hz1 := hb1.size; (try simp at hz1); have hB1 : Below w.heap.size w w5 := (by refine Below.trans ?_ (Below.mono hb1 (by first | omega | (simp; done) | (simp; omega))); (repeat (first | with_reducible exact Below.refl _ _ | with_reducible assumption | (with_reducible refine below_drewN ?_ _) | (with_reducible refine Below.drew ?_) | (with_reducible refine Below.setCell ?_ (by first | omega | (simp; done) | (simp; omega)) _) | (with_reducible refine Below.alloc ?_ (by first | omega | (simp; done) | (simp; omega)) _) | refine Below.trans ?_ (Below.mono (by with_reducible assumption) (by first | omega | (simp; done) | (simp; omega)))))); (replace hL : Lins _ A1 n ls := Lins.later (by (repeat (first | with_reducible exact hL | (with_reducible refine Lins.alloc ?_ _) | (with_reducible refine Lins.drewN ?_ _) | (with_reducible refine Lins.drew ?_)))) hb1; obtain ⟨kc_, fc_, lc_⟩ := keep_later (a := ⟨w2.heap.size, 0, none⟩) (v := .slice (some ⟨q, o, none⟩) m c2) hb1 (by go_simp) (by go_simp); obtain ⟨kc_, fc_, lc_⟩ := keep_later (a := ⟨w2.heap.size, 1, none⟩) (v := .int .i64 b) hb1 (by go_simp) (by go_simp); obtain ⟨kc_, fc_, lc_⟩ := keep_later (a := ⟨w2.heap.size, 2, none⟩) (v := .bool s) hb1 (by go_simp) (by go_simp); replace hI : Ints _ (some ⟨q, o, none⟩) m xs := Ints.later (by (repeat (first | with_reducible exact hI | (with_reducible refine Ints.far ?_ (by first | omega | (simp; done) | (simp; omega)) _) | (with_reducible refine Ints.alloc ?_ _) | (with_reducible refine Ints.drewN ?_ _) | (with_reducible refine Ints.drew ?_)))) hb1); clear hb1
    rw [hla]
    obtain ⟨j0, hj, yj0, yj1, yj2⟩ := info_parts lin_info3
    have hC3 : w5.cell? ⟨w2.heap.size, 0, none⟩ = some (.slice (some ⟨q, o, none⟩) m c2) ∧ w5.cell? ⟨w2.heap.size, 1, none⟩ = some (.int .i64 b) ∧ w5.cell? ⟨w2.heap.size, 2, none⟩ = some (.bool s) := ⟨by assumption, by assumption, by assumption⟩
    rcases Nat.eq_zero_or_pos n with hn0 | hnp
    · subst hn0
      obtain rfl : ls = [] := List.eq_nil_of_length_eq_zero hL.len
      cases A1
      · go_wp2_with fail
        refine wp_region_T2 13 (fun w' => w'.cell? ⟨w2.heap.size, 0, none⟩ = some (.slice (some ⟨q, o, none⟩) m c2) ∧ w'.cell? ⟨w2.heap.size, 1, none⟩ = some (.int .i64 b) ∧ w'.cell? ⟨w2.heap.size, 2, none⟩ = some (.bool s)) (by kernel_rfl) (by kernel_rfl) ?_ (fun hHeld => ?_)
        · exact hC3
        (refine wpAnyT_take (i := 1) (v := ?_) (by simp only [List.getElem?_toArray, List.getElem?_cons_succ, List.getElem?_cons_zero]; rfl) (by kernel_rfl) (by kernel_rfl) (by kernel_rfl) (by kernel_rfl) (by intro _ _ _ h; exact h) (Or.inl ⟨by rfl, ?_⟩) (by assumption) ?_; rotate_left; (focus (intro wS hSw; (try dsimp only at hSw); go_simp; (try with_reducible rfl))); (try simp only [Act.put, List.setIfInBounds_toArray, List.set_cons_zero, List.set_cons_succ]))
        (refine wpAnyT_take (i := 3) (v := ?_) (by simp only [List.getElem?_toArray, List.getElem?_cons_succ, List.getElem?_cons_zero]; rfl) (by kernel_rfl) (by kernel_rfl) (by kernel_rfl) (by kernel_rfl) (by intro _ _ _ h; exact h) (Or.inl ⟨by rfl, ?_⟩) (by assumption) ?_; rotate_left; (focus (intro wS hSw; (try dsimp only at hSw); go_simp; (try with_reducible rfl))); (try simp only [Act.put, List.setIfInBounds_toArray, List.set_cons_zero, List.set_cons_succ]))
        refine wpAnyT_ready (rs := [0, 4]) (by kernel_rfl) (by kernel_rfl) ?_
        refine AllReadyT.cons (by simp only [List.getElem?_toArray, List.getElem?_cons_succ, List.getElem?_cons_zero]; rfl) (fun K hK => ?_) (AllReadyT.cons (by simp only [List.getElem?_toArray, List.getElem?_cons_succ, List.getElem?_cons_zero]; rfl) (fun K hK => ?_) AllReadyT.nil)
        · go_simp
          refine hK.out _ _ ?_ (fun hHeld => ?_)
          · exact keep3 hC3 (by (repeat (first | with_reducible exact Below.refl _ _ | with_reducible assumption | (with_reducible refine below_drewN ?_ _) | (with_reducible refine Below.drew ?_) | (with_reducible refine Below.setCell ?_ (by first | omega | (simp; done) | (simp; omega)) _) | (with_reducible refine Below.alloc ?_ (by first | omega | (simp; done) | (simp; omega)) _) | refine Below.trans ?_ (Below.mono (by with_reducible assumption) (by first | omega | (simp; done) | (simp; omega))))))
          clear hK K
          (try simp only [Act.put, List.setIfInBounds_toArray, List.set_cons_zero, List.set_cons_succ])
          have hrow1 : LinG (w5.alloc (.cells #[] 34)) 0 (.slice (some ⟨w5.heap.size, 0, none⟩) 0 0) 0 [] [] := LinG.empty (by simp) (Nat.zero_le _)
          have hg1 : w5.heap.size ≤ w5.heap.size := Nat.le_refl _
          refine wpAnyT_ready (rs := [2, 4]) (by kernel_rfl) (by kernel_rfl) ?_
          refine AllReadyT.cons (by simp only [List.getElem?_toArray, List.getElem?_cons_succ, List.getElem?_cons_zero]; rfl) (fun K hK => ?_) (AllReadyT.cons (by simp only [List.getElem?_toArray, List.getElem?_cons_succ, List.getElem?_cons_zero]; rfl) (fun K hK => ?_) AllReadyT.nil)
          · go_simp
            refine hK.out _ _ ?_ (fun hHeld => ?_)
            · exact keep3 hC3 (by (repeat (first | with_reducible exact Below.refl _ _ | with_reducible assumption | (with_reducible refine below_drewN ?_ _) | (with_reducible refine Below.drew ?_) | (with_reducible refine Below.setCell ?_ (by first | omega | (simp; done) | (simp; omega)) _) | (with_reducible refine Below.alloc ?_ (by first | omega | (simp; done) | (simp; omega)) _) | refine Below.trans ?_ (Below.mono (by with_reducible assumption) (by first | omega | (simp; done) | (simp; omega))))))
            clear hK K
            (try simp only [Act.put, List.setIfInBounds_toArray, List.set_cons_zero, List.set_cons_succ])
            refine wpAnyT_ready (rs := [4]) (by kernel_rfl) (by kernel_rfl) ?_
            refine AllReadyT.cons (by simp only [List.getElem?_toArray, List.getElem?_cons_succ, List.getElem?_cons_zero]; rfl) (fun K hK => ?_) AllReadyT.nil
            go_simp
            refine hK.out _ _ ?_ (fun hHeld => ?_)
            · (try dsimp only)
              exact keep3 hC3 (by (repeat (first | with_reducible exact Below.refl _ _ | with_reducible assumption | (with_reducible refine below_drewN ?_ _) | (with_reducible refine Below.drew ?_) | (with_reducible refine Below.setCell ?_ (by first | omega | (simp; done) | (simp; omega)) _) | (with_reducible refine Below.alloc ?_ (by first | omega | (simp; done) | (simp; omega)) _) | refine Below.trans ?_ (Below.mono (by with_reducible assumption) (by first | omega | (simp; done) | (simp; omega))))))
            clear hK K
            (try simp only [Act.put, List.setIfInBounds_toArray, List.set_cons_zero, List.set_cons_succ])
            have hnew := news3 (W := w5.drew.alloc (.cells #[] 34)) (E := w5.heap.size + 1) (a := .slice (some ⟨q, o, none⟩) m c2) (b := .int .i64 b) (c := .bool s) (t := 34) (by simp)
            refine wpAnyT_ready (rs := [5]) (by kernel_rfl) (by kernel_rfl) ?_
            refine AllReadyT.cons (by simp only [List.getElem?_toArray, List.getElem?_cons_succ, List.getElem?_cons_zero]; rfl) (fun K hK => ?_) AllReadyT.nil
            ((refine step_append_lies _ (by rfl) (.tmp 58) (.tmp 60) _ (by rfl) 0 34 j0 _ 3 40 Try.underlying23 hj yj0 yj1 yj2 rfl (by omega) (.slice (some ⟨w5.heap.size, 0, none⟩) 0 0) 0 _ (by rfl) (LinG.later hrow1 (by (repeat (first | with_reducible exact Below.refl _ _ | with_reducible assumption | (with_reducible refine below_drewN ?_ _) | (with_reducible refine Below.drew ?_) | (with_reducible refine Below.setCell ?_ (by first | omega | (simp; done) | (simp; omega)) _) | (with_reducible refine Below.alloc ?_ (by first | omega | (simp; done) | (simp; omega)) _) | refine Below.trans ?_ (Below.mono (by with_reducible assumption) (by first | omega | (simp; done) | (simp; omega))))))).own ⟨w5.heap.size + 1, 0, none⟩ 1 1 [.slice (some ⟨q, o, none⟩) m c2, .int .i64 b, .bool s] (by rfl) (by rfl) hnew (by simp [Value.oneCell']) (by omega) (by unfold maxLen; omega) (by omega) (Nat.zero_le _) _ rfl ?_); intro g2 cap2 wp hown2 hgrow2 hat2 hlt2; have hrow2 := (LinG.later hrow1 (by (repeat (first | with_reducible exact Below.refl _ _ | with_reducible assumption | (with_reducible refine below_drewN ?_ _) | (with_reducible refine Below.drew ?_) | (with_reducible refine Below.setCell ?_ (by first | omega | (simp; done) | (simp; omega)) _) | (with_reducible refine Below.alloc ?_ (by first | omega | (simp; done) | (simp; omega)) _) | refine Below.trans ?_ (Below.mono (by with_reducible assumption) (by first | omega | (simp; done) | (simp; omega))))))).snoc (x := (xs, b, s)) hown2 hgrow2 hat2 rfl (Ints.later hI (by (repeat (first | with_reducible exact Below.refl _ _ | with_reducible assumption | (with_reducible refine below_drewN ?_ _) | (with_reducible refine Below.drew ?_) | (with_reducible refine Below.setCell ?_ (by first | omega | (simp; done) | (simp; omega)) _) | (with_reducible refine Below.alloc ?_ (by first | omega | (simp; done) | (simp; omega)) _) | refine Below.trans ?_ (Below.mono (by with_reducible assumption) (by first | omega | (simp; done) | (simp; omega))))))) (Off.lower hI hg1) (fresh_at (Nat.zero_le _)); have hL6 := hrow2.lins (by omega); have hBp : Below w5.heap.size w5 wp := Below.grown (by (repeat (first | with_reducible exact Below.refl _ _ | with_reducible assumption | (with_reducible refine below_drewN ?_ _) | (with_reducible refine Below.drew ?_) | (with_reducible refine Below.setCell ?_ (by first | omega | (simp; done) | (simp; omega)) _) | (with_reducible refine Below.alloc ?_ (by first | omega | (simp; done) | (simp; omega)) _) | refine Below.trans ?_ (Below.mono (by with_reducible assumption) (by first | omega | (simp; done) | (simp; omega)))))) hgrow2 (by first | omega | (simp; done) | (simp; omega)) (fun j hj => by injection hj with hj; (try dsimp only at hj); omega); have hzp := hgrow2.size; (try simp at hzp); clear hown2 hgrow2 hat2 hlt2 hrow2)
            refine hK.out _ _ ?_ (fun hHeld => ?_)
            · (try dsimp only)
              exact keep3 hC3 (by (repeat (first | with_reducible exact Below.refl _ _ | with_reducible assumption | (with_reducible refine below_drewN ?_ _) | (with_reducible refine Below.drew ?_) | (with_reducible refine Below.setCell ?_ (by first | omega | (simp; done) | (simp; omega)) _) | (with_reducible refine Below.alloc ?_ (by first | omega | (simp; done) | (simp; omega)) _) | refine Below.trans ?_ (Below.mono (by with_reducible assumption) (by first | omega | (simp; done) | (simp; omega))))))
            clear hK K
            (try simp only [Act.put, List.setIfInBounds_toArray, List.set_cons_zero, List.set_cons_succ])
            refine wpAnyT_ready (rs := [6]) (by kernel_rfl) (by kernel_rfl) ?_
            refine AllReadyT.cons (by simp only [List.getElem?_toArray, List.getElem?_cons_succ, List.getElem?_cons_zero]; rfl) (fun K hK => ?_) AllReadyT.nil
            (go_simp; (refine (runI HR2 hL6).mono ?_); rintro e w8 ⟨A8, n8, c8, B8, m8, d8, rfl, _, hb1⟩; have hB8 : Below w5.heap.size w5 w8 := Below.trans hBp (hb1.mono (by first | omega | (simp; done) | (simp; omega))); clear hb1)
            refine hK.out _ _ ?_ (fun hHeld => ?_)
            · (try dsimp only)
              exact keep3 hC3 (by (repeat (first | with_reducible exact Below.refl _ _ | with_reducible assumption | (with_reducible refine below_drewN ?_ _) | (with_reducible refine Below.drew ?_) | (with_reducible refine Below.setCell ?_ (by first | omega | (simp; done) | (simp; omega)) _) | (with_reducible refine Below.alloc ?_ (by first | omega | (simp; done) | (simp; omega)) _) | refine Below.trans ?_ (Below.mono (by with_reducible assumption) (by first | omega | (simp; done) | (simp; omega))))))
            clear hK K
            (try simp only [Act.put, List.setIfInBounds_toArray, List.set_cons_zero, List.set_cons_succ])
            (refine wpAnyT_take (i := 7) (v := ?_) (by simp only [List.getElem?_toArray, List.getElem?_cons_succ, List.getElem?_cons_zero]; rfl) (by kernel_rfl) (by kernel_rfl) (by kernel_rfl) (by kernel_rfl) (by intro _ _ _ h; exact h) (Or.inl ⟨by rfl, ?_⟩) (by assumption) ?_; rotate_left; (focus (intro wS hSw; (try dsimp only at hSw); go_simp; (try with_reducible rfl))); (try simp only [Act.put, List.setIfInBounds_toArray, List.set_cons_zero, List.set_cons_succ]))
            (refine wpAnyT_take (i := 8) (v := ?_) (by simp only [List.getElem?_toArray, List.getElem?_cons_succ, List.getElem?_cons_zero]; rfl) (by kernel_rfl) (by kernel_rfl) (by kernel_rfl) (by kernel_rfl) (by intro _ _ _ h; exact h) (Or.inl ⟨by rfl, ?_⟩) (by assumption) ?_; rotate_left; (focus (intro wS hSw; (try dsimp only at hSw); go_simp; (try with_reducible rfl))); (try simp only [Act.put, List.setIfInBounds_toArray, List.set_cons_zero, List.set_cons_succ]))
            (refine wpAnyT_take (i := 9) (v := ?_) (by simp only [List.getElem?_toArray, List.getElem?_cons_succ, List.getElem?_cons_zero]; rfl) (by kernel_rfl) (by kernel_rfl) (by kernel_rfl) (by kernel_rfl) (by intro _ _ _ h; exact h) (Or.inl ⟨by rfl, ?_⟩) (by assumption) ?_; rotate_left; (focus (intro wS hSw; (try dsimp only at hSw); go_simp; (try with_reducible rfl))); (try simp only [Act.put, List.setIfInBounds_toArray, List.set_cons_zero, List.set_cons_succ]))
            (refine wpAnyT_take (i := 10) (v := ?_) (by simp only [List.getElem?_toArray, List.getElem?_cons_succ, List.getElem?_cons_zero]; rfl) (by kernel_rfl) (by kernel_rfl) (by kernel_rfl) (by kernel_rfl) (by intro _ _ _ h; exact h) (Or.inl ⟨by rfl, ?_⟩) (by assumption) ?_; rotate_left; (focus (intro wS hSw; (try dsimp only at hSw); go_simp; (try with_reducible rfl))); (try simp only [Act.put, List.setIfInBounds_toArray, List.set_cons_zero, List.set_cons_succ]))
            (refine wpAnyT_take (i := 11) (v := ?_) (by simp only [List.getElem?_toArray, List.getElem?_cons_succ, List.getElem?_cons_zero]; rfl) (by kernel_rfl) (by kernel_rfl) (by kernel_rfl) (by kernel_rfl) (by intro _ _ _ h; exact h) (Or.inl ⟨by rfl, ?_⟩) (by assumption) ?_; rotate_left; (focus (intro wS hSw; (try dsimp only at hSw); go_simp; (try with_reducible rfl))); (try simp only [Act.put, List.setIfInBounds_toArray, List.set_cons_zero, List.set_cons_succ]))
            (refine wpAnyT_take (i := 12) (v := ?_) (by simp only [List.getElem?_toArray, List.getElem?_cons_succ, List.getElem?_cons_zero]; rfl) (by kernel_rfl) (by kernel_rfl) (by kernel_rfl) (by kernel_rfl) (by intro _ _ _ h; exact h) (Or.inl ⟨by rfl, ?_⟩) (by assumption) ?_; rotate_left; (focus (intro wS hSw; (try dsimp only at hSw); go_simp; (try with_reducible rfl))); (try simp only [Act.put, List.setIfInBounds_toArray, List.set_cons_zero, List.set_cons_succ]))
            refine wpAnyT_done (by kernel_rfl) ?_
            simp only [List.drop_succ_cons, List.drop_zero]
            have hBz : Below w.heap.size w w8 := Below.trans hB1 (hB8.mono (by omega))
            cases ok
            · go_wp2
              go_ret
              exact ⟨rfl, hBz⟩
            cases so
            · go_wp2
              go_ret
              exact ⟨rfl, hBz⟩
            have hM := HM.out rfl rfl
            have hM2 : (r2.code != 1) = true := by unfold bne; rw [hM]; rfl
            generalize r2.code = code2 at *
            go_wp2
            go_ret
            exact ⟨rfl, hBz⟩
          · go_simp
            refine hK.out _ _ ?_ (fun hHeld => ?_)
            · exact keep3 hC3 (by (repeat (first | with_reducible exact Below.refl _ _ | with_reducible assumption | (with_reducible refine below_drewN ?_ _) | (with_reducible refine Below.drew ?_) | (with_reducible refine Below.setCell ?_ (by first | omega | (simp; done) | (simp; omega)) _) | (with_reducible refine Below.alloc ?_ (by first | omega | (simp; done) | (simp; omega)) _) | refine Below.trans ?_ (Below.mono (by with_reducible assumption) (by first | omega | (simp; done) | (simp; omega))))))
            clear hK K
            (try simp only [Act.put, List.setIfInBounds_toArray, List.set_cons_zero, List.set_cons_succ])
            refine wpAnyT_ready (rs := [2]) (by kernel_rfl) (by kernel_rfl) ?_
            refine AllReadyT.cons (by simp only [List.getElem?_toArray, List.getElem?_cons_succ, List.getElem?_cons_zero]; rfl) (fun K hK => ?_) AllReadyT.nil
            go_simp
            refine hK.out _ _ ?_ (fun hHeld => ?_)
            · (try dsimp only)
              exact keep3 hC3 (by (repeat (first | with_reducible exact Below.refl _ _ | with_reducible assumption | (with_reducible refine below_drewN ?_ _) | (with_reducible refine Below.drew ?_) | (with_reducible refine Below.setCell ?_ (by first | omega | (simp; done) | (simp; omega)) _) | (with_reducible refine Below.alloc ?_ (by first | omega | (simp; done) | (simp; omega)) _) | refine Below.trans ?_ (Below.mono (by with_reducible assumption) (by first | omega | (simp; done) | (simp; omega))))))
            clear hK K
            (try simp only [Act.put, List.setIfInBounds_toArray, List.set_cons_zero, List.set_cons_succ])
            have hnew := news3 (W := w5.drew.alloc (.cells #[] 34)) (E := w5.heap.size + 1) (a := .slice (some ⟨q, o, none⟩) m c2) (b := .int .i64 b) (c := .bool s) (t := 34) (by simp)
            refine wpAnyT_ready (rs := [5]) (by kernel_rfl) (by kernel_rfl) ?_
            refine AllReadyT.cons (by simp only [List.getElem?_toArray, List.getElem?_cons_succ, List.getElem?_cons_zero]; rfl) (fun K hK => ?_) AllReadyT.nil
            ((refine step_append_lies _ (by rfl) (.tmp 58) (.tmp 60) _ (by rfl) 0 34 j0 _ 3 40 Try.underlying23 hj yj0 yj1 yj2 rfl (by omega) (.slice (some ⟨w5.heap.size, 0, none⟩) 0 0) 0 _ (by rfl) (LinG.later hrow1 (by (repeat (first | with_reducible exact Below.refl _ _ | with_reducible assumption | (with_reducible refine below_drewN ?_ _) | (with_reducible refine Below.drew ?_) | (with_reducible refine Below.setCell ?_ (by first | omega | (simp; done) | (simp; omega)) _) | (with_reducible refine Below.alloc ?_ (by first | omega | (simp; done) | (simp; omega)) _) | refine Below.trans ?_ (Below.mono (by with_reducible assumption) (by first | omega | (simp; done) | (simp; omega))))))).own ⟨w5.heap.size + 1, 0, none⟩ 1 1 [.slice (some ⟨q, o, none⟩) m c2, .int .i64 b, .bool s] (by rfl) (by rfl) hnew (by simp [Value.oneCell']) (by omega) (by unfold maxLen; omega) (by omega) (Nat.zero_le _) _ rfl ?_); intro g2 cap2 wp hown2 hgrow2 hat2 hlt2; have hrow2 := (LinG.later hrow1 (by (repeat (first | with_reducible exact Below.refl _ _ | with_reducible assumption | (with_reducible refine below_drewN ?_ _) | (with_reducible refine Below.drew ?_) | (with_reducible refine Below.setCell ?_ (by first | omega | (simp; done) | (simp; omega)) _) | (with_reducible refine Below.alloc ?_ (by first | omega | (simp; done) | (simp; omega)) _) | refine Below.trans ?_ (Below.mono (by with_reducible assumption) (by first | omega | (simp; done) | (simp; omega))))))).snoc (x := (xs, b, s)) hown2 hgrow2 hat2 rfl (Ints.later hI (by (repeat (first | with_reducible exact Below.refl _ _ | with_reducible assumption | (with_reducible refine below_drewN ?_ _) | (with_reducible refine Below.drew ?_) | (with_reducible refine Below.setCell ?_ (by first | omega | (simp; done) | (simp; omega)) _) | (with_reducible refine Below.alloc ?_ (by first | omega | (simp; done) | (simp; omega)) _) | refine Below.trans ?_ (Below.mono (by with_reducible assumption) (by first | omega | (simp; done) | (simp; omega))))))) (Off.lower hI hg1) (fresh_at (Nat.zero_le _)); have hL6 := hrow2.lins (by omega); have hBp : Below w5.heap.size w5 wp := Below.grown (by (repeat (first | with_reducible exact Below.refl _ _ | with_reducible assumption | (with_reducible refine below_drewN ?_ _) | (with_reducible refine Below.drew ?_) | (with_reducible refine Below.setCell ?_ (by first | omega | (simp; done) | (simp; omega)) _) | (with_reducible refine Below.alloc ?_ (by first | omega | (simp; done) | (simp; omega)) _) | refine Below.trans ?_ (Below.mono (by with_reducible assumption) (by first | omega | (simp; done) | (simp; omega)))))) hgrow2 (by first | omega | (simp; done) | (simp; omega)) (fun j hj => by injection hj with hj; (try dsimp only at hj); omega); have hzp := hgrow2.size; (try simp at hzp); clear hown2 hgrow2 hat2 hlt2 hrow2)
            refine hK.out _ _ ?_ (fun hHeld => ?_)
            · (try dsimp only)
              exact keep3 hC3 (by (repeat (first | with_reducible exact Below.refl _ _ | with_reducible assumption | (with_reducible refine below_drewN ?_ _) | (with_reducible refine Below.drew ?_) | (with_reducible refine Below.setCell ?_ (by first | omega | (simp; done) | (simp; omega)) _) | (with_reducible refine Below.alloc ?_ (by first | omega | (simp; done) | (simp; omega)) _) | refine Below.trans ?_ (Below.mono (by with_reducible assumption) (by first | omega | (simp; done) | (simp; omega))))))
            clear hK K
            (try simp only [Act.put, List.setIfInBounds_toArray, List.set_cons_zero, List.set_cons_succ])
            refine wpAnyT_ready (rs := [6]) (by kernel_rfl) (by kernel_rfl) ?_
            refine AllReadyT.cons (by simp only [List.getElem?_toArray, List.getElem?_cons_succ, List.getElem?_cons_zero]; rfl) (fun K hK => ?_) AllReadyT.nil
            (go_simp; (refine (runI HR2 hL6).mono ?_); rintro e w8 ⟨A8, n8, c8, B8, m8, d8, rfl, _, hb1⟩; have hB8 : Below w5.heap.size w5 w8 := Below.trans hBp (hb1.mono (by first | omega | (simp; done) | (simp; omega))); clear hb1)
            refine hK.out _ _ ?_ (fun hHeld => ?_)
            · (try dsimp only)
              exact keep3 hC3 (by (repeat (first | with_reducible exact Below.refl _ _ | with_reducible assumption | (with_reducible refine below_drewN ?_ _) | (with_reducible refine Below.drew ?_) | (with_reducible refine Below.setCell ?_ (by first | omega | (simp; done) | (simp; omega)) _) | (with_reducible refine Below.alloc ?_ (by first | omega | (simp; done) | (simp; omega)) _) | refine Below.trans ?_ (Below.mono (by with_reducible assumption) (by first | omega | (simp; done) | (simp; omega))))))
            clear hK K
            (try simp only [Act.put, List.setIfInBounds_toArray, List.set_cons_zero, List.set_cons_succ])
            (refine wpAnyT_take (i := 7) (v := ?_) (by simp only [List.getElem?_toArray, List.getElem?_cons_succ, List.getElem?_cons_zero]; rfl) (by kernel_rfl) (by kernel_rfl) (by kernel_rfl) (by kernel_rfl) (by intro _ _ _ h; exact h) (Or.inl ⟨by rfl, ?_⟩) (by assumption) ?_; rotate_left; (focus (intro wS hSw; (try dsimp only at hSw); go_simp; (try with_reducible rfl))); (try simp only [Act.put, List.setIfInBounds_toArray, List.set_cons_zero, List.set_cons_succ]))
            (refine wpAnyT_take (i := 8) (v := ?_) (by simp only [List.getElem?_toArray, List.getElem?_cons_succ, List.getElem?_cons_zero]; rfl) (by kernel_rfl) (by kernel_rfl) (by kernel_rfl) (by kernel_rfl) (by intro _ _ _ h; exact h) (Or.inl ⟨by rfl, ?_⟩) (by assumption) ?_; rotate_left; (focus (intro wS hSw; (try dsimp only at hSw); go_simp; (try with_reducible rfl))); (try simp only [Act.put, List.setIfInBounds_toArray, List.set_cons_zero, List.set_cons_succ]))
            (refine wpAnyT_take (i := 9) (v := ?_) (by simp only [List.getElem?_toArray, List.getElem?_cons_succ, List.getElem?_cons_zero]; rfl) (by kernel_rfl) (by kernel_rfl) (by kernel_rfl) (by kernel_rfl) (by intro _ _ _ h; exact h) (Or.inl ⟨by rfl, ?_⟩) (by assumption) ?_; rotate_left; (focus (intro wS hSw; (try dsimp only at hSw); go_simp; (try with_reducible rfl))); (try simp only [Act.put, List.setIfInBounds_toArray, List.set_cons_zero, List.set_cons_succ]))
            (refine wpAnyT_take (i := 10) (v := ?_) (by simp only [List.getElem?_toArray, List.getElem?_cons_succ, List.getElem?_cons_zero]; rfl) (by kernel_rfl) (by kernel_rfl) (by kernel_rfl) (by kernel_rfl) (by intro _ _ _ h; exact h) (Or.inl ⟨by rfl, ?_⟩) (by assumption) ?_; rotate_left; (focus (intro wS hSw; (try dsimp only at hSw); go_simp; (try with_reducible rfl))); (try simp only [Act.put, List.setIfInBounds_toArray, List.set_cons_zero, List.set_cons_succ]))
            (refine wpAnyT_take (i := 11) (v := ?_) (by simp only [List.getElem?_toArray, List.getElem?_cons_succ, List.getElem?_cons_zero]; rfl) (by kernel_rfl) (by kernel_rfl) (by kernel_rfl) (by kernel_rfl) (by intro _ _ _ h; exact h) (Or.inl ⟨by rfl, ?_⟩) (by assumption) ?_; rotate_left; (focus (intro wS hSw; (try dsimp only at hSw); go_simp; (try with_reducible rfl))); (try simp only [Act.put, List.setIfInBounds_toArray, List.set_cons_zero, List.set_cons_succ]))
            (refine wpAnyT_take (i := 12) (v := ?_) (by simp only [List.getElem?_toArray, List.getElem?_cons_succ, List.getElem?_cons_zero]; rfl) (by kernel_rfl) (by kernel_rfl) (by kernel_rfl) (by kernel_rfl) (by intro _ _ _ h; exact h) (Or.inl ⟨by rfl, ?_⟩) (by assumption) ?_; rotate_left; (focus (intro wS hSw; (try dsimp only at hSw); go_simp; (try with_reducible rfl))); (try simp only [Act.put, List.setIfInBounds_toArray, List.set_cons_zero, List.set_cons_succ]))
            refine wpAnyT_done (by kernel_rfl) ?_
            simp only [List.drop_succ_cons, List.drop_zero]
            have hBz : Below w.heap.size w w8 := Below.trans hB1 (hB8.mono (by omega))
            cases ok
            · go_wp2
              go_ret
              exact ⟨rfl, hBz⟩
            cases so
            · go_wp2
              go_ret
              exact ⟨rfl, hBz⟩
            have hM := HM.out rfl rfl
            have hM2 : (r2.code != 1) = true := by unfold bne; rw [hM]; rfl
            generalize r2.code = code2 at *
            go_wp2
            go_ret
            exact ⟨rfl, hBz⟩
        · go_simp
          refine hK.out _ _ ?_ (fun hHeld => ?_)
          · exact keep3 hC3 (by (repeat (first | with_reducible exact Below.refl _ _ | with_reducible assumption | (with_reducible refine below_drewN ?_ _) | (with_reducible refine Below.drew ?_) | (with_reducible refine Below.setCell ?_ (by first | omega | (simp; done) | (simp; omega)) _) | (with_reducible refine Below.alloc ?_ (by first | omega | (simp; done) | (simp; omega)) _) | refine Below.trans ?_ (Below.mono (by with_reducible assumption) (by first | omega | (simp; done) | (simp; omega))))))
          clear hK K
          (try simp only [Act.put, List.setIfInBounds_toArray, List.set_cons_zero, List.set_cons_succ])
          refine wpAnyT_ready (rs := [0]) (by kernel_rfl) (by kernel_rfl) ?_
          refine AllReadyT.cons (by simp only [List.getElem?_toArray, List.getElem?_cons_succ, List.getElem?_cons_zero]; rfl) (fun K hK => ?_) AllReadyT.nil
          go_simp
          refine hK.out _ _ ?_ (fun hHeld => ?_)
          · (try dsimp only)
            exact keep3 hC3 (by (repeat (first | with_reducible exact Below.refl _ _ | with_reducible assumption | (with_reducible refine below_drewN ?_ _) | (with_reducible refine Below.drew ?_) | (with_reducible refine Below.setCell ?_ (by first | omega | (simp; done) | (simp; omega)) _) | (with_reducible refine Below.alloc ?_ (by first | omega | (simp; done) | (simp; omega)) _) | refine Below.trans ?_ (Below.mono (by with_reducible assumption) (by first | omega | (simp; done) | (simp; omega))))))
          clear hK K
          (try simp only [Act.put, List.setIfInBounds_toArray, List.set_cons_zero, List.set_cons_succ])
          have hrow1 : LinG ((w5.alloc (.cells #[.slice (some ⟨q, o, none⟩) m c2, .int .i64 b, .bool s] 34)).alloc (.cells #[] 34)) 0 (.slice (some ⟨w5.heap.size + 1, 0, none⟩) 0 0) 0 [] [] := LinG.empty (by simp) (Nat.zero_le _)
          have hg1 : w5.heap.size ≤ w5.heap.size + 1 := Nat.le_succ _
          refine wpAnyT_ready (rs := [2]) (by kernel_rfl) (by kernel_rfl) ?_
          refine AllReadyT.cons (by simp only [List.getElem?_toArray, List.getElem?_cons_succ, List.getElem?_cons_zero]; rfl) (fun K hK => ?_) AllReadyT.nil
          go_simp
          refine hK.out _ _ ?_ (fun hHeld => ?_)
          · (try dsimp only)
            exact keep3 hC3 (by (repeat (first | with_reducible exact Below.refl _ _ | with_reducible assumption | (with_reducible refine below_drewN ?_ _) | (with_reducible refine Below.drew ?_) | (with_reducible refine Below.setCell ?_ (by first | omega | (simp; done) | (simp; omega)) _) | (with_reducible refine Below.alloc ?_ (by first | omega | (simp; done) | (simp; omega)) _) | refine Below.trans ?_ (Below.mono (by with_reducible assumption) (by first | omega | (simp; done) | (simp; omega))))))
          clear hK K
          (try simp only [Act.put, List.setIfInBounds_toArray, List.set_cons_zero, List.set_cons_succ])
          have hnew0 := news3 (W := w5.drew) (E := w5.heap.size) (a := .slice (some ⟨q, o, none⟩) m c2) (b := .int .i64 b) (c := .bool s) (t := 34) (by simp)
          have hnew := fun j u hu => (((Below.refl ((w5.drew.alloc (.cells #[.slice (some ⟨q, o, none⟩) m c2, .int .i64 b, .bool s] 34))).heap.size _).alloc (Nat.le_refl _) (.cells #[] 34)).cell (p := (⟨w5.heap.size, 0, none⟩ : Addr).add j) (by rw [add_block]; simp)).trans (hnew0 j u hu)
          refine wpAnyT_ready (rs := [5]) (by kernel_rfl) (by kernel_rfl) ?_
          refine AllReadyT.cons (by simp only [List.getElem?_toArray, List.getElem?_cons_succ, List.getElem?_cons_zero]; rfl) (fun K hK => ?_) AllReadyT.nil
          ((refine step_append_lies _ (by rfl) (.tmp 58) (.tmp 60) _ (by rfl) 0 34 j0 _ 3 40 Try.underlying23 hj yj0 yj1 yj2 rfl (by omega) (.slice (some ⟨w5.heap.size + 1, 0, none⟩) 0 0) 0 _ (by rfl) (LinG.later hrow1 (by (repeat (first | with_reducible exact Below.refl _ _ | with_reducible assumption | (with_reducible refine below_drewN ?_ _) | (with_reducible refine Below.drew ?_) | (with_reducible refine Below.setCell ?_ (by first | omega | (simp; done) | (simp; omega)) _) | (with_reducible refine Below.alloc ?_ (by first | omega | (simp; done) | (simp; omega)) _) | refine Below.trans ?_ (Below.mono (by with_reducible assumption) (by first | omega | (simp; done) | (simp; omega))))))).own ⟨w5.heap.size, 0, none⟩ 1 1 [.slice (some ⟨q, o, none⟩) m c2, .int .i64 b, .bool s] (by rfl) (by rfl) hnew (by simp [Value.oneCell']) (by omega) (by unfold maxLen; omega) (by omega) (Nat.zero_le _) _ rfl ?_); intro g2 cap2 wp hown2 hgrow2 hat2 hlt2; have hrow2 := (LinG.later hrow1 (by (repeat (first | with_reducible exact Below.refl _ _ | with_reducible assumption | (with_reducible refine below_drewN ?_ _) | (with_reducible refine Below.drew ?_) | (with_reducible refine Below.setCell ?_ (by first | omega | (simp; done) | (simp; omega)) _) | (with_reducible refine Below.alloc ?_ (by first | omega | (simp; done) | (simp; omega)) _) | refine Below.trans ?_ (Below.mono (by with_reducible assumption) (by first | omega | (simp; done) | (simp; omega))))))).snoc (x := (xs, b, s)) hown2 hgrow2 hat2 rfl (Ints.later hI (by (repeat (first | with_reducible exact Below.refl _ _ | with_reducible assumption | (with_reducible refine below_drewN ?_ _) | (with_reducible refine Below.drew ?_) | (with_reducible refine Below.setCell ?_ (by first | omega | (simp; done) | (simp; omega)) _) | (with_reducible refine Below.alloc ?_ (by first | omega | (simp; done) | (simp; omega)) _) | refine Below.trans ?_ (Below.mono (by with_reducible assumption) (by first | omega | (simp; done) | (simp; omega))))))) (Off.lower hI hg1) (fresh_at (Nat.zero_le _)); have hL6 := hrow2.lins (by omega); have hBp : Below w5.heap.size w5 wp := Below.grown (by (repeat (first | with_reducible exact Below.refl _ _ | with_reducible assumption | (with_reducible refine below_drewN ?_ _) | (with_reducible refine Below.drew ?_) | (with_reducible refine Below.setCell ?_ (by first | omega | (simp; done) | (simp; omega)) _) | (with_reducible refine Below.alloc ?_ (by first | omega | (simp; done) | (simp; omega)) _) | refine Below.trans ?_ (Below.mono (by with_reducible assumption) (by first | omega | (simp; done) | (simp; omega)))))) hgrow2 (by first | omega | (simp; done) | (simp; omega)) (fun j hj => by injection hj with hj; (try dsimp only at hj); omega); have hzp := hgrow2.size; (try simp at hzp); clear hown2 hgrow2 hat2 hlt2 hrow2)
          refine hK.out _ _ ?_ (fun hHeld => ?_)
          · (try dsimp only)
            exact keep3 hC3 (by (repeat (first | with_reducible exact Below.refl _ _ | with_reducible assumption | (with_reducible refine below_drewN ?_ _) | (with_reducible refine Below.drew ?_) | (with_reducible refine Below.setCell ?_ (by first | omega | (simp; done) | (simp; omega)) _) | (with_reducible refine Below.alloc ?_ (by first | omega | (simp; done) | (simp; omega)) _) | refine Below.trans ?_ (Below.mono (by with_reducible assumption) (by first | omega | (simp; done) | (simp; omega))))))
          clear hK K
          (try simp only [Act.put, List.setIfInBounds_toArray, List.set_cons_zero, List.set_cons_succ])
          refine wpAnyT_ready (rs := [6]) (by kernel_rfl) (by kernel_rfl) ?_
          refine AllReadyT.cons (by simp only [List.getElem?_toArray, List.getElem?_cons_succ, List.getElem?_cons_zero]; rfl) (fun K hK => ?_) AllReadyT.nil
          (go_simp; (refine (runI HR2 hL6).mono ?_); rintro e w8 ⟨A8, n8, c8, B8, m8, d8, rfl, _, hb1⟩; have hB8 : Below w5.heap.size w5 w8 := Below.trans hBp (hb1.mono (by first | omega | (simp; done) | (simp; omega))); clear hb1)
          refine hK.out _ _ ?_ (fun hHeld => ?_)
          · (try dsimp only)
            exact keep3 hC3 (by (repeat (first | with_reducible exact Below.refl _ _ | with_reducible assumption | (with_reducible refine below_drewN ?_ _) | (with_reducible refine Below.drew ?_) | (with_reducible refine Below.setCell ?_ (by first | omega | (simp; done) | (simp; omega)) _) | (with_reducible refine Below.alloc ?_ (by first | omega | (simp; done) | (simp; omega)) _) | refine Below.trans ?_ (Below.mono (by with_reducible assumption) (by first | omega | (simp; done) | (simp; omega))))))
          clear hK K
          (try simp only [Act.put, List.setIfInBounds_toArray, List.set_cons_zero, List.set_cons_succ])
          (refine wpAnyT_take (i := 7) (v := ?_) (by simp only [List.getElem?_toArray, List.getElem?_cons_succ, List.getElem?_cons_zero]; rfl) (by kernel_rfl) (by kernel_rfl) (by kernel_rfl) (by kernel_rfl) (by intro _ _ _ h; exact h) (Or.inl ⟨by rfl, ?_⟩) (by assumption) ?_; rotate_left; (focus (intro wS hSw; (try dsimp only at hSw); go_simp; (try with_reducible rfl))); (try simp only [Act.put, List.setIfInBounds_toArray, List.set_cons_zero, List.set_cons_succ]))
          (refine wpAnyT_take (i := 8) (v := ?_) (by simp only [List.getElem?_toArray, List.getElem?_cons_succ, List.getElem?_cons_zero]; rfl) (by kernel_rfl) (by kernel_rfl) (by kernel_rfl) (by kernel_rfl) (by intro _ _ _ h; exact h) (Or.inl ⟨by rfl, ?_⟩) (by assumption) ?_; rotate_left; (focus (intro wS hSw; (try dsimp only at hSw); go_simp; (try with_reducible rfl))); (try simp only [Act.put, List.setIfInBounds_toArray, List.set_cons_zero, List.set_cons_succ]))
          (refine wpAnyT_take (i := 9) (v := ?_) (by simp only [List.getElem?_toArray, List.getElem?_cons_succ, List.getElem?_cons_zero]; rfl) (by kernel_rfl) (by kernel_rfl) (by kernel_rfl) (by kernel_rfl) (by intro _ _ _ h; exact h) (Or.inl ⟨by rfl, ?_⟩) (by assumption) ?_; rotate_left; (focus (intro wS hSw; (try dsimp only at hSw); go_simp; (try with_reducible rfl))); (try simp only [Act.put, List.setIfInBounds_toArray, List.set_cons_zero, List.set_cons_succ]))
          (refine wpAnyT_take (i := 10) (v := ?_) (by simp only [List.getElem?_toArray, List.getElem?_cons_succ, List.getElem?_cons_zero]; rfl) (by kernel_rfl) (by kernel_rfl) (by kernel_rfl) (by kernel_rfl) (by intro _ _ _ h; exact h) (Or.inl ⟨by rfl, ?_⟩) (by assumption) ?_; rotate_left; (focus (intro wS hSw; (try dsimp only at hSw); go_simp; (try with_reducible rfl))); (try simp only [Act.put, List.setIfInBounds_toArray, List.set_cons_zero, List.set_cons_succ]))
          (refine wpAnyT_take (i := 11) (v := ?_) (by simp only [List.getElem?_toArray, List.getElem?_cons_succ, List.getElem?_cons_zero]; rfl) (by kernel_rfl) (by kernel_rfl) (by kernel_rfl) (by kernel_rfl) (by intro _ _ _ h; exact h) (Or.inl ⟨by rfl, ?_⟩) (by assumption) ?_; rotate_left; (focus (intro wS hSw; (try dsimp only at hSw); go_simp; (try with_reducible rfl))); (try simp only [Act.put, List.setIfInBounds_toArray, List.set_cons_zero, List.set_cons_succ]))
          (refine wpAnyT_take (i := 12) (v := ?_) (by simp only [List.getElem?_toArray, List.getElem?_cons_succ, List.getElem?_cons_zero]; rfl) (by kernel_rfl) (by kernel_rfl) (by kernel_rfl) (by kernel_rfl) (by intro _ _ _ h; exact h) (Or.inl ⟨by rfl, ?_⟩) (by assumption) ?_; rotate_left; (focus (intro wS hSw; (try dsimp only at hSw); go_simp; (try with_reducible rfl))); (try simp only [Act.put, List.setIfInBounds_toArray, List.set_cons_zero, List.set_cons_succ]))
          refine wpAnyT_done (by kernel_rfl) ?_
          simp only [List.drop_succ_cons, List.drop_zero]
          have hBz : Below w.heap.size w w8 := Below.trans hB1 (hB8.mono (by omega))
          cases ok
          · go_wp2
            go_ret
            exact ⟨rfl, hBz⟩
          cases so
          · go_wp2
            go_ret
            exact ⟨rfl, hBz⟩
          have hM := HM.out rfl rfl
          have hM2 : (r2.code != 1) = true := by unfold bne; rw [hM]; rfl
          generalize r2.code = code2 at *
          go_wp2
          go_ret
          exact ⟨rfl, hBz⟩
      · go_wp2_with fail
        refine wp_region_T2 13 (fun w' => w'.cell? ⟨w2.heap.size, 0, none⟩ = some (.slice (some ⟨q, o, none⟩) m c2) ∧ w'.cell? ⟨w2.heap.size, 1, none⟩ = some (.int .i64 b) ∧ w'.cell? ⟨w2.heap.size, 2, none⟩ = some (.bool s)) (by kernel_rfl) (by kernel_rfl) ?_ (fun hHeld => ?_)
        · exact hC3
        (refine wpAnyT_take (i := 1) (v := ?_) (by simp only [List.getElem?_toArray, List.getElem?_cons_succ, List.getElem?_cons_zero]; rfl) (by kernel_rfl) (by kernel_rfl) (by kernel_rfl) (by kernel_rfl) (by intro _ _ _ h; exact h) (Or.inl ⟨by rfl, ?_⟩) (by assumption) ?_; rotate_left; (focus (intro wS hSw; (try dsimp only at hSw); go_simp; (try with_reducible rfl))); (try simp only [Act.put, List.setIfInBounds_toArray, List.set_cons_zero, List.set_cons_succ]))
        (refine wpAnyT_take (i := 3) (v := ?_) (by simp only [List.getElem?_toArray, List.getElem?_cons_succ, List.getElem?_cons_zero]; rfl) (by kernel_rfl) (by kernel_rfl) (by kernel_rfl) (by kernel_rfl) (by intro _ _ _ h; exact h) (Or.inl ⟨by rfl, ?_⟩) (by assumption) ?_; rotate_left; (focus (intro wS hSw; (try dsimp only at hSw); go_simp; (try with_reducible rfl))); (try simp only [Act.put, List.setIfInBounds_toArray, List.set_cons_zero, List.set_cons_succ]))
        refine wpAnyT_ready (rs := [0, 4]) (by kernel_rfl) (by kernel_rfl) ?_
        refine AllReadyT.cons (by simp only [List.getElem?_toArray, List.getElem?_cons_succ, List.getElem?_cons_zero]; rfl) (fun K hK => ?_) (AllReadyT.cons (by simp only [List.getElem?_toArray, List.getElem?_cons_succ, List.getElem?_cons_zero]; rfl) (fun K hK => ?_) AllReadyT.nil)
        · go_simp
          refine hK.out _ _ ?_ (fun hHeld => ?_)
          · exact keep3 hC3 (by (repeat (first | with_reducible exact Below.refl _ _ | with_reducible assumption | (with_reducible refine below_drewN ?_ _) | (with_reducible refine Below.drew ?_) | (with_reducible refine Below.setCell ?_ (by first | omega | (simp; done) | (simp; omega)) _) | (with_reducible refine Below.alloc ?_ (by first | omega | (simp; done) | (simp; omega)) _) | refine Below.trans ?_ (Below.mono (by with_reducible assumption) (by first | omega | (simp; done) | (simp; omega))))))
          clear hK K
          (try simp only [Act.put, List.setIfInBounds_toArray, List.set_cons_zero, List.set_cons_succ])
          have hrow1 : LinG (w5.alloc (.cells #[] 34)) 0 (.slice (some ⟨w5.heap.size, 0, none⟩) 0 0) 0 [] [] := LinG.empty (by simp) (Nat.zero_le _)
          have hg1 : w5.heap.size ≤ w5.heap.size := Nat.le_refl _
          refine wpAnyT_ready (rs := [2, 4]) (by kernel_rfl) (by kernel_rfl) ?_
          refine AllReadyT.cons (by simp only [List.getElem?_toArray, List.getElem?_cons_succ, List.getElem?_cons_zero]; rfl) (fun K hK => ?_) (AllReadyT.cons (by simp only [List.getElem?_toArray, List.getElem?_cons_succ, List.getElem?_cons_zero]; rfl) (fun K hK => ?_) AllReadyT.nil)
          · go_simp
            refine hK.out _ _ ?_ (fun hHeld => ?_)
            · exact keep3 hC3 (by (repeat (first | with_reducible exact Below.refl _ _ | with_reducible assumption | (with_reducible refine below_drewN ?_ _) | (with_reducible refine Below.drew ?_) | (with_reducible refine Below.setCell ?_ (by first | omega | (simp; done) | (simp; omega)) _) | (with_reducible refine Below.alloc ?_ (by first | omega | (simp; done) | (simp; omega)) _) | refine Below.trans ?_ (Below.mono (by with_reducible assumption) (by first | omega | (simp; done) | (simp; omega))))))
            clear hK K
            (try simp only [Act.put, List.setIfInBounds_toArray, List.set_cons_zero, List.set_cons_succ])
            refine wpAnyT_ready (rs := [4]) (by kernel_rfl) (by kernel_rfl) ?_
            refine AllReadyT.cons (by simp only [List.getElem?_toArray, List.getElem?_cons_succ, List.getElem?_cons_zero]; rfl) (fun K hK => ?_) AllReadyT.nil
            go_simp
            refine hK.out _ _ ?_ (fun hHeld => ?_)
            · (try dsimp only)
              exact keep3 hC3 (by (repeat (first | with_reducible exact Below.refl _ _ | with_reducible assumption | (with_reducible refine below_drewN ?_ _) | (with_reducible refine Below.drew ?_) | (with_reducible refine Below.setCell ?_ (by first | omega | (simp; done) | (simp; omega)) _) | (with_reducible refine Below.alloc ?_ (by first | omega | (simp; done) | (simp; omega)) _) | refine Below.trans ?_ (Below.mono (by with_reducible assumption) (by first | omega | (simp; done) | (simp; omega))))))
            clear hK K
            (try simp only [Act.put, List.setIfInBounds_toArray, List.set_cons_zero, List.set_cons_succ])
            have hnew := news3 (W := w5.drew.alloc (.cells #[] 34)) (E := w5.heap.size + 1) (a := .slice (some ⟨q, o, none⟩) m c2) (b := .int .i64 b) (c := .bool s) (t := 34) (by simp)
            refine wpAnyT_ready (rs := [5]) (by kernel_rfl) (by kernel_rfl) ?_
            refine AllReadyT.cons (by simp only [List.getElem?_toArray, List.getElem?_cons_succ, List.getElem?_cons_zero]; rfl) (fun K hK => ?_) AllReadyT.nil
            ((refine step_append_lies _ (by rfl) (.tmp 58) (.tmp 60) _ (by rfl) 0 34 j0 _ 3 40 Try.underlying23 hj yj0 yj1 yj2 rfl (by omega) (.slice (some ⟨w5.heap.size, 0, none⟩) 0 0) 0 _ (by rfl) (LinG.later hrow1 (by (repeat (first | with_reducible exact Below.refl _ _ | with_reducible assumption | (with_reducible refine below_drewN ?_ _) | (with_reducible refine Below.drew ?_) | (with_reducible refine Below.setCell ?_ (by first | omega | (simp; done) | (simp; omega)) _) | (with_reducible refine Below.alloc ?_ (by first | omega | (simp; done) | (simp; omega)) _) | refine Below.trans ?_ (Below.mono (by with_reducible assumption) (by first | omega | (simp; done) | (simp; omega))))))).own ⟨w5.heap.size + 1, 0, none⟩ 1 1 [.slice (some ⟨q, o, none⟩) m c2, .int .i64 b, .bool s] (by rfl) (by rfl) hnew (by simp [Value.oneCell']) (by omega) (by unfold maxLen; omega) (by omega) (Nat.zero_le _) _ rfl ?_); intro g2 cap2 wp hown2 hgrow2 hat2 hlt2; have hrow2 := (LinG.later hrow1 (by (repeat (first | with_reducible exact Below.refl _ _ | with_reducible assumption | (with_reducible refine below_drewN ?_ _) | (with_reducible refine Below.drew ?_) | (with_reducible refine Below.setCell ?_ (by first | omega | (simp; done) | (simp; omega)) _) | (with_reducible refine Below.alloc ?_ (by first | omega | (simp; done) | (simp; omega)) _) | refine Below.trans ?_ (Below.mono (by with_reducible assumption) (by first | omega | (simp; done) | (simp; omega))))))).snoc (x := (xs, b, s)) hown2 hgrow2 hat2 rfl (Ints.later hI (by (repeat (first | with_reducible exact Below.refl _ _ | with_reducible assumption | (with_reducible refine below_drewN ?_ _) | (with_reducible refine Below.drew ?_) | (with_reducible refine Below.setCell ?_ (by first | omega | (simp; done) | (simp; omega)) _) | (with_reducible refine Below.alloc ?_ (by first | omega | (simp; done) | (simp; omega)) _) | refine Below.trans ?_ (Below.mono (by with_reducible assumption) (by first | omega | (simp; done) | (simp; omega))))))) (Off.lower hI hg1) (fresh_at (Nat.zero_le _)); have hL6 := hrow2.lins (by omega); have hBp : Below w5.heap.size w5 wp := Below.grown (by (repeat (first | with_reducible exact Below.refl _ _ | with_reducible assumption | (with_reducible refine below_drewN ?_ _) | (with_reducible refine Below.drew ?_) | (with_reducible refine Below.setCell ?_ (by first | omega | (simp; done) | (simp; omega)) _) | (with_reducible refine Below.alloc ?_ (by first | omega | (simp; done) | (simp; omega)) _) | refine Below.trans ?_ (Below.mono (by with_reducible assumption) (by first | omega | (simp; done) | (simp; omega)))))) hgrow2 (by first | omega | (simp; done) | (simp; omega)) (fun j hj => by injection hj with hj; (try dsimp only at hj); omega); have hzp := hgrow2.size; (try simp at hzp); clear hown2 hgrow2 hat2 hlt2 hrow2)
            refine hK.out _ _ ?_ (fun hHeld => ?_)
            · (try dsimp only)
              exact keep3 hC3 (by (repeat (first | with_reducible exact Below.refl _ _ | with_reducible assumption | (with_reducible refine below_drewN ?_ _) | (with_reducible refine Below.drew ?_) | (with_reducible refine Below.setCell ?_ (by first | omega | (simp; done) | (simp; omega)) _) | (with_reducible refine Below.alloc ?_ (by first | omega | (simp; done) | (simp; omega)) _) | refine Below.trans ?_ (Below.mono (by with_reducible assumption) (by first | omega | (simp; done) | (simp; omega))))))
            clear hK K
            (try simp only [Act.put, List.setIfInBounds_toArray, List.set_cons_zero, List.set_cons_succ])
            refine wpAnyT_ready (rs := [6]) (by kernel_rfl) (by kernel_rfl) ?_
            refine AllReadyT.cons (by simp only [List.getElem?_toArray, List.getElem?_cons_succ, List.getElem?_cons_zero]; rfl) (fun K hK => ?_) AllReadyT.nil
            (go_simp; (refine (runI HR2 hL6).mono ?_); rintro e w8 ⟨A8, n8, c8, B8, m8, d8, rfl, _, hb1⟩; have hB8 : Below w5.heap.size w5 w8 := Below.trans hBp (hb1.mono (by first | omega | (simp; done) | (simp; omega))); clear hb1)
            refine hK.out _ _ ?_ (fun hHeld => ?_)
            · (try dsimp only)
              exact keep3 hC3 (by (repeat (first | with_reducible exact Below.refl _ _ | with_reducible assumption | (with_reducible refine below_drewN ?_ _) | (with_reducible refine Below.drew ?_) | (with_reducible refine Below.setCell ?_ (by first | omega | (simp; done) | (simp; omega)) _) | (with_reducible refine Below.alloc ?_ (by first | omega | (simp; done) | (simp; omega)) _) | refine Below.trans ?_ (Below.mono (by with_reducible assumption) (by first | omega | (simp; done) | (simp; omega))))))
            clear hK K
            (try simp only [Act.put, List.setIfInBounds_toArray, List.set_cons_zero, List.set_cons_succ])
            (refine wpAnyT_take (i := 7) (v := ?_) (by simp only [List.getElem?_toArray, List.getElem?_cons_succ, List.getElem?_cons_zero]; rfl) (by kernel_rfl) (by kernel_rfl) (by kernel_rfl) (by kernel_rfl) (by intro _ _ _ h; exact h) (Or.inl ⟨by rfl, ?_⟩) (by assumption) ?_; rotate_left; (focus (intro wS hSw; (try dsimp only at hSw); go_simp; (try with_reducible rfl))); (try simp only [Act.put, List.setIfInBounds_toArray, List.set_cons_zero, List.set_cons_succ]))
            (refine wpAnyT_take (i := 8) (v := ?_) (by simp only [List.getElem?_toArray, List.getElem?_cons_succ, List.getElem?_cons_zero]; rfl) (by kernel_rfl) (by kernel_rfl) (by kernel_rfl) (by kernel_rfl) (by intro _ _ _ h; exact h) (Or.inl ⟨by rfl, ?_⟩) (by assumption) ?_; rotate_left; (focus (intro wS hSw; (try dsimp only at hSw); go_simp; (try with_reducible rfl))); (try simp only [Act.put, List.setIfInBounds_toArray, List.set_cons_zero, List.set_cons_succ]))
            (refine wpAnyT_take (i := 9) (v := ?_) (by simp only [List.getElem?_toArray, List.getElem?_cons_succ, List.getElem?_cons_zero]; rfl) (by kernel_rfl) (by kernel_rfl) (by kernel_rfl) (by kernel_rfl) (by intro _ _ _ h; exact h) (Or.inl ⟨by rfl, ?_⟩) (by assumption) ?_; rotate_left; (focus (intro wS hSw; (try dsimp only at hSw); go_simp; (try with_reducible rfl))); (try simp only [Act.put, List.setIfInBounds_toArray, List.set_cons_zero, List.set_cons_succ]))
            (refine wpAnyT_take (i := 10) (v := ?_) (by simp only [List.getElem?_toArray, List.getElem?_cons_succ, List.getElem?_cons_zero]; rfl) (by kernel_rfl) (by kernel_rfl) (by kernel_rfl) (by kernel_rfl) (by intro _ _ _ h; exact h) (Or.inl ⟨by rfl, ?_⟩) (by assumption) ?_; rotate_left; (focus (intro wS hSw; (try dsimp only at hSw); go_simp; (try with_reducible rfl))); (try simp only [Act.put, List.setIfInBounds_toArray, List.set_cons_zero, List.set_cons_succ]))
            (refine wpAnyT_take (i := 11) (v := ?_) (by simp only [List.getElem?_toArray, List.getElem?_cons_succ, List.getElem?_cons_zero]; rfl) (by kernel_rfl) (by kernel_rfl) (by kernel_rfl) (by kernel_rfl) (by intro _ _ _ h; exact h) (Or.inl ⟨by rfl, ?_⟩) (by assumption) ?_; rotate_left; (focus (intro wS hSw; (try dsimp only at hSw); go_simp; (try with_reducible rfl))); (try simp only [Act.put, List.setIfInBounds_toArray, List.set_cons_zero, List.set_cons_succ]))
            (refine wpAnyT_take (i := 12) (v := ?_) (by simp only [List.getElem?_toArray, List.getElem?_cons_succ, List.getElem?_cons_zero]; rfl) (by kernel_rfl) (by kernel_rfl) (by kernel_rfl) (by kernel_rfl) (by intro _ _ _ h; exact h) (Or.inl ⟨by rfl, ?_⟩) (by assumption) ?_; rotate_left; (focus (intro wS hSw; (try dsimp only at hSw); go_simp; (try with_reducible rfl))); (try simp only [Act.put, List.setIfInBounds_toArray, List.set_cons_zero, List.set_cons_succ]))
            refine wpAnyT_done (by kernel_rfl) ?_
            simp only [List.drop_succ_cons, List.drop_zero]
            have hBz : Below w.heap.size w w8 := Below.trans hB1 (hB8.mono (by omega))
            cases ok
            · go_wp2
              go_ret
              exact ⟨rfl, hBz⟩
            cases so
            · go_wp2
              go_ret
              exact ⟨rfl, hBz⟩
            have hM := HM.out rfl rfl
            have hM2 : (r2.code != 1) = true := by unfold bne; rw [hM]; rfl
            generalize r2.code = code2 at *
            go_wp2
            go_ret
            exact ⟨rfl, hBz⟩
          · go_simp
            refine hK.out _ _ ?_ (fun hHeld => ?_)
            · exact keep3 hC3 (by (repeat (first | with_reducible exact Below.refl _ _ | with_reducible assumption | (with_reducible refine below_drewN ?_ _) | (with_reducible refine Below.drew ?_) | (with_reducible refine Below.setCell ?_ (by first | omega | (simp; done) | (simp; omega)) _) | (with_reducible refine Below.alloc ?_ (by first | omega | (simp; done) | (simp; omega)) _) | refine Below.trans ?_ (Below.mono (by with_reducible assumption) (by first | omega | (simp; done) | (simp; omega))))))
            clear hK K
            (try simp only [Act.put, List.setIfInBounds_toArray, List.set_cons_zero, List.set_cons_succ])
            refine wpAnyT_ready (rs := [2]) (by kernel_rfl) (by kernel_rfl) ?_
            refine AllReadyT.cons (by simp only [List.getElem?_toArray, List.getElem?_cons_succ, List.getElem?_cons_zero]; rfl) (fun K hK => ?_) AllReadyT.nil
            go_simp
            refine hK.out _ _ ?_ (fun hHeld => ?_)
            · (try dsimp only)
              exact keep3 hC3 (by (repeat (first | with_reducible exact Below.refl _ _ | with_reducible assumption | (with_reducible refine below_drewN ?_ _) | (with_reducible refine Below.drew ?_) | (with_reducible refine Below.setCell ?_ (by first | omega | (simp; done) | (simp; omega)) _) | (with_reducible refine Below.alloc ?_ (by first | omega | (simp; done) | (simp; omega)) _) | refine Below.trans ?_ (Below.mono (by with_reducible assumption) (by first | omega | (simp; done) | (simp; omega))))))
            clear hK K
            (try simp only [Act.put, List.setIfInBounds_toArray, List.set_cons_zero, List.set_cons_succ])
            have hnew := news3 (W := w5.drew.alloc (.cells #[] 34)) (E := w5.heap.size + 1) (a := .slice (some ⟨q, o, none⟩) m c2) (b := .int .i64 b) (c := .bool s) (t := 34) (by simp)
            refine wpAnyT_ready (rs := [5]) (by kernel_rfl) (by kernel_rfl) ?_
            refine AllReadyT.cons (by simp only [List.getElem?_toArray, List.getElem?_cons_succ, List.getElem?_cons_zero]; rfl) (fun K hK => ?_) AllReadyT.nil
            ((refine step_append_lies _ (by rfl) (.tmp 58) (.tmp 60) _ (by rfl) 0 34 j0 _ 3 40 Try.underlying23 hj yj0 yj1 yj2 rfl (by omega) (.slice (some ⟨w5.heap.size, 0, none⟩) 0 0) 0 _ (by rfl) (LinG.later hrow1 (by (repeat (first | with_reducible exact Below.refl _ _ | with_reducible assumption | (with_reducible refine below_drewN ?_ _) | (with_reducible refine Below.drew ?_) | (with_reducible refine Below.setCell ?_ (by first | omega | (simp; done) | (simp; omega)) _) | (with_reducible refine Below.alloc ?_ (by first | omega | (simp; done) | (simp; omega)) _) | refine Below.trans ?_ (Below.mono (by with_reducible assumption) (by first | omega | (simp; done) | (simp; omega))))))).own ⟨w5.heap.size + 1, 0, none⟩ 1 1 [.slice (some ⟨q, o, none⟩) m c2, .int .i64 b, .bool s] (by rfl) (by rfl) hnew (by simp [Value.oneCell']) (by omega) (by unfold maxLen; omega) (by omega) (Nat.zero_le _) _ rfl ?_); intro g2 cap2 wp hown2 hgrow2 hat2 hlt2; have hrow2 := (LinG.later hrow1 (by (repeat (first | with_reducible exact Below.refl _ _ | with_reducible assumption | (with_reducible refine below_drewN ?_ _) | (with_reducible refine Below.drew ?_) | (with_reducible refine Below.setCell ?_ (by first | omega | (simp; done) | (simp; omega)) _) | (with_reducible refine Below.alloc ?_ (by first | omega | (simp; done) | (simp; omega)) _) | refine Below.trans ?_ (Below.mono (by with_reducible assumption) (by first | omega | (simp; done) | (simp; omega))))))).snoc (x := (xs, b, s)) hown2 hgrow2 hat2 rfl (Ints.later hI (by (repeat (first | with_reducible exact Below.refl _ _ | with_reducible assumption | (with_reducible refine below_drewN ?_ _) | (with_reducible refine Below.drew ?_) | (with_reducible refine Below.setCell ?_ (by first | omega | (simp; done) | (simp; omega)) _) | (with_reducible refine Below.alloc ?_ (by first | omega | (simp; done) | (simp; omega)) _) | refine Below.trans ?_ (Below.mono (by with_reducible assumption) (by first | omega | (simp; done) | (simp; omega))))))) (Off.lower hI hg1) (fresh_at (Nat.zero_le _)); have hL6 := hrow2.lins (by omega); have hBp : Below w5.heap.size w5 wp := Below.grown (by (repeat (first | with_reducible exact Below.refl _ _ | with_reducible assumption | (with_reducible refine below_drewN ?_ _) | (with_reducible refine Below.drew ?_) | (with_reducible refine Below.setCell ?_ (by first | omega | (simp; done) | (simp; omega)) _) | (with_reducible refine Below.alloc ?_ (by first | omega | (simp; done) | (simp; omega)) _) | refine Below.trans ?_ (Below.mono (by with_reducible assumption) (by first | omega | (simp; done) | (simp; omega)))))) hgrow2 (by first | omega | (simp; done) | (simp; omega)) (fun j hj => by injection hj with hj; (try dsimp only at hj); omega); have hzp := hgrow2.size; (try simp at hzp); clear hown2 hgrow2 hat2 hlt2 hrow2)
            refine hK.out _ _ ?_ (fun hHeld => ?_)
            · (try dsimp only)
              exact keep3 hC3 (by (repeat (first | with_reducible exact Below.refl _ _ | with_reducible assumption | (with_reducible refine below_drewN ?_ _) | (with_reducible refine Below.drew ?_) | (with_reducible refine Below.setCell ?_ (by first | omega | (simp; done) | (simp; omega)) _) | (with_reducible refine Below.alloc ?_ (by first | omega | (simp; done) | (simp; omega)) _) | refine Below.trans ?_ (Below.mono (by with_reducible assumption) (by first | omega | (simp; done) | (simp; omega))))))
            clear hK K
            (try simp only [Act.put, List.setIfInBounds_toArray, List.set_cons_zero, List.set_cons_succ])
            refine wpAnyT_ready (rs := [6]) (by kernel_rfl) (by kernel_rfl) ?_
            refine AllReadyT.cons (by simp only [List.getElem?_toArray, List.getElem?_cons_succ, List.getElem?_cons_zero]; rfl) (fun K hK => ?_) AllReadyT.nil
            (go_simp; (refine (runI HR2 hL6).mono ?_); rintro e w8 ⟨A8, n8, c8, B8, m8, d8, rfl, _, hb1⟩; have hB8 : Below w5.heap.size w5 w8 := Below.trans hBp (hb1.mono (by first | omega | (simp; done) | (simp; omega))); clear hb1)
            refine hK.out _ _ ?_ (fun hHeld => ?_)
            · (try dsimp only)
              exact keep3 hC3 (by (repeat (first | with_reducible exact Below.refl _ _ | with_reducible assumption | (with_reducible refine below_drewN ?_ _) | (with_reducible refine Below.drew ?_) | (with_reducible refine Below.setCell ?_ (by first | omega | (simp; done) | (simp; omega)) _) | (with_reducible refine Below.alloc ?_ (by first | omega | (simp; done) | (simp; omega)) _) | refine Below.trans ?_ (Below.mono (by with_reducible assumption) (by first | omega | (simp; done) | (simp; omega))))))
            clear hK K
            (try simp only [Act.put, List.setIfInBounds_toArray, List.set_cons_zero, List.set_cons_succ])
            (refine wpAnyT_take (i := 7) (v := ?_) (by simp only [List.getElem?_toArray, List.getElem?_cons_succ, List.getElem?_cons_zero]; rfl) (by kernel_rfl) (by kernel_rfl) (by kernel_rfl) (by kernel_rfl) (by intro _ _ _ h; exact h) (Or.inl ⟨by rfl, ?_⟩) (by assumption) ?_; rotate_left; (focus (intro wS hSw; (try dsimp only at hSw); go_simp; (try with_reducible rfl))); (try simp only [Act.put, List.setIfInBounds_toArray, List.set_cons_zero, List.set_cons_succ]))
            (refine wpAnyT_take (i := 8) (v := ?_) (by simp only [List.getElem?_toArray, List.getElem?_cons_succ, List.getElem?_cons_zero]; rfl) (by kernel_rfl) (by kernel_rfl) (by kernel_rfl) (by kernel_rfl) (by intro _ _ _ h; exact h) (Or.inl ⟨by rfl, ?_⟩) (by assumption) ?_; rotate_left; (focus (intro wS hSw; (try dsimp only at hSw); go_simp; (try with_reducible rfl))); (try simp only [Act.put, List.setIfInBounds_toArray, List.set_cons_zero, List.set_cons_succ]))
            (refine wpAnyT_take (i := 9) (v := ?_) (by simp only [List.getElem?_toArray, List.getElem?_cons_succ, List.getElem?_cons_zero]; rfl) (by kernel_rfl) (by kernel_rfl) (by kernel_rfl) (by kernel_rfl) (by intro _ _ _ h; exact h) (Or.inl ⟨by rfl, ?_⟩) (by assumption) ?_; rotate_left; (focus (intro wS hSw; (try dsimp only at hSw); go_simp; (try with_reducible rfl))); (try simp only [Act.put, List.setIfInBounds_toArray, List.set_cons_zero, List.set_cons_succ]))
            (refine wpAnyT_take (i := 10) (v := ?_) (by simp only [List.getElem?_toArray, List.getElem?_cons_succ, List.getElem?_cons_zero]; rfl) (by kernel_rfl) (by kernel_rfl) (by kernel_rfl) (by kernel_rfl) (by intro _ _ _ h; exact h) (Or.inl ⟨by rfl, ?_⟩) (by assumption) ?_; rotate_left; (focus (intro wS hSw; (try dsimp only at hSw); go_simp; (try with_reducible rfl))); (try simp only [Act.put, List.setIfInBounds_toArray, List.set_cons_zero, List.set_cons_succ]))
            (refine wpAnyT_take (i := 11) (v := ?_) (by simp only [List.getElem?_toArray, List.getElem?_cons_succ, List.getElem?_cons_zero]; rfl) (by kernel_rfl) (by kernel_rfl) (by kernel_rfl) (by kernel_rfl) (by intro _ _ _ h; exact h) (Or.inl ⟨by rfl, ?_⟩) (by assumption) ?_; rotate_left; (focus (intro wS hSw; (try dsimp only at hSw); go_simp; (try with_reducible rfl))); (try simp only [Act.put, List.setIfInBounds_toArray, List.set_cons_zero, List.set_cons_succ]))
            (refine wpAnyT_take (i := 12) (v := ?_) (by simp only [List.getElem?_toArray, List.getElem?_cons_succ, List.getElem?_cons_zero]; rfl) (by kernel_rfl) (by kernel_rfl) (by kernel_rfl) (by kernel_rfl) (by intro _ _ _ h; exact h) (Or.inl ⟨by rfl, ?_⟩) (by assumption) ?_; rotate_left; (focus (intro wS hSw; (try dsimp only at hSw); go_simp; (try with_reducible rfl))); (try simp only [Act.put, List.setIfInBounds_toArray, List.set_cons_zero, List.set_cons_succ]))
            refine wpAnyT_done (by kernel_rfl) ?_
            simp only [List.drop_succ_cons, List.drop_zero]
            have hBz : Below w.heap.size w w8 := Below.trans hB1 (hB8.mono (by omega))
            cases ok
            · go_wp2
              go_ret
              exact ⟨rfl, hBz⟩
            cases so
            · go_wp2
              go_ret
              exact ⟨rfl, hBz⟩
            have hM := HM.out rfl rfl
            have hM2 : (r2.code != 1) = true := by unfold bne; rw [hM]; rfl
            generalize r2.code = code2 at *
            go_wp2
            go_ret
            exact ⟨rfl, hBz⟩
        · go_simp
          refine hK.out _ _ ?_ (fun hHeld => ?_)
          · exact keep3 hC3 (by (repeat (first | with_reducible exact Below.refl _ _ | with_reducible assumption | (with_reducible refine below_drewN ?_ _) | (with_reducible refine Below.drew ?_) | (with_reducible refine Below.setCell ?_ (by first | omega | (simp; done) | (simp; omega)) _) | (with_reducible refine Below.alloc ?_ (by first | omega | (simp; done) | (simp; omega)) _) | refine Below.trans ?_ (Below.mono (by with_reducible assumption) (by first | omega | (simp; done) | (simp; omega))))))
          clear hK K
          (try simp only [Act.put, List.setIfInBounds_toArray, List.set_cons_zero, List.set_cons_succ])
          refine wpAnyT_ready (rs := [0]) (by kernel_rfl) (by kernel_rfl) ?_
          refine AllReadyT.cons (by simp only [List.getElem?_toArray, List.getElem?_cons_succ, List.getElem?_cons_zero]; rfl) (fun K hK => ?_) AllReadyT.nil
          go_simp
          refine hK.out _ _ ?_ (fun hHeld => ?_)
          · (try dsimp only)
            exact keep3 hC3 (by (repeat (first | with_reducible exact Below.refl _ _ | with_reducible assumption | (with_reducible refine below_drewN ?_ _) | (with_reducible refine Below.drew ?_) | (with_reducible refine Below.setCell ?_ (by first | omega | (simp; done) | (simp; omega)) _) | (with_reducible refine Below.alloc ?_ (by first | omega | (simp; done) | (simp; omega)) _) | refine Below.trans ?_ (Below.mono (by with_reducible assumption) (by first | omega | (simp; done) | (simp; omega))))))
          clear hK K
          (try simp only [Act.put, List.setIfInBounds_toArray, List.set_cons_zero, List.set_cons_succ])
          have hrow1 : LinG ((w5.alloc (.cells #[.slice (some ⟨q, o, none⟩) m c2, .int .i64 b, .bool s] 34)).alloc (.cells #[] 34)) 0 (.slice (some ⟨w5.heap.size + 1, 0, none⟩) 0 0) 0 [] [] := LinG.empty (by simp) (Nat.zero_le _)
          have hg1 : w5.heap.size ≤ w5.heap.size + 1 := Nat.le_succ _
          refine wpAnyT_ready (rs := [2]) (by kernel_rfl) (by kernel_rfl) ?_
          refine AllReadyT.cons (by simp only [List.getElem?_toArray, List.getElem?_cons_succ, List.getElem?_cons_zero]; rfl) (fun K hK => ?_) AllReadyT.nil
          go_simp
          refine hK.out _ _ ?_ (fun hHeld => ?_)
          · (try dsimp only)
            exact keep3 hC3 (by (repeat (first | with_reducible exact Below.refl _ _ | with_reducible assumption | (with_reducible refine below_drewN ?_ _) | (with_reducible refine Below.drew ?_) | (with_reducible refine Below.setCell ?_ (by first | omega | (simp; done) | (simp; omega)) _) | (with_reducible refine Below.alloc ?_ (by first | omega | (simp; done) | (simp; omega)) _) | refine Below.trans ?_ (Below.mono (by with_reducible assumption) (by first | omega | (simp; done) | (simp; omega))))))
          clear hK K
          (try simp only [Act.put, List.setIfInBounds_toArray, List.set_cons_zero, List.set_cons_succ])
          have hnew0 := news3 (W := w5.drew) (E := w5.heap.size) (a := .slice (some ⟨q, o, none⟩) m c2) (b := .int .i64 b) (c := .bool s) (t := 34) (by simp)
          have hnew := fun j u hu => (((Below.refl ((w5.drew.alloc (.cells #[.slice (some ⟨q, o, none⟩) m c2, .int .i64 b, .bool s] 34))).heap.size _).alloc (Nat.le_refl _) (.cells #[] 34)).cell (p := (⟨w5.heap.size, 0, none⟩ : Addr).add j) (by rw [add_block]; simp)).trans (hnew0 j u hu)
          refine wpAnyT_ready (rs := [5]) (by kernel_rfl) (by kernel_rfl) ?_
          refine AllReadyT.cons (by simp only [List.getElem?_toArray, List.getElem?_cons_succ, List.getElem?_cons_zero]; rfl) (fun K hK => ?_) AllReadyT.nil
          ((refine step_append_lies _ (by rfl) (.tmp 58) (.tmp 60) _ (by rfl) 0 34 j0 _ 3 40 Try.underlying23 hj yj0 yj1 yj2 rfl (by omega) (.slice (some ⟨w5.heap.size + 1, 0, none⟩) 0 0) 0 _ (by rfl) (LinG.later hrow1 (by (repeat (first | with_reducible exact Below.refl _ _ | with_reducible assumption | (with_reducible refine below_drewN ?_ _) | (with_reducible refine Below.drew ?_) | (with_reducible refine Below.setCell ?_ (by first | omega | (simp; done) | (simp; omega)) _) | (with_reducible refine Below.alloc ?_ (by first | omega | (simp; done) | (simp; omega)) _) | refine Below.trans ?_ (Below.mono (by with_reducible assumption) (by first | omega | (simp; done) | (simp; omega))))))).own ⟨w5.heap.size, 0, none⟩ 1 1 [.slice (some ⟨q, o, none⟩) m c2, .int .i64 b, .bool s] (by rfl) (by rfl) hnew (by simp [Value.oneCell']) (by omega) (by unfold maxLen; omega) (by omega) (Nat.zero_le _) _ rfl ?_); intro g2 cap2 wp hown2 hgrow2 hat2 hlt2; have hrow2 := (LinG.later hrow1 (by (repeat (first | with_reducible exact Below.refl _ _ | with_reducible assumption | (with_reducible refine below_drewN ?_ _) | (with_reducible refine Below.drew ?_) | (with_reducible refine Below.setCell ?_ (by first | omega | (simp; done) | (simp; omega)) _) | (with_reducible refine Below.alloc ?_ (by first | omega | (simp; done) | (simp; omega)) _) | refine Below.trans ?_ (Below.mono (by with_reducible assumption) (by first | omega | (simp; done) | (simp; omega))))))).snoc (x := (xs, b, s)) hown2 hgrow2 hat2 rfl (Ints.later hI (by (repeat (first | with_reducible exact Below.refl _ _ | with_reducible assumption | (with_reducible refine below_drewN ?_ _) | (with_reducible refine Below.drew ?_) | (with_reducible refine Below.setCell ?_ (by first | omega | (simp; done) | (simp; omega)) _) | (with_reducible refine Below.alloc ?_ (by first | omega | (simp; done) | (simp; omega)) _) | refine Below.trans ?_ (Below.mono (by with_reducible assumption) (by first | omega | (simp; done) | (simp; omega))))))) (Off.lower hI hg1) (fresh_at (Nat.zero_le _)); have hL6 := hrow2.lins (by omega); have hBp : Below w5.heap.size w5 wp := Below.grown (by (repeat (first | with_reducible exact Below.refl _ _ | with_reducible assumption | (with_reducible refine below_drewN ?_ _) | (with_reducible refine Below.drew ?_) | (with_reducible refine Below.setCell ?_ (by first | omega | (simp; done) | (simp; omega)) _) | (with_reducible refine Below.alloc ?_ (by first | omega | (simp; done) | (simp; omega)) _) | refine Below.trans ?_ (Below.mono (by with_reducible assumption) (by first | omega | (simp; done) | (simp; omega)))))) hgrow2 (by first | omega | (simp; done) | (simp; omega)) (fun j hj => by injection hj with hj; (try dsimp only at hj); omega); have hzp := hgrow2.size; (try simp at hzp); clear hown2 hgrow2 hat2 hlt2 hrow2)
          refine hK.out _ _ ?_ (fun hHeld => ?_)
          · (try dsimp only)
            exact keep3 hC3 (by (repeat (first | with_reducible exact Below.refl _ _ | with_reducible assumption | (with_reducible refine below_drewN ?_ _) | (with_reducible refine Below.drew ?_) | (with_reducible refine Below.setCell ?_ (by first | omega | (simp; done) | (simp; omega)) _) | (with_reducible refine Below.alloc ?_ (by first | omega | (simp; done) | (simp; omega)) _) | refine Below.trans ?_ (Below.mono (by with_reducible assumption) (by first | omega | (simp; done) | (simp; omega))))))
          clear hK K
          (try simp only [Act.put, List.setIfInBounds_toArray, List.set_cons_zero, List.set_cons_succ])
          refine wpAnyT_ready (rs := [6]) (by kernel_rfl) (by kernel_rfl) ?_
          refine AllReadyT.cons (by simp only [List.getElem?_toArray, List.getElem?_cons_succ, List.getElem?_cons_zero]; rfl) (fun K hK => ?_) AllReadyT.nil
          (go_simp; (refine (runI HR2 hL6).mono ?_); rintro e w8 ⟨A8, n8, c8, B8, m8, d8, rfl, _, hb1⟩; have hB8 : Below w5.heap.size w5 w8 := Below.trans hBp (hb1.mono (by first | omega | (simp; done) | (simp; omega))); clear hb1)
          refine hK.out _ _ ?_ (fun hHeld => ?_)
          · (try dsimp only)
            exact keep3 hC3 (by (repeat (first | with_reducible exact Below.refl _ _ | with_reducible assumption | (with_reducible refine below_drewN ?_ _) | (with_reducible refine Below.drew ?_) | (with_reducible refine Below.setCell ?_ (by first | omega | (simp; done) | (simp; omega)) _) | (with_reducible refine Below.alloc ?_ (by first | omega | (simp; done) | (simp; omega)) _) | refine Below.trans ?_ (Below.mono (by with_reducible assumption) (by first | omega | (simp; done) | (simp; omega))))))
          clear hK K
          (try simp only [Act.put, List.setIfInBounds_toArray, List.set_cons_zero, List.set_cons_succ])
          (refine wpAnyT_take (i := 7) (v := ?_) (by simp only [List.getElem?_toArray, List.getElem?_cons_succ, List.getElem?_cons_zero]; rfl) (by kernel_rfl) (by kernel_rfl) (by kernel_rfl) (by kernel_rfl) (by intro _ _ _ h; exact h) (Or.inl ⟨by rfl, ?_⟩) (by assumption) ?_; rotate_left; (focus (intro wS hSw; (try dsimp only at hSw); go_simp; (try with_reducible rfl))); (try simp only [Act.put, List.setIfInBounds_toArray, List.set_cons_zero, List.set_cons_succ]))
          (refine wpAnyT_take (i := 8) (v := ?_) (by simp only [List.getElem?_toArray, List.getElem?_cons_succ, List.getElem?_cons_zero]; rfl) (by kernel_rfl) (by kernel_rfl) (by kernel_rfl) (by kernel_rfl) (by intro _ _ _ h; exact h) (Or.inl ⟨by rfl, ?_⟩) (by assumption) ?_; rotate_left; (focus (intro wS hSw; (try dsimp only at hSw); go_simp; (try with_reducible rfl))); (try simp only [Act.put, List.setIfInBounds_toArray, List.set_cons_zero, List.set_cons_succ]))
          (refine wpAnyT_take (i := 9) (v := ?_) (by simp only [List.getElem?_toArray, List.getElem?_cons_succ, List.getElem?_cons_zero]; rfl) (by kernel_rfl) (by kernel_rfl) (by kernel_rfl) (by kernel_rfl) (by intro _ _ _ h; exact h) (Or.inl ⟨by rfl, ?_⟩) (by assumption) ?_; rotate_left; (focus (intro wS hSw; (try dsimp only at hSw); go_simp; (try with_reducible rfl))); (try simp only [Act.put, List.setIfInBounds_toArray, List.set_cons_zero, List.set_cons_succ]))
          (refine wpAnyT_take (i := 10) (v := ?_) (by simp only [List.getElem?_toArray, List.getElem?_cons_succ, List.getElem?_cons_zero]; rfl) (by kernel_rfl) (by kernel_rfl) (by kernel_rfl) (by kernel_rfl) (by intro _ _ _ h; exact h) (Or.inl ⟨by rfl, ?_⟩) (by assumption) ?_; rotate_left; (focus (intro wS hSw; (try dsimp only at hSw); go_simp; (try with_reducible rfl))); (try simp only [Act.put, List.setIfInBounds_toArray, List.set_cons_zero, List.set_cons_succ]))
          (refine wpAnyT_take (i := 11) (v := ?_) (by simp only [List.getElem?_toArray, List.getElem?_cons_succ, List.getElem?_cons_zero]; rfl) (by kernel_rfl) (by kernel_rfl) (by kernel_rfl) (by kernel_rfl) (by intro _ _ _ h; exact h) (Or.inl ⟨by rfl, ?_⟩) (by assumption) ?_; rotate_left; (focus (intro wS hSw; (try dsimp only at hSw); go_simp; (try with_reducible rfl))); (try simp only [Act.put, List.setIfInBounds_toArray, List.set_cons_zero, List.set_cons_succ]))
          (refine wpAnyT_take (i := 12) (v := ?_) (by simp only [List.getElem?_toArray, List.getElem?_cons_succ, List.getElem?_cons_zero]; rfl) (by kernel_rfl) (by kernel_rfl) (by kernel_rfl) (by kernel_rfl) (by intro _ _ _ h; exact h) (Or.inl ⟨by rfl, ?_⟩) (by assumption) ?_; rotate_left; (focus (intro wS hSw; (try dsimp only at hSw); go_simp; (try with_reducible rfl))); (try simp only [Act.put, List.setIfInBounds_toArray, List.set_cons_zero, List.set_cons_succ]))
          refine wpAnyT_done (by kernel_rfl) ?_
          simp only [List.drop_succ_cons, List.drop_zero]
          have hBz : Below w.heap.size w w8 := Below.trans hB1 (hB8.mono (by omega))
          cases ok
          · go_wp2
            go_ret
            exact ⟨rfl, hBz⟩
          cases so
          · go_wp2
            go_ret
            exact ⟨rfl, hBz⟩
          have hM := HM.out rfl rfl
          have hM2 : (r2.code != 1) = true := by unfold bne; rw [hM]; rfl
          generalize r2.code = code2 at *
          go_wp2
          go_ret
          exact ⟨rfl, hBz⟩
    obtain ⟨p, oo, rfl, hp, hcs⟩ := hL.cells hnp
    have hC : Cells3 w5 p oo n ls := fun k hk => (hcs k hk).ex
    clear hcs
    go_wp2_with fail
    refine wp_region_T2 13 (fun w' => w'.cell? ⟨w2.heap.size, 0, none⟩ = some (.slice (some ⟨q, o, none⟩) m c2) ∧ w'.cell? ⟨w2.heap.size, 1, none⟩ = some (.int .i64 b) ∧ w'.cell? ⟨w2.heap.size, 2, none⟩ = some (.bool s)) (by kernel_rfl) (by kernel_rfl) ?_ (fun hHeld => ?_)
    · exact hC3
    (refine wpAnyT_take (i := 1) (v := ?_) (by simp only [List.getElem?_toArray, List.getElem?_cons_succ, List.getElem?_cons_zero]; rfl) (by kernel_rfl) (by kernel_rfl) (by kernel_rfl) (by kernel_rfl) (by intro _ _ _ h; exact h) (Or.inl ⟨by rfl, ?_⟩) (by assumption) ?_; rotate_left; (focus (intro wS hSw; (try dsimp only at hSw); go_simp; (try with_reducible rfl))); (try simp only [Act.put, List.setIfInBounds_toArray, List.set_cons_zero, List.set_cons_succ]))
    (refine wpAnyT_take (i := 3) (v := ?_) (by simp only [List.getElem?_toArray, List.getElem?_cons_succ, List.getElem?_cons_zero]; rfl) (by kernel_rfl) (by kernel_rfl) (by kernel_rfl) (by kernel_rfl) (by intro _ _ _ h; exact h) (Or.inl ⟨by rfl, ?_⟩) (by assumption) ?_; rotate_left; (focus (intro wS hSw; (try dsimp only at hSw); go_simp; (try with_reducible rfl))); (try simp only [Act.put, List.setIfInBounds_toArray, List.set_cons_zero, List.set_cons_succ]))
    refine wpAnyT_ready (rs := [0, 4]) (by kernel_rfl) (by kernel_rfl) ?_
    refine AllReadyT.cons (by simp only [List.getElem?_toArray, List.getElem?_cons_succ, List.getElem?_cons_zero]; rfl) (fun K hK => ?_) (AllReadyT.cons (by simp only [List.getElem?_toArray, List.getElem?_cons_succ, List.getElem?_cons_zero]; rfl) (fun K hK => ?_) AllReadyT.nil)
    · go_simp
      refine hK.out _ _ ?_ (fun hHeld => ?_)
      · exact keep3 hC3 (by (repeat (first | with_reducible exact Below.refl _ _ | with_reducible assumption | (with_reducible refine below_drewN ?_ _) | (with_reducible refine Below.drew ?_) | (with_reducible refine Below.setCell ?_ (by first | omega | (simp; done) | (simp; omega)) _) | (with_reducible refine Below.alloc ?_ (by first | omega | (simp; done) | (simp; omega)) _) | refine Below.trans ?_ (Below.mono (by with_reducible assumption) (by first | omega | (simp; done) | (simp; omega))))))
      clear hK K
      (try simp only [Act.put, List.setIfInBounds_toArray, List.set_cons_zero, List.set_cons_succ])
      have hrow0 : LinG (w5.drew.alloc (.cells #[] 34)) 0 (.slice (some ⟨w5.heap.size, 0, none⟩) 0 0) 0 [] [] := LinG.empty (by simp) (Nat.zero_le _)
      refine wpAnyT_ready (rs := [2, 4]) (by kernel_rfl) (by kernel_rfl) ?_
      refine AllReadyT.cons (by simp only [List.getElem?_toArray, List.getElem?_cons_succ, List.getElem?_cons_zero]; rfl) (fun K hK => ?_) (AllReadyT.cons (by simp only [List.getElem?_toArray, List.getElem?_cons_succ, List.getElem?_cons_zero]; rfl) (fun K hK => ?_) AllReadyT.nil)
      · (refine step_append_lies _ (by rfl) (.tmp 56) (.tmp 57) _ (by rfl) 0 34 j0 _ 3 40 Try.underlying23 hj yj0 yj1 yj2 rfl (by omega) (.slice (some ⟨w5.heap.size, 0, none⟩) 0 0) 0 [] (by rfl) (hrow0).own ⟨p, oo, none⟩ n c (cellsAt w5 p oo (n * 3)) (by rfl) (by rw [cellsAt_len]) (hC.news hp (by (repeat (first | with_reducible exact Below.refl _ _ | with_reducible assumption | (with_reducible refine below_drewN ?_ _) | (with_reducible refine Below.drew ?_) | (with_reducible refine Below.setCell ?_ (by first | omega | (simp; done) | (simp; omega)) _) | (with_reducible refine Below.alloc ?_ (by first | omega | (simp; done) | (simp; omega)) _) | refine Below.trans ?_ (Below.mono (by with_reducible assumption) (by first | omega | (simp; done) | (simp; omega))))))) hC.one hnp (by unfold maxLen; omega) (by omega) (Nat.zero_le _) _ rfl ?_)
        intro g1 cap1 wq hown1 hgrow1 hat1 hlt1
        have hrow1 := LinG.app (xs := ls) hrow0 hown1 hgrow1 hat1 rfl hL.len (hC.z (by (repeat (first | with_reducible exact Below.refl _ _ | with_reducible assumption | (with_reducible refine below_drewN ?_ _) | (with_reducible refine Below.drew ?_) | (with_reducible refine Below.setCell ?_ (by first | omega | (simp; done) | (simp; omega)) _) | (with_reducible refine Below.alloc ?_ (by first | omega | (simp; done) | (simp; omega)) _) | refine Below.trans ?_ (Below.mono (by with_reducible assumption) (by first | omega | (simp; done) | (simp; omega)))))) (by first | omega | (simp; done) | (simp; omega)))
        simp only [Nat.zero_add, List.nil_append] at hrow1 ⊢
        have hg1 : w5.heap.size ≤ g1 := by
          rcases hat1 with e | e
          · injection e with e; (try dsimp only at e); omega
          · simp at e; omega
        have hBq : Below w5.heap.size w5 wq := Below.grown (by (repeat (first | with_reducible exact Below.refl _ _ | with_reducible assumption | (with_reducible refine below_drewN ?_ _) | (with_reducible refine Below.drew ?_) | (with_reducible refine Below.setCell ?_ (by first | omega | (simp; done) | (simp; omega)) _) | (with_reducible refine Below.alloc ?_ (by first | omega | (simp; done) | (simp; omega)) _) | refine Below.trans ?_ (Below.mono (by with_reducible assumption) (by first | omega | (simp; done) | (simp; omega)))))) hgrow1 (by first | omega | (simp; done) | (simp; omega)) (fun j hj => by injection hj with hj; (try dsimp only at hj); omega)
        have hzq := hgrow1.size
        (try simp at hzq)
        refine hK.out _ _ ?_ (fun hHeld => ?_)
        · exact keep3 hC3 (by (repeat (first | with_reducible exact Below.refl _ _ | with_reducible assumption | (with_reducible refine below_drewN ?_ _) | (with_reducible refine Below.drew ?_) | (with_reducible refine Below.setCell ?_ (by first | omega | (simp; done) | (simp; omega)) _) | (with_reducible refine Below.alloc ?_ (by first | omega | (simp; done) | (simp; omega)) _) | refine Below.trans ?_ (Below.mono (by with_reducible assumption) (by first | omega | (simp; done) | (simp; omega))))))
        clear hK K
        (try simp only [Act.put, List.setIfInBounds_toArray, List.set_cons_zero, List.set_cons_succ])
        clear hown1 hgrow1 hat1 hrow0
        refine wpAnyT_ready (rs := [4]) (by kernel_rfl) (by kernel_rfl) ?_
        refine AllReadyT.cons (by simp only [List.getElem?_toArray, List.getElem?_cons_succ, List.getElem?_cons_zero]; rfl) (fun K hK => ?_) AllReadyT.nil
        go_simp
        refine hK.out _ _ ?_ (fun hHeld => ?_)
        · (try dsimp only)
          exact keep3 hC3 (by (repeat (first | with_reducible exact Below.refl _ _ | with_reducible assumption | (with_reducible refine below_drewN ?_ _) | (with_reducible refine Below.drew ?_) | (with_reducible refine Below.setCell ?_ (by first | omega | (simp; done) | (simp; omega)) _) | (with_reducible refine Below.alloc ?_ (by first | omega | (simp; done) | (simp; omega)) _) | refine Below.trans ?_ (Below.mono (by with_reducible assumption) (by first | omega | (simp; done) | (simp; omega))))))
        clear hK K
        (try simp only [Act.put, List.setIfInBounds_toArray, List.set_cons_zero, List.set_cons_succ])
        have hnew := news3 (W := wq) (a := .slice (some ⟨q, o, none⟩) m c2) (b := .int .i64 b) (c := .bool s) (t := 34) rfl
        refine wpAnyT_ready (rs := [5]) (by kernel_rfl) (by kernel_rfl) ?_
        refine AllReadyT.cons (by simp only [List.getElem?_toArray, List.getElem?_cons_succ, List.getElem?_cons_zero]; rfl) (fun K hK => ?_) AllReadyT.nil
        ((refine step_append_lies _ (by rfl) (.tmp 58) (.tmp 60) _ (by rfl) 0 34 j0 _ 3 40 Try.underlying23 hj yj0 yj1 yj2 rfl (by omega) (.slice (some ⟨g1, 0, none⟩) n cap1) n _ (by rfl) (LinG.later hrow1 (by (repeat (first | with_reducible exact Below.refl _ _ | with_reducible assumption | (with_reducible refine below_drewN ?_ _) | (with_reducible refine Below.drew ?_) | (with_reducible refine Below.setCell ?_ (by first | omega | (simp; done) | (simp; omega)) _) | (with_reducible refine Below.alloc ?_ (by first | omega | (simp; done) | (simp; omega)) _) | refine Below.trans ?_ (Below.mono (by with_reducible assumption) (by first | omega | (simp; done) | (simp; omega))))))).own ⟨wq.heap.size, 0, none⟩ 1 1 [.slice (some ⟨q, o, none⟩) m c2, .int .i64 b, .bool s] (by rfl) (by rfl) hnew (by simp [Value.oneCell']) (by omega) (by unfold maxLen; omega) (by omega) (Nat.zero_le _) _ rfl ?_); intro g2 cap2 wp hown2 hgrow2 hat2 hlt2; have hrow2 := (LinG.later hrow1 (by (repeat (first | with_reducible exact Below.refl _ _ | with_reducible assumption | (with_reducible refine below_drewN ?_ _) | (with_reducible refine Below.drew ?_) | (with_reducible refine Below.setCell ?_ (by first | omega | (simp; done) | (simp; omega)) _) | (with_reducible refine Below.alloc ?_ (by first | omega | (simp; done) | (simp; omega)) _) | refine Below.trans ?_ (Below.mono (by with_reducible assumption) (by first | omega | (simp; done) | (simp; omega))))))).snoc (x := (xs, b, s)) hown2 hgrow2 hat2 rfl (Ints.later hI (by (repeat (first | with_reducible exact Below.refl _ _ | with_reducible assumption | (with_reducible refine below_drewN ?_ _) | (with_reducible refine Below.drew ?_) | (with_reducible refine Below.setCell ?_ (by first | omega | (simp; done) | (simp; omega)) _) | (with_reducible refine Below.alloc ?_ (by first | omega | (simp; done) | (simp; omega)) _) | refine Below.trans ?_ (Below.mono (by with_reducible assumption) (by first | omega | (simp; done) | (simp; omega))))))) (Off.lower hI hg1) (fresh_at (Nat.zero_le _)); have hL6 := hrow2.lins (by omega); have hBp : Below w5.heap.size w5 wp := Below.grown (by (repeat (first | with_reducible exact Below.refl _ _ | with_reducible assumption | (with_reducible refine below_drewN ?_ _) | (with_reducible refine Below.drew ?_) | (with_reducible refine Below.setCell ?_ (by first | omega | (simp; done) | (simp; omega)) _) | (with_reducible refine Below.alloc ?_ (by first | omega | (simp; done) | (simp; omega)) _) | refine Below.trans ?_ (Below.mono (by with_reducible assumption) (by first | omega | (simp; done) | (simp; omega)))))) hgrow2 (by first | omega | (simp; done) | (simp; omega)) (fun j hj => by injection hj with hj; (try dsimp only at hj); omega); have hzp := hgrow2.size; (try simp at hzp); clear hown2 hgrow2 hat2 hlt2 hrow2)
        refine hK.out _ _ ?_ (fun hHeld => ?_)
        · (try dsimp only)
          exact keep3 hC3 (by (repeat (first | with_reducible exact Below.refl _ _ | with_reducible assumption | (with_reducible refine below_drewN ?_ _) | (with_reducible refine Below.drew ?_) | (with_reducible refine Below.setCell ?_ (by first | omega | (simp; done) | (simp; omega)) _) | (with_reducible refine Below.alloc ?_ (by first | omega | (simp; done) | (simp; omega)) _) | refine Below.trans ?_ (Below.mono (by with_reducible assumption) (by first | omega | (simp; done) | (simp; omega))))))
        clear hK K
        (try simp only [Act.put, List.setIfInBounds_toArray, List.set_cons_zero, List.set_cons_succ])
        refine wpAnyT_ready (rs := [6]) (by kernel_rfl) (by kernel_rfl) ?_
        refine AllReadyT.cons (by simp only [List.getElem?_toArray, List.getElem?_cons_succ, List.getElem?_cons_zero]; rfl) (fun K hK => ?_) AllReadyT.nil
        (go_simp; (refine (runI HR2 hL6).mono ?_); rintro e w8 ⟨A8, n8, c8, B8, m8, d8, rfl, _, hb1⟩; have hB8 : Below w5.heap.size w5 w8 := Below.trans hBp (hb1.mono (by first | omega | (simp; done) | (simp; omega))); clear hb1)
        refine hK.out _ _ ?_ (fun hHeld => ?_)
        · (try dsimp only)
          exact keep3 hC3 (by (repeat (first | with_reducible exact Below.refl _ _ | with_reducible assumption | (with_reducible refine below_drewN ?_ _) | (with_reducible refine Below.drew ?_) | (with_reducible refine Below.setCell ?_ (by first | omega | (simp; done) | (simp; omega)) _) | (with_reducible refine Below.alloc ?_ (by first | omega | (simp; done) | (simp; omega)) _) | refine Below.trans ?_ (Below.mono (by with_reducible assumption) (by first | omega | (simp; done) | (simp; omega))))))
        clear hK K
        (try simp only [Act.put, List.setIfInBounds_toArray, List.set_cons_zero, List.set_cons_succ])
        (refine wpAnyT_take (i := 7) (v := ?_) (by simp only [List.getElem?_toArray, List.getElem?_cons_succ, List.getElem?_cons_zero]; rfl) (by kernel_rfl) (by kernel_rfl) (by kernel_rfl) (by kernel_rfl) (by intro _ _ _ h; exact h) (Or.inl ⟨by rfl, ?_⟩) (by assumption) ?_; rotate_left; (focus (intro wS hSw; (try dsimp only at hSw); go_simp; (try with_reducible rfl))); (try simp only [Act.put, List.setIfInBounds_toArray, List.set_cons_zero, List.set_cons_succ]))
        (refine wpAnyT_take (i := 8) (v := ?_) (by simp only [List.getElem?_toArray, List.getElem?_cons_succ, List.getElem?_cons_zero]; rfl) (by kernel_rfl) (by kernel_rfl) (by kernel_rfl) (by kernel_rfl) (by intro _ _ _ h; exact h) (Or.inl ⟨by rfl, ?_⟩) (by assumption) ?_; rotate_left; (focus (intro wS hSw; (try dsimp only at hSw); go_simp; (try with_reducible rfl))); (try simp only [Act.put, List.setIfInBounds_toArray, List.set_cons_zero, List.set_cons_succ]))
        (refine wpAnyT_take (i := 9) (v := ?_) (by simp only [List.getElem?_toArray, List.getElem?_cons_succ, List.getElem?_cons_zero]; rfl) (by kernel_rfl) (by kernel_rfl) (by kernel_rfl) (by kernel_rfl) (by intro _ _ _ h; exact h) (Or.inl ⟨by rfl, ?_⟩) (by assumption) ?_; rotate_left; (focus (intro wS hSw; (try dsimp only at hSw); go_simp; (try with_reducible rfl))); (try simp only [Act.put, List.setIfInBounds_toArray, List.set_cons_zero, List.set_cons_succ]))
        (refine wpAnyT_take (i := 10) (v := ?_) (by simp only [List.getElem?_toArray, List.getElem?_cons_succ, List.getElem?_cons_zero]; rfl) (by kernel_rfl) (by kernel_rfl) (by kernel_rfl) (by kernel_rfl) (by intro _ _ _ h; exact h) (Or.inl ⟨by rfl, ?_⟩) (by assumption) ?_; rotate_left; (focus (intro wS hSw; (try dsimp only at hSw); go_simp; (try with_reducible rfl))); (try simp only [Act.put, List.setIfInBounds_toArray, List.set_cons_zero, List.set_cons_succ]))
        (refine wpAnyT_take (i := 11) (v := ?_) (by simp only [List.getElem?_toArray, List.getElem?_cons_succ, List.getElem?_cons_zero]; rfl) (by kernel_rfl) (by kernel_rfl) (by kernel_rfl) (by kernel_rfl) (by intro _ _ _ h; exact h) (Or.inl ⟨by rfl, ?_⟩) (by assumption) ?_; rotate_left; (focus (intro wS hSw; (try dsimp only at hSw); go_simp; (try with_reducible rfl))); (try simp only [Act.put, List.setIfInBounds_toArray, List.set_cons_zero, List.set_cons_succ]))
        (refine wpAnyT_take (i := 12) (v := ?_) (by simp only [List.getElem?_toArray, List.getElem?_cons_succ, List.getElem?_cons_zero]; rfl) (by kernel_rfl) (by kernel_rfl) (by kernel_rfl) (by kernel_rfl) (by intro _ _ _ h; exact h) (Or.inl ⟨by rfl, ?_⟩) (by assumption) ?_; rotate_left; (focus (intro wS hSw; (try dsimp only at hSw); go_simp; (try with_reducible rfl))); (try simp only [Act.put, List.setIfInBounds_toArray, List.set_cons_zero, List.set_cons_succ]))
        refine wpAnyT_done (by kernel_rfl) ?_
        simp only [List.drop_succ_cons, List.drop_zero]
        have hBz : Below w.heap.size w w8 := Below.trans hB1 (hB8.mono (by omega))
        cases ok
        · go_wp2
          go_ret
          exact ⟨rfl, hBz⟩
        cases so
        · go_wp2
          go_ret
          exact ⟨rfl, hBz⟩
        have hM := HM.out rfl rfl
        have hM2 : (r2.code != 1) = true := by unfold bne; rw [hM]; rfl
        generalize r2.code = code2 at *
        go_wp2
        go_ret
        exact ⟨rfl, hBz⟩
      · go_simp
        refine hK.out _ _ ?_ (fun hHeld => ?_)
        · exact keep3 hC3 (by (repeat (first | with_reducible exact Below.refl _ _ | with_reducible assumption | (with_reducible refine below_drewN ?_ _) | (with_reducible refine Below.drew ?_) | (with_reducible refine Below.setCell ?_ (by first | omega | (simp; done) | (simp; omega)) _) | (with_reducible refine Below.alloc ?_ (by first | omega | (simp; done) | (simp; omega)) _) | refine Below.trans ?_ (Below.mono (by with_reducible assumption) (by first | omega | (simp; done) | (simp; omega))))))
        clear hK K
        (try simp only [Act.put, List.setIfInBounds_toArray, List.set_cons_zero, List.set_cons_succ])
        have hrow0' : LinG _ 0 (.slice (some ⟨w5.heap.size, 0, none⟩) 0 0) 0 [] [] := LinG.later hrow0 ((Below.refl _ _).alloc (Nat.le_refl _) (.cells #[.slice (some ⟨q, o, none⟩) m c2, .int .i64 b, .bool s] 34))
        refine wpAnyT_ready (rs := [2]) (by kernel_rfl) (by kernel_rfl) ?_
        refine AllReadyT.cons (by simp only [List.getElem?_toArray, List.getElem?_cons_succ, List.getElem?_cons_zero]; rfl) (fun K hK => ?_) AllReadyT.nil
        (refine step_append_lies _ (by rfl) (.tmp 56) (.tmp 57) _ (by rfl) 0 34 j0 _ 3 40 Try.underlying23 hj yj0 yj1 yj2 rfl (by omega) (.slice (some ⟨w5.heap.size, 0, none⟩) 0 0) 0 [] (by rfl) (hrow0').own ⟨p, oo, none⟩ n c (cellsAt w5 p oo (n * 3)) (by rfl) (by rw [cellsAt_len]) (hC.news hp (by (repeat (first | with_reducible exact Below.refl _ _ | with_reducible assumption | (with_reducible refine below_drewN ?_ _) | (with_reducible refine Below.drew ?_) | (with_reducible refine Below.setCell ?_ (by first | omega | (simp; done) | (simp; omega)) _) | (with_reducible refine Below.alloc ?_ (by first | omega | (simp; done) | (simp; omega)) _) | refine Below.trans ?_ (Below.mono (by with_reducible assumption) (by first | omega | (simp; done) | (simp; omega))))))) hC.one hnp (by unfold maxLen; omega) (by omega) (Nat.zero_le _) _ rfl ?_)
        intro g1 cap1 wq hown1 hgrow1 hat1 hlt1
        have hrow1 := LinG.app (xs := ls) hrow0' hown1 hgrow1 hat1 rfl hL.len (hC.z (by (repeat (first | with_reducible exact Below.refl _ _ | with_reducible assumption | (with_reducible refine below_drewN ?_ _) | (with_reducible refine Below.drew ?_) | (with_reducible refine Below.setCell ?_ (by first | omega | (simp; done) | (simp; omega)) _) | (with_reducible refine Below.alloc ?_ (by first | omega | (simp; done) | (simp; omega)) _) | refine Below.trans ?_ (Below.mono (by with_reducible assumption) (by first | omega | (simp; done) | (simp; omega)))))) (by first | omega | (simp; done) | (simp; omega)))
        simp only [Nat.zero_add, List.nil_append] at hrow1 ⊢
        have hg1 : w5.heap.size ≤ g1 := by
          rcases hat1 with e | e
          · injection e with e; (try dsimp only at e); omega
          · simp at e; omega
        have hBq : Below w5.heap.size w5 wq := Below.grown (by (repeat (first | with_reducible exact Below.refl _ _ | with_reducible assumption | (with_reducible refine below_drewN ?_ _) | (with_reducible refine Below.drew ?_) | (with_reducible refine Below.setCell ?_ (by first | omega | (simp; done) | (simp; omega)) _) | (with_reducible refine Below.alloc ?_ (by first | omega | (simp; done) | (simp; omega)) _) | refine Below.trans ?_ (Below.mono (by with_reducible assumption) (by first | omega | (simp; done) | (simp; omega)))))) hgrow1 (by first | omega | (simp; done) | (simp; omega)) (fun j hj => by injection hj with hj; (try dsimp only at hj); omega)
        have hzq := hgrow1.size
        (try simp at hzq)
        have hnew := news3_kept (W := w5.drew.alloc (.cells #[] 34)) (E := w5.heap.size + 1) (a := .slice (some ⟨q, o, none⟩) m c2) (b := .int .i64 b) (c := .bool s) (t := 34) (by simp) (Below.refl _ _) hgrow1 (fun e => by injection e with e; (try dsimp only at e); omega)
        refine hK.out _ _ ?_ (fun hHeld => ?_)
        · exact keep3 hC3 (by (repeat (first | with_reducible exact Below.refl _ _ | with_reducible assumption | (with_reducible refine below_drewN ?_ _) | (with_reducible refine Below.drew ?_) | (with_reducible refine Below.setCell ?_ (by first | omega | (simp; done) | (simp; omega)) _) | (with_reducible refine Below.alloc ?_ (by first | omega | (simp; done) | (simp; omega)) _) | refine Below.trans ?_ (Below.mono (by with_reducible assumption) (by first | omega | (simp; done) | (simp; omega))))))
        clear hK K
        (try simp only [Act.put, List.setIfInBounds_toArray, List.set_cons_zero, List.set_cons_succ])
        clear hown1 hgrow1 hat1 hrow0 hrow0'
        refine wpAnyT_ready (rs := [5]) (by kernel_rfl) (by kernel_rfl) ?_
        refine AllReadyT.cons (by simp only [List.getElem?_toArray, List.getElem?_cons_succ, List.getElem?_cons_zero]; rfl) (fun K hK => ?_) AllReadyT.nil
        ((refine step_append_lies _ (by rfl) (.tmp 58) (.tmp 60) _ (by rfl) 0 34 j0 _ 3 40 Try.underlying23 hj yj0 yj1 yj2 rfl (by omega) (.slice (some ⟨g1, 0, none⟩) n cap1) n _ (by rfl) (LinG.later hrow1 (by (repeat (first | with_reducible exact Below.refl _ _ | with_reducible assumption | (with_reducible refine below_drewN ?_ _) | (with_reducible refine Below.drew ?_) | (with_reducible refine Below.setCell ?_ (by first | omega | (simp; done) | (simp; omega)) _) | (with_reducible refine Below.alloc ?_ (by first | omega | (simp; done) | (simp; omega)) _) | refine Below.trans ?_ (Below.mono (by with_reducible assumption) (by first | omega | (simp; done) | (simp; omega))))))).own ⟨w5.heap.size + 1, 0, none⟩ 1 1 [.slice (some ⟨q, o, none⟩) m c2, .int .i64 b, .bool s] (by rfl) (by rfl) hnew (by simp [Value.oneCell']) (by omega) (by unfold maxLen; omega) (by omega) (Nat.zero_le _) _ rfl ?_); intro g2 cap2 wp hown2 hgrow2 hat2 hlt2; have hrow2 := (LinG.later hrow1 (by (repeat (first | with_reducible exact Below.refl _ _ | with_reducible assumption | (with_reducible refine below_drewN ?_ _) | (with_reducible refine Below.drew ?_) | (with_reducible refine Below.setCell ?_ (by first | omega | (simp; done) | (simp; omega)) _) | (with_reducible refine Below.alloc ?_ (by first | omega | (simp; done) | (simp; omega)) _) | refine Below.trans ?_ (Below.mono (by with_reducible assumption) (by first | omega | (simp; done) | (simp; omega))))))).snoc (x := (xs, b, s)) hown2 hgrow2 hat2 rfl (Ints.later hI (by (repeat (first | with_reducible exact Below.refl _ _ | with_reducible assumption | (with_reducible refine below_drewN ?_ _) | (with_reducible refine Below.drew ?_) | (with_reducible refine Below.setCell ?_ (by first | omega | (simp; done) | (simp; omega)) _) | (with_reducible refine Below.alloc ?_ (by first | omega | (simp; done) | (simp; omega)) _) | refine Below.trans ?_ (Below.mono (by with_reducible assumption) (by first | omega | (simp; done) | (simp; omega))))))) (Off.lower hI hg1) (fresh_at (Nat.zero_le _)); have hL6 := hrow2.lins (by omega); have hBp : Below w5.heap.size w5 wp := Below.grown (by (repeat (first | with_reducible exact Below.refl _ _ | with_reducible assumption | (with_reducible refine below_drewN ?_ _) | (with_reducible refine Below.drew ?_) | (with_reducible refine Below.setCell ?_ (by first | omega | (simp; done) | (simp; omega)) _) | (with_reducible refine Below.alloc ?_ (by first | omega | (simp; done) | (simp; omega)) _) | refine Below.trans ?_ (Below.mono (by with_reducible assumption) (by first | omega | (simp; done) | (simp; omega)))))) hgrow2 (by first | omega | (simp; done) | (simp; omega)) (fun j hj => by injection hj with hj; (try dsimp only at hj); omega); have hzp := hgrow2.size; (try simp at hzp); clear hown2 hgrow2 hat2 hlt2 hrow2)
        refine hK.out _ _ ?_ (fun hHeld => ?_)
        · (try dsimp only)
          exact keep3 hC3 (by (repeat (first | with_reducible exact Below.refl _ _ | with_reducible assumption | (with_reducible refine below_drewN ?_ _) | (with_reducible refine Below.drew ?_) | (with_reducible refine Below.setCell ?_ (by first | omega | (simp; done) | (simp; omega)) _) | (with_reducible refine Below.alloc ?_ (by first | omega | (simp; done) | (simp; omega)) _) | refine Below.trans ?_ (Below.mono (by with_reducible assumption) (by first | omega | (simp; done) | (simp; omega))))))
        clear hK K
        (try simp only [Act.put, List.setIfInBounds_toArray, List.set_cons_zero, List.set_cons_succ])
        refine wpAnyT_ready (rs := [6]) (by kernel_rfl) (by kernel_rfl) ?_
        refine AllReadyT.cons (by simp only [List.getElem?_toArray, List.getElem?_cons_succ, List.getElem?_cons_zero]; rfl) (fun K hK => ?_) AllReadyT.nil
        (go_simp; (refine (runI HR2 hL6).mono ?_); rintro e w8 ⟨A8, n8, c8, B8, m8, d8, rfl, _, hb1⟩; have hB8 : Below w5.heap.size w5 w8 := Below.trans hBp (hb1.mono (by first | omega | (simp; done) | (simp; omega))); clear hb1)
        refine hK.out _ _ ?_ (fun hHeld => ?_)
        · (try dsimp only)
          exact keep3 hC3 (by (repeat (first | with_reducible exact Below.refl _ _ | with_reducible assumption | (with_reducible refine below_drewN ?_ _) | (with_reducible refine Below.drew ?_) | (with_reducible refine Below.setCell ?_ (by first | omega | (simp; done) | (simp; omega)) _) | (with_reducible refine Below.alloc ?_ (by first | omega | (simp; done) | (simp; omega)) _) | refine Below.trans ?_ (Below.mono (by with_reducible assumption) (by first | omega | (simp; done) | (simp; omega))))))
        clear hK K
        (try simp only [Act.put, List.setIfInBounds_toArray, List.set_cons_zero, List.set_cons_succ])
        (refine wpAnyT_take (i := 7) (v := ?_) (by simp only [List.getElem?_toArray, List.getElem?_cons_succ, List.getElem?_cons_zero]; rfl) (by kernel_rfl) (by kernel_rfl) (by kernel_rfl) (by kernel_rfl) (by intro _ _ _ h; exact h) (Or.inl ⟨by rfl, ?_⟩) (by assumption) ?_; rotate_left; (focus (intro wS hSw; (try dsimp only at hSw); go_simp; (try with_reducible rfl))); (try simp only [Act.put, List.setIfInBounds_toArray, List.set_cons_zero, List.set_cons_succ]))
        (refine wpAnyT_take (i := 8) (v := ?_) (by simp only [List.getElem?_toArray, List.getElem?_cons_succ, List.getElem?_cons_zero]; rfl) (by kernel_rfl) (by kernel_rfl) (by kernel_rfl) (by kernel_rfl) (by intro _ _ _ h; exact h) (Or.inl ⟨by rfl, ?_⟩) (by assumption) ?_; rotate_left; (focus (intro wS hSw; (try dsimp only at hSw); go_simp; (try with_reducible rfl))); (try simp only [Act.put, List.setIfInBounds_toArray, List.set_cons_zero, List.set_cons_succ]))
        (refine wpAnyT_take (i := 9) (v := ?_) (by simp only [List.getElem?_toArray, List.getElem?_cons_succ, List.getElem?_cons_zero]; rfl) (by kernel_rfl) (by kernel_rfl) (by kernel_rfl) (by kernel_rfl) (by intro _ _ _ h; exact h) (Or.inl ⟨by rfl, ?_⟩) (by assumption) ?_; rotate_left; (focus (intro wS hSw; (try dsimp only at hSw); go_simp; (try with_reducible rfl))); (try simp only [Act.put, List.setIfInBounds_toArray, List.set_cons_zero, List.set_cons_succ]))
        (refine wpAnyT_take (i := 10) (v := ?_) (by simp only [List.getElem?_toArray, List.getElem?_cons_succ, List.getElem?_cons_zero]; rfl) (by kernel_rfl) (by kernel_rfl) (by kernel_rfl) (by kernel_rfl) (by intro _ _ _ h; exact h) (Or.inl ⟨by rfl, ?_⟩) (by assumption) ?_; rotate_left; (focus (intro wS hSw; (try dsimp only at hSw); go_simp; (try with_reducible rfl))); (try simp only [Act.put, List.setIfInBounds_toArray, List.set_cons_zero, List.set_cons_succ]))
        (refine wpAnyT_take (i := 11) (v := ?_) (by simp only [List.getElem?_toArray, List.getElem?_cons_succ, List.getElem?_cons_zero]; rfl) (by kernel_rfl) (by kernel_rfl) (by kernel_rfl) (by kernel_rfl) (by intro _ _ _ h; exact h) (Or.inl ⟨by rfl, ?_⟩) (by assumption) ?_; rotate_left; (focus (intro wS hSw; (try dsimp only at hSw); go_simp; (try with_reducible rfl))); (try simp only [Act.put, List.setIfInBounds_toArray, List.set_cons_zero, List.set_cons_succ]))
        (refine wpAnyT_take (i := 12) (v := ?_) (by simp only [List.getElem?_toArray, List.getElem?_cons_succ, List.getElem?_cons_zero]; rfl) (by kernel_rfl) (by kernel_rfl) (by kernel_rfl) (by kernel_rfl) (by intro _ _ _ h; exact h) (Or.inl ⟨by rfl, ?_⟩) (by assumption) ?_; rotate_left; (focus (intro wS hSw; (try dsimp only at hSw); go_simp; (try with_reducible rfl))); (try simp only [Act.put, List.setIfInBounds_toArray, List.set_cons_zero, List.set_cons_succ]))
        refine wpAnyT_done (by kernel_rfl) ?_
        simp only [List.drop_succ_cons, List.drop_zero]
        have hBz : Below w.heap.size w w8 := Below.trans hB1 (hB8.mono (by omega))
        cases ok
        · go_wp2
          go_ret
          exact ⟨rfl, hBz⟩
        cases so
        · go_wp2
          go_ret
          exact ⟨rfl, hBz⟩
        have hM := HM.out rfl rfl
        have hM2 : (r2.code != 1) = true := by unfold bne; rw [hM]; rfl
        generalize r2.code = code2 at *
        go_wp2
        go_ret
        exact ⟨rfl, hBz⟩
    · go_simp
      refine hK.out _ _ ?_ (fun hHeld => ?_)
      · exact keep3 hC3 (by (repeat (first | with_reducible exact Below.refl _ _ | with_reducible assumption | (with_reducible refine below_drewN ?_ _) | (with_reducible refine Below.drew ?_) | (with_reducible refine Below.setCell ?_ (by first | omega | (simp; done) | (simp; omega)) _) | (with_reducible refine Below.alloc ?_ (by first | omega | (simp; done) | (simp; omega)) _) | refine Below.trans ?_ (Below.mono (by with_reducible assumption) (by first | omega | (simp; done) | (simp; omega))))))
      clear hK K
      (try simp only [Act.put, List.setIfInBounds_toArray, List.set_cons_zero, List.set_cons_succ])
      refine wpAnyT_ready (rs := [0]) (by kernel_rfl) (by kernel_rfl) ?_
      refine AllReadyT.cons (by simp only [List.getElem?_toArray, List.getElem?_cons_succ, List.getElem?_cons_zero]; rfl) (fun K hK => ?_) AllReadyT.nil
      go_simp
      refine hK.out _ _ ?_ (fun hHeld => ?_)
      · (try dsimp only)
        exact keep3 hC3 (by (repeat (first | with_reducible exact Below.refl _ _ | with_reducible assumption | (with_reducible refine below_drewN ?_ _) | (with_reducible refine Below.drew ?_) | (with_reducible refine Below.setCell ?_ (by first | omega | (simp; done) | (simp; omega)) _) | (with_reducible refine Below.alloc ?_ (by first | omega | (simp; done) | (simp; omega)) _) | refine Below.trans ?_ (Below.mono (by with_reducible assumption) (by first | omega | (simp; done) | (simp; omega))))))
      clear hK K
      (try simp only [Act.put, List.setIfInBounds_toArray, List.set_cons_zero, List.set_cons_succ])
      have hrow0 : LinG ((w5.drew.alloc (.cells #[.slice (some ⟨q, o, none⟩) m c2, .int .i64 b, .bool s] 34)).alloc (.cells #[] 34)) 0 (.slice (some ⟨w5.heap.size + 1, 0, none⟩) 0 0) 0 [] [] := LinG.empty (by simp) (Nat.zero_le _)
      refine wpAnyT_ready (rs := [2]) (by kernel_rfl) (by kernel_rfl) ?_
      refine AllReadyT.cons (by simp only [List.getElem?_toArray, List.getElem?_cons_succ, List.getElem?_cons_zero]; rfl) (fun K hK => ?_) AllReadyT.nil
      (refine step_append_lies _ (by rfl) (.tmp 56) (.tmp 57) _ (by rfl) 0 34 j0 _ 3 40 Try.underlying23 hj yj0 yj1 yj2 rfl (by omega) (.slice (some ⟨w5.heap.size + 1, 0, none⟩) 0 0) 0 [] (by rfl) (hrow0).own ⟨p, oo, none⟩ n c (cellsAt w5 p oo (n * 3)) (by rfl) (by rw [cellsAt_len]) (hC.news hp (by (repeat (first | with_reducible exact Below.refl _ _ | with_reducible assumption | (with_reducible refine below_drewN ?_ _) | (with_reducible refine Below.drew ?_) | (with_reducible refine Below.setCell ?_ (by first | omega | (simp; done) | (simp; omega)) _) | (with_reducible refine Below.alloc ?_ (by first | omega | (simp; done) | (simp; omega)) _) | refine Below.trans ?_ (Below.mono (by with_reducible assumption) (by first | omega | (simp; done) | (simp; omega))))))) hC.one hnp (by unfold maxLen; omega) (by omega) (Nat.zero_le _) _ rfl ?_)
      intro g1 cap1 wq hown1 hgrow1 hat1 hlt1
      have hrow1 := LinG.app (xs := ls) hrow0 hown1 hgrow1 hat1 rfl hL.len (hC.z (by (repeat (first | with_reducible exact Below.refl _ _ | with_reducible assumption | (with_reducible refine below_drewN ?_ _) | (with_reducible refine Below.drew ?_) | (with_reducible refine Below.setCell ?_ (by first | omega | (simp; done) | (simp; omega)) _) | (with_reducible refine Below.alloc ?_ (by first | omega | (simp; done) | (simp; omega)) _) | refine Below.trans ?_ (Below.mono (by with_reducible assumption) (by first | omega | (simp; done) | (simp; omega)))))) (by first | omega | (simp; done) | (simp; omega)))
      simp only [Nat.zero_add, List.nil_append] at hrow1 ⊢
      have hg1 : w5.heap.size ≤ g1 := by
        rcases hat1 with e | e
        · injection e with e; (try dsimp only at e); omega
        · simp at e; omega
      have hBq : Below w5.heap.size w5 wq := Below.grown (by (repeat (first | with_reducible exact Below.refl _ _ | with_reducible assumption | (with_reducible refine below_drewN ?_ _) | (with_reducible refine Below.drew ?_) | (with_reducible refine Below.setCell ?_ (by first | omega | (simp; done) | (simp; omega)) _) | (with_reducible refine Below.alloc ?_ (by first | omega | (simp; done) | (simp; omega)) _) | refine Below.trans ?_ (Below.mono (by with_reducible assumption) (by first | omega | (simp; done) | (simp; omega)))))) hgrow1 (by first | omega | (simp; done) | (simp; omega)) (fun j hj => by injection hj with hj; (try dsimp only at hj); omega)
      have hzq := hgrow1.size
      (try simp at hzq)
      have hnew := news3_kept (W := w5.drew) (E := w5.heap.size) (a := .slice (some ⟨q, o, none⟩) m c2) (b := .int .i64 b) (c := .bool s) (t := 34) (by simp) ((Below.refl _ _).alloc (Nat.le_refl _) _) hgrow1 (fun e => by injection e with e; (try dsimp only at e); omega)
      refine hK.out _ _ ?_ (fun hHeld => ?_)
      · exact keep3 hC3 (by (repeat (first | with_reducible exact Below.refl _ _ | with_reducible assumption | (with_reducible refine below_drewN ?_ _) | (with_reducible refine Below.drew ?_) | (with_reducible refine Below.setCell ?_ (by first | omega | (simp; done) | (simp; omega)) _) | (with_reducible refine Below.alloc ?_ (by first | omega | (simp; done) | (simp; omega)) _) | refine Below.trans ?_ (Below.mono (by with_reducible assumption) (by first | omega | (simp; done) | (simp; omega))))))
      clear hK K
      (try simp only [Act.put, List.setIfInBounds_toArray, List.set_cons_zero, List.set_cons_succ])
      clear hown1 hgrow1 hat1 hrow0
      refine wpAnyT_ready (rs := [5]) (by kernel_rfl) (by kernel_rfl) ?_
      refine AllReadyT.cons (by simp only [List.getElem?_toArray, List.getElem?_cons_succ, List.getElem?_cons_zero]; rfl) (fun K hK => ?_) AllReadyT.nil
      ((refine step_append_lies _ (by rfl) (.tmp 58) (.tmp 60) _ (by rfl) 0 34 j0 _ 3 40 Try.underlying23 hj yj0 yj1 yj2 rfl (by omega) (.slice (some ⟨g1, 0, none⟩) n cap1) n _ (by rfl) (LinG.later hrow1 (by (repeat (first | with_reducible exact Below.refl _ _ | with_reducible assumption | (with_reducible refine below_drewN ?_ _) | (with_reducible refine Below.drew ?_) | (with_reducible refine Below.setCell ?_ (by first | omega | (simp; done) | (simp; omega)) _) | (with_reducible refine Below.alloc ?_ (by first | omega | (simp; done) | (simp; omega)) _) | refine Below.trans ?_ (Below.mono (by with_reducible assumption) (by first | omega | (simp; done) | (simp; omega))))))).own ⟨w5.heap.size, 0, none⟩ 1 1 [.slice (some ⟨q, o, none⟩) m c2, .int .i64 b, .bool s] (by rfl) (by rfl) hnew (by simp [Value.oneCell']) (by omega) (by unfold maxLen; omega) (by omega) (Nat.zero_le _) _ rfl ?_); intro g2 cap2 wp hown2 hgrow2 hat2 hlt2; have hrow2 := (LinG.later hrow1 (by (repeat (first | with_reducible exact Below.refl _ _ | with_reducible assumption | (with_reducible refine below_drewN ?_ _) | (with_reducible refine Below.drew ?_) | (with_reducible refine Below.setCell ?_ (by first | omega | (simp; done) | (simp; omega)) _) | (with_reducible refine Below.alloc ?_ (by first | omega | (simp; done) | (simp; omega)) _) | refine Below.trans ?_ (Below.mono (by with_reducible assumption) (by first | omega | (simp; done) | (simp; omega))))))).snoc (x := (xs, b, s)) hown2 hgrow2 hat2 rfl (Ints.later hI (by (repeat (first | with_reducible exact Below.refl _ _ | with_reducible assumption | (with_reducible refine below_drewN ?_ _) | (with_reducible refine Below.drew ?_) | (with_reducible refine Below.setCell ?_ (by first | omega | (simp; done) | (simp; omega)) _) | (with_reducible refine Below.alloc ?_ (by first | omega | (simp; done) | (simp; omega)) _) | refine Below.trans ?_ (Below.mono (by with_reducible assumption) (by first | omega | (simp; done) | (simp; omega))))))) (Off.lower hI hg1) (fresh_at (Nat.zero_le _)); have hL6 := hrow2.lins (by omega); have hBp : Below w5.heap.size w5 wp := Below.grown (by (repeat (first | with_reducible exact Below.refl _ _ | with_reducible assumption | (with_reducible refine below_drewN ?_ _) | (with_reducible refine Below.drew ?_) | (with_reducible refine Below.setCell ?_ (by first | omega | (simp; done) | (simp; omega)) _) | (with_reducible refine Below.alloc ?_ (by first | omega | (simp; done) | (simp; omega)) _) | refine Below.trans ?_ (Below.mono (by with_reducible assumption) (by first | omega | (simp; done) | (simp; omega)))))) hgrow2 (by first | omega | (simp; done) | (simp; omega)) (fun j hj => by injection hj with hj; (try dsimp only at hj); omega); have hzp := hgrow2.size; (try simp at hzp); clear hown2 hgrow2 hat2 hlt2 hrow2)
      refine hK.out _ _ ?_ (fun hHeld => ?_)
      · (try dsimp only)
        exact keep3 hC3 (by (repeat (first | with_reducible exact Below.refl _ _ | with_reducible assumption | (with_reducible refine below_drewN ?_ _) | (with_reducible refine Below.drew ?_) | (with_reducible refine Below.setCell ?_ (by first | omega | (simp; done) | (simp; omega)) _) | (with_reducible refine Below.alloc ?_ (by first | omega | (simp; done) | (simp; omega)) _) | refine Below.trans ?_ (Below.mono (by with_reducible assumption) (by first | omega | (simp; done) | (simp; omega))))))
      clear hK K
      (try simp only [Act.put, List.setIfInBounds_toArray, List.set_cons_zero, List.set_cons_succ])
      refine wpAnyT_ready (rs := [6]) (by kernel_rfl) (by kernel_rfl) ?_
      refine AllReadyT.cons (by simp only [List.getElem?_toArray, List.getElem?_cons_succ, List.getElem?_cons_zero]; rfl) (fun K hK => ?_) AllReadyT.nil
      (go_simp; (refine (runI HR2 hL6).mono ?_); rintro e w8 ⟨A8, n8, c8, B8, m8, d8, rfl, _, hb1⟩; have hB8 : Below w5.heap.size w5 w8 := Below.trans hBp (hb1.mono (by first | omega | (simp; done) | (simp; omega))); clear hb1)
      refine hK.out _ _ ?_ (fun hHeld => ?_)
      · (try dsimp only)
        exact keep3 hC3 (by (repeat (first | with_reducible exact Below.refl _ _ | with_reducible assumption | (with_reducible refine below_drewN ?_ _) | (with_reducible refine Below.drew ?_) | (with_reducible refine Below.setCell ?_ (by first | omega | (simp; done) | (simp; omega)) _) | (with_reducible refine Below.alloc ?_ (by first | omega | (simp; done) | (simp; omega)) _) | refine Below.trans ?_ (Below.mono (by with_reducible assumption) (by first | omega | (simp; done) | (simp; omega))))))
      clear hK K
      (try simp only [Act.put, List.setIfInBounds_toArray, List.set_cons_zero, List.set_cons_succ])
      (refine wpAnyT_take (i := 7) (v := ?_) (by simp only [List.getElem?_toArray, List.getElem?_cons_succ, List.getElem?_cons_zero]; rfl) (by kernel_rfl) (by kernel_rfl) (by kernel_rfl) (by kernel_rfl) (by intro _ _ _ h; exact h) (Or.inl ⟨by rfl, ?_⟩) (by assumption) ?_; rotate_left; (focus (intro wS hSw; (try dsimp only at hSw); go_simp; (try with_reducible rfl))); (try simp only [Act.put, List.setIfInBounds_toArray, List.set_cons_zero, List.set_cons_succ]))
      (refine wpAnyT_take (i := 8) (v := ?_) (by simp only [List.getElem?_toArray, List.getElem?_cons_succ, List.getElem?_cons_zero]; rfl) (by kernel_rfl) (by kernel_rfl) (by kernel_rfl) (by kernel_rfl) (by intro _ _ _ h; exact h) (Or.inl ⟨by rfl, ?_⟩) (by assumption) ?_; rotate_left; (focus (intro wS hSw; (try dsimp only at hSw); go_simp; (try with_reducible rfl))); (try simp only [Act.put, List.setIfInBounds_toArray, List.set_cons_zero, List.set_cons_succ]))
      (refine wpAnyT_take (i := 9) (v := ?_) (by simp only [List.getElem?_toArray, List.getElem?_cons_succ, List.getElem?_cons_zero]; rfl) (by kernel_rfl) (by kernel_rfl) (by kernel_rfl) (by kernel_rfl) (by intro _ _ _ h; exact h) (Or.inl ⟨by rfl, ?_⟩) (by assumption) ?_; rotate_left; (focus (intro wS hSw; (try dsimp only at hSw); go_simp; (try with_reducible rfl))); (try simp only [Act.put, List.setIfInBounds_toArray, List.set_cons_zero, List.set_cons_succ]))
      (refine wpAnyT_take (i := 10) (v := ?_) (by simp only [List.getElem?_toArray, List.getElem?_cons_succ, List.getElem?_cons_zero]; rfl) (by kernel_rfl) (by kernel_rfl) (by kernel_rfl) (by kernel_rfl) (by intro _ _ _ h; exact h) (Or.inl ⟨by rfl, ?_⟩) (by assumption) ?_; rotate_left; (focus (intro wS hSw; (try dsimp only at hSw); go_simp; (try with_reducible rfl))); (try simp only [Act.put, List.setIfInBounds_toArray, List.set_cons_zero, List.set_cons_succ]))
      (refine wpAnyT_take (i := 11) (v := ?_) (by simp only [List.getElem?_toArray, List.getElem?_cons_succ, List.getElem?_cons_zero]; rfl) (by kernel_rfl) (by kernel_rfl) (by kernel_rfl) (by kernel_rfl) (by intro _ _ _ h; exact h) (Or.inl ⟨by rfl, ?_⟩) (by assumption) ?_; rotate_left; (focus (intro wS hSw; (try dsimp only at hSw); go_simp; (try with_reducible rfl))); (try simp only [Act.put, List.setIfInBounds_toArray, List.set_cons_zero, List.set_cons_succ]))
      (refine wpAnyT_take (i := 12) (v := ?_) (by simp only [List.getElem?_toArray, List.getElem?_cons_succ, List.getElem?_cons_zero]; rfl) (by kernel_rfl) (by kernel_rfl) (by kernel_rfl) (by kernel_rfl) (by intro _ _ _ h; exact h) (Or.inl ⟨by rfl, ?_⟩) (by assumption) ?_; rotate_left; (focus (intro wS hSw; (try dsimp only at hSw); go_simp; (try with_reducible rfl))); (try simp only [Act.put, List.setIfInBounds_toArray, List.set_cons_zero, List.set_cons_succ]))
      refine wpAnyT_done (by kernel_rfl) ?_
      simp only [List.drop_succ_cons, List.drop_zero]
      have hBz : Below w.heap.size w w8 := Below.trans hB1 (hB8.mono (by omega))
      cases ok
      · go_wp2
        go_ret
        exact ⟨rfl, hBz⟩
      cases so
      · go_wp2
        go_ret
        exact ⟨rfl, hBz⟩
      have hM := HM.out rfl rfl
      have hM2 : (r2.code != 1) = true := by unfold bne; rw [hM]; rfl
      generalize r2.code = code2 at *
      go_wp2
      go_ret
      exact ⟨rfl, hBz⟩

theorem fnFarMore_open {H : Type} {enc : TypeId × Value → H} {W : World} {base : Nat} {args : Array Value} {ds : List (DataW H)} {p : List MemPlace}
    (hval : ∀ (j : Nat) t v, #[22][j]? = some t → args[j]? = some v → Value.okWide Try.prog W .any base t v)
    (hA : DataW.TrodAll enc Try.prog W 0 (fun _ => true) true #[22].toList args.toList ds p) :
    Calls Try.prog 8 args W fun e w' => e = .returned (.bool true) ∧ Below W.heap.size W w' := by
  obtain ⟨v0, d0, rfl, rfl, h0⟩ := trodAll_one hA
  obtain ⟨A, cap, bs, rfl, hc⟩ := open_bytes (hval 0 _ v0 rfl rfl) h0
  exact fnFarMore_walk hc
set_option maxRecDepth 100000 in
theorem fnFarMore_lifted (os : Os) (started : os.Started) (H : Type) (enc : TypeId × Value → H) :
    ReturnsInHanded {} Try.checked os 8 .any (Rows.fnFarMoreSpec.pre6 enc Try.prog Try.f8 Rows.fnFarMoreRow.domain false) (Rows.fnFarMoreSpec.post enc Try.prog Try.f8 false true false false) := by
  refine returnsInHanded_of_change (C := Try.checked) own started (by kernel_rfl) Try.func8
    (ChangeSpec.witness6 (enc := enc) (C := Try.checked) false ⟨#[], #[.slice none 0 0], []⟩ 8 (by kernel_rfl) (by kernel_rfl) (by kernel_rfl) (by kernel_rfl)) ?_
  intro W base args ds gs before hval0 hW hcnd _
  have hval : ∀ (j : Nat) t v, Try.f8.params[j]? = some t → args[j]? = some v → Value.okWide Try.prog W .any base t v := hval0
  refine law_post hW rfl rfl ?_ ?_ ?_
  · have hr : (Try.f8.params.toList.all fun t => Try.prog.readableRec t && decide (t < Try.prog.types.size)) = true := by kernel_rfl
    intro t ht
    have := List.all_eq_true.1 hr t ht
    simpa using this
  · intro ds hl
    match ds, hl with
    | [d], _ => rfl
  · obtain ⟨p, q, hA0, _⟩ := hW
    have hA : DataW.TrodAll enc Try.prog W 0 (fun _ => true) true Try.f8.params.toList args.toList ds p := hA0
    clear hA0 hval0
    rw [Try.params8] at hA hval
    exact fnFarMore_open hval hA

theorem fnFarMore_facts : joinedFacts Try.prog 8 Try.f8 Rows.fnFarMoreSpec Rows.fnFarMoreRow = true :=
  joined_of _ _ _ _ _ (by kernel_rfl) laidOut mapsRowed_ok (by kernel_rfl) (by kernel_rfl) (by kernel_rfl) stops_eq (by kernel_rfl) stopKnobs_eq (by kernel_rfl) (by kernel_rfl) (by kernel_rfl) (by kernel_rfl) (by kernel_rfl) (by kernel_rfl) (by kernel_rfl) (by kernel_rfl) (by kernel_rfl) (by kernel_rfl) (by kernel_rfl) (by kernel_rfl) (by kernel_rfl) (plainKeys_eq _ rfl) (by kernel_rfl) heard_ok mayEnter_ok (lifted_eq _ rfl) (make_eq _ rfl) (by kernel_rfl) (by kernel_rfl) (by kernel_rfl) (by kernel_rfl)

theorem fnFarMore_holds : Rows.FnFarMoreSaid :=
  OpenClaim.holds_of_wide 8 Try.f8 rfl rfl rfl rfl rfl rfl rfl ⟨rfl, rfl, rfl, rfl, rfl⟩ rfl rfl rfl rfl rfl (by kernel_rfl) Try.func8 fnFarMore_facts
    (of_decide_eq_true (by kernel_rfl)) (by unfold Func.isWrapper; first | (rw [if_pos (by decide +kernel)]; kernel_rfl) | (rw [if_neg (by decide +kernel)]; exact ⟨rfl, rfl⟩))
    (fun os started H enc _ => fnFarMore_lifted os started H enc)
#print axioms fnFarMore_holds
end Go.Proofs.Ytccjbipmlpnhkaa

/- Terms are written. -/
import Derived.Test.YtgmeoblapnmpiaaTz
import Derived.Test.YtgmeoblapnmpiaaSv
namespace Go.Proofs.Ytgmeoblapnmpiaa
set_option maxRecDepth 100000
open Go.RowKit Go.ChangeShapes Go.WideShapes Go.ChangeAt
set_option linter.unusedSimpArgs false
set_option linter.unusedVariables false

/-- a string of these bytes -/
abbrev strB (l : List UInt8) : ByteArray := ⟨l.toArray⟩
theorem strB_append (a b : List UInt8) : strB a ++ strB b = strB (a ++ b) := by
  apply ByteArray.ext
  rw [ByteArray.data_append]
  simp
theorem strB_size (l : List UInt8) : (strB l).size = l.length := by simp [ByteArray.size]
theorem strB_eta (s : ByteArray) : ∃ l, s = strB l := ⟨s.data.toList, by cases s; simp [strB]⟩

def ManyCall (f : Nat) : Prop := ∀ {d : Nat} {A : Option Addr} {n c lo : Nat} {ks : List TermV} (s : ByteArray) (x : Int) {w : World}, Kids w lo d A n ks → Hid (tshape f (.mk s ks) = true) → f ≤ 4 → x = (f : Int) →
    Calls Try.prog 78 #[.agg #[.string s, .slice A n c], .int .i64 x] w fun e w' => e = .returned (.int .i64 (tmany f (.mk s ks) : Nat)) ∧ Below w.heap.size w w'
set_option maxHeartbeats 4000000 in
theorem l4Many_of {f : Nat} (IH : ∀ f', f = f' + 1 → ManyCall f') : ManyCall f := by
  intro d A n c lo ks s x w h hs hf hx
  have hfew := h.few
  have hlen := h.len
  cases f with
  | zero => exact absurd hs.out (by simp [tshape])
  | succ f' =>
  have hx5 : x ≤ 4 := by omega
  have hx1 : 0 < x := by omega
  have HX := Lib.hid (show x - 1 = (f' : Int) by omega)
  clear hx
  have HK : Hid (∀ k, k < n → tshape f' (.mk (ks.getD k tm0).name (ks.getD k tm0).kids) = true) := Lib.hid (fun k hk => by rw [← term_eta]; exact (tshape_iff.1 hs.out).2.2 k (by rw [show TermV.kids (.mk s ks) = ks from rfl, hlen]; exact hk))
  have hn : n ≤ 2 := by have := (tshape_iff.1 hs.out).2.1; rw [show TermV.kids (.mk s ks) = ks from rfl, hlen] at this; exact this
  have HV : Hid (tmany (f' + 1) (.mk s ks) = 1 + psum (tmany f') ks n) := Lib.hid (by rw [← hlen]; rfl)
  have HT : Hid (∀ k, k < n → tmany f' (.mk (ks.getD k tm0).name (ks.getD k tm0).kids) ≤ 351) := Lib.hid (fun k hk => by rw [← tshape_many (HK.out k hk)]; exact tsz_351 (by omega) _)
  have HB : Hid (∀ k, k ≤ n → psum (tmany f') ks k ≤ 702) := Lib.hid (fun k hkn => by
    have h1 := psum_le (f := tmany f') (ks := ks) (m := 351) (k := k) (fun j hj => by rw [term_eta (ks.getD j tm0)]; exact HT.out j (by omega))
    have h2 := Nat.mul_le_mul_right 351 (show k ≤ 2 by omega)
    omega)
  have HI : Hid (ManyCall f') := Lib.hid (IH f' rfl)
  go_enter Try.func78, Try.ntmps78
  go_wp2_with fail
  go_loopw [5, 6] (fun acc i wr => ∃ (k : Nat) (l : Int), k ≤ n ∧ i = .int .i64 k ∧ acc = .int .i64 l ∧ Hid (l = 1 + (psum (tmany f') ks k : Nat)) ∧ (0 ≤ l ∧ l ≤ 703) ∧ wr.cell? ⟨w.heap.size, 1, none⟩ = some (.slice A n c) ∧ Below w.heap.size w wr) (fun _ i _ => n - (intOf i).toNat)
  case atStart => exact ⟨0, 1, by omega, rfl, rfl, Lib.hid rfl, by omega, by go_simp, by (repeat (first | with_reducible exact Below.refl _ _ | with_reducible assumption | (with_reducible refine below_drewN ?_ _) | (with_reducible refine Below.drew ?_) | (with_reducible refine Below.setCell ?_ (by first | omega | (simp; done) | (simp; omega)) _) | (with_reducible refine Below.alloc ?_ (by first | omega | (simp; done) | (simp; omega)) _) | refine Below.trans ?_ (Below.mono (by with_reducible assumption) (by first | omega | (simp; done) | (simp; omega)))))⟩
  case round =>
    obtain ⟨k, l, hkn, rfl, rfl, HL, ⟨hl0, hl1⟩, hq1, hB⟩ := hrel
    have hzr := hB.size
    have hqz := World.block_lt_of_cell? _ _ hq1
    dsimp only at hqz
    by_cases hlt : k < n
    · obtain ⟨d', p, o, rfl, rfl, hpl, hp, hcs⟩ := (h.later hB).cells (by omega)
      obtain ⟨B, m, cb, hc1, hc2, hIk, hsf⟩ := hcs k hlt
      clear hcs
      have HS := Lib.hid (psum_next (tmany f') ks k)
      have HK1 : Hid (tshape f' (.mk (ks.getD k tm0).name (ks.getD k tm0).kids) = true) := Lib.hid (HK.out k hlt)
      have HT1 : Hid (tmany f' (.mk (ks.getD k tm0).name (ks.getD k tm0).kids) ≤ 351) := Lib.hid (HT.out k hlt)
      have HN : Hid (psum (tmany f') ks (k + 1) ≤ 702) := Lib.hid (HB.out (k + 1) (by omega))
      generalize (ks.getD k tm0).name = s' at *
      generalize (ks.getD k tm0).kids = qs at *
      obtain ⟨tv, htv⟩ : ∃ tv, tmany f' (.mk s' qs) = tv := ⟨_, rfl⟩
      have HTV := Lib.hid htv
      have htv1 : tv ≤ 351 := by rw [← htv]; exact HT1.out
      clear htv
      go_wp2_with fail
      refine (HI.out s' (x - 1) (hIk.later (by (repeat (first | with_reducible exact Below.refl _ _ | with_reducible assumption | (with_reducible refine below_drewN ?_ _) | (with_reducible refine Below.drew ?_) | (with_reducible refine Below.setCell ?_ (by first | omega | (simp; done) | (simp; omega)) _) | (with_reducible refine Below.alloc ?_ (by first | omega | (simp; done) | (simp; omega)) _) | refine Below.trans ?_ (Below.mono (by with_reducible assumption) (by first | omega | (simp; done) | (simp; omega))))))) HK1 (by omega) HX.out).mono ?_
      rw [HTV.out]
      rintro e w2 ⟨rfl, hb1⟩
      have hz1 := hb1.size; (try simp at hz1); have hB1 : Below w.heap.size w w2 := (by refine Below.trans ?_ (Below.mono hb1 (by first | omega | (simp; done) | (simp; omega))); (repeat (first | with_reducible exact Below.refl _ _ | with_reducible assumption | (with_reducible refine below_drewN ?_ _) | (with_reducible refine Below.drew ?_) | (with_reducible refine Below.setCell ?_ (by first | omega | (simp; done) | (simp; omega)) _) | (with_reducible refine Below.alloc ?_ (by first | omega | (simp; done) | (simp; omega)) _) | refine Below.trans ?_ (Below.mono (by with_reducible assumption) (by first | omega | (simp; done) | (simp; omega))))))
      have hq2 := (hb1.cell (p := ⟨w.heap.size, 1, none⟩) (by first | omega | (simp; done) | (simp; omega))).trans hq1
      clear hb1
      go_wp2
      go_roundw
      case rel => exact ⟨k + 1, l + tv, by omega, by go_num, by go_num, Lib.hid (by rw [HS.out, HL.out, HTV.out]; omega), by have := HL.out; have := HS.out; have := HTV.out; have := HN.out; omega, hq2, by (repeat (first | with_reducible exact Below.refl _ _ | with_reducible assumption | (with_reducible refine below_drewN ?_ _) | (with_reducible refine Below.drew ?_) | (with_reducible refine Below.setCell ?_ (by first | omega | (simp; done) | (simp; omega)) _) | (with_reducible refine Below.alloc ?_ (by first | omega | (simp; done) | (simp; omega)) _) | refine Below.trans ?_ (Below.mono (by with_reducible assumption) (by first | omega | (simp; done) | (simp; omega)))))⟩
      case measure => simp [intOf]; omega
    · obtain rfl : k = n := by omega
      go_wp2
      go_ret
      exact ⟨by rw [HV.out, HL.out]; rfl, hB⟩
theorem l4Many_any : ∀ f, ManyCall f
  | 0 => l4Many_of (fun f' e => by omega)
  | f + 1 => l4Many_of (fun f' e => by obtain rfl : f = f' := by omega
                                       exact l4Many_any f)
theorem l4Right_any {d : Nat} {A : Option Addr} {n c lo : Nat} {ks : List TermV} (s : ByteArray) {w : World} (h : Kids w lo d A n ks) (hs : s.size ≤ 9223372036854775807) :
    Calls Try.prog 59 #[.agg #[.string s, .slice A n c]] w fun e w' => e = .returned (.bool (termOk (.mk s ks))) ∧ Below w.heap.size w w' := by
  rw [termOk_both]
  cases hsh : tshape 4 (.mk s ks)
  · have HS := Lib.hid hsh
    clear hsh
    go_enter Try.func59, Try.ntmps59
    go_wp2_with fail
    refine (l4Shape_any 4 s 4 (h.later (by (repeat (first | with_reducible exact Below.refl _ _ | with_reducible assumption | (with_reducible refine below_drewN ?_ _) | (with_reducible refine Below.drew ?_) | (with_reducible refine Below.setCell ?_ (by first | omega | (simp; done) | (simp; omega)) _) | (with_reducible refine Below.alloc ?_ (by first | omega | (simp; done) | (simp; omega)) _) | refine Below.trans ?_ (Below.mono (by with_reducible assumption) (by first | omega | (simp; done) | (simp; omega))))))) hs (by omega) (by omega)).mono ?_
    rw [HS.out]
    rintro e w1 ⟨rfl, hb1⟩
    have hz1 := hb1.size; (try simp at hz1); have hB1 : Below w.heap.size w w1 := (by refine Below.trans ?_ (Below.mono hb1 (by first | omega | (simp; done) | (simp; omega))); (repeat (first | with_reducible exact Below.refl _ _ | with_reducible assumption | (with_reducible refine below_drewN ?_ _) | (with_reducible refine Below.drew ?_) | (with_reducible refine Below.setCell ?_ (by first | omega | (simp; done) | (simp; omega)) _) | (with_reducible refine Below.alloc ?_ (by first | omega | (simp; done) | (simp; omega)) _) | refine Below.trans ?_ (Below.mono (by with_reducible assumption) (by first | omega | (simp; done) | (simp; omega)))))); obtain ⟨kc_, fc_, lc_⟩ := keep_later (a := ⟨w.heap.size, 0, none⟩) (v := .string s) hb1 (by go_simp) (by go_simp); obtain ⟨kc_, fc_, lc_⟩ := keep_later (a := ⟨w.heap.size, 1, none⟩) (v := .slice A n c) hb1 (by go_simp) (by go_simp); clear hb1
    go_wp2
    go_ret
    exact ⟨rfl, by (repeat (first | with_reducible exact Below.refl _ _ | with_reducible assumption | (with_reducible refine below_drewN ?_ _) | (with_reducible refine Below.drew ?_) | (with_reducible refine Below.setCell ?_ (by first | omega | (simp; done) | (simp; omega)) _) | (with_reducible refine Below.alloc ?_ (by first | omega | (simp; done) | (simp; omega)) _) | refine Below.trans ?_ (Below.mono (by with_reducible assumption) (by first | omega | (simp; done) | (simp; omega)))))⟩
  · have HS := Lib.hid hsh
    clear hsh
    obtain ⟨tv, htv⟩ : ∃ tv, tmany 4 (.mk s ks) = tv := ⟨_, rfl⟩
    have hv : (true && decide (tmany 4 (.mk s ks) ≤ 12)) = decide ((tv : Int) ≤ 12) := by
      rw [htv, Bool.true_and]; apply decide_eq_decide.2; omega
    rw [hv]
    have HT := Lib.hid htv
    clear htv hv
    go_enter Try.func59, Try.ntmps59
    go_wp2_with fail
    refine (l4Shape_any 4 s 4 (h.later (by (repeat (first | with_reducible exact Below.refl _ _ | with_reducible assumption | (with_reducible refine below_drewN ?_ _) | (with_reducible refine Below.drew ?_) | (with_reducible refine Below.setCell ?_ (by first | omega | (simp; done) | (simp; omega)) _) | (with_reducible refine Below.alloc ?_ (by first | omega | (simp; done) | (simp; omega)) _) | refine Below.trans ?_ (Below.mono (by with_reducible assumption) (by first | omega | (simp; done) | (simp; omega))))))) hs (by omega) (by omega)).mono ?_
    rw [HS.out]
    rintro e w1 ⟨rfl, hb1⟩
    have hz1 := hb1.size; (try simp at hz1); have hB1 : Below w.heap.size w w1 := (by refine Below.trans ?_ (Below.mono hb1 (by first | omega | (simp; done) | (simp; omega))); (repeat (first | with_reducible exact Below.refl _ _ | with_reducible assumption | (with_reducible refine below_drewN ?_ _) | (with_reducible refine Below.drew ?_) | (with_reducible refine Below.setCell ?_ (by first | omega | (simp; done) | (simp; omega)) _) | (with_reducible refine Below.alloc ?_ (by first | omega | (simp; done) | (simp; omega)) _) | refine Below.trans ?_ (Below.mono (by with_reducible assumption) (by first | omega | (simp; done) | (simp; omega)))))); obtain ⟨kc_, fc_, lc_⟩ := keep_later (a := ⟨w.heap.size, 0, none⟩) (v := .string s) hb1 (by go_simp) (by go_simp); obtain ⟨kc_, fc_, lc_⟩ := keep_later (a := ⟨w.heap.size, 1, none⟩) (v := .slice A n c) hb1 (by go_simp) (by go_simp); clear hb1
    go_wp2_with fail
    refine (l4Many_any 4 s 4 (h.later (by (repeat (first | with_reducible exact Below.refl _ _ | with_reducible assumption | (with_reducible refine below_drewN ?_ _) | (with_reducible refine Below.drew ?_) | (with_reducible refine Below.setCell ?_ (by first | omega | (simp; done) | (simp; omega)) _) | (with_reducible refine Below.alloc ?_ (by first | omega | (simp; done) | (simp; omega)) _) | refine Below.trans ?_ (Below.mono (by with_reducible assumption) (by first | omega | (simp; done) | (simp; omega))))))) HS (by omega) (by omega)).mono ?_
    rw [HT.out]
    rintro e w2 ⟨rfl, hb1⟩
    have hz1 := hb1.size; (try simp at hz1); have hB1 : Below w.heap.size w w2 := (by refine Below.trans ?_ (Below.mono hb1 (by first | omega | (simp; done) | (simp; omega))); (repeat (first | with_reducible exact Below.refl _ _ | with_reducible assumption | (with_reducible refine below_drewN ?_ _) | (with_reducible refine Below.drew ?_) | (with_reducible refine Below.setCell ?_ (by first | omega | (simp; done) | (simp; omega)) _) | (with_reducible refine Below.alloc ?_ (by first | omega | (simp; done) | (simp; omega)) _) | refine Below.trans ?_ (Below.mono (by with_reducible assumption) (by first | omega | (simp; done) | (simp; omega)))))); clear hb1
    go_wp2
    go_ret
    exact ⟨rfl, by (repeat (first | with_reducible exact Below.refl _ _ | with_reducible assumption | (with_reducible refine below_drewN ?_ _) | (with_reducible refine Below.drew ?_) | (with_reducible refine Below.setCell ?_ (by first | omega | (simp; done) | (simp; omega)) _) | (with_reducible refine Below.alloc ?_ (by first | omega | (simp; done) | (simp; omega)) _) | refine Below.trans ?_ (Below.mono (by with_reducible assumption) (by first | omega | (simp; done) | (simp; omega)))))⟩
/-- what is known of a right term's parts -/
structure Parts (f' : Nat) (s : List UInt8) (n : Nat) (ks : List TermV) : Prop where
  len : ks.length = n
  two : n ≤ 2
  name : s.length ≤ 2
  kid : ∀ k, k < n → tshape f' (.mk (ks.getD k tm0).name (ks.getD k tm0).kids) = true
  txt : ∀ k, k < n → (termL f' (.mk (ks.getD k tm0).name (ks.getD k tm0).kids)).length ≤ 184
theorem parts_of {f' : Nat} {s : List UInt8} {n : Nat} {ks : List TermV} (hl : ks.length = n) (h : tshape (f' + 1) (.mk (strB s) ks) = true) (hf : f' ≤ 3) : Parts f' s n ks := by
  obtain ⟨h1, h2, h3⟩ := tshape_iff.1 h
  have h4 := name_len h1
  rw [show TermV.name (.mk (strB s) ks) = strB s from rfl, strB_size] at h4
  have hk : ∀ k, k < n → tshape f' (.mk (ks.getD k tm0).name (ks.getD k tm0).kids) = true := fun k hk => by rw [← term_eta]; exact h3 k (by rw [show TermV.kids (.mk (strB s) ks) = ks from rfl, hl]; exact hk)
  refine ⟨hl, by rw [← hl]; exact h2, by omega, hk, fun k hkn => ?_⟩
  have h5 := termL_len (hk k hkn)
  have h6 : 3 ^ f' ≤ 3 ^ 3 := Nat.pow_le_pow_right (by omega) hf
  omega
theorem termAcc_next (T : TermV → List UInt8) (s : List UInt8) (ks : List TermV) (k : Nat) : termAcc T s ks (k + 1) = termAcc T s ks k ++ (if k = 0 then [40] else [44]) ++ T (.mk (ks.getD k tm0).name (ks.getD k tm0).kids) := by
  rw [← term_eta]; rfl
theorem Parts.acc {f' : Nat} {s : List UInt8} {n : Nat} {ks : List TermV} (h : Parts f' s n ks) : ∀ k, k ≤ n → (termAcc (termL f') s ks k).length ≤ 2 + k * 185
  | 0, _ => by have := h.name; simp only [termAcc]; omega
  | k + 1, hk => by
    have h1 := h.acc k (by omega)
    have h2 := h.txt k (by omega)
    rw [termAcc_next]
    simp only [List.length_append]
    split <;> (simp only [List.length_cons, List.length_nil]; omega)
def TextCall (fn : FuncId) (f : Nat) : Prop := ∀ {d : Nat} {A : Option Addr} {n c lo : Nat} {ks : List TermV} (s : List UInt8) {w : World}, Kids w lo d A n ks → Hid (tshape f (.mk (strB s) ks) = true) → f ≤ 4 →
    Calls Try.prog fn #[.agg #[.string (strB s), .slice A n c]] w fun e w' => e = .returned (.string (strB (termL f (.mk (strB s) ks)))) ∧ Below w.heap.size w w'

set_option maxHeartbeats 4000000 in
theorem l4Text_of {f : Nat} (IH : ∀ f', f = f' + 1 → TextCall 60 f') : TextCall 60 f := by
  intro d A n c lo ks s w h hs hf
  have hfew := h.few
  have hlen := h.len
  cases f with
  | zero => exact absurd hs.out (by simp [tshape])
  | succ f' =>
  have HP := Lib.hid (parts_of hlen hs.out (by omega))
  have hn := HP.out.two
  have HI : Hid (TextCall 60 f') := Lib.hid (IH f' rfl)
  have HA : Hid ((if n = 0 then termAcc (termL f') s ks n else termAcc (termL f') s ks n ++ [41]) = termL (f' + 1) (.mk (strB s) ks)) := Lib.hid (by have := termAcc_all (f := f') (t := .mk (strB s) ks) (by rw [show TermV.kids (.mk (strB s) ks) = ks from rfl, hlen]; exact hn); rw [show TermV.kids (.mk (strB s) ks) = ks from rfl, hlen] at this; exact this)
  go_enter Try.func60, Try.ntmps60
  go_wp2_with fail
  go_loopw [3, 4] (fun acc i wr => ∃ k : Nat, k ≤ n ∧ i = .int .i64 k ∧ acc = .string (strB (termAcc (termL f') s ks k)) ∧ wr.cell? ⟨w.heap.size, 1, none⟩ = some (.slice A n c) ∧ Below w.heap.size w wr) (fun _ i _ => n - (intOf i).toNat)
  case atStart => exact ⟨0, by omega, rfl, rfl, by go_simp, by (repeat (first | with_reducible exact Below.refl _ _ | with_reducible assumption | (with_reducible refine below_drewN ?_ _) | (with_reducible refine Below.drew ?_) | (with_reducible refine Below.setCell ?_ (by first | omega | (simp; done) | (simp; omega)) _) | (with_reducible refine Below.alloc ?_ (by first | omega | (simp; done) | (simp; omega)) _) | refine Below.trans ?_ (Below.mono (by with_reducible assumption) (by first | omega | (simp; done) | (simp; omega)))))⟩
  case round =>
    obtain ⟨k, hkn, rfl, rfl, hq1, hB⟩ := hrel
    have hzr := hB.size
    have hqz := World.block_lt_of_cell? _ _ hq1
    dsimp only at hqz
    have ha := HP.out.acc k hkn
    by_cases hlt : k < n
    · obtain ⟨d', p, o, rfl, rfl, hpl, hp, hcs⟩ := (h.later hB).cells (by omega)
      obtain ⟨B, m, cb, hc1, hc2, hIk, hsf⟩ := hcs k hlt
      clear hcs
      have HS := Lib.hid (termAcc_next (termL f') s ks k)
      have HK1 := Lib.hid (HP.out.kid k hlt)
      have ht := HP.out.txt k hlt
      generalize termAcc (termL f') s ks k = acc at *
      generalize (ks.getD k tm0).name = nm at *
      obtain ⟨s', rfl⟩ := strB_eta nm
      generalize (ks.getD k tm0).kids = qs at *
      have hs1 : ¬ 9223372036854775807 < acc.length + 1 := by omega
      have hs2 : ¬ 9223372036854775807 < acc.length + 1 + (termL f' (.mk (strB s') qs)).length := by omega
      by_cases hk0 : k = 0
      · have hk1 : ((k : Int) == 0) = true := by rw [beq_iff_eq]; omega
        have HK0 := Lib.hid hk0
        clear hk0
        go_wp2_with fail
        refine (HI.out s' (hIk.later (by (repeat (first | with_reducible exact Below.refl _ _ | with_reducible assumption | (with_reducible refine below_drewN ?_ _) | (with_reducible refine Below.drew ?_) | (with_reducible refine Below.setCell ?_ (by first | omega | (simp; done) | (simp; omega)) _) | (with_reducible refine Below.alloc ?_ (by first | omega | (simp; done) | (simp; omega)) _) | refine Below.trans ?_ (Below.mono (by with_reducible assumption) (by first | omega | (simp; done) | (simp; omega))))))) HK1 (by omega)).mono ?_
        rintro e w2 ⟨rfl, hb1⟩
        generalize termL f' (.mk (strB s') qs) = tx at *
        have hz1 := hb1.size; (try simp at hz1); have hB1 : Below w.heap.size w w2 := (by refine Below.trans ?_ (Below.mono hb1 (by first | omega | (simp; done) | (simp; omega))); (repeat (first | with_reducible exact Below.refl _ _ | with_reducible assumption | (with_reducible refine below_drewN ?_ _) | (with_reducible refine Below.drew ?_) | (with_reducible refine Below.setCell ?_ (by first | omega | (simp; done) | (simp; omega)) _) | (with_reducible refine Below.alloc ?_ (by first | omega | (simp; done) | (simp; omega)) _) | refine Below.trans ?_ (Below.mono (by with_reducible assumption) (by first | omega | (simp; done) | (simp; omega))))))
        have hq2 := (hb1.cell (p := ⟨w.heap.size, 1, none⟩) (by first | omega | (simp; done) | (simp; omega))).trans hq1
        clear hb1
        go_wp2
        go_roundw
        case rel => exact ⟨k + 1, by omega, by go_num, by rw [HS.out, if_pos HK0.out, show (⟨#[40]⟩ : ByteArray) = strB [40] from rfl, strB_append, strB_append], hq2, by (repeat (first | with_reducible exact Below.refl _ _ | with_reducible assumption | (with_reducible refine below_drewN ?_ _) | (with_reducible refine Below.drew ?_) | (with_reducible refine Below.setCell ?_ (by first | omega | (simp; done) | (simp; omega)) _) | (with_reducible refine Below.alloc ?_ (by first | omega | (simp; done) | (simp; omega)) _) | refine Below.trans ?_ (Below.mono (by with_reducible assumption) (by first | omega | (simp; done) | (simp; omega)))))⟩
        case measure => simp [intOf]; omega
      · have hk1 : ((k : Int) == 0) = false := by rw [beq_eq_false_iff_ne]; omega
        go_wp2_with fail
        refine (HI.out s' (hIk.later (by (repeat (first | with_reducible exact Below.refl _ _ | with_reducible assumption | (with_reducible refine below_drewN ?_ _) | (with_reducible refine Below.drew ?_) | (with_reducible refine Below.setCell ?_ (by first | omega | (simp; done) | (simp; omega)) _) | (with_reducible refine Below.alloc ?_ (by first | omega | (simp; done) | (simp; omega)) _) | refine Below.trans ?_ (Below.mono (by with_reducible assumption) (by first | omega | (simp; done) | (simp; omega))))))) HK1 (by omega)).mono ?_
        rintro e w2 ⟨rfl, hb1⟩
        generalize termL f' (.mk (strB s') qs) = tx at *
        have hz1 := hb1.size; (try simp at hz1); have hB1 : Below w.heap.size w w2 := (by refine Below.trans ?_ (Below.mono hb1 (by first | omega | (simp; done) | (simp; omega))); (repeat (first | with_reducible exact Below.refl _ _ | with_reducible assumption | (with_reducible refine below_drewN ?_ _) | (with_reducible refine Below.drew ?_) | (with_reducible refine Below.setCell ?_ (by first | omega | (simp; done) | (simp; omega)) _) | (with_reducible refine Below.alloc ?_ (by first | omega | (simp; done) | (simp; omega)) _) | refine Below.trans ?_ (Below.mono (by with_reducible assumption) (by first | omega | (simp; done) | (simp; omega))))))
        have hq2 := (hb1.cell (p := ⟨w.heap.size, 1, none⟩) (by first | omega | (simp; done) | (simp; omega))).trans hq1
        clear hb1
        go_wp2
        go_roundw
        case rel => exact ⟨k + 1, by omega, by go_num, by rw [HS.out, if_neg hk0, show (⟨#[44]⟩ : ByteArray) = strB [44] from rfl, strB_append, strB_append], hq2, by (repeat (first | with_reducible exact Below.refl _ _ | with_reducible assumption | (with_reducible refine below_drewN ?_ _) | (with_reducible refine Below.drew ?_) | (with_reducible refine Below.setCell ?_ (by first | omega | (simp; done) | (simp; omega)) _) | (with_reducible refine Below.alloc ?_ (by first | omega | (simp; done) | (simp; omega)) _) | refine Below.trans ?_ (Below.mono (by with_reducible assumption) (by first | omega | (simp; done) | (simp; omega)))))⟩
        case measure => simp [intOf]; omega
    · obtain rfl : k = n := by omega
      by_cases hk0 : k = 0
      · subst hk0
        have HA2 := Lib.hid (HA.out.symm.trans (if_pos rfl))
        generalize termAcc (termL f') s ks 0 = acc at *
        go_wp2
        go_ret
        exact ⟨by rw [HA2.out]; rfl, hB⟩
      · have hk1 : 0 < (k : Int) := by omega
        have HA2 := Lib.hid (HA.out.symm.trans (if_neg hk0))
        generalize termAcc (termL f') s ks k = acc at *
        have hs1 : ¬ 9223372036854775807 < acc.length + 1 := by omega
        go_wp2
        go_ret
        exact ⟨by rw [HA2.out, ← strB_append]; rfl, hB⟩
theorem l4Text_any : ∀ f, TextCall 60 f
  | 0 => l4Text_of (fun f' e => by omega)
  | f + 1 => l4Text_of (fun f' e => by obtain rfl : f = f' := by omega
                                       exact l4Text_any f)

/-- Texts that are being appended. -/
structure StrA (w : World) (B : Nat) (v : Value) (k : Nat) (ys : List (List UInt8)) : Prop where
  own : w.ownsRow B 9 1 v k (ys.map fun l => Value.string (strB l))
theorem StrA.later {w w' : World} {B : Nat} {v : Value} {k : Nat} {ys : List (List UInt8)} (h : StrA w B v k ys) (hb : Below w.heap.size w w') : StrA w' B v k ys :=
  ⟨h.own.kept (row := none) ⟨hb.os, hb.tape, hb.output, hb.size, fun i hi _ => hb.block i hi⟩ (by cases hv : v.ownBlock <;> simp)⟩
theorem StrA.nil (w : World) (B : Nat) : StrA w B (.slice none 0 0) 0 [] := ⟨⟨rfl, .inl ⟨rfl, rfl⟩⟩⟩
theorem news1 {W : World} {E : Nat} {a : Value} {t : TypeId} (hE : W.heap.size = E) : ∀ j u, [a][j]? = some u → (W.alloc (.cells #[a] t)).cell? ((⟨E, 0, none⟩ : Addr).add j) = some u := by
  subst hE
  exact World.news_of_block (cs := #[a]) (t := t) (fr := (0, 0)) (heap_alloc_new _ _)
theorem string_info : (Try.prog.info? 9).map (fun i => (i.zero, i.size, i.bytes)) = some (some (.string ⟨#[]⟩), 1, 16) := by kernel_rfl
theorem lens_le {m : Nat} : ∀ {xs : List (List UInt8)}, (∀ x ∈ xs, x.length ≤ m) → (Lib.join xs [44]).length ≤ xs.length * (m + 1)
  | [], _ => by simp [Lib.join_nil]
  | x :: r, h => by
    rw [Lib.join_length]
    have hl : ∀ {ys : List (List UInt8)}, (∀ y ∈ ys, y.length ≤ m) → Lib.lens ys ≤ ys.length * m := by
      intro ys
      induction ys with
      | nil => intro _; simp [Lib.lens]
      | cons y ys ih =>
        intro hy
        have h1 := hy y (by simp)
        have h2 := ih (fun z hz => hy z (by simp [hz]))
        simp only [Lib.lens, List.length_cons, List.map_cons, List.sum_cons] at h2 ⊢
        rw [Nat.add_mul, Nat.one_mul]
        omega
    have h3 := hl h
    simp only [List.length_cons, List.length_nil] at h3 ⊢
    have e1 : (r.length + 1) * (m + 1) = r.length * m + m + r.length + 1 := by rw [Nat.add_mul, Nat.mul_add]; omega
    have e2 : (r.length + 1) * m = r.length * m + m := by rw [Nat.add_mul, Nat.one_mul]
    rw [e1]
    rw [e2] at h3
    omega
theorem Parts.texts {f' : Nat} {s : List UInt8} {n : Nat} {ks : List TermV} (h : Parts f' s n ks) : ∀ x ∈ kidTexts (termL f') ks n, x.length ≤ 184 := by
  intro x hx
  unfold kidTexts at hx
  obtain ⟨t, ht, rfl⟩ := List.mem_map.1 hx
  obtain ⟨j, hj, rfl⟩ := List.mem_iff_getElem.1 ht
  rw [List.length_take] at hj
  have := h.txt j (by omega)
  rw [← term_eta, List.getD_eq_getElem?_getD, List.getElem?_eq_getElem (show j < ks.length by omega)] at this
  simpa using this
theorem kidTexts_len (T : TermV → List UInt8) {ks : List TermV} {n : Nat} (h : ks.length = n) : (kidTexts T ks n).length = n := by simp [kidTexts, h]
theorem kidTexts_next {T : TermV → List UInt8} {ks : List TermV} {n k : Nat} (h : ks.length = n) (hk : k < n) : kidTexts T ks (k + 1) = kidTexts T ks k ++ [T (.mk (ks.getD k tm0).name (ks.getD k tm0).kids)] := by
  rw [← term_eta]; exact kidTexts_succ (by omega)
theorem joinI {w : World} {B g n cap : Nat} {ys : List (List UInt8)} (h : StrA w B (.slice (some ⟨g, 0, none⟩) n cap) n ys) (hn : ys.length = n) (hn2 : n ≤ 2) (hc : n ≤ cap) (hx : ∀ x ∈ ys, x.length ≤ 184) :
    Calls Try.prog 80 #[.slice (some ⟨g, 0, none⟩) n cap, .string ⟨#[44]⟩] w fun e w' => e = .returned (.string (strB (Lib.join ys [44]))) ∧ Below w.heap.size w w' := by
  have hm : (ys.map strB).map (fun s => s.data.toList) = ys := by rw [List.map_map]; exact (List.map_congr_left (fun a _ => rfl)).trans (List.map_id _)
  have hl : (ys.map strB).length = n := by simp [hn]
  have h0 := Try.strings_Join g 0 cap (ys.map strB) ⟨#[44]⟩ w (fun j x hj => by
      rw [Nat.zero_add, h.own.cellAt j (by
        have := (List.getElem?_eq_some_iff.1 hj).1
        omega), List.getElem?_map]
      rw [List.getElem?_map] at hj
      cases hy : ys[j]? with
      | none => rw [hy] at hj; cases hj
      | some y => rw [hy] at hj; injection hj with hj; rw [← hj]; rfl)
    (h.own.lt g rfl).2 (by omega) (by omega) (by
      rw [hm]
      have h1 := lens_le (m := 184) hx
      have h2 := Nat.mul_le_mul_right (184 + 1) (show ys.length ≤ 2 by omega)
      show (Lib.join ys [44]).length ≤ _
      omega)
  rw [hl, hm] at h0
  exact h0
set_option maxHeartbeats 4000000 in
theorem termText_of {f : Nat} (IH : ∀ f', f = f' + 1 → TextCall 62 f') : TextCall 62 f := by
  intro d A n c lo ks s w h hs hf
  have hfew := h.few
  have hlen := h.len
  obtain ⟨i0, hi, zi0, zi1, zi2⟩ := info_parts string_info
  cases f with
  | zero => exact absurd hs.out (by simp [tshape])
  | succ f' =>
  have HP := Lib.hid (parts_of hlen hs.out (by omega))
  have hn := HP.out.two
  have hsl := HP.out.name
  have HI : Hid (TextCall 62 f') := Lib.hid (IH f' rfl)
  by_cases hn0 : n = 0
  · subst hn0
    have HE : Hid (ks = []) := Lib.hid (List.eq_nil_of_length_eq_zero hlen)
    go_enter Try.func62, Try.ntmps62
    go_wp2
    go_ret
    exact ⟨by rw [HE.out]; rfl, by (repeat (first | with_reducible exact Below.refl _ _ | with_reducible assumption | (with_reducible refine below_drewN ?_ _) | (with_reducible refine Below.drew ?_) | (with_reducible refine Below.setCell ?_ (by first | omega | (simp; done) | (simp; omega)) _) | (with_reducible refine Below.alloc ?_ (by first | omega | (simp; done) | (simp; omega)) _) | refine Below.trans ?_ (Below.mono (by with_reducible assumption) (by first | omega | (simp; done) | (simp; omega)))))⟩
  have hn1 : ((n : Int) == 0) = false := by rw [beq_eq_false_iff_ne]; omega
  have hnp : 0 < n := by omega
  have HA : Hid (termL (f' + 1) (.mk (strB s) ks) = s ++ 40 :: (Lib.join (kidTexts (termL f') ks n) [44] ++ [41])) := Lib.hid (by
    show (if ks = [] then s else s ++ 40 :: (Lib.join (kidTexts (termL f') ks ks.length) [44] ++ [41])) = _
    rw [if_neg (fun e => by rw [e] at hlen; simp at hlen; omega), hlen])
  have HLN := Lib.hid hlen
  obtain ⟨p, o, rfl⟩ : ∃ p o, A = some ⟨p, o, none⟩ := by
    obtain ⟨_, p, o, _, e, _⟩ := h.cells hnp
    exact ⟨p, o, e⟩
  clear hn0
  go_enter Try.func62, Try.ntmps62
  go_wp2_with fail
  go_loopw [3, 15] (fun tx i wr => ∃ (k : Nat) (v : Value), v = tx ∧ k ≤ n ∧ i = .int .i64 k ∧ StrA wr (w.heap.size + 1) v k (kidTexts (termL f') ks k) ∧ wr.cell? ⟨w.heap.size, 0, none⟩ = some (.string (strB s)) ∧ wr.cell? ⟨w.heap.size, 1, none⟩ = some (.slice (some ⟨p, o, none⟩) n c) ∧ Below w.heap.size w wr) (fun _ i _ => n - (intOf i).toNat)
  case atStart => exact ⟨0, _, rfl, by omega, rfl, StrA.nil _ _, by go_simp, by go_simp, by (repeat (first | with_reducible exact Below.refl _ _ | with_reducible assumption | (with_reducible refine below_drewN ?_ _) | (with_reducible refine Below.drew ?_) | (with_reducible refine Below.setCell ?_ (by first | omega | (simp; done) | (simp; omega)) _) | (with_reducible refine Below.alloc ?_ (by first | omega | (simp; done) | (simp; omega)) _) | refine Below.trans ?_ (Below.mono (by with_reducible assumption) (by first | omega | (simp; done) | (simp; omega)))))⟩
  case round =>
    obtain ⟨k, v, rfl, hkn, rfl, hrow, hq0, hq1, hB⟩ := hrel
    have hzr := hB.size
    have hqz := World.block_lt_of_cell? _ _ hq1
    dsimp only at hqz
    by_cases hlt : k < n
    · obtain ⟨d', p', o', rfl, epo, hpl, hp, hcs⟩ := (h.later hB).cells (by omega)
      obtain ⟨rfl, rfl⟩ : p = p' ∧ o = o' := by injection epo with e; injection e with e1 e2; exact ⟨e1, e2⟩
      clear epo
      obtain ⟨B, m, cb, hc1, hc2, hIk, hsf⟩ := hcs k hlt
      clear hcs
      have HS := Lib.hid (kidTexts_next (T := termL f') HLN.out hlt)
      have HK1 := Lib.hid (HP.out.kid k hlt)
      generalize kidTexts (termL f') ks k = ys at *
      generalize (ks.getD k tm0).name = nm at *
      obtain ⟨s', rfl⟩ := strB_eta nm
      generalize (ks.getD k tm0).kids = qs at *
      go_wp2_with fail
      refine (HI.out s' (hIk.later (by (repeat (first | with_reducible exact Below.refl _ _ | with_reducible assumption | (with_reducible refine below_drewN ?_ _) | (with_reducible refine Below.drew ?_) | (with_reducible refine Below.setCell ?_ (by first | omega | (simp; done) | (simp; omega)) _) | (with_reducible refine Below.alloc ?_ (by first | omega | (simp; done) | (simp; omega)) _) | refine Below.trans ?_ (Below.mono (by with_reducible assumption) (by first | omega | (simp; done) | (simp; omega))))))) HK1 (by omega)).mono ?_
      rintro e w2 ⟨rfl, hb1⟩
      generalize termL f' (.mk (strB s') qs) = tx at *
      have hz1 := hb1.size; (try simp at hz1); have hB1 : Below w.heap.size w w2 := (by refine Below.trans ?_ (Below.mono hb1 (by first | omega | (simp; done) | (simp; omega))); (repeat (first | with_reducible exact Below.refl _ _ | with_reducible assumption | (with_reducible refine below_drewN ?_ _) | (with_reducible refine Below.drew ?_) | (with_reducible refine Below.setCell ?_ (by first | omega | (simp; done) | (simp; omega)) _) | (with_reducible refine Below.alloc ?_ (by first | omega | (simp; done) | (simp; omega)) _) | refine Below.trans ?_ (Below.mono (by with_reducible assumption) (by first | omega | (simp; done) | (simp; omega))))))
      have hbw : Below wr.heap.size wr w2 := Below.trans ((Below.refl _ _).alloc (Nat.le_refl _) _) (hb1.mono (by simp))
      have hrow2 : StrA w2 (w.heap.size + 1) v k ys := StrA.later hrow hbw
      have hq02 := (hbw.cell (p := ⟨w.heap.size, 0, none⟩) (by first | omega | (simp; done) | (simp; omega))).trans hq0
      have hq12 := (hbw.cell (p := ⟨w.heap.size, 1, none⟩) (by first | omega | (simp; done) | (simp; omega))).trans hq1
      have hzw2 : w.heap.size < w2.heap.size := by omega
      clear hbw
      clear hb1
      go_wp2_with (first | (at_builtin; refine wpList_append_lies _ (by rfl) (.tmp 19) (.tmp 22) _ (by rfl) (w.heap.size + 1) 9 i0 _ 1 16 Try.underlying80 hi zi0 zi1 zi2 rfl (by omega) v k _ (by rfl) (StrA.later hrow2 (by (repeat (first | with_reducible exact Below.refl _ _ | with_reducible assumption | (with_reducible refine below_drewN ?_ _) | (with_reducible refine Below.drew ?_) | (with_reducible refine Below.setCell ?_ (by first | omega | (simp; done) | (simp; omega)) _) | (with_reducible refine Below.alloc ?_ (by first | omega | (simp; done) | (simp; omega)) _) | refine Below.trans ?_ (Below.mono (by with_reducible assumption) (by first | omega | (simp; done) | (simp; omega))))))).own ⟨w2.heap.size, 0, none⟩ 1 1 [.string (strB tx)] (by rfl) (by rfl) (news1 (by first | omega | (simp; done) | (simp; omega))) (by simp [Value.oneCell']) (by omega) (by unfold maxLen; omega) (by omega) (by first | omega | (simp; done) | (simp; omega)) (w2.heap.size + 1) (by simp) ?_; intro g' cap' wq hown3 hgrow hat hlt2; have hown4 : StrA wq (w.heap.size + 1) (.slice (some ⟨g', 0, none⟩) (k + 1) cap') (k + 1) (ys ++ [tx]) := ⟨(by rw [List.map_append]; exact hown3)⟩; have hno : some w.heap.size ≠ v.ownBlock := (fun e => by have := (hrow2.own.lt _ e.symm).1; omega); have q0 := hgrow.cell (a := ⟨w.heap.size, 0, none⟩) (v := .string (strB s)) (by go_simp) hno; have q1 := hgrow.cell (a := ⟨w.heap.size, 1, none⟩) (v := .slice (some ⟨p, o, none⟩) n c) (by go_simp) hno; have hbq : Below w.heap.size w wq := Below.grown (by (repeat (first | with_reducible exact Below.refl _ _ | with_reducible assumption | (with_reducible refine below_drewN ?_ _) | (with_reducible refine Below.drew ?_) | (with_reducible refine Below.setCell ?_ (by first | omega | (simp; done) | (simp; omega)) _) | (with_reducible refine Below.alloc ?_ (by first | omega | (simp; done) | (simp; omega)) _) | refine Below.trans ?_ (Below.mono (by with_reducible assumption) (by first | omega | (simp; done) | (simp; omega)))))) hgrow (by first | omega | (simp; done) | (simp; omega)) (fun j hj => by have := (hrow2.own.lt j hj).1; omega); have hzq := hgrow.size; simp only [World.size_alloc] at hzq; clear hown3 hgrow hat hlt2 hno))
      go_roundw
      case rel => exact ⟨k + 1, _, rfl, by omega, by go_num, by rw [HS.out]; exact hown4, q0, q1, hbq⟩
      case measure => simp [intOf]; omega
    · obtain rfl : k = n := by omega
      obtain ⟨g, cap, rfl, hcap⟩ : ∃ g cap, v = .slice (some ⟨g, 0, none⟩) k cap ∧ k ≤ cap := by
        rcases hrow.own.2 with ⟨_, e⟩ | ⟨g, cap, _, e, _, _, hc, _⟩
        · omega
        · exact ⟨g, cap, e, hc⟩
      have HJ := Lib.hid (HP.out.texts)
      have HKL := Lib.hid (kidTexts_len (termL f') HLN.out)
      have hjl : (Lib.join (kidTexts (termL f') ks k) [44]).length ≤ 370 := by
        have h1 := lens_le HJ.out
        rw [HKL.out] at h1
        have h2 := Nat.mul_le_mul_right (184 + 1) hn
        omega
      have c1 := Lib.hid (fun (W : World) (hW : Below wr.heap.size wr W) (st : Grown W) => joinI (hrow.later (hW.trans (st.ok.mono hW.size))) HKL.out hn hcap HJ.out)
      obtain ⟨jl, hjj⟩ : ∃ jl, Lib.join (kidTexts (termL f') ks k) [44] = jl := ⟨_, rfl⟩
      rw [hjj] at hjl
      have HL2 := Lib.hid hjj
      have c1 := Lib.hid (fun (W : World) (hW : Below wr.heap.size wr W) (st : Grown W) => show Calls Try.prog 80 #[.slice (some ⟨g, 0, none⟩) k cap, .string ⟨#[44]⟩] st.wx (fun e w' => e = .returned (.string (strB jl)) ∧ Below st.wx.heap.size st.wx w') from hjj ▸ c1.out W hW st)
      clear hjj
      have hs1 : ¬ 9223372036854775807 < s.length + 1 := by omega
      have hs2 : ¬ 9223372036854775807 < s.length + 1 + jl.length := by omega
      have hs3 : ¬ 9223372036854775807 < s.length + 1 + jl.length + 1 := by omega
      go_wp2_with fail
      refine wp_region_grown (by kernel_rfl) (by kernel_rfl) ?_
      (refine quiet_with (a := ⟨w.heap.size, 0, none⟩) (v := .string (strB s)) hq0 ?_; intro g0)
      repeat (go_big_quiet_step ((first | (go_at_call 80; (with_reducible exact grown_of (c1.out _ (Below.refl _ _) _))))))
      refine wpQuiet_nil ?_
      rintro w2 ⟨⟨_, hb1⟩, rfl⟩
      have hB2 : Below w.heap.size w w2 := hB.trans (hb1.mono hB.size)
      clear hb1 c1
      go_wp2
      go_ret
      exact ⟨by rw [HA.out, HL2.out]; show Ending.returned (.string (((strB s ++ strB [40]) ++ strB jl) ++ strB [41])) = _; rw [strB_append, strB_append, strB_append]; simp only [List.append_assoc, List.cons_append, List.nil_append], hB2⟩
theorem termText_any : ∀ f, TextCall 62 f
  | 0 => termText_of (fun f' e => by omega)
  | f + 1 => termText_of (fun f' e => by obtain rfl : f = f' := by omega
                                         exact termText_any f)
/-- a term's text, or none -/
def tText (t : TermV) : List UInt8 := if termOk t = true then termL 4 t else []

theorem iTermText_any {d : Nat} {A : Option Addr} {n c lo : Nat} {ks : List TermV} (s : ByteArray) {v : List UInt8} (hv : Hid (tText (.mk s ks) = v)) {w : World} (h : Kids w lo d A n ks) (hs : s.size ≤ 9223372036854775807) :
    Calls Try.prog 32 #[.agg #[.string s, .slice A n c]] w fun e w' => e = .returned (.string (strB v)) ∧ Below w.heap.size w w' := by
  obtain ⟨s, rfl⟩ := strB_eta s
  cases hk : termOk (.mk (strB s) ks)
  · have HK := Lib.hid hk
    have HE : Hid (v = []) := Lib.hid (by rw [← hv.out]; unfold tText; rw [hk]; rfl)
    clear hk
    go_enter Try.func32, Try.ntmps32
    go_wp2_with fail
    refine (isTerm_any (strB s) (h.later (by (repeat (first | with_reducible exact Below.refl _ _ | with_reducible assumption | (with_reducible refine below_drewN ?_ _) | (with_reducible refine Below.drew ?_) | (with_reducible refine Below.setCell ?_ (by first | omega | (simp; done) | (simp; omega)) _) | (with_reducible refine Below.alloc ?_ (by first | omega | (simp; done) | (simp; omega)) _) | refine Below.trans ?_ (Below.mono (by with_reducible assumption) (by first | omega | (simp; done) | (simp; omega))))))) hs).mono ?_
    rw [HK.out]
    rintro e w1 ⟨rfl, hb1⟩
    have hz1 := hb1.size; (try simp at hz1); have hB1 : Below w.heap.size w w1 := (by refine Below.trans ?_ (Below.mono hb1 (by first | omega | (simp; done) | (simp; omega))); (repeat (first | with_reducible exact Below.refl _ _ | with_reducible assumption | (with_reducible refine below_drewN ?_ _) | (with_reducible refine Below.drew ?_) | (with_reducible refine Below.setCell ?_ (by first | omega | (simp; done) | (simp; omega)) _) | (with_reducible refine Below.alloc ?_ (by first | omega | (simp; done) | (simp; omega)) _) | refine Below.trans ?_ (Below.mono (by with_reducible assumption) (by first | omega | (simp; done) | (simp; omega)))))); obtain ⟨kc_, fc_, lc_⟩ := keep_later (a := ⟨w.heap.size, 0, none⟩) (v := .string (strB s)) hb1 (by go_simp) (by go_simp); obtain ⟨kc_, fc_, lc_⟩ := keep_later (a := ⟨w.heap.size, 1, none⟩) (v := .slice A n c) hb1 (by go_simp) (by go_simp); clear hb1
    go_wp2
    go_ret
    exact ⟨by rw [HE.out]; rfl, by (repeat (first | with_reducible exact Below.refl _ _ | with_reducible assumption | (with_reducible refine below_drewN ?_ _) | (with_reducible refine Below.drew ?_) | (with_reducible refine Below.setCell ?_ (by first | omega | (simp; done) | (simp; omega)) _) | (with_reducible refine Below.alloc ?_ (by first | omega | (simp; done) | (simp; omega)) _) | refine Below.trans ?_ (Below.mono (by with_reducible assumption) (by first | omega | (simp; done) | (simp; omega)))))⟩
  · have HK := Lib.hid hk
    have HE : Hid (termL 4 (.mk (strB s) ks) = v) := Lib.hid (by rw [← hv.out]; unfold tText; rw [hk]; rfl)
    have HS := Lib.hid (termOk_shape hk)
    clear hk
    go_enter Try.func32, Try.ntmps32
    go_wp2_with fail
    refine (isTerm_any (strB s) (h.later (by (repeat (first | with_reducible exact Below.refl _ _ | with_reducible assumption | (with_reducible refine below_drewN ?_ _) | (with_reducible refine Below.drew ?_) | (with_reducible refine Below.setCell ?_ (by first | omega | (simp; done) | (simp; omega)) _) | (with_reducible refine Below.alloc ?_ (by first | omega | (simp; done) | (simp; omega)) _) | refine Below.trans ?_ (Below.mono (by with_reducible assumption) (by first | omega | (simp; done) | (simp; omega))))))) hs).mono ?_
    rw [HK.out]
    rintro e w1 ⟨rfl, hb1⟩
    have hz1 := hb1.size; (try simp at hz1); have hB1 : Below w.heap.size w w1 := (by refine Below.trans ?_ (Below.mono hb1 (by first | omega | (simp; done) | (simp; omega))); (repeat (first | with_reducible exact Below.refl _ _ | with_reducible assumption | (with_reducible refine below_drewN ?_ _) | (with_reducible refine Below.drew ?_) | (with_reducible refine Below.setCell ?_ (by first | omega | (simp; done) | (simp; omega)) _) | (with_reducible refine Below.alloc ?_ (by first | omega | (simp; done) | (simp; omega)) _) | refine Below.trans ?_ (Below.mono (by with_reducible assumption) (by first | omega | (simp; done) | (simp; omega)))))); obtain ⟨kc_, fc_, lc_⟩ := keep_later (a := ⟨w.heap.size, 0, none⟩) (v := .string (strB s)) hb1 (by go_simp) (by go_simp); obtain ⟨kc_, fc_, lc_⟩ := keep_later (a := ⟨w.heap.size, 1, none⟩) (v := .slice A n c) hb1 (by go_simp) (by go_simp); clear hb1
    go_wp2_with fail
    refine (termText_any 4 s (h.later (by (repeat (first | with_reducible exact Below.refl _ _ | with_reducible assumption | (with_reducible refine below_drewN ?_ _) | (with_reducible refine Below.drew ?_) | (with_reducible refine Below.setCell ?_ (by first | omega | (simp; done) | (simp; omega)) _) | (with_reducible refine Below.alloc ?_ (by first | omega | (simp; done) | (simp; omega)) _) | refine Below.trans ?_ (Below.mono (by with_reducible assumption) (by first | omega | (simp; done) | (simp; omega))))))) HS (by omega)).mono ?_
    rw [HE.out]
    rintro e w2 ⟨rfl, hb1⟩
    have hz1 := hb1.size; (try simp at hz1); have hB1 : Below w.heap.size w w2 := (by refine Below.trans ?_ (Below.mono hb1 (by first | omega | (simp; done) | (simp; omega))); (repeat (first | with_reducible exact Below.refl _ _ | with_reducible assumption | (with_reducible refine below_drewN ?_ _) | (with_reducible refine Below.drew ?_) | (with_reducible refine Below.setCell ?_ (by first | omega | (simp; done) | (simp; omega)) _) | (with_reducible refine Below.alloc ?_ (by first | omega | (simp; done) | (simp; omega)) _) | refine Below.trans ?_ (Below.mono (by with_reducible assumption) (by first | omega | (simp; done) | (simp; omega)))))); clear hb1
    go_wp2
    go_ret
    exact ⟨rfl, by (repeat (first | with_reducible exact Below.refl _ _ | with_reducible assumption | (with_reducible refine below_drewN ?_ _) | (with_reducible refine Below.drew ?_) | (with_reducible refine Below.setCell ?_ (by first | omega | (simp; done) | (simp; omega)) _) | (with_reducible refine Below.alloc ?_ (by first | omega | (simp; done) | (simp; omega)) _) | refine Below.trans ?_ (Below.mono (by with_reducible assumption) (by first | omega | (simp; done) | (simp; omega)))))⟩

theorem sTermText_any {d : Nat} {A : Option Addr} {n c lo : Nat} {ks : List TermV} (s : ByteArray) {v : List UInt8} (hv : Hid (tText (.mk s ks) = v)) {w : World} (h : Kids w lo d A n ks) (hs : s.size ≤ 9223372036854775807) :
    Calls Try.prog 31 #[.agg #[.string s, .slice A n c]] w fun e w' => e = .returned (.string (strB v)) ∧ Below w.heap.size w w' := by
  obtain ⟨s, rfl⟩ := strB_eta s
  cases hk : termOk (.mk (strB s) ks)
  · have HK := Lib.hid hk
    have HE : Hid (v = []) := Lib.hid (by rw [← hv.out]; unfold tText; rw [hk]; rfl)
    clear hk
    go_enter Try.func31, Try.ntmps31
    go_wp2_with fail
    refine (l4Right_any (strB s) (h.later (by (repeat (first | with_reducible exact Below.refl _ _ | with_reducible assumption | (with_reducible refine below_drewN ?_ _) | (with_reducible refine Below.drew ?_) | (with_reducible refine Below.setCell ?_ (by first | omega | (simp; done) | (simp; omega)) _) | (with_reducible refine Below.alloc ?_ (by first | omega | (simp; done) | (simp; omega)) _) | refine Below.trans ?_ (Below.mono (by with_reducible assumption) (by first | omega | (simp; done) | (simp; omega))))))) hs).mono ?_
    rw [HK.out]
    rintro e w1 ⟨rfl, hb1⟩
    have hz1 := hb1.size; (try simp at hz1); have hB1 : Below w.heap.size w w1 := (by refine Below.trans ?_ (Below.mono hb1 (by first | omega | (simp; done) | (simp; omega))); (repeat (first | with_reducible exact Below.refl _ _ | with_reducible assumption | (with_reducible refine below_drewN ?_ _) | (with_reducible refine Below.drew ?_) | (with_reducible refine Below.setCell ?_ (by first | omega | (simp; done) | (simp; omega)) _) | (with_reducible refine Below.alloc ?_ (by first | omega | (simp; done) | (simp; omega)) _) | refine Below.trans ?_ (Below.mono (by with_reducible assumption) (by first | omega | (simp; done) | (simp; omega)))))); obtain ⟨kc_, fc_, lc_⟩ := keep_later (a := ⟨w.heap.size, 0, none⟩) (v := .string (strB s)) hb1 (by go_simp) (by go_simp); obtain ⟨kc_, fc_, lc_⟩ := keep_later (a := ⟨w.heap.size, 1, none⟩) (v := .slice A n c) hb1 (by go_simp) (by go_simp); clear hb1
    go_wp2
    go_ret
    exact ⟨by rw [HE.out]; rfl, by (repeat (first | with_reducible exact Below.refl _ _ | with_reducible assumption | (with_reducible refine below_drewN ?_ _) | (with_reducible refine Below.drew ?_) | (with_reducible refine Below.setCell ?_ (by first | omega | (simp; done) | (simp; omega)) _) | (with_reducible refine Below.alloc ?_ (by first | omega | (simp; done) | (simp; omega)) _) | refine Below.trans ?_ (Below.mono (by with_reducible assumption) (by first | omega | (simp; done) | (simp; omega)))))⟩
  · have HK := Lib.hid hk
    have HE : Hid (termL 4 (.mk (strB s) ks) = v) := Lib.hid (by rw [← hv.out]; unfold tText; rw [hk]; rfl)
    have HS := Lib.hid (termOk_shape hk)
    clear hk
    go_enter Try.func31, Try.ntmps31
    go_wp2_with fail
    refine (l4Right_any (strB s) (h.later (by (repeat (first | with_reducible exact Below.refl _ _ | with_reducible assumption | (with_reducible refine below_drewN ?_ _) | (with_reducible refine Below.drew ?_) | (with_reducible refine Below.setCell ?_ (by first | omega | (simp; done) | (simp; omega)) _) | (with_reducible refine Below.alloc ?_ (by first | omega | (simp; done) | (simp; omega)) _) | refine Below.trans ?_ (Below.mono (by with_reducible assumption) (by first | omega | (simp; done) | (simp; omega))))))) hs).mono ?_
    rw [HK.out]
    rintro e w1 ⟨rfl, hb1⟩
    have hz1 := hb1.size; (try simp at hz1); have hB1 : Below w.heap.size w w1 := (by refine Below.trans ?_ (Below.mono hb1 (by first | omega | (simp; done) | (simp; omega))); (repeat (first | with_reducible exact Below.refl _ _ | with_reducible assumption | (with_reducible refine below_drewN ?_ _) | (with_reducible refine Below.drew ?_) | (with_reducible refine Below.setCell ?_ (by first | omega | (simp; done) | (simp; omega)) _) | (with_reducible refine Below.alloc ?_ (by first | omega | (simp; done) | (simp; omega)) _) | refine Below.trans ?_ (Below.mono (by with_reducible assumption) (by first | omega | (simp; done) | (simp; omega)))))); obtain ⟨kc_, fc_, lc_⟩ := keep_later (a := ⟨w.heap.size, 0, none⟩) (v := .string (strB s)) hb1 (by go_simp) (by go_simp); obtain ⟨kc_, fc_, lc_⟩ := keep_later (a := ⟨w.heap.size, 1, none⟩) (v := .slice A n c) hb1 (by go_simp) (by go_simp); clear hb1
    go_wp2_with fail
    refine (l4Text_any 4 s (h.later (by (repeat (first | with_reducible exact Below.refl _ _ | with_reducible assumption | (with_reducible refine below_drewN ?_ _) | (with_reducible refine Below.drew ?_) | (with_reducible refine Below.setCell ?_ (by first | omega | (simp; done) | (simp; omega)) _) | (with_reducible refine Below.alloc ?_ (by first | omega | (simp; done) | (simp; omega)) _) | refine Below.trans ?_ (Below.mono (by with_reducible assumption) (by first | omega | (simp; done) | (simp; omega))))))) HS (by omega)).mono ?_
    rw [HE.out]
    rintro e w2 ⟨rfl, hb1⟩
    have hz1 := hb1.size; (try simp at hz1); have hB1 : Below w.heap.size w w2 := (by refine Below.trans ?_ (Below.mono hb1 (by first | omega | (simp; done) | (simp; omega))); (repeat (first | with_reducible exact Below.refl _ _ | with_reducible assumption | (with_reducible refine below_drewN ?_ _) | (with_reducible refine Below.drew ?_) | (with_reducible refine Below.setCell ?_ (by first | omega | (simp; done) | (simp; omega)) _) | (with_reducible refine Below.alloc ?_ (by first | omega | (simp; done) | (simp; omega)) _) | refine Below.trans ?_ (Below.mono (by with_reducible assumption) (by first | omega | (simp; done) | (simp; omega)))))); clear hb1
    go_wp2
    go_ret
    exact ⟨rfl, by (repeat (first | with_reducible exact Below.refl _ _ | with_reducible assumption | (with_reducible refine below_drewN ?_ _) | (with_reducible refine Below.drew ?_) | (with_reducible refine Below.setCell ?_ (by first | omega | (simp; done) | (simp; omega)) _) | (with_reducible refine Below.alloc ?_ (by first | omega | (simp; done) | (simp; omega)) _) | refine Below.trans ?_ (Below.mono (by with_reducible assumption) (by first | omega | (simp; done) | (simp; omega)))))⟩
end Go.Proofs.Ytgmeoblapnmpiaa

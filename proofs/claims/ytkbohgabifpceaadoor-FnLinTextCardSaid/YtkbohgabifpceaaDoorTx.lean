/- Numbers are written: the reference's l16Dec. -/
import Derived.Test.YtkbohgabifpceaaDoorC
import Derived.Lib.ItoaLen
import Derived.Lib.AppendIntMem
import Derived.Laws.IdiomStrings
namespace Go.Proofs.YtkbohgabifpceaaDoor
set_option maxRecDepth 100000
open Go.RowKit Go.ChangeShapes Go.WideShapes Go.ChangeAt
set_option linter.unusedSimpArgs false
set_option linter.unusedVariables false

/-- a string of these bytes -/
abbrev strB (l : List UInt8) : ByteArray := ⟨l.toArray⟩
theorem strB_append (a b : List UInt8) : strB a ++ strB b = strB (a ++ b) := by
  apply ByteArray.ext
  rw [ByteArray.data_append]
  simp
theorem strB_size (l : List UInt8) : (strB l).size = l.length := by simp [ByteArray.size]
/-- the byte of a digit -/
def dgt (d : Nat) : UInt8 := UInt8.ofNat (48 + d)
theorem dec_small {u : Nat} (h : u < 10) : Lib.decDigits u = [dgt u] := Lib.decDigits_one h
theorem dec_big {u : Nat} (h : ¬ u < 10) : Lib.decDigits u = Lib.decDigits (u / 10) ++ [dgt (u % 10)] := by rw [Lib.decDigits, dif_neg h]; rfl
theorem conv_digit (W : World) {d : Nat} (hd : d < 10) {z : Int} (hz : z = (d : Int)) : (convert 22 9 (.slice (some ⟨W.heap.size, 0, none⟩) 1 1)).run Tryd.prog (W.alloc (.cells #[.int .u8 (48 + z)] 5)) = .ok (.string (strB [dgt d])) (W.alloc (.cells #[.int .u8 (48 + z)] 5)) := by
  subst hz
  have h := run_convert_bytes_back (P := Tryd.prog) (W.alloc (.cells #[.int .u8 (48 + (d : Int))] 5)) 22 9 5 ⟨W.heap.size, 0, none⟩ 1 [dgt d] Tryd.underlying22 Tryd.underlying5 Tryd.underlying9 (fun j hj => by
    obtain rfl : j = 0 := by simpa using hj
    have e : ((dgt d).toNat : Int) = 48 + (d : Int) := by
      unfold dgt
      rw [UInt8.toNat_ofNat']; omega
    have e2 : ((([dgt d] : List UInt8)[0]).toNat : Int) = 48 + (d : Int) := e
    rw [e2]
    simp [go_sem])
  exact h
theorem dec_len20 {n : Nat} (hn : n ≤ 9223372036854775807) : (Lib.decDigits n).length ≤ 20 := by
  rw [Lib.decDigits_length]; exact Lib.nDigits_le20 n (by omega)

theorem l16Dec_nat (n : Nat) (hn : n ≤ 9223372036854775807) (w : World) :
    Calls Tryd.prog 51 #[.int .i64 (n : Int)] w fun e w' => e = .returned (.string (strB (Lib.decDigits n))) ∧ Below w.heap.size w w' := by
  have h1 : decide ((n : Int) < -9223372036854775807) = false := by first | (simp; done) | (simp; omega)
  have h2 : decide ((n : Int) < 0) = false := by first | (simp; done) | (simp; omega)
  go_enter Tryd.func51, Tryd.ntmps51
  go_wp2_with fail
  go_loopw [0, 3] (fun s i wr => ∃ (u : Nat) (acc : List UInt8), s = .int .i64 u ∧ i = .string (strB acc) ∧ Hid (Lib.decDigits u ++ acc = Lib.decDigits n) ∧ u ≤ n ∧ Below w.heap.size w wr) (fun s _ _ => (intOf s).toNat)
  case atStart => exact ⟨n, [], rfl, rfl, Lib.hid (List.append_nil _), Nat.le_refl _, Below.refl _ _⟩
  case round =>
    obtain ⟨u, acc, rfl, rfl, HA, hu, hb⟩ := hrel
    have hzb := hb.size
    have hacc : acc.length ≤ 20 := by
      have h0 := dec_len20 hn
      rw [← HA.out, List.length_append] at h0
      omega
    by_cases hlt : u < 10
    · have hg : decide ((u : Int) > 9) = false := by first | (simp; done) | (simp; omega)
      have hcv := fun W => conv_digit W hlt (z := (u : Int)) rfl
      have hsz : ¬ 9223372036854775807 < 1 + acc.length := by omega
      go_wp2_with fail
      go_ret
      refine ⟨?_, by (repeat (first | with_reducible exact Below.refl _ _ | with_reducible assumption | (with_reducible refine below_drewN ?_ _) | (with_reducible refine Below.drew ?_) | (with_reducible refine Below.setCell ?_ (by first | omega | (simp; done) | (simp; omega)) _) | (with_reducible refine Below.alloc ?_ (by first | omega | (simp; done) | (simp; omega)) _) | refine Below.trans ?_ (Below.mono (by with_reducible assumption) (by first | omega | (simp; done) | (simp; omega)))))⟩
      rw [strB_append, ← dec_small hlt, HA.out]
      rfl
    · have hg : decide ((u : Int) > 9) = true := by first | (simp; done) | (simp; omega)
      have hcv := fun W => conv_digit W (d := u % 10) (by omega) (z := (u : Int) % 10) (by omega)
      have hsz : ¬ 9223372036854775807 < 1 + acc.length := by omega
      go_wp2_with fail
      go_roundw
      case rel =>
        refine ⟨u / 10, dgt (u % 10) :: acc, by go_num, by rw [strB_append]; rfl, Lib.hid ?_, by omega, by (repeat (first | with_reducible exact Below.refl _ _ | with_reducible assumption | (with_reducible refine below_drewN ?_ _) | (with_reducible refine Below.drew ?_) | (with_reducible refine Below.setCell ?_ (by first | omega | (simp; done) | (simp; omega)) _) | (with_reducible refine Below.alloc ?_ (by first | omega | (simp; done) | (simp; omega)) _) | refine Below.trans ?_ (Below.mono (by with_reducible assumption) (by first | omega | (simp; done) | (simp; omega)))))⟩
        rw [← HA.out, dec_big hlt, List.append_assoc]
        rfl
      case measure => simp [intOf]; omega
theorem itoa_neg' {u : Nat} (h : 0 < u) : Lib.itoa (-(u : Int)) = 45 :: Lib.decDigits u := Lib.itoa_neg u h
theorem l16Dec_any (n : Int) (h0 : -9223372036854775807 ≤ n) (h1 : n ≤ 9223372036854775807) (w : World) :
    Calls Tryd.prog 51 #[.int .i64 n] w fun e w' => e = .returned (.string (strB (Lib.itoa n))) ∧ Below w.heap.size w w' := by
  by_cases hneg : n < 0
  · obtain ⟨u, rfl⟩ : ∃ u : Nat, n = -(u : Int) := ⟨n.natAbs, by omega⟩
    have hu : 0 < u := by omega
    have hu2 : u ≤ 9223372036854775807 := by omega
    have g1 : decide (-(u : Int) < -9223372036854775807) = false := by first | (simp; done) | (simp; omega)
    have g2 : decide (-(u : Int) < 0) = true := by first | (simp; done) | (simp; omega)
    have hw : IntKind.i64.wrap (u : Int) = u := IntWalk.i64_in _ (by omega)
    have h20 := dec_len20 hu2
    have hsz : ¬ 9223372036854775807 < 1 + (Lib.decDigits u).length := by omega
    go_enter Tryd.func51, Tryd.ntmps51
    go_wp2_with fail
    refine (l16Dec_nat u hu2 _).mono ?_
    rintro e w1 ⟨rfl, hb1⟩
    go_wp2_with fail
    go_ret
    refine ⟨?_, hb1⟩
    rw [itoa_neg' hu]
    show Ending.returned (.string ((⟨#[45]⟩ : ByteArray) ++ strB _)) = _
    rw [show (⟨#[45]⟩ : ByteArray) = strB [45] from rfl, strB_append]
    rfl
  · obtain ⟨u, rfl⟩ : ∃ u : Nat, n = (u : Int) := ⟨n.toNat, by omega⟩
    rw [Lib.itoa_nonneg]
    exact l16Dec_nat u (by omega) w
end Go.Proofs.YtkbohgabifpceaaDoor

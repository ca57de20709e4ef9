/- Names. -/
import Derived.Test.YtgmeoblapnmpiaaA
namespace Go.Proofs.Ytgmeoblapnmpiaa
set_option maxRecDepth 100000
open Go.RowKit
set_option linter.unusedSimpArgs false
set_option linter.unusedVariables false

/-- The first k bytes are small letters. -/
def goodTo (s : ByteArray) (k : Nat) : Prop := ∀ j (h : j < s.size), j < k → 97 ≤ (s[j].toNat : Int) ∧ (s[j].toNat : Int) ≤ 122
theorem goodTo.zero (s : ByteArray) : goodTo s 0 := fun _ _ h => absurd h (by omega)
theorem goodTo.succ {s : ByteArray} {k : Nat} (h : goodTo s k) (hk : k < s.size) (h' : 97 ≤ (s[k].toNat : Int) ∧ (s[k].toNat : Int) ≤ 122) : goodTo s (k + 1) := fun j hj hl => by
  by_cases e : j = k
  · subst e; exact h'
  · exact h j hj (by omega)
/-- a name -/
def nameOk (s : ByteArray) : Bool := decide (∀ j : Fin s.size, 97 ≤ (s[j.1].toNat : Int) ∧ (s[j.1].toNat : Int) ≤ 122) && (decide (1 ≤ s.size) && decide (s.size ≤ 2))
theorem nameOk_no {s : ByteArray} {k : Nat} (hk : k < s.size) (h : ¬ (97 ≤ (s[k].toNat : Int) ∧ (s[k].toNat : Int) ≤ 122)) : nameOk s = false := by
  unfold nameOk
  rw [decide_eq_false (fun hh => h (hh ⟨k, hk⟩)), Bool.false_and]
theorem nameOk_yes {s : ByteArray} (h : goodTo s s.size) : nameOk s = (decide (1 ≤ s.size) && decide (s.size ≤ 2)) := by
  unfold nameOk
  have hh : ∀ j : Fin s.size, 97 ≤ (s[j.1].toNat : Int) ∧ (s[j.1].toNat : Int) ≤ 122 := fun j => h j.1 j.2 j.2
  rw [decide_eq_true hh, Bool.true_and]
theorem nameOk_len {s : ByteArray} (h : ¬ (1 ≤ s.size ∧ s.size ≤ 2)) : nameOk s = false := by
  unfold nameOk
  have : (decide (1 ≤ s.size) && decide (s.size ≤ 2)) = false := by
    rw [Bool.and_eq_false_iff, decide_eq_false_iff_not, decide_eq_false_iff_not]; omega
  rw [this, Bool.and_false]

set_option maxHeartbeats 2000000 in
theorem sNameOk_any (s : ByteArray) (hs : s.size ≤ 9223372036854775807) (w : World) :
    Calls Try.prog 12 #[.string s] w fun e w' => e = .returned (.bool (nameOk s)) ∧ w = w' := by
  obtain ⟨f, hf⟩ : ∃ f, nameOk s = f := ⟨_, rfl⟩
  rw [hf]
  have HF := Lib.hid hf
  clear hf
  go_enter Try.func12, Try.ntmps12
  go_wp2_with fail
  go_loop [3] (fun i => ∃ k : Nat, k ≤ s.size ∧ i = .int .i64 k ∧ goodTo s k) (fun i => s.size - (intOf i).toNat)
  case atStart => exact ⟨0, by omega, rfl, goodTo.zero s⟩
  case round =>
    obtain ⟨k, hk, rfl, hok⟩ := hrel
    by_cases hlt : k < s.size
    · have hbad := Lib.hid (@nameOk_no s k hlt)
      have hyes := Lib.hid (@goodTo.succ s k hok hlt)
      by_cases hg : 97 ≤ (s[k].toNat : Int) ∧ (s[k].toNat : Int) ≤ 122
      · have HY := Lib.hid (hyes.out hg)
        obtain ⟨hg1, hg2⟩ := hg
        clear hyes hbad
        go_wp2
        go_round
        case rel => exact ⟨k + 1, by omega, by go_num, HY.out⟩
        case measure => simp [intOf]; omega
      · have he := HF.out.symm.trans (hbad.out hg)
        subst he
        clear hyes hbad
        by_cases h97 : (s[k].toNat : Int) < 97
        · go_wp2
          go_ret
          exact ⟨rfl, rfl⟩
        · have h122 : 122 < (s[k].toNat : Int) := by omega
          go_wp2
          go_ret
          exact ⟨rfl, rfl⟩
    · have hks : k = s.size := by omega
      have he := HF.out.symm.trans (nameOk_yes (by rw [← hks]; exact hok))
      subst he
      clear hok
      by_cases h1 : 1 ≤ s.size
      · by_cases h2 : s.size ≤ 2
        · go_wp2
          go_ret
          exact ⟨by first | (simp [h1, h2]; done) | (simp [h1, h2]; omega), rfl⟩
        · go_wp2
          go_ret
          exact ⟨by first | (simp [h1, h2]; done) | (simp [h1, h2]; omega), rfl⟩
      · go_wp2
        go_ret
        exact ⟨by first | (simp [h1]; done) | (simp [h1]; omega), rfl⟩

set_option maxHeartbeats 2000000 in
theorem iNameOk_any (s : ByteArray) (hs : s.size ≤ 9223372036854775807) (w : World) :
    Calls Try.prog 13 #[.string s] w fun e w' => e = .returned (.bool (nameOk s)) ∧ w = w' := by
  obtain ⟨f, hf⟩ : ∃ f, nameOk s = f := ⟨_, rfl⟩
  rw [hf]
  have HF := Lib.hid hf
  clear hf
  by_cases hl : 1 ≤ s.size ∧ s.size ≤ 2
  · have hw : within (s.size : Int) 1 2 = true := within_iff.2 ⟨by omega, by omega⟩
    go_enter Try.func13, Try.ntmps13
    go_wp2_with fail
    refine (within_any _ _ _ _).mono ?_
    rw [hw]
    rintro e w' ⟨rfl, rfl⟩
    go_wp2_with fail
    go_loop [10] (fun i => ∃ k : Nat, k ≤ s.size ∧ i = .int .i64 k ∧ goodTo s k) (fun i => s.size - (intOf i).toNat)
    case atStart => exact ⟨0, by omega, rfl, goodTo.zero s⟩
    case round =>
      obtain ⟨k, hk, rfl, hok⟩ := hrel
      by_cases hlt : k < s.size
      · have hbad := Lib.hid (@nameOk_no s k hlt)
        have hyes := Lib.hid (@goodTo.succ s k hok hlt)
        by_cases hg : 97 ≤ (s[k].toNat : Int) ∧ (s[k].toNat : Int) ≤ 122
        · have HY := Lib.hid (hyes.out hg)
          obtain ⟨hg1, hg2⟩ := hg
          clear hyes hbad
          go_wp2
          go_round
          case rel => exact ⟨k + 1, by omega, by go_num, HY.out⟩
          case measure => simp [intOf]; omega
        · have he := HF.out.symm.trans (hbad.out hg)
          subst he
          clear hyes hbad
          by_cases h97 : (s[k].toNat : Int) < 97
          · go_wp2
            go_ret
            exact ⟨rfl, rfl⟩
          · have h122 : 122 < (s[k].toNat : Int) := by omega
            go_wp2
            go_ret
            exact ⟨rfl, rfl⟩
      · have hks : k = s.size := by omega
        have hy := nameOk_yes (s := s) (by rw [← hks]; exact hok)
        rw [decide_eq_true hl.1, decide_eq_true hl.2] at hy
        have he := HF.out.symm.trans hy
        subst he
        clear hok
        go_wp2
        go_ret
        exact ⟨rfl, rfl⟩
  · have hw : within (s.size : Int) 1 2 = false := within_no.2 (by omega)
    have he := HF.out.symm.trans (nameOk_len hl)
    subst he
    go_enter Try.func13, Try.ntmps13
    go_wp2_with fail
    refine (within_any _ _ _ _).mono ?_
    rw [hw]
    rintro e w' ⟨rfl, rfl⟩
    go_wp2
    go_ret
    exact ⟨rfl, rfl⟩
end Go.Proofs.Ytgmeoblapnmpiaa

/- Terms are read: words; what is left to read (plain). -/
import Derived.Test.YtgmeoblapnmpiaaTi
import Derived.Test.YtgmeoblapnmpiaaDt
namespace Go.Proofs.Ytgmeoblapnmpiaa
set_option maxRecDepth 100000
open Go.RowKit Go.ChangeShapes Go.WideShapes Go.ChangeAt
set_option linter.unusedSimpArgs false
set_option linter.unusedVariables false

/-- From a on the bytes are small letters up to b. -/
def LetTo (s : ByteArray) (a b : Nat) : Prop := ∀ j (h : j < s.size), a ≤ j → j < b → 97 ≤ (s[j].toNat : Int) ∧ (s[j].toNat : Int) ≤ 122
theorem LetTo.self (s : ByteArray) (a : Nat) : LetTo s a a := fun j _ h1 h2 => absurd h2 (by omega)
theorem LetTo.succ {s : ByteArray} {a k : Nat} (h : LetTo s a k) (hk : k < s.size) (h' : 97 ≤ (s[k].toNat : Int) ∧ (s[k].toNat : Int) ≤ 122) : LetTo s a (k + 1) := fun j hj h1 h2 => by
  by_cases e : j = k
  · subst e; exact h'
  · exact h j hj h1 (by omega)
/-- the word's end -/
structure WordEnd (s : ByteArray) (a e : Nat) : Prop where
  lo : a ≤ e
  hi : e ≤ s.size
  all : LetTo s a e
  stop : ∀ h : e < s.size, ¬ (97 ≤ (s[e].toNat : Int) ∧ (s[e].toNat : Int) ≤ 122)

set_option maxHeartbeats 2000000 in
theorem l4Word_any (s : ByteArray) (a : Nat) (ha : a ≤ s.size) (hs : s.size ≤ 9000000000000000000) (w : World) :
    Calls Try.prog 82 #[.string s, .int .i64 a] w fun e w' => ∃ b : Nat, e = .returned (.int .i64 b) ∧ WordEnd s a b ∧ w = w' := by
  have HA := Lib.hid ha
  go_enter Try.func82, Try.ntmps82
  go_wp2_with fail
  go_loop [1] (fun i => ∃ k : Nat, a ≤ k ∧ k ≤ s.size ∧ i = .int .i64 k ∧ LetTo s a k) (fun i => s.size - (intOf i).toNat)
  case atStart => exact ⟨a, by omega, ha, rfl, LetTo.self s a⟩
  case round =>
    obtain ⟨k, hak, hks, rfl, hok⟩ := hrel
    by_cases hlt : k < s.size
    · have hyes := Lib.hid (@LetTo.succ s a k hok hlt)
      have HO := Lib.hid hok
      clear hok
      by_cases h97 : (s[k].toNat : Int) < 97
      · have HE : Hid (WordEnd s a k) := Lib.hid ⟨hak, hks, HO.out, fun _ hh => by omega⟩
        go_wp2
        go_ret
        exact ⟨k, rfl, HE.out, rfl⟩
      · by_cases h122 : 122 < (s[k].toNat : Int)
        · have HE : Hid (WordEnd s a k) := Lib.hid ⟨hak, hks, HO.out, fun _ hh => by omega⟩
          go_wp2
          go_ret
          exact ⟨k, rfl, HE.out, rfl⟩
        · have HY := Lib.hid (hyes.out ⟨by omega, by omega⟩)
          have h1 : 97 ≤ (s[k].toNat : Int) := by omega
          have h2 : (s[k].toNat : Int) ≤ 122 := by omega
          go_wp2
          go_round
          case rel => exact ⟨k + 1, by omega, by omega, by go_num, HY.out⟩
          case measure => simp [intOf]; omega
    · obtain rfl : k = s.size := by omega
      have HE : Hid (WordEnd s a s.size) := Lib.hid ⟨hak, hks, hok, fun h => absurd h (by omega)⟩
      clear hok
      go_wp2
      go_ret
      exact ⟨_, rfl, HE.out, rfl⟩
/-- what is left to read of a term's kids, something behind it -/
def remL (T : TermV → List UInt8) (X : List UInt8) : Bool → List TermV → List UInt8
  | _, [] => 41 :: X
  | b, k :: ks => (if b = true then 40 else 44) :: (T k ++ remL T X false ks)
theorem termL_rem {f : Nat} {s : ByteArray} {ks : List TermV} {X : List UInt8} (h : ks ≠ []) (h2 : ks.length ≤ 2) : termL (f + 1) (.mk s ks) ++ X = s.data.toList ++ remL (termL f) X true ks := by
  match ks, h, h2 with
  | [p], _, _ => rw [termL_one]; simp [remL]
  | [p, q], _, _ => rw [termL_two]; simp [remL]
theorem remL_stops (T : TermV → List UInt8) (X : List UInt8) : ∀ ks, stops (remL T X false ks)
  | [] => stops_41 X
  | k :: ks => stops_44 _
theorem remL_head (T : TermV → List UInt8) (X : List UInt8) (b : Bool) (k : TermV) (ks : List TermV) : ∃ c, remL T X b (k :: ks) = c :: (T k ++ remL T X false ks) ∧ c ≠ 41 := by
  cases b
  · exact ⟨44, rfl, by decide⟩
  · exact ⟨40, rfl, by decide⟩
/-- the word in front is the name -/
theorem word_name {s : ByteArray} {k : Nat} (h : WordEnd s 0 k) : (∀ c ∈ (s.data.toList.take k), letter c) ∧ nolet (s.data.toList.drop k) := by
  have hl : s.data.toList.length = s.size := Array.length_toList
  constructor
  · intro c hc
    obtain ⟨j, hj, rfl⟩ := List.mem_iff_getElem.1 hc
    rw [List.length_take] at hj
    have := h.all j (by omega) (by omega) (by omega)
    rw [List.getElem_take]
    exact this
  · intro c r e
    have hk : k < s.data.toList.length := by
      rcases Nat.lt_or_ge k s.data.toList.length with h1 | h1
      · exact h1
      · rw [List.drop_eq_nil_of_le h1] at e; cases e
    rw [List.drop_eq_getElem_cons hk] at e
    injection e with e1 _
    have := h.stop (by omega)
    rw [← e1]
    exact this
end Go.Proofs.Ytgmeoblapnmpiaa

/- Numbers that are read, in plain Lean. -/
import Derived.Test.YtkbohgabifpceaaDoorTl
import Derived.Lib.AtoiAll
import Derived.Lib.Atoi
import Derived.Lib.SplitLaws
import Derived.Lib.IndexLaws
namespace Go.Proofs.YtkbohgabifpceaaDoor
set_option maxRecDepth 100000
open Go.RowKit Go.ChangeShapes Go.WideShapes Go.ChangeAt
set_option linter.unusedSimpArgs false
set_option linter.unusedVariables false

theorem index_one_none {s : List UInt8} {c : UInt8} (h : c ∉ s) : Lib.index s [c] = -1 := Lib.index_none fun j hj => by
  cases ho : Lib.occAt s [c] j
  · rfl
  · exact absurd (List.mem_of_getElem? (Lib.occAt_head rfl ho)) h
theorem index_one_at {a b : List UInt8} {c : UInt8} (h : c ∉ a) : Lib.index (a ++ c :: b) [c] = a.length := by
  refine Lib.index_first (by simp) ?_ ?_
  · rw [Lib.occAt_iff_take _ _ _ (by simp)]
    simp
  · intro j hj
    cases ho : Lib.occAt (a ++ c :: b) [c] j
    · rfl
    · have h1 := Lib.occAt_head rfl ho
      rw [List.getElem?_append_left hj] at h1
      exact absurd (List.mem_of_getElem? h1) h
theorem cut_none {s : List UInt8} {c : UInt8} (h : c ∉ s) : Lib.cut s [c] = (s, [], false) := by
  unfold Lib.cut
  rw [index_one_none h]
  rfl
theorem cut_at {a b : List UInt8} {c : UInt8} (h : c ∉ a) : Lib.cut (a ++ c :: b) [c] = (a, b, true) := by
  unfold Lib.cut
  rw [index_one_at h, if_pos (by omega)]
  simp
theorem split_none {s : List UInt8} {c : UInt8} (h : c ∉ s) : Lib.split s [c] = [s] := by
  unfold Lib.split
  rw [Lib.count_one, List.count_eq_zero.2 h]
  rfl
theorem split_at {a b : List UInt8} {c : UInt8} (h : c ∉ a) : Lib.split (a ++ c :: b) [c] = a :: Lib.split b [c] := by
  unfold Lib.split
  rw [Lib.count_one, List.count_append, List.count_eq_zero.2 h, List.count_cons_self, Nat.zero_add, Lib.count_one, Lib.splitK, index_one_at h, if_neg (by simp)]
  simp
/-- the pieces between the bytes c -/
def cutFrom (c : UInt8) : List UInt8 → List UInt8 → List (List UInt8)
  | [], cur => [cur]
  | x :: l, cur => if x.toNat = c.toNat then cur :: cutFrom c l [] else cutFrom c l (cur ++ [x])
def cutL (c : UInt8) (s : List UInt8) : List (List UInt8) := cutFrom c s []
theorem toNat_ne {x c : UInt8} (h : x ≠ c) : x.toNat ≠ c.toNat := fun e => h (UInt8.toNat_inj.1 e)
theorem cutFrom_none {c : UInt8} : ∀ {s cur : List UInt8}, c ∉ s → cutFrom c s cur = [cur ++ s]
  | [], cur, _ => by simp [cutFrom]
  | x :: l, cur, h => by
    have hx : x ≠ c := fun e => h (by simp [e])
    rw [cutFrom, if_neg (toNat_ne hx), cutFrom_none (fun hm => h (List.mem_cons_of_mem _ hm)), List.append_assoc]
    rfl
theorem cutFrom_at {c : UInt8} {b : List UInt8} : ∀ {a cur : List UInt8}, c ∉ a → cutFrom c (a ++ c :: b) cur = (cur ++ a) :: cutFrom c b []
  | [], cur, _ => by simp [cutFrom]
  | x :: l, cur, h => by
    have hx : x ≠ c := fun e => h (by simp [e])
    rw [List.cons_append, cutFrom, if_neg (toNat_ne hx), cutFrom_at (fun hm => h (List.mem_cons_of_mem _ hm)), List.append_assoc]
    rfl
theorem dgt_nat {d : Nat} (h : d < 10) : (dgt d).toNat = 48 + d := by
  unfold dgt
  rw [UInt8.toNat_ofNat']
  omega
theorem dec_mem : ∀ (u : Nat) (x : UInt8), x ∈ Lib.decDigits u → 48 ≤ x.toNat ∧ x.toNat ≤ 57 := by
  intro u
  induction u using Nat.strongRecOn with
  | _ u ih =>
    intro x hx
    by_cases h : u < 10
    · rw [dec_small h, List.mem_singleton] at hx
      subst hx
      rw [dgt_nat h]; omega
    · rw [dec_big h, List.mem_append, List.mem_singleton] at hx
      rcases hx with hx | rfl
      · exact ih (u / 10) (by omega) x hx
      · rw [dgt_nat (by omega)]; omega
theorem dec_ne (u : Nat) : Lib.decDigits u ≠ [] := by
  have := Lib.nDigits_pos u
  rw [← Lib.decDigits_length] at this
  intro e
  rw [e] at this
  simp at this
theorem itoa_cases (n : Int) : (∃ u : Nat, n = u ∧ Lib.itoa n = Lib.decDigits u) ∨ (∃ u : Nat, 0 < u ∧ n = -(u : Int) ∧ Lib.itoa n = 45 :: Lib.decDigits u) := by
  by_cases h : n < 0
  · obtain ⟨u, rfl⟩ : ∃ u : Nat, n = -(u : Int) := ⟨n.natAbs, by omega⟩
    exact .inr ⟨u, by omega, rfl, itoa_neg' (by omega)⟩
  · obtain ⟨u, rfl⟩ : ∃ u : Nat, n = (u : Int) := ⟨n.toNat, by omega⟩
    exact .inl ⟨u, rfl, Lib.itoa_nonneg u⟩
theorem itoa_not {n : Int} {c : UInt8} (h : c.toNat < 45 ∨ c.toNat = 46 ∨ c.toNat = 47 ∨ 57 < c.toNat) : c ∉ Lib.itoa n := by
  intro hm
  rcases itoa_cases n with ⟨u, _, e⟩ | ⟨u, _, _, e⟩
  · rw [e] at hm
    have := dec_mem u c hm
    omega
  · rw [e, List.mem_cons] at hm
    rcases hm with rfl | hm
    · simp at h
    · have := dec_mem u c hm
      omega
theorem digit_val {d : Nat} (h : d < 10) : Lib.digitVal (dgt d) = some d := by
  unfold Lib.digitVal
  rw [if_pos (by rw [dgt_nat h]; omega), dgt_nat h]
  congr 1; omega
theorem decFrom_dec : ∀ (u : Nat) (r : List UInt8), Lib.decFrom 0 (Lib.decDigits u ++ r) = Lib.decFrom u r := by
  intro u
  induction u using Nat.strongRecOn with
  | _ u ih =>
    intro r
    by_cases h : u < 10
    · rw [dec_small h, List.singleton_append, Lib.decFrom, digit_val h]
      show Lib.decFrom (0 * 10 + u) r = _
      rw [Nat.zero_mul, Nat.zero_add]
    · rw [dec_big h, List.append_assoc, ih (u / 10) (by omega), List.singleton_append, Lib.decFrom, digit_val (by omega)]
      show Lib.decFrom (u / 10 * 10 + u % 10) r = _
      congr 1; omega
theorem parse_dec : ∀ (u : Nat), u < 18446744073709551616 → ∀ (r : List UInt8), Lib.parseUint10 0 (Lib.decDigits u ++ r) = Lib.parseUint10 u r := by
  intro u
  induction u using Nat.strongRecOn with
  | _ u ih =>
    intro hu r
    by_cases h : u < 10
    · rw [dec_small h, List.singleton_append, Lib.parseUint10, if_pos (by rw [dgt_nat h]; omega), if_neg (by omega), if_neg (by rw [dgt_nat h]; omega), dgt_nat h]
      congr 1; omega
    · rw [dec_big h, List.append_assoc, ih (u / 10) (by omega) (by omega), List.singleton_append, Lib.parseUint10, if_pos (by rw [dgt_nat (by omega)]; omega), if_neg (by omega), if_neg (by rw [dgt_nat (by omega)]; omega), dgt_nat (by omega)]
      congr 1; omega
theorem parseMag_dec {u : Nat} (hu : u < 18446744073709551616) : Lib.parseMag (Lib.decDigits u) = .ok u := by
  have h := parse_dec u hu []
  rw [List.append_nil] at h
  unfold Lib.parseMag
  rw [if_neg (dec_ne u), h]
  rfl
theorem dec_cons (u : Nat) : ∃ c r, Lib.decDigits u = c :: r ∧ 48 ≤ c.toNat ∧ c.toNat ≤ 57 := by
  cases h : Lib.decDigits u with
  | nil => exact absurd h (dec_ne u)
  | cons c r => exact ⟨c, r, rfl, dec_mem u c (by rw [h]; simp)⟩
theorem atoiAll_pos {c : UInt8} {r : List UInt8} {u : Nat} (h1 : c.toNat ≠ 43) (h2 : c.toNat ≠ 45) (hm : Lib.parseMag (c :: r) = .ok u) (hu : u < 9223372036854775808) : Lib.atoiAll (c :: r) = .ok (u : Int) := by
  have e : (if c.toNat = 43 ∨ c.toNat = 45 then r else c :: r) = c :: r := if_neg (by omega)
  unfold Lib.atoiAll
  dsimp only
  rw [e, hm]
  dsimp only
  rw [if_neg (by omega), if_neg (by omega), if_neg h2]
theorem atoiAll_neg {r : List UInt8} {u : Nat} (hm : Lib.parseMag r = .ok u) (hu : u ≤ 9223372036854775808) : Lib.atoiAll (45 :: r) = .ok (-(u : Int)) := by
  have h2 : (45 : UInt8).toNat = 45 := by decide
  have e : (if (45 : UInt8).toNat = 43 ∨ (45 : UInt8).toNat = 45 then r else 45 :: r) = r := if_pos (.inr h2)
  unfold Lib.atoiAll
  dsimp only
  rw [e, hm]
  dsimp only
  rw [if_neg (fun h => h.1 h2), if_neg (by omega), if_pos h2]
theorem atoiAll_itoa {n : Int} (h0 : -9223372036854775808 ≤ n) (h1 : n ≤ 9223372036854775807) : Lib.atoiAll (Lib.itoa n) = .ok n := by
  rcases itoa_cases n with ⟨u, rfl, e⟩ | ⟨u, hu, rfl, e⟩
  · have hm := parseMag_dec (u := u) (by omega)
    rw [e]
    obtain ⟨c, r, ec, c0, c1⟩ := dec_cons u
    rw [ec] at hm ⊢
    exact atoiAll_pos (by omega) (by omega) hm (by omega)
  · rw [e]
    exact atoiAll_neg (parseMag_dec (by omega)) (by omega)
/-- the number that strconv.Atoi hands back -/
def numI (l : List UInt8) : Int := match Lib.atoiAll l with
  | .ok v => v
  | .range => Lib.atoiSat l
  | _ => 0
theorem numI_itoa {n : Int} (h0 : -9223372036854775808 ≤ n) (h1 : n ≤ 9223372036854775807) : numI (Lib.itoa n) = n := by
  unfold numI
  rw [atoiAll_itoa h0 h1]
/-- the number that the reference reads, behind its sign -/
def numBad (neg : Bool) (m : List UInt8) : Prop := m.length = 0 ∨ 17 < m.length ∨ ((m.getD 0 0).toNat = 48 ∧ (1 < m.length ∨ neg = true))
instance (neg : Bool) (m : List UInt8) : Decidable (numBad neg m) := by unfold numBad; infer_instance
def numB (neg : Bool) (m : List UInt8) : Int × Bool :=
  if numBad neg m then (0, false)
  else match Lib.decFrom 0 m with
    | some v => (if neg = true then -(v : Int) else v, true)
    | none => (0, false)
def numS : List UInt8 → Int × Bool
  | [] => numB false []
  | c :: r => if c.toNat = 45 then numB true r else numB false (c :: r)
theorem numB_no {neg : Bool} {m : List UInt8} (h : numBad neg m) : numB neg m = (0, false) := by
  unfold numB; rw [if_pos h]
theorem numB_go {neg : Bool} {m : List UInt8} (h : ¬ numBad neg m) {v : Nat} (hv : Lib.decFrom 0 m = some v) : numB neg m = (if neg = true then -(v : Int) else v, true) := by
  unfold numB; rw [if_neg h, hv]
theorem numB_bad {neg : Bool} {m : List UInt8} (h : ¬ numBad neg m) (hv : Lib.decFrom 0 m = none) : numB neg m = (0, false) := by
  unfold numB; rw [if_neg h, hv]
theorem nDigits_le : ∀ (k u : Nat), u < 10 ^ (k + 1) → Lib.nDigits u ≤ k + 1
  | 0, u, h => by rw [Lib.nDigits_small (by simpa using h)]; omega
  | k + 1, u, h => by
    by_cases hu : u < 10
    · rw [Lib.nDigits_small hu]; omega
    · rw [Lib.nDigits_big hu]
      have := nDigits_le k (u / 10) (by rw [Nat.pow_succ] at h; omega)
      omega
theorem dec_head {u : Nat} : 0 < u → ((Lib.decDigits u).getD 0 0).toNat ≠ 48 := by
  induction u using Nat.strongRecOn with
  | _ u ih =>
    intro hu
    by_cases h : u < 10
    · rw [dec_small h]
      show (dgt u).toNat ≠ 48
      rw [dgt_nat h]; omega
    · rw [dec_big h]
      have h1 := ih (u / 10) (by omega) (by omega)
      obtain ⟨c, r, e, _⟩ := dec_cons (u / 10)
      rw [e] at h1 ⊢
      exact h1
theorem numS_itoa {n : Int} (h0 : -100000000000000000 < n) (h1 : n < 100000000000000000) : numS (Lib.itoa n) = (n, true) := by
  rcases itoa_cases n with ⟨u, rfl, e⟩ | ⟨u, hu, rfl, e⟩
  · have hl : (Lib.decDigits u).length ≤ 17 := by rw [Lib.decDigits_length]; exact nDigits_le 16 u (by omega)
    have hp := Lib.nDigits_pos u
    rw [← Lib.decDigits_length] at hp
    have hd := decFrom_dec u []
    rw [List.append_nil] at hd
    rw [e]
    obtain ⟨c, r, ec, c0, c1⟩ := dec_cons u
    have en : numS (c :: r) = numB false (c :: r) := if_neg (by omega)
    rw [ec, en, ← ec, numB_go (v := u) ?_ hd]
    · rfl
    · rintro (h | h | ⟨h, h' | h'⟩)
      · omega
      · omega
      · rcases Nat.eq_zero_or_pos u with rfl | hu
        · rw [dec_small (by omega)] at h'; simp at h'
        · exact dec_head hu h
      · cases h'
  · have hl : (Lib.decDigits u).length ≤ 17 := by rw [Lib.decDigits_length]; exact nDigits_le 16 u (by omega)
    have hp := Lib.nDigits_pos u
    rw [← Lib.decDigits_length] at hp
    have hd := decFrom_dec u []
    rw [List.append_nil] at hd
    rw [e]
    have en : numS (45 :: Lib.decDigits u) = numB true (Lib.decDigits u) := (if_pos (show (45 : UInt8).toNat = 45 by decide) : (if (45 : UInt8).toNat = 45 then numB true (Lib.decDigits u) else numB false (45 :: Lib.decDigits u)) = _)
    rw [en, numB_go (v := u) ?_ hd]
    · rfl
    · rintro (h | h | ⟨h, _⟩)
      · omega
      · omega
      · exact dec_head hu h
/-- a fraction that is read: whatever was parsed counts if it is written so -/
def readBy (p : Int × Int) (t : List UInt8) : Int × Int × Bool := if ratOk p.1 p.2 = true ∧ ratTextL p.1 p.2 = t then (p.1, p.2, true) else (0, 0, false)
theorem readBy_same {f g : List UInt8 → Int × Int} (hf : ∀ n d, ratOk n d = true → f (ratTextL n d) = (n, d)) (hg : ∀ n d, ratOk n d = true → g (ratTextL n d) = (n, d)) (t : List UInt8) : readBy (f t) t = readBy (g t) t := by
  by_cases h : ∃ n d, ratOk n d = true ∧ ratTextL n d = t
  · obtain ⟨n, d, hk, rfl⟩ := h
    rw [hf n d hk, hg n d hk]
  · have no : ∀ p : Int × Int, readBy p t = (0, 0, false) := fun p => by
      unfold readBy
      rw [if_neg (fun hh => h ⟨p.1, p.2, hh⟩)]
    rw [no, no]
/-- what the program parses -/
def parseI (t : List UInt8) : Int × Int := (numI (Lib.cut t [47]).1, if (Lib.cut t [47]).2.2 = true then numI (Lib.cut t [47]).2.1 else 1)
/-- what the reference parses -/
def parseS (t : List UInt8) : Int × Int := ((numS ((cutL 47 t).getD 0 [])).1, if 1 < (cutL 47 t).length then (numS ((cutL 47 t).getD 1 [])).1 else 1)
theorem slash_not (n : Int) : (47 : UInt8) ∉ Lib.itoa n := itoa_not (by decide)
theorem parseI_text {n d : Int} (h : ratOk n d = true) : parseI (ratTextL n d) = (n, d) := by
  obtain ⟨⟨n0, n1⟩, ⟨d0, d1⟩, _⟩ := ratOk_iff.1 h
  unfold ratTextL parseI
  by_cases e : d = 1
  · rw [if_pos e, cut_none (slash_not n)]
    simp only [Bool.false_eq_true, if_false]
    rw [numI_itoa (by omega) (by omega), e]
  · rw [if_neg e, cut_at (slash_not n)]
    simp only [if_true]
    rw [numI_itoa (by omega) (by omega), numI_itoa (by omega) (by omega)]
theorem parseS_text {n d : Int} (h : ratOk n d = true) : parseS (ratTextL n d) = (n, d) := by
  obtain ⟨⟨n0, n1⟩, ⟨d0, d1⟩, _⟩ := ratOk_iff.1 h
  unfold ratTextL parseS cutL
  by_cases e : d = 1
  · rw [if_pos e, cutFrom_none (slash_not n), List.nil_append]
    show ((numS (Lib.itoa n)).1, (1 : Int)) = _
    rw [numS_itoa (by omega) (by omega), e]
  · rw [if_neg e, cutFrom_at (slash_not n), List.nil_append, cutFrom_none (slash_not d), List.nil_append]
    show ((numS (Lib.itoa n)).1, (numS (Lib.itoa d)).1) = _
    rw [numS_itoa (by omega) (by omega), numS_itoa (by omega) (by omega)]
/-- the fraction with a text -/
def ratReadL (t : List UInt8) : Int × Int × Bool := readBy (parseI t) t
theorem readS_eq (t : List UInt8) : readBy (parseS t) t = ratReadL t := readBy_same (fun _ _ h => parseS_text h) (fun _ _ h => parseI_text h) t
end Go.Proofs.YtkbohgabifpceaaDoor

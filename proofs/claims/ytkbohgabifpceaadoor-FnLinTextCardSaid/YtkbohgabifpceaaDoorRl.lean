/- Constraints that are read, in plain Lean. -/
import Derived.Test.YtkbohgabifpceaaDoorRp
import Derived.Lib.AtoiAllCases
namespace Go.Proofs.YtkbohgabifpceaaDoor
set_option maxRecDepth 100000
open Go.RowKit Go.ChangeShapes Go.WideShapes Go.ChangeAt
set_option linter.unusedSimpArgs false
set_option linter.unusedVariables false

theorem blank_not (n : Int) : (32 : UInt8) ∉ Lib.itoa n := itoa_not (by decide)
theorem blank_sign (s : Bool) : (32 : UInt8) ∉ signL s := by cases s <;> decide
theorem words_split {x0 x1 x2 x3 b : Int} {s : Bool} : Lib.split (linTextL [x0, x1, x2, x3] b s) [32] = [Lib.itoa x0, Lib.itoa x1, Lib.itoa x2, Lib.itoa x3, signL s, Lib.itoa b] := by
  have e : linTextL [x0, x1, x2, x3] b s = Lib.itoa x0 ++ 32 :: (Lib.itoa x1 ++ 32 :: (Lib.itoa x2 ++ 32 :: (Lib.itoa x3 ++ 32 :: (signL s ++ 32 :: Lib.itoa b)))) := by
    unfold linTextL linWords
    simp only [List.flatMap_cons, List.flatMap_nil, List.append_assoc, List.singleton_append, List.nil_append, List.append_nil, List.cons_append]
  rw [e, split_at (blank_not _), split_at (blank_not _), split_at (blank_not _), split_at (blank_not _), split_at (blank_sign _), split_none (blank_not _)]
theorem words_cut {x0 x1 x2 x3 b : Int} {s : Bool} : cutL 32 (linTextL [x0, x1, x2, x3] b s) = [Lib.itoa x0, Lib.itoa x1, Lib.itoa x2, Lib.itoa x3, signL s, Lib.itoa b] := by
  have e : linTextL [x0, x1, x2, x3] b s = Lib.itoa x0 ++ 32 :: (Lib.itoa x1 ++ 32 :: (Lib.itoa x2 ++ 32 :: (Lib.itoa x3 ++ 32 :: (signL s ++ 32 :: Lib.itoa b)))) := by
    unfold linTextL linWords
    simp only [List.flatMap_cons, List.flatMap_nil, List.append_assoc, List.singleton_append, List.nil_append, List.append_nil, List.cons_append]
  rw [e, cutL, cutFrom_at (blank_not _), cutFrom_at (blank_not _), cutFrom_at (blank_not _), cutFrom_at (blank_not _), cutFrom_at (blank_sign _), cutFrom_none (blank_not _)]
  rfl
/-- a constraint -/
abbrev LinR := List Int × Int × Bool
/-- the first k numbers -/
def numsTo (f : List UInt8 → Int) (ws : List (List UInt8)) (k : Nat) : List Int := (List.range k).map fun i => f (ws.getD i [])
theorem numsTo_succ (f : List UInt8 → Int) (ws : List (List UInt8)) (k : Nat) : numsTo f ws (k + 1) = numsTo f ws k ++ [f (ws.getD k [])] := by
  unfold numsTo; rw [List.range_succ, List.map_append]; rfl
theorem numsTo_len (f : List UInt8 → Int) (ws : List (List UInt8)) (k : Nat) : (numsTo f ws k).length = k := by simp [numsTo]
/-- what words are parsed to -/
def parseW (f : List UInt8 → Int) (ws : List (List UInt8)) : LinR := (numsTo f ws 4, f (ws.getD 5 []), ws.getD 4 [] == [60])
/-- whatever was parsed counts if it is written so -/
def linBy (f : List UInt8 → Int) (ws : List (List UInt8)) (t : List UInt8) : Option LinR :=
  if ws.length = 6 ∧ linOk (parseW f ws).1 (parseW f ws).2.1 = true ∧ linTextL (parseW f ws).1 (parseW f ws).2.1 (parseW f ws).2.2 = t then some (parseW f ws) else none
/-- the constraint with a text -/
def linReadL (t : List UInt8) : Option LinR := linBy numI (Lib.split t [32]) t
def linReadS (t : List UInt8) : Option LinR := linBy (fun l => (numS l).1) (cutL 32 t) t
theorem linBy_text {f : List UInt8 → Int} (hf : ∀ n : Int, -1000000000000 ≤ n → n ≤ 1000000000000 → f (Lib.itoa n) = n) {ws : List (List UInt8)} {xs : List Int} {b : Int} {s : Bool} (hk : linOk xs b = true)
    (hw : ∀ x0 x1 x2 x3, xs = [x0, x1, x2, x3] → ws = [Lib.itoa x0, Lib.itoa x1, Lib.itoa x2, Lib.itoa x3, signL s, Lib.itoa b]) : linBy f ws (linTextL xs b s) = some (xs, b, s) := by
  obtain ⟨hl, hb, _⟩ := linOk_len hk
  have hb := coefOk_iff.1 hb
  have hm := linOk_mem hk
  obtain ⟨x0, x1, x2, x3, rfl⟩ : ∃ x0 x1 x2 x3, xs = [x0, x1, x2, x3] := by
    match xs, hl with
    | [x0, x1, x2, x3], _ => exact ⟨x0, x1, x2, x3, rfl⟩
  rw [hw _ _ _ _ rfl]
  have h0 := hm x0 (by simp)
  have h1 := hm x1 (by simp)
  have h2 := hm x2 (by simp)
  have h3 := hm x3 (by simp)
  have e : parseW f [Lib.itoa x0, Lib.itoa x1, Lib.itoa x2, Lib.itoa x3, signL s, Lib.itoa b] = ([x0, x1, x2, x3], b, s) := by
    show ([f (Lib.itoa x0), f (Lib.itoa x1), f (Lib.itoa x2), f (Lib.itoa x3)], f (Lib.itoa b), signL s == [60]) = _
    rw [hf x0 (by omega) (by omega), hf x1 (by omega) (by omega), hf x2 (by omega) (by omega), hf x3 (by omega) (by omega), hf b (by omega) (by omega)]
    cases s <;> rfl
  unfold linBy
  rw [e, if_pos ⟨rfl, hk, rfl⟩]
theorem linBy_some {f : List UInt8 → Int} {ws : List (List UInt8)} {t : List UInt8} {l : LinR} (h : linBy f ws t = some l) : linOk l.1 l.2.1 = true ∧ linTextL l.1 l.2.1 l.2.2 = t := by
  unfold linBy at h
  split at h
  · next hk =>
    obtain rfl := Option.some.inj h
    exact hk.2
  · cases h
theorem readL_lin {xs : List Int} {b : Int} {s : Bool} (hk : linOk xs b = true) : linReadL (linTextL xs b s) = some (xs, b, s) :=
  linBy_text (fun n h0 h1 => numI_itoa (by omega) (by omega)) hk (fun x0 x1 x2 x3 e => by rw [e]; exact words_split)
theorem readS_lin {xs : List Int} {b : Int} {s : Bool} (hk : linOk xs b = true) : linReadS (linTextL xs b s) = some (xs, b, s) :=
  linBy_text (fun n h0 h1 => by rw [numS_itoa (by omega) (by omega)]) hk (fun x0 x1 x2 x3 e => by rw [e]; exact words_cut)
theorem linRead_same (t : List UInt8) : linReadS t = linReadL t := by
  cases h : linReadL t with
  | some l =>
    obtain ⟨hk, rfl⟩ := linBy_some h
    exact readS_lin hk
  | none =>
    cases h' : linReadS t with
    | none => rfl
    | some l =>
      obtain ⟨hk, rfl⟩ := linBy_some h'
      rw [readL_lin hk] at h
      cases h
theorem linBy_few {f : List UInt8 → Int} {ws : List (List UInt8)} {t : List UInt8} (h : ws.length ≠ 6) : linBy f ws t = none := by
  unfold linBy; rw [if_neg (fun hh => h hh.1)]
theorem linBy_bad {f : List UInt8 → Int} {ws : List (List UInt8)} {t : List UInt8} (h : linOk (numsTo f ws 4) (f (ws.getD 5 [])) = false) : linBy f ws t = none := by
  unfold linBy; rw [if_neg (fun hh => by have := hh.2.1; rw [show linOk (parseW f ws).1 (parseW f ws).2.1 = false from h] at this; cases this)]
theorem linBy_other {f : List UInt8 → Int} {ws : List (List UInt8)} {t : List UInt8} (h : linTextL (numsTo f ws 4) (f (ws.getD 5 [])) (ws.getD 4 [] == [60]) ≠ t) : linBy f ws t = none := by
  unfold linBy; rw [if_neg (fun hh => h hh.2.2)]
theorem linBy_go {f : List UInt8 → Int} {ws : List (List UInt8)} {t : List UInt8} (h6 : ws.length = 6) (hk : linOk (numsTo f ws 4) (f (ws.getD 5 [])) = true) (h : linTextL (numsTo f ws 4) (f (ws.getD 5 [])) (ws.getD 4 [] == [60]) = t) : linBy f ws t = some (numsTo f ws 4, f (ws.getD 5 []), ws.getD 4 [] == [60]) := by
  unfold linBy; rw [if_pos ⟨h6, hk, h⟩]; rfl
theorem numI_rng (l : List UInt8) : J64 (numI l) := by
  unfold numI J64
  rcases h : Lib.atoiAll l with v | _ | _
  · obtain ⟨b1, b2⟩ := Lib.atoiAll_bounds h
    dsimp only
    omega
  · dsimp only; omega
  · unfold Lib.atoiSat
    dsimp only
    split <;> omega
theorem decFrom_lt : ∀ {l : List UInt8} {a v : Nat}, Lib.decFrom a l = some v → v < (a + 1) * 10 ^ l.length
  | [], a, v, h => by
    simp only [Lib.decFrom, Option.some.injEq] at h
    subst h; simp
  | c :: l, a, v, h => by
    rw [Lib.decFrom] at h
    cases hd : Lib.digitVal c with
    | none => rw [hd] at h; cases h
    | some d =>
      rw [hd] at h
      have hd9 : d ≤ 9 := by
        unfold Lib.digitVal at hd
        split at hd
        · have := Option.some.inj hd; omega
        · cases hd
      have ih := decFrom_lt h
      have hp : (a * 10 + d + 1) * 10 ^ l.length ≤ ((a + 1) * 10) * 10 ^ l.length := Nat.mul_le_mul_right _ (by omega)
      rw [List.length_cons, Nat.pow_succ]
      have e : (a + 1) * 10 * 10 ^ l.length = (a + 1) * (10 ^ l.length * 10) := by rw [Nat.mul_assoc, Nat.mul_comm 10]
      omega
theorem numB_rng (neg : Bool) (m : List UInt8) : J64 (numB neg m).1 := by
  unfold numB J64
  split
  · dsimp only; omega
  · next hb =>
    cases hd : Lib.decFrom 0 m with
    | none => dsimp only; omega
    | some v =>
      have h1 := decFrom_lt hd
      have h2 : m.length ≤ 17 := by
        unfold numBad at hb; omega
      have h3 : 10 ^ m.length ≤ 10 ^ 17 := Nat.pow_le_pow_right (by omega) h2
      dsimp only
      split <;> omega
theorem numS_rng (l : List UInt8) : J64 (numS l).1 := by
  unfold numS
  split
  · exact numB_rng _ _
  · split
    · exact numB_rng _ _
    · exact numB_rng _ _
theorem numsTo_rng {f : List UInt8 → Int} (hf : ∀ l, J64 (f l)) (ws : List (List UInt8)) (k j : Nat) : J64 ((numsTo f ws k).getD j 0) := by
  unfold numsTo
  rw [List.getD_eq_getElem?_getD, List.getElem?_map]
  cases h : (List.range k)[j]? with
  | none => show J64 0; unfold J64; omega
  | some i => exact hf _
end Go.Proofs.YtkbohgabifpceaaDoor

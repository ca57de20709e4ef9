/- How a system is decided, in plain Lean. -/
import Derived.Test.YtccjbipmlpnhkaaWm
namespace Go.Proofs.Ytccjbipmlpnhkaa
set_option maxRecDepth 100000
open Go.RowKit Go.ChangeShapes Go.WideShapes Go.ChangeAt
set_option linter.unusedSimpArgs false
set_option linter.unusedVariables false

def toO (t : Int × Int × Bool) : Option (Int × Int) := if t.2.2 = true then some (t.1, t.2.1) else none
/-- a bound less the other numbers' parts -/
def restTo (xs : List Int) (b : Int) (vs : List (Int × Int)) (u : Nat) : Nat → Option (Int × Int)
  | 0 => some (b, 1)
  | k + 1 => (restTo xs b vs u k).bind fun s => if k = u then some s else plusR s (-(xs.getD k 0)) (vs.getD k (0, 0))
def boundR (xs : List Int) (b : Int) (vs : List (Int × Int)) (u : Nat) : Option (Int × Int) :=
  (restTo xs b vs u 4).bind fun s => (toO (ofR 1 (xs.getD u 0))).bind fun r => toO (mulR s.1 s.2 r.1 r.2)
theorem restTo_none {xs : List Int} {b : Int} {vs : List (Int × Int)} {u k : Nat} (h : restTo xs b vs u k = none) : ∀ {m : Nat}, k ≤ m → restTo xs b vs u m = none
  | 0, hm => by obtain rfl : k = 0 := by omega
                exact h
  | m + 1, hm => by
    by_cases e : k = m + 1
    · subst e; exact h
    · simp only [restTo, restTo_none h (show k ≤ m by omega), Option.bind_none]
theorem rest_skip {xs : List Int} {b : Int} {vs : List (Int × Int)} {u k : Nat} {s : Int × Int} (h : restTo xs b vs u k = some s) (hk : k = u) : restTo xs b vs u (k + 1) = some s := by
  simp only [restTo, h, Option.bind_some]; rw [if_pos hk]
theorem rest_step {xs : List Int} {b : Int} {vs : List (Int × Int)} {u k : Nat} {s : Int × Int} (h : restTo xs b vs u k = some s) (hk : k ≠ u) : restTo xs b vs u (k + 1) = plusR s (-(xs.getD k 0)) (vs.getD k (0, 0)) := by
  simp only [restTo, h, Option.bind_some]; rw [if_neg hk]
theorem bound_rest {xs : List Int} {b : Int} {vs : List (Int × Int)} {u : Nat} (h : restTo xs b vs u 4 = none) : boundR xs b vs u = none := by
  simp only [boundR, h, Option.bind_none]
theorem bound_go {xs : List Int} {b : Int} {vs : List (Int × Int)} {u : Nat} {s : Int × Int} (h : restTo xs b vs u 4 = some s) {P Q : Int} {t : Bool} (h2 : ofR 1 (xs.getD u 0) = (P, Q, t)) {X Y : Int} {t2 : Bool} (h3 : mulR s.1 s.2 P Q = (X, Y, t2)) :
    (t = false → boundR xs b vs u = none) ∧ (t = true → boundR xs b vs u = toO (X, Y, t2)) := by
  simp only [boundR, h, Option.bind_some, h2]
  constructor
  · rintro rfl; rfl
  · rintro rfl
    show (some (P, Q)).bind _ = _
    rw [Option.bind_some, h3]
theorem toO_some (t : Int × Int × Bool) : (toO t).isSome = t.2.2 ∧ ∀ p, toO t = some p → p = (t.1, t.2.1) := by
  obtain ⟨a, b, c⟩ := t
  cases c <;> simp [toO]
/-- between what a number may be -/
structure Ends where
  lo : Int × Int
  hi : Int × Int
  isLo : Bool
  isHi : Bool
def ends0 : Ends := ⟨(0, 0), (0, 0), false, false⟩
def endPut (c : Int) (x : Int × Int) (e : Ends) : Ends :=
  if 0 < c then (if (!e.isHi || lessR x.1 x.2 e.hi.1 e.hi.2) = true then { e with hi := x, isHi := true } else e)
  else (if (!e.isLo || lessR e.lo.1 e.lo.2 x.1 x.2) = true then { e with lo := x, isLo := true } else e)
def endStep (u : Nat) (vs : List (Int × Int)) (r : RowV) (e : Ends) : Option Ends :=
  if cf r u = 0 then some e else (boundR r.1.1 r.1.2.1 vs u).map fun x => endPut (cf r u) x e
def endsTo (rs : List RowV) (u : Nat) (vs : List (Int × Int)) : Nat → Option Ends
  | 0 => some ends0
  | k + 1 => (endsTo rs u vs k).bind fun e => endStep u vs (rs.getD k row0) e
def chooseR (e : Ends) : Int × Int × Bool :=
  if (e.isLo && e.isHi) = true then midR e.lo.1 e.lo.2 e.hi.1 e.hi.2 else if e.isHi = true then addR e.hi.1 e.hi.2 (-1) 1 else if e.isLo = true then addR e.lo.1 e.lo.2 1 1 else (0, 1, true)
def valueR (rs : List RowV) (u : Nat) (vs : List (Int × Int)) : Option (Int × Int) := (endsTo rs u vs rs.length).bind fun e => toO (chooseR e)
theorem endsTo_none {rs : List RowV} {u : Nat} {vs : List (Int × Int)} {k : Nat} (h : endsTo rs u vs k = none) : ∀ {m : Nat}, k ≤ m → endsTo rs u vs m = none
  | 0, hm => by obtain rfl : k = 0 := by omega
                exact h
  | m + 1, hm => by
    by_cases e : k = m + 1
    · subst e; exact h
    · simp only [endsTo, endsTo_none h (show k ≤ m by omega), Option.bind_none]
theorem ends_skip {rs : List RowV} {u k : Nat} {vs : List (Int × Int)} {e : Ends} (h : endsTo rs u vs k = some e) (hc : cf (rs.getD k row0) u = 0) : endsTo rs u vs (k + 1) = some e := by
  simp only [endsTo, h, Option.bind_some, endStep]; rw [if_pos hc]
theorem ends_none {rs : List RowV} {u k : Nat} {vs : List (Int × Int)} {e : Ends} (h : endsTo rs u vs k = some e) (hc : cf (rs.getD k row0) u ≠ 0) (hb : boundR (rs.getD k row0).1.1 (rs.getD k row0).1.2.1 vs u = none) : endsTo rs u vs (k + 1) = none := by
  simp only [endsTo, h, Option.bind_some, endStep]; rw [if_neg hc, hb]; rfl
theorem ends_put {rs : List RowV} {u k : Nat} {vs : List (Int × Int)} {e : Ends} (h : endsTo rs u vs k = some e) (hc : cf (rs.getD k row0) u ≠ 0) {x : Int × Int} (hb : boundR (rs.getD k row0).1.1 (rs.getD k row0).1.2.1 vs u = some x) : endsTo rs u vs (k + 1) = some (endPut (cf (rs.getD k row0) u) x e) := by
  simp only [endsTo, h, Option.bind_some, endStep]; rw [if_neg hc, hb]; rfl
theorem value_none {rs : List RowV} {u : Nat} {vs : List (Int × Int)} (h : endsTo rs u vs rs.length = none) : valueR rs u vs = none := by
  simp only [valueR, h, Option.bind_none]
theorem value_some {rs : List RowV} {u : Nat} {vs : List (Int × Int)} {e : Ends} (h : endsTo rs u vs rs.length = some e) : valueR rs u vs = toO (chooseR e) := by
  simp only [valueR, h, Option.bind_some]
/-- rows from which the numbers from 4 - k on are eliminated -/
def chain (ls : List LinV) : Nat → Option (List RowV)
  | 0 => some (rowsOf ls)
  | k + 1 => (chain ls k).bind fun rs => lessRows rs (3 - k)
def stage (ls : List LinV) (u : Nat) : List RowV := (chain ls (3 - u)).getD []
def backTo (ls : List LinV) : Nat → Option (List (Int × Int))
  | 0 => some [(0, 1), (0, 1), (0, 1), (0, 1)]
  | k + 1 => (backTo ls k).bind fun vs => (valueR (stage ls k) k vs).map fun x => vs.set k x
def badAt : List RowV → Option (List Int)
  | [] => none
  | r :: rs => if linBad r.1.1 r.1.2.1 r.1.2.2 = true then some r.2 else badAt rs
inductive FarRes where
  | form
  | much
  | no (ts : List Int)
  | yes (vs : List (Int × Int))
def farEnd (ls : List LinV) (rs : List RowV) : FarRes := match badAt rs with
  | some ts => if farOk ls ts = true then .no ts else .much
  | none => match backTo ls 4 with
    | none => .much
    | some vs => if farAll ls vs = true then .yes vs else .much
def farRun (ls : List LinV) : FarRes := if sysOk ls = true then (match chain ls 4 with
  | none => .much
  | some rs => farEnd ls rs) else .form
theorem chain_none {ls : List LinV} {k : Nat} (h : chain ls k = none) : ∀ {m : Nat}, k ≤ m → chain ls m = none
  | 0, hm => by obtain rfl : k = 0 := by omega
                exact h
  | m + 1, hm => by
    by_cases e : k = m + 1
    · subst e; exact h
    · simp only [chain, chain_none h (show k ≤ m by omega), Option.bind_none]
theorem chain_some {ls : List LinV} {k : Nat} {rs : List RowV} (h : chain ls k = some rs) : ∀ {m : Nat}, m ≤ k → ∃ r, chain ls m = some r := fun {m} hm => by
  cases hc : chain ls m with
  | none => rw [chain_none hc hm] at h; cases h
  | some r => exact ⟨r, rfl⟩
theorem chain_ok {ls : List LinV} (hs : sysOk ls = true) : ∀ {k : Nat} {rs : List RowV}, chain ls k = some rs → RowsOk ls.length rs
  | 0, rs, h => by obtain rfl := Option.some.inj h; exact rowsOf_ok hs
  | k + 1, rs, h => by
    simp only [chain, Option.bind_eq_some_iff] at h
    obtain ⟨r, h1, h2⟩ := h
    exact lessRows_ok (chain_ok hs h1) h2
theorem backTo_len {ls : List LinV} : ∀ {k : Nat} {vs : List (Int × Int)}, backTo ls k = some vs → vs.length = 4
  | 0, vs, h => by obtain rfl := Option.some.inj h; rfl
  | k + 1, vs, h => by
    simp only [backTo, Option.bind_eq_some_iff, Option.map_eq_some_iff] at h
    obtain ⟨v1, h1, x, h2, rfl⟩ := h
    rw [List.length_set]; exact backTo_len h1
theorem badAt_to {rs : List RowV} {k : Nat} (h : ∀ j, j < k → linBad (rs.getD j row0).1.1 (rs.getD j row0).1.2.1 (rs.getD j row0).1.2.2 = false) : badAt rs = badAt (rs.drop k) := by
  induction k generalizing rs with
  | zero => rfl
  | succ k ih =>
    cases rs with
    | nil => rfl
    | cons r rs =>
      have h0 := h 0 (by omega)
      have h1 : linBad r.1.1 r.1.2.1 r.1.2.2 = false := by simpa using h0
      rw [show badAt (r :: rs) = (if linBad r.1.1 r.1.2.1 r.1.2.2 = true then some r.2 else badAt rs) from rfl, if_neg (by rw [h1]; simp), List.drop_succ_cons]
      exact ih fun j hj => by simpa using h (j + 1) (by omega)
theorem badAt_hit {rs : List RowV} {k : Nat} (hk : k < rs.length) (h : ∀ j, j < k → linBad (rs.getD j row0).1.1 (rs.getD j row0).1.2.1 (rs.getD j row0).1.2.2 = false) (h' : linBad (rs.getD k row0).1.1 (rs.getD k row0).1.2.1 (rs.getD k row0).1.2.2 = true) : badAt rs = some (rs.getD k row0).2 := by
  rw [badAt_to h, List.drop_eq_getElem_cons hk]
  have e : rs.getD k row0 = rs[k] := by rw [List.getD_eq_getElem?_getD, List.getElem?_eq_getElem hk]; rfl
  rw [e] at h' ⊢
  unfold badAt
  rw [if_pos h']
theorem badAt_miss {rs : List RowV} (h : ∀ j, j < rs.length → linBad (rs.getD j row0).1.1 (rs.getD j row0).1.2.1 (rs.getD j row0).1.2.2 = false) : badAt rs = none := by
  rw [badAt_to h, List.drop_length]; rfl
end Go.Proofs.Ytccjbipmlpnhkaa

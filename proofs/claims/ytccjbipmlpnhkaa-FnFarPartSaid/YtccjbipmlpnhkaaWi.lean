/- Systems decided: what is returned; the program's own. -/
import Derived.Test.YtccjbipmlpnhkaaWe
import Derived.Test.YtccjbipmlpnhkaaWl
import Derived.Test.YtccjbipmlpnhkaaM
import Derived.Test.YtccjbipmlpnhkaaFk
namespace Go.Proofs.Ytccjbipmlpnhkaa
set_option maxRecDepth 100000
open Go.RowKit Go.ChangeShapes Go.WideShapes Go.ChangeAt
set_option linter.unusedSimpArgs false
set_option linter.unusedVariables false

/-- What deciding a system returns. -/
def RunBack (r : FarRes) (w : World) (e : Ending) (w' : World) : Prop := match r with
  | .form => ∃ A c B d, e = .returned (.tuple #[.slice A 0 c, .slice B 0 d, .int .i64 3]) ∧ Below w.heap.size w w'
  | .much => ∃ A c B d, e = .returned (.tuple #[.slice A 0 c, .slice B 0 d, .int .i64 2]) ∧ Below w.heap.size w w'
  | .no ts => ∃ A c g cap, e = .returned (.tuple #[.slice A 0 c, .slice (some ⟨g, 0, none⟩) ts.length cap, .int .i64 1]) ∧ (Ints w' (some ⟨g, 0, none⟩) ts.length ts ∧ Free w' g ∧ w.heap.size ≤ g) ∧ Below w.heap.size w w'
  | .yes vs => ∃ g cap B d, e = .returned (.tuple #[.slice (some ⟨g, 0, none⟩) 4 cap, .slice B 0 d, .int .i64 0]) ∧ (Rats w' (some ⟨g, 0, none⟩) 4 vs ∧ Free w' g ∧ w.heap.size ≤ g) ∧ Below w.heap.size w w'
theorem run_form {r : FarRes} {w w' : World} {e : Ending} (hr : r = .form) (h : ∃ A c B d, e = .returned (.tuple #[.slice A 0 c, .slice B 0 d, .int .i64 3]) ∧ Below w.heap.size w w') : RunBack r w e w' := by subst hr; exact h
theorem run_much {r : FarRes} {w w' : World} {e : Ending} (hr : r = .much) (h : ∃ A c B d, e = .returned (.tuple #[.slice A 0 c, .slice B 0 d, .int .i64 2]) ∧ Below w.heap.size w w') : RunBack r w e w' := by subst hr; exact h
theorem run_no {r : FarRes} {ts : List Int} {n : Nat} {w w' : World} {e : Ending} (hr : r = .no ts) (hn : ts.length = n) (h : ∃ A c g cap, e = .returned (.tuple #[.slice A 0 c, .slice (some ⟨g, 0, none⟩) n cap, .int .i64 1]) ∧ (Ints w' (some ⟨g, 0, none⟩) n ts ∧ Free w' g ∧ w.heap.size ≤ g) ∧ Below w.heap.size w w') : RunBack r w e w' := by subst hr hn; exact h
theorem run_yes {r : FarRes} {vs : List (Int × Int)} {w w' : World} {e : Ending} (hr : r = .yes vs) (h : ∃ g cap B d, e = .returned (.tuple #[.slice (some ⟨g, 0, none⟩) 4 cap, .slice B 0 d, .int .i64 0]) ∧ (Rats w' (some ⟨g, 0, none⟩) 4 vs ∧ Free w' g ∧ w.heap.size ≤ g) ∧ Below w.heap.size w w') : RunBack r w e w' := by subst hr; exact h
theorem run_inv {ls : List LinV} (h : sysOk ls = false) : farRun ls = .form := by
  unfold farRun; rw [if_neg (by rw [h]; simp)]
theorem run_chain {ls : List LinV} (h : sysOk ls = true) (hc : chain ls 4 = none) : farRun ls = .much := by
  unfold farRun; rw [if_pos h, hc]
theorem run_bad {ls : List LinV} {rs : List RowV} {ts : List Int} (h : sysOk ls = true) (hc : chain ls 4 = some rs) (hb : badAt rs = some ts) : farRun ls = if farOk ls ts = true then .no ts else .much := by
  unfold farRun; rw [if_pos h, hc]
  show farEnd ls rs = _
  unfold farEnd; rw [hb]
theorem run_back {ls : List LinV} {rs : List RowV} (h : sysOk ls = true) (hc : chain ls 4 = some rs) (hb : badAt rs = none) (hk : backTo ls 4 = none) : farRun ls = .much := by
  unfold farRun; rw [if_pos h, hc]
  show farEnd ls rs = _
  unfold farEnd; rw [hb, hk]
theorem run_all {ls : List LinV} {rs : List RowV} {vs : List (Int × Int)} (h : sysOk ls = true) (hc : chain ls 4 = some rs) (hb : badAt rs = none) (hk : backTo ls 4 = some vs) : farRun ls = if farAll ls vs = true then .yes vs else .much := by
  unfold farRun; rw [if_pos h, hc]
  show farEnd ls rs = _
  unfold farEnd; rw [hb, hk]
theorem backTo_none {ls : List LinV} {k : Nat} (h : backTo ls k = none) : ∀ {m : Nat}, k ≤ m → backTo ls m = none
  | 0, hm => by obtain rfl : k = 0 := by omega
                exact h
  | m + 1, hm => by
    by_cases e : k = m + 1
    · subst e; exact h
    · simp only [backTo, backTo_none h (show k ≤ m by omega), Option.bind_none]
theorem back_no {ls : List LinV} {k : Nat} {vs : List (Int × Int)} (h : backTo ls k = some vs) (hv : valueR (stage ls k) k vs = none) : backTo ls (k + 1) = none := by
  simp only [backTo, h, Option.bind_some, hv]; rfl
theorem back_yes {ls : List LinV} {k : Nat} {vs : List (Int × Int)} (h : backTo ls k = some vs) {x : Int × Int} (hv : valueR (stage ls k) k vs = some x) : backTo ls (k + 1) = some (vs.set k x) := by
  simp only [backTo, h, Option.bind_some, hv]; rfl
theorem toO_J {t : Int × Int × Bool} (h : ∀ x y, t = (x, y, true) → ratOk x y = true) {p : Int × Int} (e : toO t = some p) : J64 p.1 ∧ J64 p.2 := by
  obtain ⟨x, y, b⟩ := t
  cases b
  · cases e
  · obtain rfl := Option.some.inj e
    exact i64_ok (h x y rfl)
theorem chooseR_ok {e : Ends} {x y : Int} (h : chooseR e = (x, y, true)) : ratOk x y = true := by
  unfold chooseR at h
  split at h
  · exact (midR_spec h).2.2.1
  · split at h
    · exact (addR_spec h).2.2.1
    · split at h
      · exact (addR_spec h).2.2.1
      · simp only [Prod.mk.injEq] at h
        obtain ⟨rfl, rfl, _⟩ := h
        exact ratOk_zero
theorem valueR_J {rs : List RowV} {u : Nat} {vs : List (Int × Int)} {p : Int × Int} (h : valueR rs u vs = some p) : J64 p.1 ∧ J64 p.2 := by
  simp only [valueR, Option.bind_eq_some_iff] at h
  obtain ⟨e, _, h2⟩ := h
  exact toO_J (fun x y hx => chooseR_ok hx) h2
/-- A block that holds slices alone. -/
def Slicy (w : World) (S : Nat) : Prop := ∀ x v, w.cell? ⟨S, x, none⟩ = some v → ∃ A n c, v = .slice A n c
theorem Slicy.later {w w' : World} {S : Nat} (h : Slicy w S) (hl : S < w.heap.size) (hb : Below w.heap.size w w') : Slicy w' S := fun x v e => h x v ((hb.cell (p := ⟨S, x, none⟩) hl).symm.trans e)
theorem Slicy.put {w : World} {S x : Nat} {A : Option Addr} {n c : Nat} (h : Slicy w S) {v0 : Value} (hx : w.cell? ⟨S, x, none⟩ = some v0) : Slicy (w.setCell ⟨S, x, none⟩ (.slice A n c)) S := fun y v e => by
  by_cases exy : x = y
  · subst exy
    rw [World.cell?_setCell_same _ _ _ hx] at e
    exact ⟨A, n, c, (Option.some.inj e).symm⟩
  · rw [World.cell?_setCell_other _ _ _ _ (fun e2 => exy (by injection e2))] at e
    exact h y v e
theorem Ints.slicy {w : World} {A : Option Addr} {n : Nat} {xs : List Int} (h : Ints w A n xs) {S x : Nat} (hs : Slicy w S) (v : Value) : Ints (w.setCell ⟨S, x, none⟩ v) A n xs :=
  h.set (fun hn a e e2 => by
    obtain ⟨b, o, e1, hl, hc⟩ := h.cells hn
    rw [e1] at e
    obtain rfl := Option.some.inj e
    dsimp only at e2
    subst e2
    obtain ⟨_, _, _, e3⟩ := hs _ _ (hc 0 hn)
    cases e3) v
theorem Rws.slicy {w : World} {A : Option Addr} {n : Nat} {rs : List RowV} (h : Rws w A n rs) {S x : Nat} (hs : Slicy w S) (v : Value) : Rws (w.setCell ⟨S, x, none⟩ v) A n rs :=
  ⟨h.len, fun hn => by
    obtain ⟨b, o, e, hl, hc⟩ := h.cells hn
    have hne : b ≠ S := fun e => by
      subst e
      obtain ⟨_, _, _, _, _, _, _, _, h1, _⟩ := (hc 0 hn).ex
      obtain ⟨_, _, _, e3⟩ := hs _ _ h1
      cases e3
    refine ⟨b, o, e, by simpa [World.setCell] using hl, fun j hj => ?_⟩
    obtain ⟨A', m, c, B', p, d, ⟨hI, hJ⟩, h0, h1, h2, h3⟩ := (hc j hj).ex
    have hq : ∀ y, (w.setCell ⟨S, x, none⟩ v).cell? ⟨b, y, none⟩ = w.cell? ⟨b, y, none⟩ := fun y => World.cell?_setCell_other _ _ _ _ (fun e => hne (by injection e with e1; exact e1.symm))
    exact ⟨A', m, c, B', p, d, ⟨hI.slicy hs v, hJ.slicy hs v⟩, (hq _).trans h0, (hq _).trans h1, (hq _).trans h2, (hq _).trans h3⟩, h.few⟩
/-- The rows from which number u was eliminated are kept in cell u of block S. -/
def StageAt (w : World) (S : Nat) (ls : List LinV) (u : Nat) : Prop := ∃ A n c, w.cell? ⟨S, u, none⟩ = some (.slice A n c) ∧ Rws w A n (stage ls u)
/-- Block S of stages: those from u on are there. -/
structure Stages (w : World) (S : Nat) (ls : List LinV) (u : Nat) : Prop where
  cell : ∀ x, x < 4 → ∃ v, w.cell? ⟨S, x, none⟩ = some v
  free : ∀ x, w.frozen? ⟨S, x, none⟩ = false
  only : Slicy w S
  at_ : ∀ x, u ≤ x → x < 4 → StageAt w S ls x
theorem Stages.lt {w : World} {S : Nat} {ls : List LinV} {u : Nat} (h : Stages w S ls u) : S < w.heap.size := by
  obtain ⟨v, hv⟩ := h.cell 0 (by omega)
  exact World.block_lt_of_cell? _ _ hv
theorem Stages.later {w w' : World} {S : Nat} {ls : List LinV} {u : Nat} (h : Stages w S ls u) (hb : Below w.heap.size w w') : Stages w' S ls u :=
  have hl := h.lt
  have hq : ∀ x, w'.cell? ⟨S, x, none⟩ = w.cell? ⟨S, x, none⟩ := fun x => hb.cell (p := ⟨S, x, none⟩) hl
  ⟨fun x hx => by obtain ⟨v, hv⟩ := h.cell x hx; exact ⟨v, (hq x).trans hv⟩, fun x => (hb.frozen (p := ⟨S, x, none⟩) hl).trans (h.free x), h.only.later hl hb, fun x h1 h2 => by
    obtain ⟨A, n, c, h3, h4⟩ := h.at_ x h1 h2
    exact ⟨A, n, c, (hq x).trans h3, h4.later hb⟩⟩
theorem Stages.put {w : World} {S : Nat} {ls : List LinV} {u n c : Nat} {A : Option Addr} (h : Stages w S ls (u + 1)) (hu : u < 4) (hr : Rws w A n (stage ls u)) : Stages (w.setCell ⟨S, u, none⟩ (.slice A n c)) S ls u := by
  obtain ⟨v0, hv0⟩ := h.cell u hu
  refine ⟨fun x hx => ?_, fun x => by rw [World.frozen?_setCell]; exact h.free x, h.only.put hv0, fun x h1 h2 => ?_⟩
  · by_cases e : u = x
    · subst e; exact ⟨_, World.cell?_setCell_same _ _ _ hv0⟩
    · obtain ⟨v, hv⟩ := h.cell x hx
      exact ⟨v, (World.cell?_setCell_other _ _ _ _ (fun e2 => e (by injection e2))).trans hv⟩
  · by_cases e : u = x
    · subst e; exact ⟨A, n, c, World.cell?_setCell_same _ _ _ hv0, hr.slicy h.only _⟩
    · obtain ⟨A', n', c', h3, h4⟩ := h.at_ x (by omega) h2
      exact ⟨A', n', c', (World.cell?_setCell_other _ _ _ _ (fun e2 => e (by injection e2))).trans h3, h4.slicy h.only _⟩
theorem Rats.put {w : World} {g k : Nat} {x y : Int} {vs : List (Int × Int)} (h : Rats w (some ⟨g, 0, none⟩) 4 vs) (hk : k < 4) (hx : J64 x) (hy : J64 y) : Rats ((w.setCell ⟨g, k * 2, none⟩ (.int .i64 x)).setCell ⟨g, k * 2 + 1, none⟩ (.int .i64 y)) (some ⟨g, 0, none⟩) 4 (vs.set k (x, y)) := by
  have hlen := h.len
  obtain ⟨b, o, e, hl, hc⟩ := h.cells (by omega)
  obtain ⟨rfl, rfl⟩ : g = b ∧ 0 = o := by
    have := Option.some.inj e
    simp only [Addr.mk.injEq] at this
    exact ⟨this.1, this.2.1⟩
  have hget : ∀ j, (vs.set k (x, y)).getD j (0, 0) = if j = k then (x, y) else vs.getD j (0, 0) := fun j => by
    rw [List.getD_eq_getElem?_getD, List.getElem?_set]
    by_cases ej : k = j
    · subst ej; rw [if_pos rfl, if_pos (by omega), if_pos rfl]; rfl
    · rw [if_neg ej, if_neg (fun e => ej e.symm), List.getD_eq_getElem?_getD]
  refine ⟨by simpa using hlen, fun _ => ⟨g, 0, rfl, by simpa [World.setCell] using hl, fun j hj => ?_⟩, fun j => ?_, h.few⟩
  · have h0 := (hc j hj).1
    have h1 := (hc j hj).2
    rw [Nat.zero_add] at h0 h1 ⊢
    rw [hget j]
    by_cases ej : j = k
    · subst ej
      rw [if_pos rfl]
      refine ⟨?_, ?_⟩
      · rw [World.cell?_setCell_other _ _ _ _ (fun e2 => by have := congrArg Addr.off e2; dsimp only at this; omega)]
        exact World.cell?_setCell_same _ _ _ h0
      · have h2 := (World.cell?_setCell_other w ⟨g, j * 2, none⟩ ⟨g, j * 2 + 1, none⟩ (.int .i64 x) (fun e2 => by have := congrArg Addr.off e2; dsimp only at this; omega)).trans h1
        exact World.cell?_setCell_same _ _ _ h2
    · rw [if_neg ej]
      refine ⟨?_, ?_⟩ <;> rw [World.cell?_setCell_other _ _ _ _ (fun e2 => by have := congrArg Addr.off e2; dsimp only at this; omega), World.cell?_setCell_other _ _ _ _ (fun e2 => by have := congrArg Addr.off e2; dsimp only at this; omega)]
      · exact h0
      · exact h1
  · rw [hget j]
    split
    · exact ⟨hx, hy⟩
    · exact h.rng j
theorem Stages.start (W : World) (ls : List LinV) (t : TypeId) : Stages (W.alloc (.cells #[.slice none 0 0, .slice none 0 0, .slice none 0 0, .slice none 0 0] t)) W.heap.size ls 4 := by
  have h0 : ∀ x, (W.alloc (.cells #[.slice none 0 0, .slice none 0 0, .slice none 0 0, .slice none 0 0] t)).cell? ⟨W.heap.size, x, none⟩ = (#[Value.slice none 0 0, .slice none 0 0, .slice none 0 0, .slice none 0 0] : Array Value)[x]? := fun x => by simp [go_sem]
  refine ⟨fun x hx => ?_, fun x => by simp [go_sem], fun x v e => ?_, fun x h1 h2 => by omega⟩
  · rw [h0]
    match x, hx with
    | 0, _ => exact ⟨_, rfl⟩
    | 1, _ => exact ⟨_, rfl⟩
    | 2, _ => exact ⟨_, rfl⟩
    | 3, _ => exact ⟨_, rfl⟩
  · rw [h0] at e
    match x, e with
    | 0, e => exact ⟨_, _, _, (Option.some.inj e).symm⟩
    | 1, e => exact ⟨_, _, _, (Option.some.inj e).symm⟩
    | 2, e => exact ⟨_, _, _, (Option.some.inj e).symm⟩
    | 3, e => exact ⟨_, _, _, (Option.some.inj e).symm⟩
    | x + 4, e => rw [Array.getElem?_eq_none (by simp)] at e; cases e
theorem chain_next {ls : List LinV} {v : Nat} {rs : List RowV} (hv : v < 4) (h : chain ls (4 - (v + 1)) = some rs) : chain ls (4 - v) = lessRows rs v := by
  have e : 4 - v = (4 - (v + 1)) + 1 := by omega
  rw [e]
  simp only [chain, h, Option.bind_some]
  rw [show 3 - (4 - (v + 1)) = v by omega]
theorem stage_eq {ls : List LinV} {v : Nat} {rs : List RowV} (hv : v < 4) (h : chain ls (4 - (v + 1)) = some rs) : stage ls v = rs := by
  unfold stage
  rw [show 3 - v = 4 - (v + 1) by omega, h]; rfl
theorem stage_ok {ls : List LinV} {rs : List RowV} (hs : sysOk ls = true) (h : chain ls 4 = some rs) {v : Nat} (hv : v < 4) : RowsOk ls.length (stage ls v) := by
  obtain ⟨r, hr⟩ := chain_some h (show 4 - (v + 1) ≤ 4 by omega)
  rw [stage_eq hv hr]
  exact chain_ok hs hr
theorem farOk_pos {ls : List LinV} {ts : List Int} (h : farOk ls ts = true) : 0 < ls.length := by
  cases ls with
  | cons a l => simp
  | nil =>
    exfalso
    have e : ∀ o, farSum [] ts = o → o = none ∨ o = some ([0, 0, 0, 0], 0, false) := fun o ho => by
      subst ho
      unfold farSum
      split
      · exact .inr rfl
      · exact .inl rfl
    unfold farOk at h
    rcases e _ rfl with e1 | e1 <;> rw [e1] at h
    · cases h
    · revert h; decide
theorem sysOk_few {ls : List LinV} (h : sysOk ls = true) : ls.length ≤ 20 := by
  unfold sysOk at h
  rw [Bool.and_eq_true] at h
  simpa using h.2
end Go.Proofs.Ytccjbipmlpnhkaa

/- Terms whose blocks are apart: what they are in memory; terms that are being appended. -/
import Derived.Test.YtgmeoblapnmpiaaDe
namespace Go.Proofs.Ytgmeoblapnmpiaa
set_option maxRecDepth 100000
open Go.RowKit Go.ChangeShapes Go.WideShapes Go.ChangeAt
set_option linter.unusedSimpArgs false
set_option linter.unusedVariables false

/-- The slice reads as the terms ks; every list has a block of its own, and all of them are in S. -/
def KidS (w : World) : Nat → (Nat → Prop) → Option Addr → Nat → List TermV → Prop
  | 0, _, _, n, ks => n = 0 ∧ ks = []
  | d + 1, S, A, n, ks => ks.length = n ∧ n ≤ 1000 ∧ (0 < n → ∃ b, A = some ⟨b, 0, none⟩ ∧ S b ∧ b < w.heap.size ∧ (∀ j, w.frozen? ⟨b, j, none⟩ = false) ∧
      ∃ T : Nat → Nat → Prop, (∀ j, j < n → ∀ x, T j x → S x ∧ x ≠ b) ∧ (∀ i j, i < n → j < n → i ≠ j → ∀ x, T i x → ¬ T j x) ∧ ∀ j, j < n →
        ∃ A' m' c', w.cell? ⟨b, j * 2, none⟩ = some (.string (ks.getD j tm0).name) ∧ w.cell? ⟨b, j * 2 + 1, none⟩ = some (.slice A' m' c') ∧ KidS w d (T j) A' m' (ks.getD j tm0).kids ∧ (ks.getD j tm0).name.size ≤ 9223372036854775807)
theorem KidS.len {w : World} {d : Nat} {S : Nat → Prop} {A : Option Addr} {n : Nat} {ks : List TermV} (h : KidS w d S A n ks) : ks.length = n := by
  cases d with
  | zero => obtain ⟨rfl, rfl⟩ := h; rfl
  | succ d => exact h.1
theorem KidS.few {w : World} {d : Nat} {S : Nat → Prop} {A : Option Addr} {n : Nat} {ks : List TermV} (h : KidS w d S A n ks) : n ≤ 1000 := by
  cases d with
  | zero => obtain ⟨rfl, rfl⟩ := h; omega
  | succ d => exact h.2.1
/-- It stays where its blocks stay. -/
theorem KidS.step : ∀ {d : Nat} {w w' : World} {S : Nat → Prop} {A : Option Addr} {n : Nat} {ks : List TermV}, KidS w d S A n ks → (∀ i, S i → i < w.heap.size → w'.heap[i]? = w.heap[i]?) → w.heap.size ≤ w'.heap.size → KidS w' d S A n ks
  | 0, _, _, _, _, _, _, h, _, _ => h
  | d + 1, w, w', S, A, n, ks, h, hk, hz => ⟨h.1, h.2.1, fun hn => by
    obtain ⟨b, e, hS, hl, hf, T, h1, h2, hc⟩ := h.2.2 hn
    have hb := hk b hS hl
    refine ⟨b, e, hS, Nat.lt_of_lt_of_le hl hz, fun j => (World.frozen?_of_block (w := w) (a := ⟨b, j, none⟩) hb).trans (hf j), T, h1, h2, fun j hj => ?_⟩
    obtain ⟨A', m', c', h3, h4, h5, h6⟩ := hc j hj
    exact ⟨A', m', c', (World.cell?_of_block (w := w) (a := ⟨b, j * 2, none⟩) hb).trans h3, (World.cell?_of_block (w := w) (a := ⟨b, j * 2 + 1, none⟩) hb).trans h4, h5.step (fun i hi hil => hk i (h1 j hj i hi).1 hil) hz, h6⟩⟩
theorem KidS.later {w w' : World} {d : Nat} {S : Nat → Prop} {A : Option Addr} {n : Nat} {ks : List TermV} (h : KidS w d S A n ks) (hb : Below w.heap.size w w') : KidS w' d S A n ks := h.step (fun i _ hl => hb.block i hl) hb.size
theorem KidS.wide {d : Nat} {w : World} {S S' : Nat → Prop} {A : Option Addr} {n : Nat} {ks : List TermV} (h : KidS w d S A n ks) (hs : ∀ x, S x → S' x) : KidS w d S' A n ks := by
  cases d with
  | zero => exact h
  | succ d =>
    refine ⟨h.1, h.2.1, fun hn => ?_⟩
    obtain ⟨b, e, hS, hl, hf, T, h1, h2, hc⟩ := h.2.2 hn
    exact ⟨b, e, hs b hS, hl, hf, T, fun j hj x hx => ⟨hs x (h1 j hj x hx).1, (h1 j hj x hx).2⟩, h2, hc⟩
theorem KidS.kids : ∀ {d : Nat} {w : World} {S : Nat → Prop} {A : Option Addr} {n : Nat} {ks : List TermV}, KidS w d S A n ks → Kids w 0 d A n ks
  | 0, _, _, _, _, _, h => h
  | d + 1, w, S, A, n, ks, h => ⟨h.1, by have := h.2.1; omega, fun hn => by
    obtain ⟨b, e, hS, hl, hf, T, h1, h2, hc⟩ := h.2.2 hn
    refine ⟨b, 0, e, Nat.zero_le _, hl, fun j hj => ?_⟩
    obtain ⟨A', m', c', h3, h4, h5, h6⟩ := hc j hj
    rw [Nat.zero_add]
    exact ⟨A', m', c', h3, h4, h5.kids, h6⟩⟩
theorem KidS.nil (w : World) (d : Nat) (S : Nat → Prop) (A : Option Addr) : KidS w d S A 0 [] := by
  cases d with
  | zero => exact ⟨rfl, rfl⟩
  | succ d => exact ⟨rfl, by omega, fun h => absurd h (by omega)⟩
/-- Terms that are being appended, all blocks apart and below N. -/
structure TermR (w : World) (B N : Nat) (v : Value) (k : Nat) (ts : List TermV) (zs : List Value) (d : Nat) : Prop where
  own : w.ownsRow B 30 2 v k zs
  len : ts.length = k
  top : N ≤ w.heap.size
  each : ∃ T : Nat → Nat → Prop, (∀ j, j < k → ∀ x, T j x → B ≤ x ∧ x < N ∧ v.ownBlock ≠ some x) ∧ (∀ i j, i < k → j < k → i ≠ j → ∀ x, T i x → ¬ T j x) ∧ ∀ j, j < k →
    ∃ A m c, KidS w d (T j) A m (ts.getD j tm0).kids ∧ (ts.getD j tm0).name.size ≤ 9223372036854775807 ∧ zs[j * 2]? = some (.string (ts.getD j tm0).name) ∧ zs[j * 2 + 1]? = some (.slice A m c)
theorem TermR.nil (w : World) (B d : Nat) {N : Nat} (hN : N ≤ w.heap.size) : TermR w B N (.slice none 0 0) 0 [] [] d := ⟨⟨rfl, .inl ⟨rfl, rfl⟩⟩, rfl, hN, fun _ _ => False, fun _ _ _ h => h.elim, fun _ _ _ _ _ _ h => h.elim, fun _ h => absurd h (by omega)⟩
theorem TermR.up {w : World} {B N N' : Nat} {v : Value} {k d : Nat} {ts : List TermV} {zs : List Value} (h : TermR w B N v k ts zs d) (h1 : N ≤ N') (h2 : N' ≤ w.heap.size) : TermR w B N' v k ts zs d := by
  obtain ⟨T, hT, hd, hc⟩ := h.each
  exact ⟨h.own, h.len, h2, T, fun j hj x hx => ⟨(hT j hj x hx).1, Nat.lt_of_lt_of_le (hT j hj x hx).2.1 h1, (hT j hj x hx).2.2⟩, hd, hc⟩
/-- it stays where blocks from B on stay -/
theorem TermR.step {w w' : World} {B N : Nat} {v : Value} {k d : Nat} {ts : List TermV} {zs : List Value} (h : TermR w B N v k ts zs d) (hown : w'.ownsRow B 30 2 v k zs) (hk : ∀ i, B ≤ i → i < w.heap.size → w'.heap[i]? = w.heap[i]?) (hz : w.heap.size ≤ w'.heap.size) : TermR w' B N v k ts zs d := by
  obtain ⟨T, hT, hd, hc⟩ := h.each
  refine ⟨hown, h.len, Nat.le_trans h.top hz, T, hT, hd, fun j hj => ?_⟩
  obtain ⟨A, m, c, hI, h1⟩ := hc j hj
  exact ⟨A, m, c, hI.step (fun i hi hl => hk i (hT j hj i hi).1 hl) hz, h1⟩
theorem TermR.later {w w' : World} {B N : Nat} {v : Value} {k d : Nat} {ts : List TermV} {zs : List Value} (h : TermR w B N v k ts zs d) (hb : Below w.heap.size w w') : TermR w' B N v k ts zs d :=
  h.step (h.own.kept (row := none) ⟨hb.os, hb.tape, hb.output, hb.size, fun i hi _ => hb.block i hi⟩ (by cases hv : v.ownBlock <;> simp)) (fun i _ hl => hb.block i hl) hb.size
theorem TermR.set {w : World} {B N : Nat} {v : Value} {k d : Nat} {ts : List TermV} {zs : List Value} (h : TermR w B N v k ts zs d) {p : Addr} (hp : p.block < B) (u : Value) : TermR (w.setCell p u) B N v k ts zs d :=
  h.step (h.own.kept (row := some p.block) ⟨rfl, rfl, rfl, by simp [World.setCell], fun i hi hn => Below.heap_setCell w p u i (fun e => hn (by rw [e]))⟩ (.inr (fun e => by have := (h.own.lt _ e).1; omega))) (fun i h1 _ => Below.heap_setCell w p u i (by omega)) (by simp [World.setCell])
theorem TermR.drew {w : World} {B N : Nat} {v : Value} {k d : Nat} {ts : List TermV} {zs : List Value} (h : TermR w B N v k ts zs d) : TermR w.drew B N v k ts zs d := h.later (Below.drew (Below.refl _ _))
theorem TermR.alloc {w : World} {B N : Nat} {v : Value} {k d : Nat} {ts : List TermV} {zs : List Value} (h : TermR w B N v k ts zs d) (o : Obj) : TermR (w.alloc o) B N v k ts zs d := h.later ((Below.refl _ _).alloc (Nat.le_refl _) o)
theorem TermR.form {w : World} {B N : Nat} {v : Value} {k d : Nat} {ts : List TermV} {zs : List Value} (h : TermR w B N v k ts zs d) : ∃ A c, v = .slice A k c := by
  rcases h.own.2 with ⟨rfl, rfl⟩ | ⟨g, cap, _, rfl, _⟩
  · exact ⟨none, 0, rfl⟩
  · exact ⟨some ⟨g, 0, none⟩, cap, rfl⟩
theorem TermR.g {w : World} {B N : Nat} {v : Value} {k d : Nat} {ts : List TermV} {zs : List Value} (h : TermR w B N v k ts zs d) : TermG w B v k ts zs d := by
  obtain ⟨T, hT, hd, hc⟩ := h.each
  refine ⟨h.own, h.len, fun j hj => ?_⟩
  obtain ⟨A, m, c, hI, h1⟩ := hc j hj
  exact ⟨A, m, c, fun w' hs => (hI.step (fun i hi hl => hs.block i (hT j hj i hi).1 hl (fun e => (hT j hj i hi).2.2 e.symm)) hs.size).kids, h1⟩
/-- What is built is terms, all blocks apart. -/
theorem TermR.tree {w : World} {B N : Nat} {A : Option Addr} {k n c d : Nat} {ts : List TermV} {zs : List Value} (h : TermR w B N (.slice A n c) k ts zs d) (hk : k ≤ 1000) : KidS w (d + 1) (fun x => B ≤ x ∧ x < w.heap.size) A k ts := by
  refine ⟨h.len, hk, fun hn => ?_⟩
  obtain ⟨g, cap, e, _⟩ := h.own.form hn
  simp only [Value.slice.injEq] at e
  obtain ⟨rfl, rfl, rfl⟩ := e
  have hgl := h.own.lt g rfl
  have htop := h.top
  obtain ⟨T, hT, hd, hc⟩ := h.each
  refine ⟨g, rfl, hgl, hgl.2, h.own.frozenAt, T, fun j hj x hx => ?_, hd, fun j hj => ?_⟩
  · obtain ⟨h1, h2, h3⟩ := hT j hj x hx
    exact ⟨⟨h1, by omega⟩, fun e => h3 (by rw [e]; rfl)⟩
  · obtain ⟨A', m', c', hI', hn', h0, h1⟩ := hc j hj
    have hl := h.own.1
    exact ⟨A', m', c', by rw [h.own.cellAt _ (by omega)]; exact h0, by rw [h.own.cellAt _ (by omega)]; exact h1, hI', hn'⟩
/-- the sets of k, and one more -/
def moreT (T : Nat → Nat → Prop) (k lo hi : Nat) (j x : Nat) : Prop := (j < k ∧ T j x) ∨ (¬ j < k ∧ lo ≤ x ∧ x < hi)
theorem moreT_lt {T : Nat → Nat → Prop} {k lo hi j : Nat} (h : j < k) : moreT T k lo hi j = T j := by
  funext x
  exact propext ⟨fun e => e.elim (fun e => e.2) (fun e => absurd h e.1), fun e => .inl ⟨h, e⟩⟩
theorem moreT_ge {T : Nat → Nat → Prop} {k lo hi j : Nat} (h : ¬ j < k) : moreT T k lo hi j = fun x => lo ≤ x ∧ x < hi := by
  funext x
  exact propext ⟨fun e => e.elim (fun e => absurd e.1 h) (fun e => e.2), fun e => .inr ⟨h, e⟩⟩
/-- one more of them -/
theorem TermR.app {w w' : World} {B N : Nat} {v : Value} {k d : Nat} {ts : List TermV} {zs : List Value} (h : TermR w B N v k ts zs d) {g cap : Nat} {u : TermV} {ys : List Value}
    (ho : w'.ownsRow B 30 2 (.slice (some ⟨g, 0, none⟩) (k + 1) cap) (k + 1) (zs ++ ys)) (hg : w.grownBy w' v.ownBlock) {H : Nat} (hat : v.ownBlock = some g ∨ g = H) (hH : H = w.heap.size)
    {lo hi : Nat} {A : Option Addr} {m c : Nat} (hI : KidS w d (fun x => lo ≤ x ∧ x < hi) A m u.kids) (hlo : N ≤ lo) (hB : B ≤ lo) (hlh : lo ≤ hi) (hhi : hi ≤ w.heap.size) (how : ∀ b, v.ownBlock = some b → b < lo)
    (hs : u.name.size ≤ 9223372036854775807) (h0 : ys[0]? = some (.string u.name)) (h1 : ys[1]? = some (.slice A m c)) :
    TermR w' B hi (.slice (some ⟨g, 0, none⟩) (k + 1) cap) (k + 1) (ts ++ [u]) (zs ++ ys) d := by
  have hl := h.own.1
  have hk := h.len
  have htop := h.top
  have hgz := hg.size
  have hfar : ∀ x, (B ≤ x ∧ x < N ∧ v.ownBlock ≠ some x) ∨ (lo ≤ x ∧ x < hi) → v.ownBlock ≠ some x ∧ x < w.heap.size := fun x hx => by
    rcases hx with hx | hx
    · exact ⟨hx.2.2, by omega⟩
    · exact ⟨fun e => by have := how x e; omega, by omega⟩
  have hne : ∀ x, v.ownBlock ≠ some x ∧ x < w.heap.size → some g ≠ some x := fun x hx e => by
    injection e with e
    rcases hat with e2 | e2
    · exact hx.1 (by rw [e2, e])
    · omega
  obtain ⟨T, hT, hd, hc⟩ := h.each
  have hNh : N ≤ hi := by omega
  · refine ⟨ho, by simp [hk], by omega, moreT T k lo hi, fun j hj x hx => ?_, fun i j hi' hj' hij x hx => ?_, fun j hj => ?_⟩
    · show B ≤ x ∧ x < hi ∧ some g ≠ some x
      by_cases e : j < k
      · rw [moreT_lt e] at hx
        have h2 := hT j e x hx
        exact ⟨h2.1, by omega, hne x (hfar x (.inl h2))⟩
      · rw [moreT_ge e] at hx
        exact ⟨by omega, hx.2, hne x (hfar x (.inr hx))⟩
    · by_cases e : i < k
      · rw [moreT_lt e] at hx
        by_cases e2 : j < k
        · rw [moreT_lt e2]; exact hd i j e e2 hij x hx
        · rw [moreT_ge e2]
          have := (hT i e x hx).2.1
          omega
      · rw [moreT_ge e] at hx
        by_cases e2 : j < k
        · rw [moreT_lt e2]
          intro h2
          have := (hT j e2 x h2).2.1
          omega
        · omega
    · by_cases e : j < k
      · obtain ⟨A', m', c', hI', hn', h2, h3⟩ := hc j e
        have hx : (ts ++ [u]).getD j tm0 = ts.getD j tm0 := by rw [List.getD_eq_getElem?_getD, List.getElem?_append_left (by omega), ← List.getD_eq_getElem?_getD]
        rw [hx, moreT_lt e]
        refine ⟨A', m', c', hI'.step (fun i hi' hl' => hg.block i hl' (fun e2 => (hT j e i hi').2.2 e2.symm)) hgz, hn', ?_, ?_⟩
        · rw [List.getElem?_append_left (by omega)]; exact h2
        · rw [List.getElem?_append_left (by omega)]; exact h3
      · obtain rfl : j = k := by omega
        have hx : (ts ++ [u]).getD j tm0 = u := by rw [List.getD_eq_getElem?_getD, List.getElem?_append_right (by omega), hk, Nat.sub_self]; rfl
        rw [hx, moreT_ge e]
        refine ⟨A, m, c, hI.step (fun i hi' hl' => hg.block i hl' (fun e2 => (hfar i (.inr hi')).1 e2.symm)) hgz, hs, ?_, ?_⟩
        · rw [List.getElem?_append_right (by omega), hl, Nat.sub_self]; exact h0
        · rw [List.getElem?_append_right (by omega), hl, show j * 2 + 1 - j * 2 = 1 by omega]; exact h1
end Go.Proofs.Ytgmeoblapnmpiaa

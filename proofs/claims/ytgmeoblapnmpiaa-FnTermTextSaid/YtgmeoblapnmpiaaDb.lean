/- Vocabularies that are being built by draws: what they are in memory. -/
import Derived.Test.YtgmeoblapnmpiaaDg
import Derived.Laws.AppendOwnNone
namespace Go.Proofs.Ytgmeoblapnmpiaa
set_option maxRecDepth 100000
open Go.RowKit Go.ChangeShapes Go.WideShapes Go.ChangeAt
set_option linter.unusedSimpArgs false
set_option linter.unusedVariables false

theorem own_step {w w' : World} {base : Nat} {e : TypeId} {size : Nat} {v : Value} {n : Nat} {xs : List Value} (h : w.ownsRow base e size v n xs) (hb : ∀ b, v.ownBlock = some b → w'.heap[b]? = w.heap[b]?) : w'.ownsRow base e size v n xs := by
  refine ⟨h.1, ?_⟩
  rcases h.2 with hn | ⟨g, cap, cur, rfl, hb0, hg, rest⟩
  · exact .inl hn
  · exact .inr ⟨g, cap, cur, rfl, hb0, (hb g rfl).trans hg, rest⟩
theorem own_low {w : World} {base B : Nat} {e : TypeId} {size n : Nat} {v : Value} {xs : List Value} (h : w.ownsRow base e size v n xs) (hB : B ≤ base) : w.ownsRow B e size v n xs := by
  refine ⟨h.1, ?_⟩
  rcases h.2 with h0 | ⟨g, cap, cur, h1, h2, h3⟩
  · exact .inl h0
  · exact .inr ⟨g, cap, cur, h1, by omega, h3⟩
theorem ints_own {w : World} {B : Nat} {q m c : Nat} {xs : List Int} (h : w.ownsRow B 3 1 (.slice (some ⟨q, 0, none⟩) m c) m (xs.map (Value.int .i64))) (hJ : ∀ i, J64 (xs.getD i 0)) (hm : m ≤ 1000) : Ints w (some ⟨q, 0, none⟩) m xs := by
  have hl : xs.length = m := by have := h.1; simpa using this
  refine ⟨hl, fun _ => ⟨q, 0, rfl, (h.lt q rfl).2, fun j hj => ?_⟩, hJ, by omega⟩
  rw [Nat.zero_add, h.cellAt j (by omega), List.getElem?_map, List.getD_eq_getElem?_getD, List.getElem?_eq_getElem (by omega)]
  rfl
/-- w' is w from B on, but for block x. -/
structure StayX (B x : Nat) (w w' : World) : Prop where
  size : w.heap.size ≤ w'.heap.size
  block : ∀ i, B ≤ i → i ≠ x → i < w.heap.size → w'.heap[i]? = w.heap[i]?
theorem StayX.refl (B x : Nat) (w : World) : StayX B x w w := ⟨Nat.le_refl _, fun _ _ _ _ => rfl⟩
theorem StayX.trans {B x : Nat} {a b c : World} (h : StayX B x a b) (k : StayX B x b c) : StayX B x a c := ⟨Nat.le_trans h.size k.size, fun i h0 h1 h2 => (k.block i h0 h1 (Nat.lt_of_lt_of_le h2 h.size)).trans (h.block i h0 h1 h2)⟩
theorem StayX.below {B x : Nat} {w w' : World} (h : Below w.heap.size w w') : StayX B x w w' := ⟨h.size, fun i _ _ h2 => h.block i h2⟩
theorem StayX.only {B x g : Nat} {w w' : World} (h : Only g w w') (hg : g < B) : StayX B x w w' := ⟨h.size, fun i h0 _ h2 => h.block i h2 (fun e => by injection e with e; omega)⟩
theorem StayX.set {B x : Nat} (w : World) {p : Addr} (hp : p.block < B ∨ p.block = x) (v : Value) : StayX B x w (w.setCell p v) := ⟨by simp [World.setCell], fun i h0 h1 _ => Below.heap_setCell w p v i (by rcases hp with h | h <;> omega)⟩
/-- Word j of what is being appended; its arguments lie in a row of their own, block q. -/
def SymZ (w : World) (B x N M : Nat) (r : Option Nat) (zs : List Value) (j q : Nat) (y : SymV) : Prop :=
  (q ≠ x ∧ q < N ∧ some q ≠ r) ∧ (y.2.1.length ≤ M ∧ y.1.size ≤ 9 ∧ ∀ i, J64 (y.2.1.getD i 0)) ∧ ∃ c, w.ownsRow B 3 1 (.slice (some ⟨q, 0, none⟩) y.2.1.length c) y.2.1.length (y.2.1.map (Value.int .i64)) ∧
    zs[j * 3]? = some (.string y.1) ∧ zs[j * 3 + 1]? = some (.slice (some ⟨q, 0, none⟩) y.2.1.length c) ∧ zs[j * 3 + 2]? = some (.int .i64 y.2.2)
/-- Words that are being appended, k so far; no row is block x, or lies from N on. -/
structure SymG (w : World) (B x N M : Nat) (v : Value) (k : Nat) (ls : List SymV) (zs : List Value) : Prop where
  own : w.ownsRow B 43 3 v k zs
  len : ls.length = k
  top : x < N ∧ N ≤ w.heap.size
  off : ∀ b, v.ownBlock = some b → b ≠ x ∧ b < N
  each : ∃ Q : Nat → Nat, (∀ i j, i < k → j < k → Q i = Q j → i = j) ∧ ∀ j, j < k → SymZ w B x N M v.ownBlock zs j (Q j) (ls.getD j sym0)
theorem SymG.step {w w' : World} {B x N M : Nat} {v : Value} {k : Nat} {ls : List SymV} {zs : List Value} (h : SymG w B x N M v k ls zs) (hs : StayX B x w w') : SymG w' B x N M v k ls zs := by
  obtain ⟨Q, hi, hc⟩ := h.each
  refine ⟨own_step h.own (fun b hb => hs.block b (h.own.lt b hb).1 (h.off b hb).1 (h.own.lt b hb).2), h.len, ⟨h.top.1, Nat.le_trans h.top.2 hs.size⟩, h.off, Q, hi, fun j hj => ?_⟩
  obtain ⟨h0, h1, c, h2, h3⟩ := hc j hj
  refine ⟨h0, h1, c, own_step h2 (fun b hb => ?_), h3⟩
  have hl := h2.lt b hb
  injection hb with hb
  subst hb
  exact hs.block _ hl.1 h0.1 hl.2
theorem SymG.up {w : World} {B x N N' M : Nat} {v : Value} {k : Nat} {ls : List SymV} {zs : List Value} (h : SymG w B x N M v k ls zs) (h1 : N ≤ N') (h2 : N' ≤ w.heap.size) : SymG w B x N' M v k ls zs := by
  obtain ⟨Q, hi, hc⟩ := h.each
  refine ⟨h.own, h.len, ⟨Nat.lt_of_lt_of_le h.top.1 h1, h2⟩, fun b hb => ⟨(h.off b hb).1, Nat.lt_of_lt_of_le (h.off b hb).2 h1⟩, Q, hi, fun j hj => ?_⟩
  obtain ⟨h0, h3⟩ := hc j hj
  exact ⟨⟨h0.1, Nat.lt_of_lt_of_le h0.2.1 h1, h0.2.2⟩, h3⟩
theorem SymG.empty {W W' : World} {E B x N M : Nat} (hE : W.heap.size = E) (hb : B ≤ E) (hs : StayX B x (W.alloc (.cells #[] 43)) W') (hx : E < x) (hN : x < N) (hN' : N ≤ W'.heap.size) : SymG W' B x N M (.slice (some ⟨E, 0, none⟩) 0 0) 0 [] [] := by
  subst hE
  have h0 : (W.alloc (.cells #[] 43)).ownsRow B 43 3 (.slice (some ⟨W.heap.size, 0, none⟩) 0 0) 0 [] := World.ownsRow_lit W #[] 0 hb (by simp) rfl
  refine ⟨own_step h0 (fun b hb => ?_), rfl, ⟨hN, hN'⟩, fun b hb => ?_, fun _ => 0, fun _ _ h => absurd h (by omega), fun _ h => absurd h (by omega)⟩
  · have hl := h0.lt b hb
    have e : W.heap.size = b := Option.some.inj hb
    exact hs.block _ hl.1 (by omega) hl.2
  · have e : W.heap.size = b := Option.some.inj hb
    omega
theorem SymG.form {w : World} {B x N M : Nat} {v : Value} {k : Nat} {ls : List SymV} {zs : List Value} (h : SymG w B x N M v k ls zs) : ∃ A c, v = .slice A k c := by
  rcases h.own.2 with ⟨rfl, rfl⟩ | ⟨g, cap, _, rfl, _⟩
  · exact ⟨none, 0, rfl⟩
  · exact ⟨some ⟨g, 0, none⟩, cap, rfl⟩
/-- the three cells of a word -/
theorem word_snoc {zs : List Value} {k : Nat} (hl : zs.length = k * 3) (a b c : Value) : (zs ++ [a, b, c])[k * 3]? = some a ∧ (zs ++ [a, b, c])[k * 3 + 1]? = some b ∧ (zs ++ [a, b, c])[k * 3 + 2]? = some c := by
  refine ⟨?_, ?_, ?_⟩
  · rw [List.getElem?_append_right (by omega), hl, Nat.sub_self]; rfl
  · rw [List.getElem?_append_right (by omega), hl, Nat.add_sub_cancel_left]; rfl
  · rw [List.getElem?_append_right (by omega), hl, Nat.add_sub_cancel_left]; rfl
theorem word_old {zs : List Value} {k j o : Nat} (hl : zs.length = k * 3) (hj : j < k) (ho : o < 3) (ys : List Value) : (zs ++ ys)[j * 3 + o]? = zs[j * 3 + o]? := List.getElem?_append_left (by omega)
theorem getD_snoc {α : Type} {ls : List α} {k j : Nat} {x d : α} (hl : ls.length = k) (hj : j < k) : (ls ++ [x]).getD j d = ls.getD j d := by
  rw [List.getD_eq_getElem?_getD, List.getElem?_append_left (by omega), ← List.getD_eq_getElem?_getD]
theorem getD_last {α : Type} {ls : List α} {k : Nat} {x d : α} (hl : ls.length = k) : (ls ++ [x]).getD k d = x := by
  rw [List.getD_eq_getElem?_getD, List.getElem?_append_right (by omega), hl, Nat.sub_self]; rfl
/-- one more word -/
theorem SymG.snoc {w w' : World} {B x N M : Nat} {v : Value} {k : Nat} {ls : List SymV} {zs : List Value} (h : SymG w B x N M v k ls zs) {g cap q c m : Nat} {y : SymV} (hm : y.2.1.length = m)
    (ho : w'.ownsRow B 43 3 (.slice (some ⟨g, 0, none⟩) (k + 1) cap) (k + 1) (zs ++ [.string y.1, .slice (some ⟨q, 0, none⟩) m c, .int .i64 y.2.2])) (hg : w.grownBy w' v.ownBlock) {H : Nat} (hat : v.ownBlock = some g ∨ g = H) (hH : H = w.heap.size)
    (hq : w.ownsRow B 3 1 (.slice (some ⟨q, 0, none⟩) m c) m (y.2.1.map (Value.int .i64))) (hqN : N ≤ q) (hy : y.2.1.length ≤ M ∧ y.1.size ≤ 9 ∧ ∀ i, J64 (y.2.1.getD i 0)) :
    SymG w' B x w'.heap.size M (.slice (some ⟨g, 0, none⟩) (k + 1) cap) (k + 1) (ls ++ [y]) (zs ++ [.string y.1, .slice (some ⟨q, 0, none⟩) m c, .int .i64 y.2.2]) := by
  subst hm
  have hl := h.own.1
  have hk := h.len
  have htop := h.top
  have hgz := hg.size
  have hgl := (ho.lt g rfl).2
  have hql := (hq.lt q rfl).2
  obtain ⟨Q, hi, hc⟩ := h.each
  have hge : ∀ b, some b ≠ v.ownBlock → b < w.heap.size → some b ≠ some g := fun b h1 h2 e => by
    injection e with e
    rcases hat with e2 | e2
    · exact h1 (by rw [e2, e])
    · omega
  have hqv : some q ≠ v.ownBlock := fun e => by have := (h.off q e.symm).2; omega
  have hstay : ∀ b, some b ≠ v.ownBlock → b < w.heap.size → w'.heap[b]? = w.heap[b]? := fun b h1 h2 => hg.block b h2 h1
  refine ⟨ho, by simp [hk], ⟨by omega, Nat.le_refl _⟩, fun b hb => ?_, fun j => if j < k then Q j else q, fun i j hi' hj' e => ?_, fun j hj => ?_⟩
  · injection hb with hb
    subst hb
    refine ⟨?_, hgl⟩
    rcases hat with e | e
    · exact (h.off g e).1
    · show g ≠ x; omega
  · dsimp only at e
    by_cases h1 : i < k <;> by_cases h2 : j < k
    · rw [if_pos h1, if_pos h2] at e; exact hi i j h1 h2 e
    · rw [if_pos h1, if_neg h2] at e
      have := (hc i h1).1.2.1
      omega
    · rw [if_neg h1, if_pos h2] at e
      have := (hc j h2).1.2.1
      omega
    · omega
  · dsimp only
    by_cases e : j < k
    · rw [if_pos e, getD_snoc hk e]
      obtain ⟨⟨h0, h1, h2⟩, h3, c', h4, h5, h6, h7⟩ := hc j e
      refine ⟨⟨h0, by omega, hge _ h2 (by omega)⟩, h3, c', own_step h4 (fun b hb => ?_), ?_, ?_, ?_⟩
      · injection hb with hb
        subst hb
        exact hstay _ h2 (by show Q j < _; omega)
      · exact (word_old (o := 0) hl e (by omega) _).trans h5
      · exact (word_old (o := 1) hl e (by omega) _).trans h6
      · exact (word_old (o := 2) hl e (by omega) _).trans h7
    · obtain rfl : j = k := by omega
      rw [if_neg e, getD_last hk]
      obtain ⟨e0, e1, e2⟩ := word_snoc hl (.string y.1) (.slice (some ⟨q, 0, none⟩) y.2.1.length c) (.int .i64 y.2.2)
      refine ⟨⟨by omega, by omega, hge _ hqv hql⟩, hy, c, own_step hq (fun b hb => ?_), e0, e1, e2⟩
      injection hb with hb
      subst hb
      exact hstay _ hqv hql
/-- Word j of a list whose words may share rows. -/
def SymY (w : World) (B x M : Nat) (r : Option Nat) (zs : List Value) (j : Nat) (y : SymV) : Prop :=
  (y.2.1.length ≤ M ∧ y.1.size ≤ 9) ∧ ∃ A c, (Ints w A y.2.1.length y.2.1 ∧ ∀ p, 0 < y.2.1.length → A = some p → B ≤ p.block ∧ p.block ≠ x ∧ some p.block ≠ r) ∧
    zs[j * 3]? = some (.string y.1) ∧ zs[j * 3 + 1]? = some (.slice A y.2.1.length c) ∧ zs[j * 3 + 2]? = some (.int .i64 y.2.2)
structure SymL (w : World) (B x M : Nat) (v : Value) (k : Nat) (ls : List SymV) (zs : List Value) : Prop where
  own : w.ownsRow B 43 3 v k zs
  len : ls.length = k
  off : v.ownBlock ≠ some x
  each : ∀ j, j < k → SymY w B x M v.ownBlock zs j (ls.getD j sym0)
theorem ints_step {w w' : World} {A : Option Addr} {n : Nat} {xs : List Int} (h : Ints w A n xs) (hz : w.heap.size ≤ w'.heap.size) (hb : ∀ p, 0 < n → A = some p → p.block < w.heap.size → w'.heap[p.block]? = w.heap[p.block]?) : Ints w' A n xs :=
  ⟨h.len, fun hn => by
    obtain ⟨b, o, e, hl, hc⟩ := h.cells hn
    exact ⟨b, o, e, Nat.lt_of_lt_of_le hl hz, fun j hj => (World.cell?_of_block (w := w) (a := ⟨b, o + j, none⟩) (hb ⟨b, o, none⟩ hn e hl)).trans (hc j hj)⟩, h.rng, h.few⟩
theorem SymL.step {w w' : World} {B x M : Nat} {v : Value} {k : Nat} {ls : List SymV} {zs : List Value} (h : SymL w B x M v k ls zs) (hs : StayX B x w w') : SymL w' B x M v k ls zs := by
  refine ⟨own_step h.own (fun b hb => hs.block b (h.own.lt b hb).1 (fun e => h.off (by rw [← e]; exact hb)) (h.own.lt b hb).2), h.len, h.off, fun j hj => ?_⟩
  obtain ⟨h0, A, c, ⟨h1, h2⟩, h3⟩ := h.each j hj
  exact ⟨h0, A, c, ⟨ints_step h1 hs.size (fun p hp e hl => hs.block _ (h2 p hp e).1 (h2 p hp e).2.1 hl), h2⟩, h3⟩
theorem SymL.wide {w : World} {B x M M' : Nat} {v : Value} {k : Nat} {ls : List SymV} {zs : List Value} (h : SymL w B x M v k ls zs) (hM : M ≤ M') : SymL w B x M' v k ls zs :=
  ⟨h.own, h.len, h.off, fun j hj => ⟨⟨Nat.le_trans (h.each j hj).1.1 hM, (h.each j hj).1.2⟩, (h.each j hj).2⟩⟩
theorem SymL.form {w : World} {B x M : Nat} {v : Value} {k : Nat} {ls : List SymV} {zs : List Value} (h : SymL w B x M v k ls zs) : ∃ A c, v = .slice A k c := by
  rcases h.own.2 with ⟨rfl, rfl⟩ | ⟨g, cap, _, rfl, _⟩
  · exact ⟨none, 0, rfl⟩
  · exact ⟨some ⟨g, 0, none⟩, cap, rfl⟩
theorem SymG.l {w : World} {B x N M : Nat} {v : Value} {k : Nat} {ls : List SymV} {zs : List Value} (h : SymG w B x N M v k ls zs) (hM : M ≤ 1000) : SymL w B x M v k ls zs := by
  obtain ⟨Q, hi, hc⟩ := h.each
  refine ⟨h.own, h.len, fun e => (h.off x e).1 rfl, fun j hj => ?_⟩
  obtain ⟨⟨h0, h1, h2⟩, ⟨h3, h4, h5⟩, c, h6, h7⟩ := hc j hj
  refine ⟨⟨h3, h4⟩, _, c, ⟨ints_own h6 h5 (by omega), fun p _ e => ?_⟩, h7⟩
  injection e with e
  subst e
  exact ⟨(h6.lt _ rfl).1, h0, h2⟩
/-- one more word, which may share its row -/
theorem SymL.snoc {w w' : World} {B x M : Nat} {v : Value} {k : Nat} {ls : List SymV} {zs : List Value} (h : SymL w B x M v k ls zs) {g cap c m : Nat} {A : Option Addr} {y : SymV} (hm : y.2.1.length = m)
    (ho : w'.ownsRow B 43 3 (.slice (some ⟨g, 0, none⟩) (k + 1) cap) (k + 1) (zs ++ [.string y.1, .slice A m c, .int .i64 y.2.2])) (hg : w.grownBy w' v.ownBlock) {H : Nat} (hat : v.ownBlock = some g ∨ g = H) (hH : H = w.heap.size) (hx : x < w.heap.size)
    (hI : Ints w A m y.2.1) (hA : ∀ p, 0 < m → A = some p → B ≤ p.block ∧ p.block ≠ x ∧ some p.block ≠ v.ownBlock) (hy : m ≤ M ∧ y.1.size ≤ 9) :
    SymL w' B x M (.slice (some ⟨g, 0, none⟩) (k + 1) cap) (k + 1) (ls ++ [y]) (zs ++ [.string y.1, .slice A m c, .int .i64 y.2.2]) := by
  subst hm
  have hl := h.own.1
  have hk := h.len
  have hge : ∀ b, some b ≠ v.ownBlock → b < w.heap.size → some b ≠ some g := fun b h1 h2 e => by
    injection e with e
    rcases hat with e2 | e2
    · exact h1 (by rw [e2, e])
    · omega
  have tr : ∀ {A : Option Addr} {n : Nat} {xs : List Int}, Ints w A n xs → (∀ p, 0 < n → A = some p → B ≤ p.block ∧ p.block ≠ x ∧ some p.block ≠ v.ownBlock) → Ints w' A n xs ∧ ∀ p, 0 < n → A = some p → B ≤ p.block ∧ p.block ≠ x ∧ some p.block ≠ some g := fun {A n xs} hI hA =>
    ⟨ints_step hI hg.size (fun p hp e hl => hg.block _ hl (hA p hp e).2.2), fun p hp e => by
      obtain ⟨b, o, e2, hb, _⟩ := hI.cells hp
      have e3 := e2.symm.trans e
      injection e3 with e3
      refine ⟨(hA p hp e).1, (hA p hp e).2.1, hge _ (hA p hp e).2.2 (by rw [← e3]; exact hb)⟩⟩
  refine ⟨ho, by simp [hk], fun e => ?_, fun j hj => ?_⟩
  · injection e with e
    rcases hat with e2 | e2
    · exact h.off (by rw [e2]; exact congrArg some e)
    · have e3 : g = x := e
      omega
  · show SymY w' B x M (some g) _ j _
    by_cases e : j < k
    · rw [getD_snoc hk e]
      obtain ⟨h0, A', c', ⟨h1, h2⟩, h5, h6, h7⟩ := h.each j e
      exact ⟨h0, A', c', tr h1 h2, (word_old (o := 0) hl e (by omega) _).trans h5, (word_old (o := 1) hl e (by omega) _).trans h6, (word_old (o := 2) hl e (by omega) _).trans h7⟩
    · obtain rfl : j = k := by omega
      rw [getD_last hk]
      obtain ⟨e0, e1, e2⟩ := word_snoc hl (.string y.1) (.slice A y.2.1.length c) (.int .i64 y.2.2)
      exact ⟨hy, A, c, tr hI hA, e0, e1, e2⟩
theorem getD_set {α : Type} {ls : List α} {i j : Nat} {x d : α} (hj : j < ls.length) : (ls.set j x).getD i d = if i = j then x else ls.getD i d := by
  by_cases e : i = j
  · subst e
    rw [if_pos rfl, List.getD_eq_getElem?_getD, List.getElem?_set_self hj]; rfl
  · rw [if_neg e, List.getD_eq_getElem?_getD, List.getElem?_set_ne (fun h => e h.symm), ← List.getD_eq_getElem?_getD]
/-- a name is put in -/
theorem SymL.name {w : World} {B x M b c n : Nat} {k j : Nat} {ls : List SymV} {zs : List Value} (h : SymL w B x M (.slice (some ⟨b, 0, none⟩) n c) k ls zs) (hj : j < k) {t : ByteArray} (ht : t.size ≤ 9) :
    SymL (w.setCell ⟨b, j * 3, none⟩ (.string t)) B x M (.slice (some ⟨b, 0, none⟩) n c) k (ls.set j (t, (ls.getD j sym0).2)) (zs.set (j * 3) (.string t)) := by
  have hl := h.own.1
  have hk := h.len
  have hn : n = k := by
    obtain ⟨_, _, e⟩ := h.form
    injection e
  subst hn
  refine ⟨(h.own.stored (j * 3) (.string t)).1, by simp [hk], h.off, fun i hi => ?_⟩
  obtain ⟨h0, A, c', ⟨h1, h2⟩, h5, h6, h7⟩ := h.each i hi
  have hI : Ints (w.setCell ⟨b, j * 3, none⟩ (.string t)) A (ls.getD i sym0).2.1.length (ls.getD i sym0).2.1 := ints_step h1 (by simp [World.setCell]) (fun p hp e _ => Below.heap_setCell w _ _ p.block (fun e2 => (h2 p hp e).2.2 (by rw [e2]; rfl)))
  rw [getD_set (by omega)]
  by_cases e : i = j
  · subst e
    rw [if_pos rfl]
    refine ⟨⟨h0.1, ht⟩, A, c', ⟨hI, h2⟩, ?_, ?_, ?_⟩
    · rw [List.getElem?_set_self (by omega)]
    · rw [List.getElem?_set_ne (by omega)]; exact h6
    · rw [List.getElem?_set_ne (by omega)]; exact h7
  · rw [if_neg e]
    refine ⟨h0, A, c', ⟨hI, h2⟩, ?_, ?_, ?_⟩
    · rw [List.getElem?_set_ne (by omega)]; exact h5
    · rw [List.getElem?_set_ne (by omega)]; exact h6
    · rw [List.getElem?_set_ne (by omega)]; exact h7
/-- a sort is put in -/
theorem SymL.sort {w : World} {B x M b c n : Nat} {k j : Nat} {ls : List SymV} {zs : List Value} (h : SymL w B x M (.slice (some ⟨b, 0, none⟩) n c) k ls zs) (hj : j < k) (t : Int) :
    SymL (w.setCell ⟨b, j * 3 + 2, none⟩ (.int .i64 t)) B x M (.slice (some ⟨b, 0, none⟩) n c) k (ls.set j ((ls.getD j sym0).1, (ls.getD j sym0).2.1, t)) (zs.set (j * 3 + 2) (.int .i64 t)) := by
  have hl := h.own.1
  have hk := h.len
  have hn : n = k := by
    obtain ⟨_, _, e⟩ := h.form
    injection e
  subst hn
  refine ⟨(h.own.stored (j * 3 + 2) (.int .i64 t)).1, by simp [hk], h.off, fun i hi => ?_⟩
  obtain ⟨h0, A, c', ⟨h1, h2⟩, h5, h6, h7⟩ := h.each i hi
  have hI : Ints (w.setCell ⟨b, j * 3 + 2, none⟩ (.int .i64 t)) A (ls.getD i sym0).2.1.length (ls.getD i sym0).2.1 := ints_step h1 (by simp [World.setCell]) (fun p hp e _ => Below.heap_setCell w _ _ p.block (fun e2 => (h2 p hp e).2.2 (by rw [e2]; rfl)))
  rw [getD_set (by omega)]
  by_cases e : i = j
  · subst e
    rw [if_pos rfl]
    refine ⟨h0, A, c', ⟨hI, h2⟩, ?_, ?_, ?_⟩
    · rw [List.getElem?_set_ne (by omega)]; exact h5
    · rw [List.getElem?_set_ne (by omega)]; exact h6
    · rw [List.getElem?_set_self (by omega)]
  · rw [if_neg e]
    refine ⟨h0, A, c', ⟨hI, h2⟩, ?_, ?_, ?_⟩
    · rw [List.getElem?_set_ne (by omega)]; exact h5
    · rw [List.getElem?_set_ne (by omega)]; exact h6
    · rw [List.getElem?_set_ne (by omega)]; exact h7
/-- one argument more of word j -/
theorem SymG.more {w w' : World} {B x N M b c n : Nat} {k j : Nat} {ls : List SymV} {zs : List Value} (h : SymG w B x N M (.slice (some ⟨b, 0, none⟩) n c) k ls zs) (hM : M ≤ 900) (hj : j < k) {Q : Nat → Nat}
    (hi : ∀ i j, i < k → j < k → Q i = Q j → i = j) (hc : ∀ j, j < k → SymZ w B x N M (some b) zs j (Q j) (ls.getD j sym0)) {W : World} (hW : StayX B x w W) {g cap m : Nat} {t : Int} (ht : J64 t) (hm : (ls.getD j sym0).2.1.length = m)
    (ho : w'.ownsRow B 3 1 (.slice (some ⟨g, 0, none⟩) (m + 1) cap) (m + 1) ((ls.getD j sym0).2.1.map (Value.int .i64) ++ [.int .i64 t])) (hg : W.grownBy w' (some (Q j))) {H : Nat} (hat : some (Q j) = some g ∨ g = H) (hH : H = W.heap.size) :
    SymL (w'.setCell ⟨b, j * 3 + 1, none⟩ (.slice (some ⟨g, 0, none⟩) (m + 1) cap)) B x (M + 1) (.slice (some ⟨b, 0, none⟩) n c) k (ls.set j ((ls.getD j sym0).1, (ls.getD j sym0).2.1 ++ [t], (ls.getD j sym0).2.2)) (zs.set (j * 3 + 1) (.slice (some ⟨g, 0, none⟩) (m + 1) cap)) := by
  have hl := h.own.1
  have hk := h.len
  have htop := h.top
  have hn : n = k := by
    obtain ⟨_, _, e⟩ := h.form
    injection e
  subst hn
  have hbl := h.own.lt b rfl
  have hbx := h.off b rfl
  have hWz := hW.size
  have hgz := hg.size
  have hgb : g ≠ b ∧ B ≤ g ∧ g ≠ x := by
    refine ⟨fun e => ?_, (ho.lt g rfl).1, fun e => ?_⟩
    · rcases hat with e2 | e2
      · injection e2 with e2
        exact (hc j hj).1.2.2 (by rw [e2, e])
      · omega
    · rcases hat with e2 | e2
      · injection e2 with e2
        exact (hc j hj).1.1 (by omega)
      · omega
  have hblk : w'.heap[b]? = w.heap[b]? := (hg.block b (by omega) (fun e => (hc j hj).1.2.2 e.symm)).trans (hW.block b hbl.1 hbx.1 hbl.2)
  have hown' := own_step (w' := w') h.own (fun b' hb' => by
    have e : b = b' := Option.some.inj hb'
    rw [← e]; exact hblk)
  refine ⟨(hown'.stored (j * 3 + 1) _).1, by simp [hk], fun e => hbx.1 (Option.some.inj e), fun i hi' => ?_⟩
  obtain ⟨⟨q0, q1, q2⟩, ⟨h3, h4, h5⟩, c', h6, h7, h8, h9⟩ := hc i hi'
  rw [getD_set (by omega)]
  by_cases e : i = j
  · subst e
    rw [if_pos rfl]
    have hml : ((ls.getD i sym0).2.1 ++ [t]).length = m + 1 := by rw [List.length_append, hm]; rfl
    have hrow : (w'.setCell ⟨b, i * 3 + 1, none⟩ (.slice (some ⟨g, 0, none⟩) (m + 1) cap)).ownsRow B 3 1 (.slice (some ⟨g, 0, none⟩) (m + 1) cap) (m + 1) (((ls.getD i sym0).2.1 ++ [t]).map (Value.int .i64)) := by
      rw [List.map_append]
      refine own_step ho (fun b' hb' => ?_)
      have e : g = b' := Option.some.inj hb'
      exact Below.heap_setCell w' _ _ b' (by show b' ≠ b; omega)
    have hJ : ∀ i', J64 (((ls.getD i sym0).2.1 ++ [t]).getD i' 0) := fun i' => by
      by_cases e1 : i' < m
      · rw [getD_snoc hm e1]; exact h5 i'
      · by_cases e2 : i' = m
        · rw [e2, getD_last hm]; exact ht
        · rw [List.getD_eq_getElem?_getD, List.getElem?_eq_none (by omega)]; simp [J64]
    have hI : Ints (w'.setCell ⟨b, i * 3 + 1, none⟩ (.slice (some ⟨g, 0, none⟩) (m + 1) cap)) (some ⟨g, 0, none⟩) ((ls.getD i sym0).2.1 ++ [t]).length ((ls.getD i sym0).2.1 ++ [t]) := by
      rw [hml]; exact ints_own hrow hJ (by omega)
    refine ⟨⟨by show ((ls.getD i sym0).2.1 ++ [t]).length ≤ M + 1; omega, h4⟩, _, cap, ⟨hI, fun p _ e => ?_⟩, ?_, ?_, ?_⟩
    · injection e with e
      subst e
      exact ⟨hgb.2.1, hgb.2.2, fun e => hgb.1 (Option.some.inj e)⟩
    · rw [List.getElem?_set_ne (by omega)]; exact h7
    · rw [List.getElem?_set_self (by omega)]
      show some (Value.slice (some ⟨g, 0, none⟩) (m + 1) cap) = some (Value.slice (some ⟨g, 0, none⟩) ((ls.getD i sym0).2.1 ++ [t]).length cap)
      rw [hml]
    · rw [List.getElem?_set_ne (by omega)]; exact h9
  · rw [if_neg e]
    have hqq : Q i ≠ Q j := fun e2 => e (hi i j hi' hj e2)
    have hql := h6.lt _ rfl
    have hI := (ints_own h6 h5 (by omega))
    refine ⟨⟨by omega, h4⟩, _, c', ⟨ints_step hI (by simp [World.setCell]; omega) (fun p _ e1 _ => ?_), fun p _ e1 => ?_⟩, ?_, ?_, ?_⟩
    · injection e1 with e1
      subst e1
      show _ = w.heap[Q i]?
      rw [Below.heap_setCell w' _ _ (Q i) (fun e2 => q2 (by rw [e2])), hg.block (Q i) (by have := hql.2; omega) (fun e2 => hqq (Option.some.inj e2))]
      exact hW.block _ hql.1 q0 hql.2
    · injection e1 with e1
      subst e1
      exact ⟨hql.1, q0, q2⟩
    · rw [List.getElem?_set_ne (by omega)]; exact h7
    · rw [List.getElem?_set_ne (by omega)]; exact h8
    · rw [List.getElem?_set_ne (by omega)]; exact h9
/-- A vocabulary that stays what it is, whatever is done below lo; at most N words of M arguments at most. -/
structure SigI (w : World) (lo : Nat) (A : Option Addr) (n : Nat) (ls : List SymV) (N M : Nat) : Prop where
  few : n ≤ N
  args : ∀ j, j < n → (ls.getD j sym0).2.1.length ≤ M ∧ (ls.getD j sym0).1.size ≤ 9
  stay : ∀ w', Same lo none w w' → Syms w' A n ls
theorem SigI.step {w w' : World} {lo : Nat} {A : Option Addr} {n : Nat} {ls : List SymV} {N M : Nat} (h : SigI w lo A n ls N M) (hk : Same lo none w w') : SigI w' lo A n ls N M := ⟨h.few, h.args, fun w'' h2 => h.stay w'' (hk.trans h2)⟩
theorem SigI.weak {w : World} {lo lo' : Nat} {A : Option Addr} {n : Nat} {ls : List SymV} {N M : Nat} (h : SigI w lo A n ls N M) (hl : lo' ≤ lo) : SigI w lo' A n ls N M := ⟨h.few, h.args, fun w' hk => h.stay w' ⟨hk.size, fun i h0 h1 h2 => hk.block i (by omega) h1 h2⟩⟩
theorem SigI.here {w : World} {lo : Nat} {A : Option Addr} {n : Nat} {ls : List SymV} {N M : Nat} (h : SigI w lo A n ls N M) : Syms w A n ls := h.stay w (Same.refl _ _ _)
theorem list_of {α : Type} (d : α) {P : Nat → α → Prop} : ∀ (n : Nat), (∀ j, j < n → ∃ x, P j x) → ∃ ls : List α, ls.length = n ∧ ∀ j, j < n → P j (ls.getD j d)
  | 0, _ => ⟨[], rfl, fun _ h => absurd h (by omega)⟩
  | n + 1, h => by
    obtain ⟨ls, h1, h2⟩ := list_of d n (fun j hj => h j (by omega))
    obtain ⟨x, hx⟩ := h n (by omega)
    refine ⟨ls ++ [x], by simp [h1], fun j hj => ?_⟩
    by_cases e : j < n
    · rw [getD_snoc h1 e]; exact h2 j e
    · obtain rfl : j = n := by omega
      rw [getD_last h1]; exact hx
theorem SigK.i {w : World} {lo : Nat} {A : Option Addr} {n : Nat} (h : SigK w lo A n) : ∃ ls, SigI w lo A n ls 9 3 := by
  have hfew := h.few
  by_cases hn : n = 0
  · subst hn
    exact ⟨[], by omega, fun _ h => absurd h (by omega), fun w' _ => ⟨rfl, fun h => absurd h (by omega), by omega⟩⟩
  · obtain ⟨b, o, rfl, hc⟩ := h.cells (by omega)
    obtain ⟨ls, hl, hP⟩ := list_of sym0 (P := fun j y => y.2.1.length ≤ 3 ∧ y.1.size ≤ 9 ∧ ∀ w', Same lo none w w' → b < w'.heap.size ∧ SymCell w' b (o + j * 3) y) n (fun j hj => by
      obtain ⟨nm, B, m, c, k, xs, hm, hnm, hw⟩ := hc j hj
      have hlen := (hw w (Same.refl _ _ _)).2.2.2.2.len
      refine ⟨(nm, xs, k), by show xs.length ≤ 3; omega, hnm, fun w' hk => ?_⟩
      obtain ⟨h0, h1, h2, h3, h4⟩ := hw w' hk
      exact ⟨h0, ⟨B, m, c, h4, h1, h2, h3⟩, by show nm.size ≤ _; omega⟩)
    exact ⟨ls, hfew, fun j hj => ⟨(hP j hj).1, (hP j hj).2.1⟩, fun w' hk => ⟨hl, fun _ => ⟨b, o, rfl, ((hP 0 (by omega)).2.2 w' hk).1, fun j hj => ((hP j hj).2.2 w' hk).2⟩, by omega⟩⟩
theorem SymL.sig {w : World} {B x M n c : Nat} {A : Option Addr} {k : Nat} {ls : List SymV} {zs : List Value} (h : SymL w B x M (.slice A n c) k ls zs) {N : Nat} (hk : k ≤ N) (hN : N ≤ 1000) : SigI w B A k ls N M := by
  refine ⟨hk, fun j hj => (h.each j hj).1, fun w' hs => ⟨h.len, fun hn => ?_, by omega⟩⟩
  obtain ⟨g, cap, e, _⟩ := h.own.form hn
  simp only [Value.slice.injEq] at e
  obtain ⟨rfl, rfl, rfl⟩ := e
  have hgl := h.own.lt g rfl
  have hb := hs.block g hgl.1 hgl.2 (by simp)
  refine ⟨g, 0, rfl, Nat.lt_of_lt_of_le hgl.2 hs.size, fun j hj => ?_⟩
  obtain ⟨h0, A', c', ⟨h1, h2⟩, h5, h6, h7⟩ := h.each j hj
  have hl := h.own.1
  rw [Nat.zero_add]
  refine ⟨⟨A', _, c', ints_step h1 hs.size (fun p hp e hl => hs.block _ (h2 p hp e).1 hl (by simp)), ?_, ?_, ?_⟩, by have := h0.2; omega⟩
  · exact (World.cell?_of_block (w := w) (a := ⟨g, j * 3, none⟩) hb).trans (by rw [h.own.cellAt _ (by omega)]; exact h5)
  · exact (World.cell?_of_block (w := w) (a := ⟨g, j * 3 + 1, none⟩) hb).trans (by rw [h.own.cellAt _ (by omega)]; exact h6)
  · exact (World.cell?_of_block (w := w) (a := ⟨g, j * 3 + 2, none⟩) hb).trans (by rw [h.own.cellAt _ (by omega)]; exact h7)
end Go.Proofs.Ytgmeoblapnmpiaa
